/- A part of the engine: what operations do to described states, proved sound against the model. No conditions. -/
import Derived.Test.YthphndhiacikaaaDoorEA
import Derived.Orders
import Derived.KernelRfl
set_option linter.unusedSimpArgs false
set_option linter.unusedVariables false
section
namespace Go.VE
open Go

def expHp : Nat → List Box → List (Nat × Option Box)
  | _, [] => []
  | k, b :: r => (k, some b) :: expHp (k + 1) r
def expSt (bs : List Box) : St := ⟨0, 0, [], expHp 0 bs, bs.length, 0⟩

theorem lkB_exp : ∀ (bs : List Box) (k b : Nat), lkB (expHp k bs) b = if k ≤ b then (bs[b - k]?).map some else none
  | [], k, b => by simp [expHp, lkB]
  | x :: r, k, b => by
    simp only [expHp, lkB]
    by_cases h : k = b
    · subst h; simp
    · have e : (k == b) = false := by simpa using h
      rw [e, cond_false, lkB_exp r (k + 1) b]
      by_cases h2 : k ≤ b
      · have : b - k = b - (k + 1) + 1 := by omega
        rw [if_pos (by omega), if_pos h2, this, List.getElem?_cons_succ]
      · rw [if_neg (by omega), if_neg h2]

theorem exp_box (bs : List Box) (b : Nat) : (expSt bs).box b = bs[b]? := by
  simp only [St.box, expSt, lkB_exp, Nat.zero_le, if_true, Nat.sub_zero]
  cases bs[b]? <;> rfl
theorem exp_keyed (bs : List Box) (b : Nat) : (expSt bs).keyed b ↔ b < bs.length := by
  simp only [St.keyed, expSt, lkB_exp, Nat.zero_le, if_true, Nat.sub_zero]
  cases h : bs[b]? with
  | none => simp; simpa using h
  | some x => simp; exact (List.getElem?_eq_some_iff.1 h).1

/-- What is avoided behind a call. -/
def avoid (Av : Nat → Prop) (bs : List Box) (β : Nat → Option Nat) (Rd' : Nat → Prop) (flat : Bool) (sz : Nat) (g : Nat) : Prop :=
  Av g ∨ has (expSt bs) β g ∨ Rd' g ∨ (flat = true ∧ g < sz)
/-- What is avoided ahead of a call. -/
def avIn (Av : Nat → Prop) (ins : List Box) (β : Nat → Option Nat) (g : Nat) : Prop := Av g ∨ has (expSt ins) β g

/-- What a call hands back. -/
structure Gives (rt : RT) (sp : Spec) (w w' : World) (Av Rd : Nat → Prop) (pk : Nat) (ins : List Box) (β0 : Nat → Option Nat) (cp0 : Nat → Nat) (v : Value) (r : AV) (bs : List Box) (β : Nat → Option Nat) (cp : Nat → Nat) (Rd' : Nat → Prop) : Prop where
  keeps : Keeps (fun g => Rd g ∨ has (expSt ins) β0 g) w w'
  few : bs.length ≤ ins.length + 8
  long : ins.length ≤ bs.length
  rd : ∀ g, Rd g → Rd' g
  rdge : ∀ g, Rd' g → Rd g ∨ (w.heap.size ≤ g ∧ g < w'.heap.size)
  same : ∀ g, Rd g → RdSame rt w w' g
  rdok : RdOK rt w' (avoid Av bs β Rd' false w.heap.size) Rd' (pk + sp.cost)
  rdnew : ∀ g, Rd' g → ¬ Rd g → ∃ (bv : Value) (p : Nat) (cs : List UInt8), RdB rt w' g bv p ∧ p ≤ pk + sp.cost ∧ cs.length ≤ 2000 ∧
    RC w' (avoid Av bs β Rd' sp.flat w.heap.size) bv (.sl false (cs.map fun b => [.v (.int .u8 b.toNat)]))
  value : MA w' (avoid Av bs β Rd' sp.flat w.heap.size) Rd' (hOf (expSt bs) β cp) v r
  boxes : ∀ b bx, bs[b]? = some bx → bx.fz = false ∧ BoxOK w' (MC w' (avoid Av bs β Rd' sp.flat w.heap.size) Rd' (hOf (expSt bs) β cp)) (β b) (cp b) bx
  org : ∀ b bx g, bs[b]? = some bx → β b = some g → (w.heap.size ≤ g ∨ (b < ins.length ∧ β0 b = some g)) ∧ ¬ Rd' g
  inj : ∀ b b' bx bx' g, bs[b]? = some bx → bs[b']? = some bx' → β b = some g → β b' = some g → b = b'
  pins : ∀ (i : Nat) (bx0 bx : Box), ins[i]? = some bx0 → bs[i]? = some bx → bx0.es.length ≤ bx.es.length ∧ (bx.es.length = bx0.es.length → β i = β0 i ∧ cp i = cp0 i ∧ bx.k = bx0.k)

/-- What a call is handed. -/
structure Takes (rt : RT) (w : World) (Av Rd : Nat → Prop) (pk : Nat) (args : List AV) (vs : Array Value) (ins : List Box) (β0 : Nat → Option Nat) (cp0 : Nat → Nat) : Prop where
  glob : rt.ok w ∧ ∀ g ∈ rt.F, g < w.heap.size ∧ ¬ Rd g ∧ ¬ has (expSt ins) β0 g
  rdav : ∀ g, Rd g → Av g
  avlt : ∀ g, Av g → g < w.heap.size
  pasav : ∀ g, has (expSt ins) β0 g → ¬ Av g
  rdok : RdOK rt w (avIn Av ins β0) Rd pk
  size : vs.size = args.length
  args : ∀ j x, args[j]? = some x → MA w (avIn Av ins β0) Rd (hOf (expSt ins) β0 cp0) (vs.getD j undef) x
  boxes : ∀ b bx, ins[b]? = some bx → bx.fz = false ∧ BoxOK w (MC w (avIn Av ins β0) Rd (hOf (expSt ins) β0 cp0)) (β0 b) (cp0 b) bx
  inj : ∀ b b' bx bx' g, ins[b]? = some bx → ins[b']? = some bx' → β0 b = some g → β0 b' = some g → b = b'

def Sat (P : Program) (rt : RT) (f : FuncId) (sp : Spec) : Prop :=
  ∀ (w : World) (Av Rd : Nat → Prop) (pk : Nat) (args : List AV) (vs : Array Value) (ins : List Box) (β0 : Nat → Option Nat) (cp0 : Nat → Nat), Takes rt w Av Rd pk args vs ins β0 cp0 → sp.pre args ins → pk + sp.cost ≤ pickLimit →
    Calls P f vs w fun e w' => ∃ v r bs β cp Rd', e = .returned v ∧ sp.post args ins r bs ∧ Gives rt sp w w' Av Rd pk ins β0 cp0 v r bs β cp Rd'

/-- The called function's row. -/
structure FnRow (P : Program) (f : FuncId) : Prop where
  row : ∃ fn, P.funcs[f]? = some fn ∧ (fn.name == "runtime.NumGoroutine") = false ∧ fn.body.isNone = false

def TabOK (P : Program) (rt : RT) (tab : Nat → Option Spec) : Prop := ∀ f sp, tab f = some sp → FnRow P f ∧ Sat P rt f sp

/-! Numbers. -/
theorem memN_iff (b : Nat) : ∀ l, memN b l = true ↔ b ∈ l
  | [] => by simp [memN]
  | x :: r => by simp only [memN, Bool.or_eq_true, beq_iff_eq, memN_iff b r, List.mem_cons]; exact or_congr ⟨Eq.symm, Eq.symm⟩ Iff.rfl
theorem idxOf_some {b : Nat} : ∀ {l : List Nat} {k j : Nat}, idxOf b l k = some j → k ≤ j ∧ l[j - k]? = some b
  | [], k, j, h => by cases h
  | x :: r, k, j, h => by
    simp only [idxOf] at h
    cases hx : x == b with
    | true =>
      rw [hx, cond_true, Option.some.injEq] at h
      subst h
      have := eq_of_beq hx
      simp [this]
    | false =>
      rw [hx, cond_false] at h
      obtain ⟨h1, h2⟩ := idxOf_some h
      refine ⟨by omega, ?_⟩
      rw [show j - k = j - (k + 1) + 1 by omega, List.getElem?_cons_succ]
      exact h2
theorem idxOf_none {b : Nat} : ∀ {l : List Nat} {k : Nat}, idxOf b l k = none → b ∉ l
  | [], _, _ => by simp
  | x :: r, k, h => by
    simp only [idxOf] at h
    cases hx : x == b with
    | true => rw [hx, cond_true] at h; cases h
    | false =>
      rw [hx, cond_false] at h
      have h1 := idxOf_none h
      simp only [List.mem_cons, not_or]
      exact ⟨fun e => by rw [e] at hx; simp at hx, h1⟩
theorem distN_inj : ∀ (l : List Nat), distN l = true → ∀ (i j b : Nat), l[i]? = some b → l[j]? = some b → i = j
  | [], _, i, j, b, h, _ => by simp at h
  | x :: r, hd, i, j, b, h1, h2 => by
    simp only [distN, Bool.and_eq_true, Bool.not_eq_true'] at hd
    have hx : x ∉ r := fun hm => by
      have := (memN_iff x r).2 hm
      rw [hd.1] at this; cases this
    cases i with
    | zero => cases j with
      | zero => rfl
      | succ j =>
        simp only [List.getElem?_cons_zero, Option.some.injEq, List.getElem?_cons_succ] at h1 h2
        subst h1
        exact absurd (List.mem_of_getElem? h2) hx
    | succ i => cases j with
      | zero =>
        simp only [List.getElem?_cons_zero, Option.some.injEq, List.getElem?_cons_succ] at h1 h2
        subst h2
        exact absurd (List.mem_of_getElem? h1) hx
      | succ j =>
        simp only [List.getElem?_cons_succ] at h1 h2
        rw [distN_inj r hd.2 i j b h1 h2]

section
variable {w : World} {Mt Rd : Nat → Prop} {H H' : C → Value → Prop} {φ : Nat → Nat}

theorem MC0.map {v : Value} {c : C} (h : MC0 w Mt Rd H v c) (hH : ∀ c b n, hkey c = some (b, n) → ∀ v, H c v → H' (setId (φ b) c) v) : MC0 w Mt Rd H' v (mapC0 φ c) := by
  cases c <;> simp only [MC0, mapC0, hkey, setId] at *
  case own b n t => exact ⟨h.1, hH (.own b n t) b n rfl _ h.2⟩
  case vw b n lo hi => exact ⟨h.1, hH (.vw b n lo hi) b n rfl _ h.2⟩
  case ptr b n i off => exact ⟨h.1, hH (.ptr b n i off) b n rfl _ h.2⟩
  all_goals exact h
theorem MC.map {v : Value} {c : C} (h : MC w Mt Rd H v c) (hH : ∀ c b n, hkey c = some (b, n) → ∀ v, H c v → H' (setId (φ b) c) v) : MC w Mt Rd H' v (mapC φ c) := by
  cases c
  case fn f caps =>
    obtain ⟨arr, e, hs, hr⟩ := h
    refine ⟨arr, e, by simpa using hs, fun j c hj => ?_⟩
    simp only [List.getElem?_map, Option.map_eq_some_iff] at hj
    obtain ⟨c', hc', rfl⟩ := hj
    exact (hr j c' hc').map hH
  all_goals (simp only [MC, mapC] at h ⊢; exact MC0.map (φ := φ) h hH)
theorem MA1.map {v : Value} {x : AV} (h : MA1 w Mt Rd H v x) (hH : ∀ c b n, hkey c = some (b, n) → ∀ v, H c v → H' (setId (φ b) c) v) : MA1 w Mt Rd H' v (mapA1 φ x) := by
  cases x with
  | c x => exact MC.map h hH
  | agg cs =>
    obtain ⟨arr, e, hs, hr⟩ := h
    refine ⟨arr, e, by simpa using hs, fun j c hj => ?_⟩
    simp only [List.getElem?_map, Option.map_eq_some_iff] at hj
    obtain ⟨c', hc', rfl⟩ := hj
    exact (hr j c' hc').map hH
  | tup vs => exact h
  | mp _ _ => exact h.elim
theorem MA.map {v : Value} {x : AV} (h : MA w Mt Rd H v x) (hH : ∀ c b n, hkey c = some (b, n) → ∀ v, H c v → H' (setId (φ b) c) v) : MA w Mt Rd H' v (mapA φ x) := by
  cases x with
  | c x => exact MA1.map (x := .c x) h hH
  | agg cs => exact MA1.map (x := .agg cs) h hH
  | tup vs =>
    obtain ⟨arr, e, hs, h⟩ := h
    refine ⟨arr, e, by simpa using hs, fun j x hj => ?_⟩
    simp only [List.getElem?_map, Option.map_eq_some_iff] at hj
    obtain ⟨x', hx', rfl⟩ := hj
    exact (h j x' hx').map hH
  | mp _ _ => trivial
end

section
variable {P : Program} {X : Cx} {s : St} {a : Act} {w : World} {β : Nat → Option Nat} {cp : Nat → Nat} {Rd : Nat → Prop}

def lendAv (X : Cx) (s : St) (β : Nat → Option Nat) (Rd : Nat → Prop) (ids : List Nat) (g : Nat) : Prop := X.Av0 g ∨ (owns s β g ∧ ∀ b ∈ ids, ∀ bx, s.box b = some bx → β b ≠ some g) ∨ Rd g

theorem lendAv_mt {ids : List Nat} {g : Nat} (h : lendAv X s β Rd ids g) : X.mt s β Rd g := by
  rcases h with h | h | h
  · exact .inl h
  · exact .inr (.inl h.1)
  · exact .inr (.inr h)

/-- Boxes taken over, by their numbers. -/
def renIns (s : St) (F : Box → Box) (ids : List Nat) : List Box := ids.map fun b => F (boxN s b)
def renβ (β : Nat → Option Nat) (ids : List Nat) (j : Nat) : Option Nat := (ids[j]?).bind β
def rencp (cp : Nat → Nat) (ids : List Nat) (j : Nat) : Nat := cp (ids.getD j 0)

theorem boxN_of {b : Nat} {bx : Box} (h : s.box b = some bx) : boxN s b = bx := by simp [boxN, h]

/-- The boxes that are taken over are there, free, and distinct. -/
structure RenOK (s : St) (ids : List Nat) : Prop where
  box : ∀ b ∈ ids, ∃ bx, s.box b = some bx ∧ bx.fz = false
  inj : ∀ (i j b : Nat), ids[i]? = some b → ids[j]? = some b → i = j

theorem ren_get {F : Box → Box} {ids : List Nat} {j : Nat} {bx : Box} (hI : RenOK s ids) (h : (renIns s F ids)[j]? = some bx) : ∃ b bx0, ids[j]? = some b ∧ s.box b = some bx0 ∧ bx0.fz = false ∧ bx = F bx0 ∧ renβ β ids j = β b ∧ rencp cp ids j = cp b := by
  simp only [renIns, List.getElem?_map, Option.map_eq_some_iff] at h
  obtain ⟨b, h1, h2⟩ := h
  obtain ⟨bx0, h3, h4⟩ := hI.box b (List.mem_of_getElem? h1)
  rw [boxN_of h3] at h2
  exact ⟨b, bx0, h1, h3, h4, h2.symm, by simp [renβ, h1], by simp [rencp, List.getD_eq_getElem?_getD, h1]⟩

theorem ren_has {F : Box → Box} {ids : List Nat} (hI : RenOK s ids) {g : Nat} (h : has (expSt (renIns s F ids)) (renβ β ids) g) : ∃ b bx, b ∈ ids ∧ s.box b = some bx ∧ bx.fz = false ∧ β b = some g := by
  obtain ⟨j, bx, h1, h2⟩ := h
  rw [exp_box] at h1
  obtain ⟨b, bx0, h3, h4, h5, _, h6, _⟩ := ren_get (β := β) (cp := fun _ => 0) hI h1
  rw [h6] at h2
  exact ⟨b, bx0, List.mem_of_getElem? h3, h4, h5, h2⟩

/-- A handle, as it is numbered there. -/
theorem ren_handle {F : Box → Box} (hF : ∀ bx, (F bx).es.length = bx.es.length ∧ (F bx).k = bx.k) {ids : List Nat} (hI : RenOK s ids) {c : C} {v : Value} {b n j : Nat} (hk : hkey c = some (b, n)) (hj : idxOf b ids 0 = some j) (h : hOf s β cp c v) :
    hOf (expSt (renIns s F ids)) (renβ β ids) (rencp cp ids) (setId j c) v := by
  obtain ⟨_, h2⟩ := idxOf_some hj
  rw [Nat.sub_zero] at h2
  obtain ⟨bx0, h3, _⟩ := hI.box b (List.mem_of_getElem? h2)
  obtain ⟨b', n', k1, k2, k3⟩ := h
  rw [hk] at k1
  cases k1
  have hlt : j < (renIns s F ids).length := by simpa [renIns] using (List.getElem?_eq_some_iff.1 h2).1
  refine ⟨j, n, hkey_setId hk j, (exp_keyed _ _).2 hlt, fun bx hbx => ?_⟩
  rw [exp_box] at hbx
  obtain ⟨b1, bx1, q1, q2, _, rfl, q3, q4⟩ := ren_get (β := β) (cp := cp) hI hbx
  rw [h2] at q1
  cases q1
  rw [q2] at h3
  cases h3
  rw [(hF bx0).1, (hF bx0).2, q3, q4, hV_setId]
  exact k3 bx0 q2

/-- What the sealed rows are: frozen, or lent. -/
theorem seal_av (h : Good X s a w β cp Rd) {lids ids : List Nat} {F : Box → Box} (hI : RenOK s ids) {cs : List Nat} (hcs : (cs.all fun b => !unfz s b || memN b lids) = true) (hids : ∀ b ∈ lids, b ∉ ids) {Av : Nat → Prop}
    (hAv : ∀ g, Av g → lendAv X s β Rd (lids ++ ids) g) : ∀ b ∈ cs, ∀ bx g, s.box b = some bx → β b = some g → ¬ avIn Av (renIns s F ids) (renβ β ids) g := by
  intro b hb bx g hbx hg hav
  rcases hav with hav | hav
  · rcases hAv g hav with h1 | ⟨⟨b', bx', h1, h2, h3⟩, h4⟩ | h1
    · exact h.own_av g ⟨b, bx, hbx, hg⟩ h1
    · have := h.inj b b' bx bx' g hbx h1 hg h3
      subst this
      rw [hbx] at h1
      cases h1
      have h5 := List.all_eq_true.1 hcs b hb
      simp only [unfz, hbx, h2, Bool.not_false, Bool.not_true, Bool.false_or] at h5
      exact h4 b (List.mem_append_left _ ((memN_iff b lids).1 h5)) bx hbx hg
    · exact h.own_rd g ⟨b, bx, hbx, hg⟩ h1
  · obtain ⟨b', bx', h1, h2, _, h3⟩ := ren_has hI hav
    have := h.inj b b' bx bx' g hbx h2 hg h3
    subst this
    obtain ⟨bx2, h5, h6⟩ := hI.box b h1
    have h7 := List.all_eq_true.1 hcs b hb
    simp only [unfz, h5, h6, Bool.not_false, Bool.not_true, Bool.false_or] at h7
    exact hids b ((memN_iff b lids).1 h7) h1

theorem rowIds_one {c : C} {b : Nat} (hf : ∀ f l, c ≠ .fn f l) (h : b ∈ rowIds [c]) : ∃ n, hkey c = some (b, n) := by
  cases c <;> simp_all [rowIds, hkey]

variable {lids ids ids1 : List Nat} {F : Box → Box} {Av : Nat → Prop}

theorem ren0_ok (h : Good X s a w β cp Rd) (hF : ∀ bx, (F bx).es.length = bx.es.length ∧ (F bx).k = bx.k) (hI : RenOK s ids) (hsub : ∀ b j, idxOf b ids1 0 = some j → idxOf b ids 0 = some j) (hids : ∀ b ∈ lids, b ∉ ids) (hAv : ∀ g, Av g → lendAv X s β Rd (lids ++ ids) g) {Rd' : Nat → Prop} (hR : ∀ g, Rd g → Rd' g)
    {v : Value} {c : C} (hm : MC0 w (X.mt s β Rd) Rd (hOf s β cp) v c) (ho : renOk0 s lids ids1 c) : MC0 w (avIn Av (renIns s F ids) (renβ β ids)) Rd' (hOf (expSt (renIns s F ids)) (renβ β ids) (rencp cp ids)) v (renC0 s ids1 c) := by
  have hM : ∀ g, g < w.heap.size → avIn Av (renIns s F ids) (renβ β ids) g → X.mt s β Rd g := by
    rintro g _ (hg | hg)
    · exact lendAv_mt (hAv g hg)
    · obtain ⟨b, bx, _, h2, h3, h4⟩ := ren_has hI hg
      exact .inr (.inl ⟨b, bx, h2, h3, h4⟩)
  have sealed : (∀ f l, c ≠ .fn f l) → sealOk s c → ((rowIds [c]).all fun b => !unfz s b || memN b lids) = true → MC0 w (avIn Av (renIns s F ids) (renβ β ids)) Rd' (hOf (expSt (renIns s F ids)) (renβ β ids) (rencp cp ids)) v (sealC s c) := by
    intro hnf h1 h2
    have hm' : MC w (X.mt s β Rd) Rd (hOf s β cp) v c := by
      cases c with
      | fn f l => exact absurd rfl (hnf f l)
      | _ => simp only [MC]; exact hm
    have := seal_ok (Mt' := avIn Av (renIns s F ids) (renβ β ids)) (Rd' := Rd') (H' := hOf (expSt (renIns s F ids)) (renβ β ids) (rencp cp ids)) h hM hR (ids := rowIds [c]) (seal_av h hI h2 hids hAv) hm' h1 (fun b hb => hb)
    have hnf2 : ∀ f l, sealC s c ≠ .fn f l := by
      intro f l
      cases c with
      | own b n t => simp only [sealC]; split <;> (try split) <;> simp
      | vw b n lo hi => simp only [sealC]; split <;> (try split) <;> simp
      | v x => unfold sealC; split <;> simp_all
      | ptr b n i off => simp only [sealC]; split <;> (try split) <;> (try (cases (i == 0 && off == 0))) <;> simp
      | fn f l => exact absurd rfl (hnf f l)
      | _ => simp [sealC]
    cases hsc : sealC s c with
    | fn f l => exact absurd hsc (hnf2 f l)
    | _ => rw [hsc] at this; simp only [MC] at this; exact this
  unfold renC0
  unfold renOk0 at ho
  split
  · rename_i b n hk
    simp only [hk] at ho
    split
    · rename_i j hj
      have hH : hOf s β cp c v ∧ v.oneCell' = true := by
        cases c <;> first | cases hk; done | exact ⟨hm.2, hm.1⟩
      have := ren_handle (F := F) hF hI hk (hsub b j hj) hH.1
      cases c <;> first | cases hk; done | exact ⟨hH.2, this⟩
    · rename_i hj
      simp only [hj] at ho
      exact sealed (fun f l e => by subst e; cases hk) ho.1 ho.2
  · rename_i hk
    by_cases hfn : ∃ f l, c = .fn f l
    · obtain ⟨f, l, rfl⟩ := hfn; exact hm.elim
    · refine sealed (fun f l e => hfn ⟨f, l, e⟩) (by cases c <;> first | trivial | cases hk) (by cases c <;> first | rfl | exact absurd ⟨_, _, rfl⟩ hfn | cases hk)

theorem renOk0s_get : ∀ {cs : List C} {j : Nat} {c : C}, renOk0s s lids ids1 cs → cs[j]? = some c → renOk0 s lids ids1 c
  | [], _, _, _, h => by simp at h
  | x :: r, 0, c, h, hj => by simp at hj; subst hj; exact h.1
  | x :: r, j + 1, c, h, hj => renOk0s_get h.2 (by simpa using hj)
theorem renOks_get : ∀ {cs : List C} {j : Nat} {c : C}, renOks s lids ids1 cs → cs[j]? = some c → renOk s lids ids1 c
  | [], _, _, _, h => by simp at h
  | x :: r, 0, c, h, hj => by simp at hj; subst hj; exact h.1
  | x :: r, j + 1, c, h, hj => renOks_get h.2 (by simpa using hj)

theorem MC0.mc {Mt Rd : Nat → Prop} {H : C → Value → Prop} {v : Value} {c : C} (h : MC0 w Mt Rd H v c) : MC w Mt Rd H v c := by
  cases c <;> first | exact h.elim | (simp only [MC]; exact h)

theorem ren_ok (h : Good X s a w β cp Rd) (hF : ∀ bx, (F bx).es.length = bx.es.length ∧ (F bx).k = bx.k) (hI : RenOK s ids) (hsub : ∀ b j, idxOf b ids1 0 = some j → idxOf b ids 0 = some j) (hids : ∀ b ∈ lids, b ∉ ids) (hAv : ∀ g, Av g → lendAv X s β Rd (lids ++ ids) g) {Rd' : Nat → Prop} (hR : ∀ g, Rd g → Rd' g)
    {v : Value} {c : C} (hm : MC w (X.mt s β Rd) Rd (hOf s β cp) v c) (ho : renOk s lids ids1 c) : MC w (avIn Av (renIns s F ids) (renβ β ids)) Rd' (hOf (expSt (renIns s F ids)) (renβ β ids) (rencp cp ids)) v (renC s ids1 c) := by
  cases c with
  | fn f caps =>
    obtain ⟨arr, rfl, hs, hr⟩ := hm
    refine ⟨arr, rfl, by simpa using hs, fun j c hj => ?_⟩
    simp only [List.getElem?_map, Option.map_eq_some_iff] at hj
    obtain ⟨c0, hc0, rfl⟩ := hj
    exact ren0_ok h hF hI hsub hids hAv hR (hr j c0 hc0) (renOk0s_get ho hc0)
  | _ => simp only [MC] at hm; exact (ren0_ok h hF hI hsub hids hAv hR hm ho).mc

theorem renA1_ok (h : Good X s a w β cp Rd) (hF : ∀ bx, (F bx).es.length = bx.es.length ∧ (F bx).k = bx.k) (hI : RenOK s ids) (hsub : ∀ b j, idxOf b ids1 0 = some j → idxOf b ids 0 = some j) (hids : ∀ b ∈ lids, b ∉ ids) (hAv : ∀ g, Av g → lendAv X s β Rd (lids ++ ids) g) {Rd' : Nat → Prop} (hR : ∀ g, Rd g → Rd' g)
    {v : Value} {x : AV} (hm : MA1 w (X.mt s β Rd) Rd (hOf s β cp) v x) (ho : renOks s lids ids1 (cellsOf x)) : MA1 w (avIn Av (renIns s F ids) (renβ β ids)) Rd' (hOf (expSt (renIns s F ids)) (renβ β ids) (rencp cp ids)) v (renA1 s ids1 x) := by
  cases x with
  | c x => exact ren_ok h hF hI hsub hids hAv hR hm ho.1
  | agg cs =>
    obtain ⟨arr, rfl, hs, hr⟩ := hm
    refine ⟨arr, rfl, by simpa using hs, fun j c hj => ?_⟩
    simp only [List.getElem?_map, Option.map_eq_some_iff] at hj
    obtain ⟨c0, hc0, rfl⟩ := hj
    exact ren_ok h hF hI hsub hids hAv hR (hr j c0 hc0) (renOks_get ho hc0)
  | tup vs => exact hm.elim
  | mp _ _ => trivial

theorem renB_fit (ids' : List Nat) (bx : Box) : (renB s ids' bx).es.length = bx.es.length ∧ (renB s ids' bx).k = bx.k := by
  unfold renB; split <;> simp

/-- A box that is taken over. -/
theorem renB_ok (h : Good X s a w β cp Rd) (hI : RenOK s ids) (hids : ∀ b ∈ lids, b ∉ ids) (hAv : ∀ g, Av g → lendAv X s β Rd (lids ++ ids) g) {Rd' : Nat → Prop} (hR : ∀ g, Rd g → Rd' g) {b : Nat} {bx : Box} (hbx : s.box b = some bx)
    (ho : bx.row = false → renOks s lids ids bx.es.flatten) : BoxOK w (MC w (avIn Av (renIns s (renB s ids) ids) (renβ β ids)) Rd' (hOf (expSt (renIns s (renB s ids) ids)) (renβ β ids) (rencp cp ids))) (β b) (cp b) (renB s ids bx) := by
  have hM : ∀ g, g < w.heap.size → avIn Av (renIns s (renB s ids) ids) (renβ β ids) g → X.mt s β Rd g := by
    rintro g _ (hg | hg)
    · exact lendAv_mt (hAv g hg)
    · obtain ⟨b, bx, _, h2, h3, h4⟩ := ren_has hI hg
      exact .inr (.inl ⟨b, bx, h2, h3, h4⟩)
  have hB := h.boxes b bx hbx
  unfold renB
  cases hrow : bx.row with
  | true =>
    simp only
    rcases hB.two (.inl hrow) with hB | ⟨g, cur, h1, h2, h4, h5, h6, h7, h9, h8⟩
    · exact .inl (.inl hB)
    · exact .inl (.inr ⟨g, cur, h1, h2, h4, h5, h6, h7, h9, fun i j e c he hc => (((h8 i j e c he hc).rc (h9 hrow e (List.mem_of_getElem? he) c (List.mem_of_getElem? hc))).mono (fun _ _ _ => rfl) (Nat.le_refl _) hM).mc⟩)
  | false =>
    simp only
    rcases hB with (⟨_, _, hB⟩ | ⟨g, cur, h1, h2, h4, h5, h6, h7, h9, h8⟩) | ⟨h1, h2, h0, g, es, clk, h3, h4⟩
    · rw [hrow] at hB; cases hB
    · refine .inl (.inr ⟨g, cur, h1, h2, h4, by simpa using h5, h6, ?_, fun h => by simp at h, ?_⟩)
      · intro e he
        simp only [List.mem_map] at he
        obtain ⟨e0, he0, rfl⟩ := he
        simpa using h7 e0 he0
      · intro i j e c he hc
        simp only [List.getElem?_map, Option.map_eq_some_iff] at he
        obtain ⟨e0, he0, rfl⟩ := he
        simp only [List.getElem?_map, Option.map_eq_some_iff] at hc
        obtain ⟨c0, hc0, rfl⟩ := hc
        have hmem : c0 ∈ bx.es.flatten := List.mem_flatten.2 ⟨e0, List.mem_of_getElem? he0, List.mem_of_getElem? hc0⟩
        obtain ⟨q, hq, hqe⟩ := List.getElem_of_mem hmem
        have := renOks_get (ho hrow) (List.getElem?_eq_getElem hq)
        rw [hqe] at this
        exact ren_ok h (renB_fit ids) hI (fun _ _ h => h) hids hAv hR (h8 i j e0 c0 he0 hc0) this
    · exact .inr ⟨by simp [h1], rfl, h0, g, es, clk, h3, h4⟩
end
end Go.VE
end
section
namespace Go.VE
open Go

theorem backId_cons0 (p : Nat) (ps : List Nat) (n : Nat) : backId (p :: ps) n 0 = p := rfl
theorem backId_cons (p : Nat) (ps : List Nat) (n j : Nat) : backId (p :: ps) n (j + 1) = backId ps n j := by
  simp only [backId, nthL_eq, List.getElem?_cons_succ, List.length_cons, Nat.add_sub_add_right]
theorem backId_nil (n j : Nat) : backId [] n j = n + j := rfl
theorem backId_lt {ids : List Nat} {j b : Nat} (n : Nat) (h : ids[j]? = some b) : backId ids n j = b := by simp [backId, nthL_eq, h]
theorem backId_ge {ids : List Nat} {j : Nat} (n : Nat) (h : ids.length ≤ j) : backId ids n j = n + (j - ids.length) := by
  have : ids[j]? = none := List.getElem?_eq_none h
  simp [backId, nthL_eq, this]

theorem addOut_env (φ : Nat → Nat) : ∀ (bs : List Box) (ps : List Nat) (n : Nat) (s : St), (addOut φ ps n s bs).env = s.env ∧ (addOut φ ps n s bs).nt = s.nt ∧ (addOut φ ps n s bs).np = s.np ∧ (addOut φ ps n s bs).nx = s.nx ∧ (addOut φ ps n s bs).pk = s.pk
  | [], ps, _, _ => by cases ps <;> exact ⟨rfl, rfl, rfl, rfl, rfl⟩
  | b :: r, p :: ps, n, s => by simp only [addOut]; exact addOut_env φ r ps n _
  | b :: r, [], n, s => by simp only [addOut]; exact addOut_env φ r [] (n + 1) _

theorem addOut_other (φ : Nat → Nat) : ∀ (bs : List Box) (ps : List Nat) (n : Nat) (s : St) (c : Nat), (∀ j, j < bs.length → backId ps n j ≠ c) → (addOut φ ps n s bs).box c = s.box c
  | [], ps, _, _, _, _ => by cases ps <;> rfl
  | b :: r, p :: ps, n, s, c, h => by
    simp only [addOut]
    rw [addOut_other φ r ps n _ c fun j hj => by have := h (j + 1) (by simpa using hj); rwa [backId_cons] at this]
    exact St.box_set_ne _ _ fun e => h 0 (by simp) (by rw [backId_cons0, e])
  | b :: r, [], n, s, c, h => by
    simp only [addOut]
    rw [addOut_other φ r [] (n + 1) _ c fun j hj => by have := h (j + 1) (by simpa using hj); simp only [backId_nil] at this ⊢; omega]
    exact St.box_set_ne _ _ fun e => h 0 (by simp) (by rw [backId_nil, e]; rfl)

theorem addOut_at (φ : Nat → Nat) : ∀ (bs : List Box) (ps : List Nat) (n : Nat) (s : St), (∀ i j, i < bs.length → j < bs.length → backId ps n i = backId ps n j → i = j) → ∀ j bx, bs[j]? = some bx → (addOut φ ps n s bs).box (backId ps n j) = some (mapB φ bx)
  | [], _, _, _, _, j, bx, h => by simp at h
  | b :: r, p :: ps, n, s, hi, j, bx, h => by
    simp only [addOut]
    cases j with
    | zero =>
      simp only [List.getElem?_cons_zero, Option.some.injEq] at h
      subst h
      rw [backId_cons0, addOut_other φ r ps n _ p fun j hj e => by
        have := hi (j + 1) 0 (by simpa using hj) (by simp) (by rw [backId_cons, backId_cons0]; exact e)
        omega]
      exact St.box_set_same _ _ _
    | succ j =>
      rw [backId_cons]
      exact addOut_at φ r ps n _ (fun i j hi' hj' e => by
        have := hi (i + 1) (j + 1) (by simpa using hi') (by simpa using hj') (by rw [backId_cons, backId_cons]; exact e)
        omega) j bx (by simpa using h)
  | b :: r, [], n, s, hi, j, bx, h => by
    simp only [addOut]
    cases j with
    | zero =>
      simp only [List.getElem?_cons_zero, Option.some.injEq] at h
      subst h
      have e0 : backId [] n 0 = n := rfl
      rw [e0, addOut_other φ r [] (n + 1) _ n fun j hj e => by rw [backId_nil] at e; omega]
      exact St.box_set_same _ _ _
    | succ j =>
      have := addOut_at φ r [] (n + 1) (s.setBox n (some (mapB φ b))) (fun i j _ _ e => by simp only [backId_nil] at e; omega) j bx (by simpa using h)
      rw [backId_nil] at this ⊢
      rw [show n + (j + 1) = n + 1 + j by omega]
      exact this

theorem addOut_keyed (φ : Nat → Nat) : ∀ (bs : List Box) (ps : List Nat) (n : Nat) (s : St) (c : Nat), (addOut φ ps n s bs).keyed c ↔ (∃ j, j < bs.length ∧ backId ps n j = c) ∨ s.keyed c
  | [], ps, _, _, _ => by cases ps <;> simp [addOut]
  | b :: r, p :: ps, n, s, c => by
    simp only [addOut]
    rw [addOut_keyed φ r ps n _ c, St.keyed_set]
    constructor
    · rintro (⟨j, h1, h2⟩ | h | h)
      · exact .inl ⟨j + 1, by simpa using h1, by rw [backId_cons]; exact h2⟩
      · exact .inl ⟨0, by simp, by rw [backId_cons0, h]⟩
      · exact .inr h
    · rintro (⟨j, h1, h2⟩ | h)
      · cases j with
        | zero => exact .inr (.inl h2.symm)
        | succ j => exact .inl ⟨j, by simpa using h1, by rw [backId_cons] at h2; exact h2⟩
      · exact .inr (.inr h)
  | b :: r, [], n, s, c => by
    simp only [addOut]
    rw [addOut_keyed φ r [] (n + 1) _ c, St.keyed_set]
    simp only [backId_nil]
    constructor
    · rintro (⟨j, h1, h2⟩ | h | h)
      · exact .inl ⟨j + 1, by simpa using h1, by omega⟩
      · exact .inl ⟨0, by simp, by omega⟩
      · exact .inr h
    · rintro (⟨j, h1, h2⟩ | h)
      · cases j with
        | zero => exact .inr (.inl (by omega))
        | succ j => exact .inl ⟨j, by simpa using h1, by omega⟩
      · exact .inr (.inr h)

theorem mapB_fit (φ : Nat → Nat) (b : Box) : (mapB φ b).es.length = b.es.length ∧ (mapB φ b).k = b.k ∧ (mapB φ b).fz = b.fz ∧ (mapB φ b).row = b.row ∧ (mapB φ b).ty = b.ty := by
  unfold mapB; split <;> simp_all

section
variable {P : Program} {X : Cx} {s : St} {a : Act} {w w' : World} {β : Nat → Option Nat} {cp : Nat → Nat} {Rd : Nat → Prop}

theorem passBs_ren (s : St) (ids : List Nat) : ∀ l, passBs s ids l = renIns s (renB s ids) l
  | [] => rfl
  | b :: r => by simp only [passBs, renIns, List.map_cons]; rw [passBs_ren s ids r]; rfl

theorem passOkB_box {lids ids : List Nat} : ∀ {l : List Nat}, passOkB s lids ids l → ∀ b ∈ l, ∃ bx, s.box b = some bx ∧ bx.fz = false ∧ (bx.row = false → renOks s lids ids bx.es.flatten)
  | [], _, b, hb => by simp at hb
  | x :: r, h, b, hb => by
    obtain ⟨h1, h2⟩ := h
    rcases List.mem_cons.1 hb with rfl | hb
    · cases hbx : s.box b with
      | none => rw [hbx] at h1; exact h1.elim
      | some bx =>
        rw [hbx] at h1
        refine ⟨bx, rfl, h1.1, fun hr => ?_⟩
        have := h1.2
        rw [hr] at this
        exact this
    · exact passOkB_box h2 b hb

/-- The numbers behind a call. -/
structure Back (s : St) (pids : List Nat) (nid n : Nat) : Prop where
  ren : RenOK s pids
  fresh : ∀ j, j < 8 → ¬ s.keyed (nid + j)
  few : n ≤ pids.length + 8
  long : pids.length ≤ n

theorem Back.inj {pids : List Nat} {nid n : Nat} (h : Back s pids nid n) : ∀ i j, i < n → j < n → backId pids nid i = backId pids nid j → i = j := by
  have key : ∀ i, i < pids.length → s.keyed (backId pids nid i) := fun i hi => by
    have e := List.getElem?_eq_getElem hi
    rw [backId_lt nid e]
    obtain ⟨bx, h1, _⟩ := h.ren.box _ (List.getElem_mem hi)
    exact St.keyed_of_box h1
  have unk : ∀ i, pids.length ≤ i → i < n → ¬ s.keyed (backId pids nid i) := fun i hi hn => by
    rw [backId_ge nid hi]
    exact h.fresh _ (by have := h.few; omega)
  intro i j hi hj e
  rcases Nat.lt_or_ge i pids.length with h1 | h1 <;> rcases Nat.lt_or_ge j pids.length with h2 | h2
  · have e1 := List.getElem?_eq_getElem h1
    have e2 := List.getElem?_eq_getElem h2
    rw [backId_lt nid e1, backId_lt nid e2] at e
    exact h.ren.inj i j _ e1 (by rw [e2, e])
  · exact absurd (e ▸ key i h1) (unk j h2 hj)
  · exact absurd (e ▸ key j h2) (unk i h1 hi)
  · rw [backId_ge nid h1, backId_ge nid h2] at e; omega

theorem call_post (h : Good X s a w β cp Rd) {nid : Nat} {sp : Spec} (hf : ∀ j, j < 8 → ¬ s.keyed (nid + j)) (hnx : nid + 8 ≤ s.nx) {lids pids : List Nat} (hI : RenOK s pids) (hd2 : ∀ b ∈ lids, b ∉ pids) {v : Value} {r : AV} {bs : List Box}
    {β' : Nat → Option Nat} {cp' : Nat → Nat} {Rd' : Nat → Prop} (hg : Gives X.rt sp w w' (lendAv X s β Rd (lids ++ pids)) Rd s.pk (renIns s (renB s pids) pids) (renβ β pids) (rencp cp pids) v r bs β' cp' Rd') {d : Option Nat} (hd : dstOK s.nt d) :
    ∃ β2 cp2 Rd2, Good X ((afterS nid s sp lids pids bs).put d (mapA (backId pids nid) r)) (a.put d v) w' β2 cp2 Rd2 ∧ (pids = [] → Fr w Rd w' Rd2) := by
  have hpl : (renIns s (renB s pids) pids).length = pids.length := by simp [renIns]
  have few : bs.length ≤ pids.length + 8 := by have := hg.few; rwa [hpl] at this
  have long : pids.length ≤ bs.length := by have := hg.long; rwa [hpl] at this
  have hB : Back s pids nid bs.length := ⟨hI, hf, few, long⟩
  have hinj := hB.inj
  -- the state that is filled
  have s0 : ∀ c bx0, (baseS s sp.flat lids).box c = some bx0 → ∃ bx, s.box c = some bx ∧ bx0.es = bx.es ∧ bx0.k = bx.k ∧ bx0.ty = bx.ty ∧ bx0.row = bx.row ∧ (bx0.fz = false → bx.fz = false ∧ (sp.flat = false → c ∉ lids)) := by
    intro c bx0 hb
    cases hfl : sp.flat with
    | true =>
      rw [hfl] at hb
      exact ⟨bx0, hb, rfl, rfl, rfl, rfl, fun hz => ⟨hz, fun h => by cases h⟩⟩
    | false =>
      rw [hfl] at hb
      simp only [baseS, freeze_box, Option.map_eq_some_iff] at hb
      obtain ⟨bx, h1, h2⟩ := hb
      refine ⟨bx, h1, ?_⟩
      subst h2
      by_cases hc : c ∈ lids
      · rw [if_pos hc]; exact ⟨rfl, rfl, rfl, rfl, fun h => by cases h⟩
      · rw [if_neg hc]; exact ⟨rfl, rfl, rfl, rfl, fun hz => ⟨hz, fun _ => hc⟩⟩
  have s0key : ∀ c, (baseS s sp.flat lids).keyed c ↔ s.keyed c := by
    intro c
    cases sp.flat with
    | true => exact Iff.rfl
    | false => exact freeze_keyed s lids c
  have key1 : ∀ c, (afterS nid s sp lids pids bs).keyed c ↔ (∃ j, j < bs.length ∧ backId pids nid j = c) ∨ s.keyed c := fun c =>
    (addOut_keyed (backId pids nid) bs pids nid (setPk (baseS s sp.flat lids) (s.pk + sp.cost)) c).trans (or_congr Iff.rfl (s0key c))
  have eenv : (afterS nid s sp lids pids bs).env = s.env ∧ (afterS nid s sp lids pids bs).nt = s.nt ∧ (afterS nid s sp lids pids bs).np = s.np ∧ (afterS nid s sp lids pids bs).nx = s.nx ∧ (afterS nid s sp lids pids bs).pk = s.pk + sp.cost := by
    obtain ⟨e1, e2, e3, e4, e5⟩ := addOut_env (backId pids nid) bs pids nid (setPk (baseS s sp.flat lids) (s.pk + sp.cost))
    obtain ⟨f1, f2, f3, f4, _⟩ := freeze_env s lids
    refine ⟨e1.trans ?_, e2.trans ?_, e3.trans ?_, e4.trans ?_, e5⟩ <;> cases sp.flat <;> first | rfl | assumption
  have boxAt : ∀ j bx, bs[j]? = some bx → (afterS nid s sp lids pids bs).box (backId pids nid j) = some (mapB (backId pids nid) bx) := fun j bx hj =>
    addOut_at (backId pids nid) bs pids nid _ hinj j bx hj
  have boxOther : ∀ c, (∀ j, j < bs.length → backId pids nid j ≠ c) → (afterS nid s sp lids pids bs).box c = (baseS s sp.flat lids).box c := fun c hc =>
    addOut_other (backId pids nid) bs pids nid (setPk (baseS s sp.flat lids) (s.pk + sp.cost)) c hc
  generalize hS : afterS nid s sp lids pids bs = S at *
  -- the numbers, back
  obtain ⟨J, hJ1, hJ2⟩ : ∃ J : Nat → Option Nat, (∀ j, j < bs.length → J (backId pids nid j) = some j) ∧ ∀ c j, J c = some j → j < bs.length ∧ backId pids nid j = c := by
    classical
    refine ⟨fun c => if hc : ∃ j, j < bs.length ∧ backId pids nid j = c then some hc.choose else none, fun j hj => ?_, fun c j hcj => ?_⟩
    · have hc : ∃ j', j' < bs.length ∧ backId pids nid j' = backId pids nid j := ⟨j, hj, rfl⟩
      simp only [dif_pos hc, Option.some.injEq]
      exact hinj _ _ hc.choose_spec.1 hj hc.choose_spec.2
    · by_cases hc : ∃ j', j' < bs.length ∧ backId pids nid j' = c
      · simp only [dif_pos hc, Option.some.injEq] at hcj
        subst hcj
        exact hc.choose_spec
      · simp only [dif_neg hc] at hcj; cases hcj
  let β1 : Nat → Option Nat := fun c => match J c with | some j => β' j | none => β c
  let cp1 : Nat → Nat := fun c => match J c with | some j => cp' j | none => cp c
  have β1at : ∀ j, j < bs.length → β1 (backId pids nid j) = β' j ∧ cp1 (backId pids nid j) = cp' j := fun j hj => by simp only [β1, cp1, hJ1 j hj, and_self]
  have old1 : ∀ c, (∀ j, j < bs.length → backId pids nid j ≠ c) → β1 c = β c ∧ cp1 c = cp c := fun c hc => by
    have : J c = none := by
      cases hj : J c with
      | none => rfl
      | some j => exact absurd (hJ2 c j hj).2 (hc j (hJ2 c j hj).1)
    simp only [β1, cp1, this, and_self]
  -- what a box is
  have boxes1 : ∀ c bx, S.box c = some bx → (∃ j bx', j < bs.length ∧ c = backId pids nid j ∧ bs[j]? = some bx' ∧ bx = mapB (backId pids nid) bx' ∧ β1 c = β' j ∧ cp1 c = cp' j) ∨
      (∃ bx', c ∉ pids ∧ s.box c = some bx' ∧ bx.es = bx'.es ∧ bx.k = bx'.k ∧ bx.ty = bx'.ty ∧ bx.row = bx'.row ∧ (bx.fz = false → bx'.fz = false ∧ (sp.flat = false → c ∉ lids)) ∧ β1 c = β c ∧ cp1 c = cp c) := by
    intro c bx hb
    by_cases hc : ∃ j, j < bs.length ∧ backId pids nid j = c
    · obtain ⟨j, hj, rfl⟩ := hc
      have hbj := List.getElem?_eq_getElem hj
      rw [boxAt j _ hbj] at hb
      cases hb
      exact .inl ⟨j, _, hj, rfl, hbj, rfl, (β1at j hj).1, (β1at j hj).2⟩
    · have hc' : ∀ j, j < bs.length → backId pids nid j ≠ c := fun j hj e => hc ⟨j, hj, e⟩
      rw [boxOther c hc'] at hb
      obtain ⟨bx', h1, h2, h3, h4, h5, h6⟩ := s0 c bx hb
      refine .inr ⟨bx', fun hm => ?_, h1, h2, h3, h4, h5, h6, (old1 c hc').1, (old1 c hc').2⟩
      obtain ⟨j, hj, rfl⟩ := List.getElem_of_mem hm
      exact hc' j (by omega) (backId_lt nid (List.getElem?_eq_getElem hj))
  have pas : ∀ j g, j < pids.length → renβ β pids j = some g → ∃ b bx, pids[j]? = some b ∧ s.box b = some bx ∧ bx.fz = false ∧ β b = some g := by
    intro j g hj hgj
    have e := List.getElem?_eq_getElem hj
    obtain ⟨bx, h1, h2⟩ := hI.box _ (List.getElem_mem hj)
    refine ⟨_, bx, e, h1, h2, ?_⟩
    simpa [renβ, e] using hgj
  have hlt : ∀ g, has s β g → g < w.heap.size := fun g hh => h.lt hh
  -- a block of a box behind the call: new, or the same box's
  have org1 : ∀ c bx g, S.box c = some bx → β1 c = some g → (∃ bx', s.box c = some bx' ∧ β c = some g ∧ (bx.fz = false → bx'.fz = false)) ∨ w.heap.size ≤ g := by
    intro c bx g hb hgc
    rcases boxes1 c bx hb with ⟨j, bx', hj, rfl, h4, rfl, h6, _⟩ | ⟨bx', _, h4, _, _, _, _, h5, h6, _⟩
    · rw [h6] at hgc
      rcases (hg.org j bx' g h4 hgc).1 with h7 | ⟨h7, h8⟩
      · exact .inr h7
      · rw [hpl] at h7
        obtain ⟨b, bx2, q1, q2, q3, q4⟩ := pas j g h7 h8
        rw [backId_lt nid q1]
        exact .inl ⟨bx2, q2, q4, fun _ => q3⟩
    · rw [h6] at hgc; exact .inl ⟨bx', h4, hgc, fun hz => (h5 hz).1⟩
  have owns1 : ∀ g, owns S β1 g → owns s β g ∨ w.heap.size ≤ g := by
    rintro g ⟨c, bx, h1, hz, h2⟩
    rcases org1 c bx g h1 h2 with ⟨bx', h3, h4, h5⟩ | h3
    · exact .inl ⟨c, bx', h3, h5 hz, h4⟩
    · exact .inr h3
  have hasrd : ∀ g, has S β1 g → ¬ Rd' g := by
    intro g hh hr
    obtain ⟨c, bx, h1, h2⟩ := hh
    rcases boxes1 c bx h1 with ⟨j, bx', hj, rfl, h4, rfl, h6, _⟩ | ⟨bx', _, h4, _, _, _, _, _, h6, _⟩
    · rw [h6] at h2; exact (hg.org j bx' g h4 h2).2 hr
    · rw [h6] at h2
      have hh : has s β g := ⟨c, bx', h4, h2⟩
      rcases hg.rdge g hr with h7 | h7
      · exact h.own_rd g hh h7
      · have := hlt g hh; omega
  have sub : ∀ g, X.mt S β1 Rd' g → avoid (lendAv X s β Rd (lids ++ pids)) bs β' Rd' sp.flat w.heap.size g := by
    rintro g (hm | ⟨c, bx, h1, hz, h2⟩ | hm)
    · exact .inl (.inl hm)
    · rcases boxes1 c bx h1 with ⟨j, bx', hj, rfl, h4, rfl, h6, _⟩ | ⟨bx', hcp, h4, _, _, _, _, h5, h6, _⟩
      · rw [h6] at h2
        exact .inr (.inl ⟨j, bx', by rw [exp_box]; exact h4, h2⟩)
      · rw [h6] at h2
        obtain ⟨z1, z2⟩ := h5 hz
        cases hfl : sp.flat with
        | true => exact .inr (.inr (.inr ⟨rfl, hlt g ⟨c, bx', h4, h2⟩⟩))
        | false =>
          refine .inl (.inr (.inl ⟨⟨c, bx', h4, z1, h2⟩, fun b hb bx3 h7 hbb => ?_⟩))
          have := h.inj c b bx' bx3 g h4 h7 h2 hbb
          subst this
          rcases List.mem_append.1 hb with h8 | h8
          · exact z2 hfl h8
          · exact hcp h8
    · exact .inr (.inr (.inl hm))
  have mtold : ∀ g, g < w.heap.size → X.mt S β1 Rd' g → X.mt s β Rd g := by
    rintro g hlt' (hm | hm | hm)
    · exact .inl hm
    · rcases owns1 g hm with h1 | h1
      · exact .inr (.inl h1)
      · omega
    · rcases hg.rdge g hm with h1 | h1
      · exact .inr (.inr h1)
      · omega
  -- handles go on
  have goes : ∀ b, s.keyed b → ∀ bx', S.box b = some bx' → ∃ bx, s.box b = some bx ∧ ((bx'.es.length = bx.es.length ∧ β1 b = β b ∧ cp1 b = cp b ∧ bx'.k = bx.k) ∨ bx.es.length < bx'.es.length) := by
    intro b hk bx' hb
    rcases boxes1 b bx' hb with ⟨j, bx2, hj, rfl, h4, rfl, h6, h7⟩ | ⟨bx2, _, h4, q1, q2, q3, _, _, h6, h7⟩
    · rcases Nat.lt_or_ge j pids.length with hjp | hjp
      · have e := List.getElem?_eq_getElem hjp
        obtain ⟨bx, p1, p2⟩ := hI.box _ (List.getElem_mem hjp)
        rw [backId_lt nid e] at h6 h7 ⊢
        have hin : (renIns s (renB s pids) pids)[j]? = some (renB s pids bx) := by simp [renIns, e, boxN_of p1]
        obtain ⟨g1, g2⟩ := hg.pins j _ bx2 hin h4
        obtain ⟨f1, f2⟩ := renB_fit (s := s) pids bx
        obtain ⟨m1, m2, _⟩ := mapB_fit (backId pids nid) bx2
        rw [f1] at g1 g2
        refine ⟨bx, p1, ?_⟩
        rw [m1, m2]
        rcases Nat.lt_or_eq_of_le g1 with g3 | g3
        · exact .inr g3
        · obtain ⟨g4, g5, g6⟩ := g2 g3.symm
          refine .inl ⟨g3.symm, h6.trans (g4.trans (by simp [renβ, e])), h7.trans (g5.trans (by simp [rencp, List.getD_eq_getElem?_getD, e])), g6.trans f2⟩
      · rw [backId_ge nid hjp] at hk
        exact absurd hk (hf _ (by omega))
    · exact ⟨bx2, h4, .inl ⟨by rw [q1], h6, h7, q2⟩⟩
  have hkey1 : ∀ b, s.keyed b → S.keyed b := fun b hb => (key1 b).2 (.inr hb)
  have hH : ∀ c v, hOf s β cp c v → hOf S β1 cp1 c v := fun c v hc => hc.go hkey1 goes
  have hH2 : ∀ c b n, hkey c = some (b, n) → ∀ v, hOf (expSt bs) β' cp' c v → hOf S β1 cp1 (setId (backId pids nid b) c) v := by
    intro c b n hk v hc
    obtain ⟨b', n', k1, k2, k3⟩ := hc
    rw [hk] at k1
    cases k1
    rw [exp_keyed] at k2
    have hb' := List.getElem?_eq_getElem k2
    refine ⟨backId pids nid b, n, hkey_setId hk _, (key1 _).2 (.inl ⟨b, k2, rfl⟩), fun bx hb => ?_⟩
    rw [boxAt b _ hb'] at hb
    cases hb
    obtain ⟨m1, m2, _⟩ := mapB_fit (backId pids nid) bs[b]
    rw [m1, m2, (β1at b k2).1, (β1at b k2).2, hV_setId]
    exact k3 _ (by rw [exp_box]; exact hb')
  have hM2 : ∀ v c, MC w' (avoid (lendAv X s β Rd (lids ++ pids)) bs β' Rd' sp.flat w.heap.size) Rd' (hOf (expSt bs) β' cp') v c → MC w' (X.mt S β1 Rd') Rd' (hOf S β1 cp1) v (mapC (backId pids nid) c) := fun v c hc =>
    (hc.mono (K := fun _ => True) (Mt' := X.mt S β1 Rd') (fun _ _ _ => rfl) (Nat.le_refl _) (fun g _ hm => sub g hm) (fun _ h => h) (cIds_all c) (fun _ _ _ _ _ _ h => h)).map hH2
  have hkeep : ∀ g, g < w.heap.size → ¬ owns s β g → ¬ Rd g → w'.heap[g]? = w.heap[g]? := fun g hl ho hr => hg.keeps.block g hl fun hq => by
    rcases hq with hq | hq
    · exact hr hq
    · obtain ⟨b, bx, _, p2, p3, p4⟩ := ren_has hI hq
      exact ho ⟨b, bx, p2, p3, p4⟩
  have G : Good X S a w' β1 cp1 Rd' := by
    refine h.re eenv.1 eenv.2.1 eenv.2.2.1 (fun b hb => ?_) hg.keeps.os hg.keeps.tape hg.keeps.output hg.keeps.size hkeep hg.rd (fun g hr => (hg.rdge g hr).imp id (·.1)) owns1 (fun b bx' g h1 h2 => (org1 b bx' g h1 h2).imp (fun ⟨bx, q1, q2, _⟩ => ⟨bx, q1, q2⟩) id) hasrd (fun g hr => hg.same g (h.rd0 g hr)) ?_ hH
      (fun i q hq => hq.go hkey1 goes) ?_ ?_
    · rw [eenv.2.2.2.1]
      rcases (key1 b).1 hb with ⟨j, hj, rfl⟩ | h1
      · rcases Nat.lt_or_ge j pids.length with hjp | hjp
        · have e := List.getElem?_eq_getElem hjp
          rw [backId_lt nid e]
          obtain ⟨bx, p1, _⟩ := hI.box _ (List.getElem_mem hjp)
          exact h.fresh _ (St.keyed_of_box p1)
        · rw [backId_ge nid hjp]; omega
      · exact h.fresh b h1
    · intro b b' bx bx2 g h1 h2 h3 h4
      have mixed : ∀ (i : Nat) (y : Box) (b' : Nat) (y' : Box), i < bs.length → bs[i]? = some y → b' ∉ pids → s.box b' = some y' → β' i = some g → β b' = some g → False := by
        intro i y b' y' hi hy hnp hy' hβi hβb
        rcases (hg.org i y g hy hβi).1 with q1 | ⟨q1, q2⟩
        · have := hlt g ⟨b', y', hy', hβb⟩; omega
        · rw [hpl] at q1
          obtain ⟨b0, bx0, p1, p2, p3, p4⟩ := pas i g q1 q2
          have := h.inj b0 b' bx0 y' g p2 hy' p4 hβb
          subst this
          exact hnp (List.mem_of_getElem? p1)
      rcases boxes1 b bx h1 with ⟨i, y, hi, rfl, h5, _, h6, _⟩ | ⟨y, hn, h5, _, _, _, _, _, h6, _⟩ <;> rcases boxes1 b' bx2 h2 with ⟨i', y', hi', rfl, h5', _, h6', _⟩ | ⟨y', hn', h5', _, _, _, _, _, h6', _⟩ <;> rw [h6] at h3 <;> rw [h6'] at h4
      · rw [hg.inj i i' y y' g h5 h5' h3 h4]
      · exact (mixed i y b' y' hi h5 hn' h5' h3 h4).elim
      · exact (mixed i' y' b y hi' h5' hn h5 h4 h3).elim
      · exact h.inj b b' y y' g h5 h5' h3 h4
    · intro g hr
      rw [eenv.2.2.2.2]
      by_cases hrd : Rd g
      · obtain ⟨q1, bv, p, cs, q2, q3, q4, q5⟩ := h.rdok g hrd
        obtain ⟨bv2, m, m', q6, q7⟩ := hg.same g hrd
        obtain ⟨q8, bv3, p3, cs3, q9, q10, _⟩ := hg.rdok g hr
        obtain ⟨rfl, _⟩ := q2.inj q6
        obtain ⟨_, rfl⟩ := q7.inj q9
        exact ⟨q8, bv, p3, cs, q7, q10, q4, q5.mono (fun g hl hm => hkeep g hl (fun ho => hm (.inr (.inl ho))) (fun hr => hm (.inr (.inr hr)))) hg.keeps.size mtold⟩
      · obtain ⟨bv, p, cs, q1, q2, q3, q4⟩ := hg.rdnew g hr hrd
        exact ⟨q1.lt, bv, p, cs, q1, q2, q3, q4.mono (fun _ _ _ => rfl) (Nat.le_refl _) fun g _ hm => sub g hm⟩
    · intro c bx hb
      rcases boxes1 c bx hb with ⟨j, y, hj, rfl, h5, rfl, h6, h7⟩ | ⟨y, hnp, h5, q1, q2, q3, q4, _, h6, h7⟩
      · rw [h6, h7]
        have hy := (hg.boxes j y h5).2
        unfold mapB
        cases hrow : y.row with
        | true =>
          simp only
          rcases hy.two (.inl hrow) with hy | ⟨g, cur, k1, k2, k4, k5, k6, k7, k9, k8⟩
          · exact .inl (.inl hy)
          · exact .inl (.inr ⟨g, cur, k1, k2, k4, k5, k6, k7, k9, fun i j e c he hc => (((k8 i j e c he hc).rc (k9 hrow e (List.mem_of_getElem? he) c (List.mem_of_getElem? hc))).mono (fun _ _ _ => rfl) (Nat.le_refl _) fun g _ hm => sub g hm).mc⟩)
        | false =>
          simp only
          rcases hy with (⟨_, _, hy⟩ | ⟨g, cur, k1, k2, k4, k5, k6, k7, k9, k8⟩) | ⟨k1, k2, k0, g, es, clk, k3, k4⟩
          · rw [hrow] at hy; cases hy
          · refine .inl (.inr ⟨g, cur, k1, k2, k4, by simpa using k5, k6, fun e he => ?_, fun h => by simp at h, fun i j e c he hc => ?_⟩)
            · simp only [List.mem_map] at he
              obtain ⟨e', he', rfl⟩ := he
              simpa using k7 e' he'
            · simp only [List.getElem?_map, Option.map_eq_some_iff] at he
              obtain ⟨e', he', rfl⟩ := he
              simp only [List.getElem?_map, Option.map_eq_some_iff] at hc
              obtain ⟨c', hc', rfl⟩ := hc
              exact hM2 _ _ (k8 i j e' c' he' hc')
          · exact .inr ⟨by simp [k1], rfl, k0, g, es, clk, k3, k4⟩
      · rw [h6, h7]
        have hold := ((h.boxes c y h5).heap (w' := w') fun g hgb => hg.keeps.block g ((h.boxes c y h5).lt hgb) fun hq => by
          rcases hq with hq | hq
          · exact h.own_rd g ⟨c, y, h5, hgb⟩ hq
          · obtain ⟨b, bx0, p1, p2, p3, p4⟩ := ren_has hI hq
            have := h.inj c b y bx0 g h5 p2 hgb p4
            subst this
            exact hnp p1).mono (fun v cc hcc =>
          hcc.mono (w' := w') (Mt' := X.mt S β1 Rd') (Rd' := Rd') (H' := hOf S β1 cp1) (K := fun _ => True) (fun g hl hm => hkeep g hl (fun ho => hm (.inr (.inl ho))) (fun hr => hm (.inr (.inr hr)))) hg.keeps.size mtold hg.rd (cIds_all cc) (fun c _ _ _ _ v => hH c v))
        cases bx; cases y
        simp only at q1 q2 q3 q4
        subst q1 q2 q3 q4
        exact hold
  refine ⟨β1, cp1, Rd', G.put (by rw [eenv.2.1]; exact hd) ?_, fun hp => ⟨hg.keeps.size, fun g hl hr => hg.keeps.block g hl fun hq => ?_, fun g hr => (hg.rdge g hr).imp id (·.1)⟩⟩
  · exact (hg.value.mono (K := fun _ => True) (Mt' := X.mt S β1 Rd') (fun _ _ _ => rfl) (Nat.le_refl _) (fun g _ hm => sub g hm) (fun _ h => h) (avIds_all _) (fun _ _ _ _ _ _ h => h)).map hH2
  · rcases hq with hq | hq
    · exact hr hq
    · subst hp
      obtain ⟨b, _, p1, _⟩ := ren_has hI hq
      simp at p1
end
end Go.VE
end
section
namespace Go.VE
open Go

section
variable {P : Program} {tt : Nat → Option TI} {tab : Nat → Option Spec} {X : Cx} {s : St} {a : Act} {w : World} {β : Nat → Option Nat} {cp : Nat → Nat} {Rd : Nat → Prop}

theorem run_call_func {f : FuncId} (hr : FnRow P f) (o : Oper) (args : Array Operand) (ts : Array Nat) (ho : o.op = .call ⟨.value (.func f), args, ts⟩) : (execOp a.eval o).run P w = .ok (.enter f (args.map a.eval)) w := by
  obtain ⟨fn, h1, h2, h3⟩ := hr.row
  unfold execOp
  simp only [ho, resolve]
  have : a.eval (.func f) = .func (.func f) #[] #[] := rfl
  rw [this]
  have h2' : ¬ fn.name = "runtime.NumGoroutine" := by simpa using h2
  have h3' : ¬ fn.body = none := fun e => by rw [e] at h3; simp at h3
  simp [Deferred.ofValue, invoke, callFunc, h1, h2', h3']

theorem run_call_val {f : FuncId} (hr : FnRow P f) (o : Oper) (t : Nat) (args : Array Operand) (ts : Array Nat) (ho : o.op = .call ⟨.value (.tmp t), args, ts⟩) {arr : Array Value} (hv : a.eval (.tmp t) = .func (.func f) #[] arr) : (execOp a.eval o).run P w = .ok (.enter f (args.map a.eval ++ arr)) w := by
  obtain ⟨fn, h1, h2, h3⟩ := hr.row
  unfold execOp
  simp only [ho, resolve]
  rw [hv]
  have h2' : ¬ fn.name = "runtime.NumGoroutine" := by simpa using h2
  have h3' : ¬ fn.body = none := fun e => by rw [e] at h3; simp at h3
  simp [Deferred.ofValue, invoke, callFunc, h1, h2', h3']

/-- What is handed to a call. -/
theorem pass_get {lids pids : List Nat} : ∀ (m : List Bool) (xs : List AV), passOkA s lids pids m xs → (passA s pids m xs).length = xs.length ∧ ∀ (j : Nat) x', (passA s pids m xs)[j]? = some x' → ∃ x ids1, xs[j]? = some x ∧ (ids1 = pids ∨ ids1 = []) ∧ x' = renA1 s ids1 x ∧ renOks s lids ids1 (cellsOf x)
  | _, [], _ => ⟨rfl, fun j x' h => by simp [passA] at h⟩
  | [], x :: r, h => by
    obtain ⟨q1, q2⟩ := pass_get [] r h.2
    refine ⟨by simp [passA, q1], fun j x' hj => ?_⟩
    cases j with
    | zero => simp only [passA, List.getElem?_cons_zero, Option.some.injEq] at hj; subst hj; exact ⟨x, [], rfl, .inr rfl, rfl, h.1⟩
    | succ j => simpa using q2 j x' (by simpa [passA] using hj)
  | true :: m, x :: r, h => by
    obtain ⟨q1, q2⟩ := pass_get m r h.2
    refine ⟨by simp [passA, q1], fun j x' hj => ?_⟩
    cases j with
    | zero => simp only [passA, List.getElem?_cons_zero, Option.some.injEq] at hj; subst hj; exact ⟨x, pids, rfl, .inl rfl, rfl, h.1⟩
    | succ j => simpa using q2 j x' (by simpa [passA] using hj)
  | false :: m, x :: r, h => by
    obtain ⟨q1, q2⟩ := pass_get m r h.2
    refine ⟨by simp [passA, q1], fun j x' hj => ?_⟩
    cases j with
    | zero => simp only [passA, List.getElem?_cons_zero, Option.some.injEq] at hj; subst hj; exact ⟨x, [], rfl, .inr rfl, rfl, h.1⟩
    | succ j => simpa using q2 j x' (by simpa [passA] using hj)

theorem takes_ok (h : Good X s a w β cp Rd) {lids pids : List Nat} {m : List Bool} {xs : List AV} {vs : Array Value} (hsz : vs.size = xs.length) (hvs : ∀ j x, xs[j]? = some x → MA w (X.mt s β Rd) Rd (hOf s β cp) (vs.getD j undef) x)
    (hA : passOkA s lids pids m xs) (hB : passOkB s lids pids pids) (hd : ∀ b ∈ lids, b ∉ pids) (hI : RenOK s pids) :
    Takes X.rt w (lendAv X s β Rd (lids ++ pids)) Rd s.pk (passA s pids m xs) vs (renIns s (renB s pids) pids) (renβ β pids) (rencp cp pids) := by
  obtain ⟨q1, q2⟩ := pass_get m xs hA
  have hin : ∀ g, avIn (lendAv X s β Rd (lids ++ pids)) (renIns s (renB s pids) pids) (renβ β pids) g → X.mt s β Rd g := by
    rintro g (hg | hg)
    · exact lendAv_mt hg
    · obtain ⟨b, bx, _, h2, h3, h4⟩ := ren_has hI hg
      exact .inr (.inl ⟨b, bx, h2, h3, h4⟩)
  exact {
    glob := by
      obtain ⟨h1, h2⟩ := h.glob
      refine ⟨X.rt.stay _ _ (fun g hg => h.keeps.block g (h2 g hg).1 (h2 g hg).2) h1, fun g hg => ?_⟩
      obtain ⟨k1, k2⟩ := h2 g hg
      refine ⟨Nat.lt_of_lt_of_le k1 h.keeps.size, fun hr => ?_, fun hh => ?_⟩
      · rcases h.rdge g hr with h3 | h3
        · exact k2 (.inl h3)
        · omega
      · obtain ⟨b, bx, _, p2, _, p4⟩ := ren_has hI hh
        rcases h.org b bx g p2 p4 with h3 | ⟨q, h3, h4⟩
        · omega
        · exact k2 (.inr ⟨b, q, h3, h4⟩)
    rdav := fun g hg => .inr (.inr hg)
    avlt := fun g hg => by
      rcases hg with h1 | h1 | h1
      · exact Nat.lt_of_lt_of_le (h.avlt g h1) h.keeps.size
      · exact h.lt h1.1.has
      · exact (h.rdok g h1).1
    pasav := fun g hg hav => by
      obtain ⟨b, bx, p1, p2, _, p4⟩ := ren_has hI hg
      rcases hav with h1 | h1 | h1
      · exact h.own_av g ⟨b, bx, p2, p4⟩ h1
      · exact h1.2 b (List.mem_append_right _ p1) bx p2 p4
      · exact h.own_rd g ⟨b, bx, p2, p4⟩ h1
    rdok := h.rdok.mono (fun _ _ _ => rfl) (Nat.le_refl _) (fun g _ hm => hin g hm) (fun _ _ => rfl) (Nat.le_refl _)
    size := by rw [q1]; exact hsz
    args := fun j x' hj => by
      obtain ⟨x, ids1, p1, p2, rfl, p4⟩ := q2 j x' hj
      have hx := hvs j x p1
      have hsub : ∀ b j, idxOf b ids1 0 = some j → idxOf b pids 0 = some j := by
        rcases p2 with rfl | rfl
        · exact fun _ _ h => h
        · intro b j h; cases h
      cases x with
      | tup l => trivial
      | mp _ _ => trivial
      | c x =>
        have := renA1_ok (F := renB s pids) (x := .c x) h (renB_fit pids) hI hsub hd (fun g hg => hg) (fun _ h => h) hx p4
        exact this
      | agg cs =>
        have := renA1_ok (F := renB s pids) (x := .agg cs) h (renB_fit pids) hI hsub hd (fun g hg => hg) (fun _ h => h) hx p4
        exact this
    boxes := fun b bx hb => by
      obtain ⟨b0, bx0, p1, p2, p3, rfl, p5, p6⟩ := ren_get (β := β) (cp := cp) hI hb
      obtain ⟨bx1, r1, r2, r3⟩ := passOkB_box hB b0 (List.mem_of_getElem? p1)
      rw [p2] at r1
      cases r1
      refine ⟨by unfold renB; split <;> exact p3, ?_⟩
      rw [p5, p6]
      exact renB_ok h hI hd (fun g hg => hg) (fun _ h => h) p2 r3
    inj := fun b b' bx bx' g h1 h2 h3 h4 => by
      obtain ⟨b0, bx0, p1, p2, _, _, p5, _⟩ := ren_get (β := β) (cp := cp) hI h1
      obtain ⟨b1, bx1, r1, r2, _, _, r5, _⟩ := ren_get (β := β) (cp := cp) hI h2
      rw [p5] at h3
      rw [r5] at h4
      have := h.inj b0 b1 bx0 bx1 g p2 r2 h3 h4
      subst this
      exact hI.inj b b' b0 p1 r1 }

/-- A call, by the contract. -/
theorem call_ok {tab : Nat → Option Spec} (htab : TabOK P X.rt tab) (h : Good X s a w β cp Rd) {d : Option Nat} (hd : dstOK s.nt d) {nid : Nat} (hf : ∀ j, j < 8 → ¬ s.keyed (nid + j)) (hnx : nid + 8 ≤ s.nx) {f : Nat} {xs : List AV} {vs : Array Value} (hsz : vs.size = xs.length)
    (hvs : ∀ j x, xs[j]? = some x → MA w (X.mt s β Rd) Rd (hOf s β cp) (vs.getD j undef) x) (hp : (callS tab nid f xs s d).1) :
    FnRow P f ∧ Calls P f vs w fun e w' => ∃ v s', e = .returned v ∧ (callS tab nid f xs s d).2 s' ∧ ∃ β2 cp2 Rd2, Good X s' (a.put d v) w' β2 cp2 Rd2 ∧ ((∀ sp, tab f = some sp → sp.mt = []) → Fr w Rd w' Rd2) := by
  unfold callS at hp ⊢
  split at hp
  · rename_i sp hsp
    simp only [Res.mkE] at hp ⊢
    obtain ⟨p1, p2, p3, p4, p5, p6⟩ := hp
    obtain ⟨hrow, hsat⟩ := htab f sp hsp
    refine ⟨hrow, ?_⟩
    have hI : RenOK s (passIds s sp.mt xs) := ⟨fun b hb => let ⟨bx, q1, q2, _⟩ := passOkB_box p2 b hb; ⟨bx, q1, q2⟩, distN_inj _ p4⟩
    have hdj : ∀ b ∈ lent sp.mt xs, b ∉ passIds s sp.mt xs := fun b hb hm => by
      have := List.all_eq_true.1 p3 b hb
      rw [(memN_iff b _).2 hm] at this
      cases this
    have hT := takes_ok h hsz hvs p1 p2 hdj hI
    rw [passBs_ren] at p5
    refine (hsat _ _ _ _ _ _ _ _ _ hT p5 p6).mono ?_
    rintro e w' ⟨v, r, bs, β', cp', Rd', rfl, hpost, hg⟩
    obtain ⟨β2, cp2, Rd2, g1, g2⟩ := call_post h hf hnx hI hdj hg hd
    refine ⟨v, _, rfl, ⟨(r, bs), by rw [passBs_ren]; exact hpost, rfl⟩, β2, cp2, Rd2, g1, fun hm => g2 ?_⟩
    rw [hm sp hsp]
    rfl
  · exact hp.elim

def pureOp (o : Op) : Bool :=
  match o with
  | .move _ | .pick .. | .build .. | .load .. | .nilCheck _ | .binOp .. | .unOp .. | .convert .. | .fieldAddr .. | .field .. | .indexAddr .. | .index .. | .extract .. | .slice .. | .makeFunc .. => true
  | .call c => match c.callee with
    | .builtin .len | .builtin .min | .builtin .max => true
    | _ => false
  | _ => false
def isLoad (o : Op) : Bool :=
  match o with
  | .load .. => true
  | .convert .. => true
  | .call c => match c.callee with
    | .builtin .len => true
    | _ => false
  | _ => false
def calmOp (tab : Nat → Option Spec) (o : Op) : Bool :=
  match o with
  | .store .. => false
  | .mapUpdate .. => false
  | .call c => match c.callee with
    | .builtin .append => false
    | .builtin .copy => false
    | .value (.func f) => match tab f with
      | some sp => sp.mt.isEmpty
      | none => false
    | .value (.tmp _) => true
    | .value _ => false
    | _ => true
  | _ => true

def RelC (b : Bool) (w0 : World) (Rd0 : Nat → Prop) (X : Cx) (s : St) (a : Act) (w : World) : Prop := ∃ β cp Rd, Good X s a w β cp Rd ∧ (b = true → Fr w0 Rd0 w Rd)
theorem RelF.c {b : Bool} {w0 : World} {Rd0 : Nat → Prop} (h : RelF w0 Rd0 X s a w) : RelC b w0 Rd0 X s a w := let ⟨β, cp, Rd, h, k⟩ := h; ⟨β, cp, Rd, h, fun _ => k⟩
theorem RelC.rel {b : Bool} {w0 : World} {Rd0 : Nat → Prop} (h : RelC b w0 Rd0 X s a w) : Rel X s a w := let ⟨β, cp, Rd, h, _⟩ := h; ⟨β, cp, Rd, h⟩

/-- What yields its value without a trace. -/
theorem opP_sound (htt : TTok P tt) (h : Good X s a w β cp Rd) {o : Oper} {nid : Nat} (hd : dstOK s.nt o.dst) (hpure : pureOp o.op = true) (hp : (opS tt tab nid o s).1) :
    ∃ u, (∀ w' Rd', (isLoad o.op = true → Fr w Rd w' Rd') → (execOp a.eval o).run P w' = .ok (.value u) w') ∧ ∃ s', (opS tt tab nid o s).2 s' ∧ Good X s' (a.put o.dst u) w β cp Rd := by
  have val : ∀ (sem : Sem Value) (r : Res), (execOp a.eval o = do pure (Next.value (← sem))) → (opS tt tab nid o s = r) → (∃ u, (∀ w', sem.run P w' = .ok u w') ∧ ∃ s', r.2 s' ∧ Good X s' (a.put o.dst u) w β cp Rd) →
      ∃ u, (∀ w' Rd', (isLoad o.op = true → Fr w Rd w' Rd') → (execOp a.eval o).run P w' = .ok (.value u) w') ∧ ∃ s', (opS tt tab nid o s).2 s' ∧ Good X s' (a.put o.dst u) w β cp Rd := by
    intro sem r he hr ⟨u, h1, s', h2, h3⟩
    refine ⟨u, fun w' _ _ => ?_, s', hr ▸ h2, h3⟩
    rw [he]
    simp only [Sem.run_bind, h1 w', Result.andThen_ok, Sem.run_pure]
  obtain ⟨dst, op, ty, pos, af, g⟩ := o
  cases op with
  | move x => exact ⟨_, fun _ _ _ => rfl, _, rfl, h.put hd (h.ev x)⟩
  | pick c x y =>
    obtain ⟨u, h1, s', h2, h3⟩ := pick_ok (P := P) h hd hp
    exact ⟨u, fun w' _ _ => by unfold execOp; exact h1 w', s', h2, h3⟩
  | build t parts => exact val _ _ rfl rfl (build_ok htt h hd hp)
  | load t x =>
    obtain ⟨u, h1, s', h2, h3⟩ := load_ok htt h hd (h.ev x) hp
    refine ⟨u, fun w' Rd' hf => ?_, s', h2, h3⟩
    unfold execOp
    simp only [Sem.run_bind, h1 w' Rd' (hf rfl), Result.andThen_ok, Sem.run_pure]
  | nilCheck x =>
    obtain ⟨u, h1, s', h2, h3⟩ := nil_ok (P := P) h hd (o := ⟨dst, .nilCheck x, ty, pos, af, g⟩) rfl hp
    exact ⟨u, fun w' _ _ => h1 w', s', h2, h3⟩
  | binOp op t x y t' => exact val _ _ rfl rfl (bin_ok (ox := x) (oy := y) htt h hd (h.ev x) (h.ev y) hp)
  | unOp op t x => exact val _ _ rfl rfl (un_ok (P := P) h hd (h.ev x) hp)
  | convert t t' x =>
    obtain ⟨u, h1, s', h2, h3⟩ := convert_ok htt h hd (h.ev x) hp
    refine ⟨u, fun w' Rd' hf => ?_, s', h2, h3⟩
    unfold execOp
    simp only [Sem.run_bind, h1 w' Rd' (hf rfl), Result.andThen_ok, Sem.run_pure]
  | fieldAddr t x f => exact val _ _ rfl rfl (fieldAddr_ok htt h hd (h.ev x) hp)
  | field t x f => exact val _ _ rfl rfl (field_ok htt h hd (h.ev x) hp)
  | indexAddr t x i => exact val _ _ rfl rfl (indexAddr_ok htt h hd (h.ev x) (h.ev i) hp)
  | index t x i => exact val _ _ rfl rfl (index_ok htt h hd (h.ev x) (h.ev i) hp)
  | extract x j => exact val _ _ rfl rfl (extract_ok (P := P) h hd (h.ev x) hp)
  | makeFunc f first captured =>
    cases f with
    | func f =>
      obtain ⟨first⟩ := first
      cases first with
      | nil =>
        obtain ⟨u, h1, h2⟩ := makeFunc_ok (P := P) (f := f) (captured := captured) h hd hp
        exact val (Instr.makeFunc (.func f) #[] (captured.map a.eval)) _ (by simp [execOp]) rfl ⟨u, h1, h2⟩
      | cons x r => exact hp.elim
    | _ => exact hp.elim
  | slice t x lo hi mx => exact val _ _ rfl rfl (slice_ok htt h hd hp)
  | call c =>
    obtain ⟨callee, args, ts⟩ := c
    have bi : ∀ (b : Builtin) (sem : Sem Value) (r : Res), callee = .builtin b → (∀ cs, builtin b ts ty cs (args.map a.eval) = (do pure (Next.value (← sem)) : Sem Next)) → (opS tt tab nid ⟨dst, .call ⟨callee, args, ts⟩, ty, pos, af, g⟩ s = r) →
        (∃ u, (∀ w' Rd', (isLoad (.call ⟨callee, args, ts⟩) = true → Fr w Rd w' Rd') → sem.run P w' = .ok u w') ∧ ∃ s', r.2 s' ∧ Good X s' (a.put dst u) w β cp Rd) →
        ∃ u, (∀ w' Rd', (isLoad (.call ⟨callee, args, ts⟩) = true → Fr w Rd w' Rd') → (execOp a.eval ⟨dst, .call ⟨callee, args, ts⟩, ty, pos, af, g⟩).run P w' = .ok (.value u) w') ∧
          ∃ s', (opS tt tab nid ⟨dst, .call ⟨callee, args, ts⟩, ty, pos, af, g⟩ s).2 s' ∧ Good X s' (a.put dst u) w β cp Rd := by
      rintro b sem r rfl he hr ⟨u, h1, s', h2, h3⟩
      refine ⟨u, fun w' Rd' hf => ?_, s', hr ▸ h2, h3⟩
      unfold execOp
      simp only [resolve, Sem.run_bind, Sem.run_pure, Result.andThen_ok, invoke]
      rw [he]
      simp only [Sem.run_bind, h1 w' Rd' hf, Result.andThen_ok, Sem.run_pure]
    cases callee with
    | builtin b =>
      cases b with
      | len =>
        obtain ⟨args⟩ := args
        obtain ⟨ts⟩ := ts
        match args, ts, hp with
        | [x], [t], hp =>
          obtain ⟨u, h1, h2⟩ := len_ok (ty := ty) htt h hd (h.ev x) hp
          exact bi .len _ _ rfl (fun _ => rfl) rfl ⟨u, fun w' Rd' hf => by simpa using h1 w' Rd' (hf rfl), h2⟩
        | [], _, hp => exact hp.elim
        | _ :: _ :: _, _, hp => exact hp.elim
        | [_], [], hp => exact hp.elim
        | [_], _ :: _ :: _, hp => exact hp.elim
      | min =>
        obtain ⟨args⟩ := args
        obtain ⟨u, h1, h2⟩ := min_ok (P := P) (ts := ts) (ty := ty) false h hd (l := args) hp
        exact bi .min _ _ rfl (fun _ => by simp [builtin]) rfl ⟨u, fun w' _ _ => h1 w', h2⟩
      | max =>
        obtain ⟨args⟩ := args
        obtain ⟨u, h1, h2⟩ := min_ok (P := P) (ts := ts) (ty := ty) true h hd (l := args) hp
        exact bi .max _ _ rfl (fun _ => by simp [builtin]) rfl ⟨u, fun w' _ _ => h1 w', h2⟩
      | _ => cases hpure
    | _ => cases hpure
  | _ => cases hpure

theorem opS_sound (htt : TTok P tt) (htab : TabOK P X.rt tab) (h : Good X s a w β cp Rd) {o : Oper} {nid : Nat} (hd : dstOK s.nt o.dst) (hf : ∀ j, j < 8 → ¬ s.keyed (nid + j)) (hnx : nid + 8 ≤ s.nx)
    (hp : (opS tt tab nid o s).1) {K : Act → World → Prop} {Q : Exit → Act → World → Prop} (hK : ∀ s' a' w', (opS tt tab nid o s).2 s' → RelC (calmOp tab o.op) w Rd X s' a' w' → K a' w') : o.wp P a w K Q := by
  by_cases hpure : pureOp o.op = true
  · obtain ⟨u, h1, s', h2, h3⟩ := opP_sound (tab := tab) (nid := nid) htt h hd hpure hp
    unfold Oper.wp
    rw [h1 w Rd (fun _ => Fr.refl w Rd)]
    exact hK s' _ _ h2 ⟨β, cp, Rd, h3, fun _ => Fr.refl w Rd⟩
  have hf0 : ¬ s.keyed nid := hf 0 (by omega)
  have hn0 : nid < s.nx := by omega
  have val : ∀ (sem : Sem Value) (r : Res), (execOp a.eval o = do pure (Next.value (← sem))) → (opS tt tab nid o s = r) → (∃ u w', sem.run P w = .ok u w' ∧ ∃ s', r.2 s' ∧ RelF w Rd X s' (a.put o.dst u) w') → o.wp P a w K Q := by
    intro sem r he hr ⟨u, w', h1, s', h2, h3⟩
    unfold Oper.wp
    rw [he]
    simp only [Sem.run_bind, h1, Result.andThen_ok, Sem.run_pure, Oper.upon]
    exact hK s' _ _ (hr ▸ h2) h3.c
  obtain ⟨dst, op, ty, pos, af, g⟩ := o
  cases op with
  | assign x =>
    obtain ⟨s', h1, h2⟩ := assign_ok (tt := tt) (nid := nid) h hd hf0 hn0 (h.ev x) hp
    unfold Oper.wp
    exact hK s' _ _ h1 h2.c
  | alloc t => exact val _ _ rfl rfl (alloc_ok htt h hd hf0 hn0 hp)
  | box t x => exact val _ _ rfl rfl (box_ok (P := P) h hd hf0 hn0 (h.ev x) hp)
  | buildSlice t n parts => exact val _ _ rfl rfl (buildSlice_ok htt h hd hf0 hn0 hp)
  | makeMap t r =>
    cases r with
    | none => exact val (Instr.makeMap t none) _ (by simp [execOp]) rfl (makeMap_ok (P := P) h hd hf0 hn0 hp)
    | some r => exact hp.elim
  | mapUpdate t m k x =>
    cases dst with
    | some d => exact hp.elim
    | none =>
      obtain ⟨w', h1, s', h2, β', cp', Rd', h3⟩ := mapUpd_ok htt h (h.ev m) (h.ev k) (h.ev x) hp
      unfold Oper.wp execOp
      simp only [Sem.run_bind, h1, Result.andThen_ok, Sem.run_pure, Oper.upon]
      exact hK s' _ _ h2 ⟨β', cp', Rd', h3, fun h => by cases h⟩
  | makeSlice t x y => exact val _ _ rfl rfl (makeSlice_ok htt h hd hf0 hn0 (h.ev x) (h.ev y) hp)
  | store t x y =>
    obtain ⟨w', h1, s', h2, β', cp', Rd', h3⟩ := store_ok htt h hd (h.ev x) (h.ev y) hp
    unfold Oper.wp execOp
    simp only [Sem.run_bind, h1, Result.andThen_ok, Sem.run_pure, Oper.upon]
    exact hK s' _ _ h2 ⟨β', cp', Rd', h3, fun h => by cases h⟩
  | call c =>
    obtain ⟨callee, args, ts⟩ := c
    cases callee with
    | builtin b =>
      cases b with
      | append =>
        obtain ⟨args⟩ := args
        obtain ⟨ts⟩ := ts
        match args, ts, hp with
        | [x, y], [t, t'], hp =>
          obtain ⟨u, w', h1, s', h2, β', cp', Rd', h3, _⟩ := append_ok (ty := ty) htt h hd hf0 hn0 (h.ev x) (h.ev y) hp
          unfold Oper.wp execOp
          simp only [resolve, Sem.run_bind, Sem.run_pure, Result.andThen_ok, invoke, builtin]
          have h1' : (Builtin.append_ ⟨[t, t']⟩ ty (Array.map a.eval ⟨[x, y]⟩)).run P w = .ok u w' := by simpa using h1
          rw [h1']
          exact hK s' _ _ h2 ⟨β', cp', Rd', h3, fun h => by cases h⟩
        | [], _, hp => exact hp.elim
        | [_], _, hp => exact hp.elim
        | _ :: _ :: _ :: _, _, hp => exact hp.elim
        | [_, _], [], hp => exact hp.elim
        | [_, _], [_], hp => exact hp.elim
        | [_, _], _ :: _ :: _ :: _, hp => exact hp.elim
      | copy =>
        obtain ⟨args⟩ := args
        obtain ⟨ts⟩ := ts
        match args, ts, hp with
        | [x, y], [t, t'], hp =>
          obtain ⟨u, w', h1, s', h2, β', cp', Rd', h3⟩ := copy_ok (t2 := t') (ty := ty) htt h hd (h.ev x) (h.ev y) hp
          unfold Oper.wp execOp
          simp only [resolve, Sem.run_bind, Sem.run_pure, Result.andThen_ok, invoke, builtin]
          have h1' : (Builtin.copy_ ⟨[t, t']⟩ ty (Array.map a.eval ⟨[x, y]⟩)).run P w = .ok u w' := by simpa using h1
          rw [h1']
          exact hK s' _ _ h2 ⟨β', cp', Rd', h3, fun h => by cases h⟩
        | [], _, hp => exact hp.elim
        | [_], _, hp => exact hp.elim
        | _ :: _ :: _ :: _, _, hp => exact hp.elim
        | [_, _], [], hp => exact hp.elim
        | [_, _], [_], hp => exact hp.elim
        | [_, _], _ :: _ :: _ :: _, hp => exact hp.elim
      | len => exact absurd rfl hpure
      | min => exact absurd rfl hpure
      | max => exact absurd rfl hpure
      | _ => exact hp.elim
    | value f =>
      cases f with
      | func f =>
        obtain ⟨args⟩ := args
        have hp' : (callS tab nid f (args.map s.ev) s dst).1 := hp
        obtain ⟨hrow, hcall⟩ := call_ok (vs := (⟨args⟩ : Array Operand).map a.eval) htab h hd hf hnx (by simp) (fun j x hj => by
          simp only [List.getElem?_map, Option.map_eq_some_iff] at hj
          obtain ⟨o, ho, rfl⟩ := hj
          have e : ((⟨args⟩ : Array Operand).map a.eval).getD j undef = a.eval o := by simp [Array.getD_eq_getD_getElem?, ho]
          rw [e]
          exact h.ev o) hp'
        unfold Oper.wp
        rw [run_call_func hrow ⟨dst, .call ⟨.value (.func f), ⟨args⟩, ts⟩, ty, pos, af, g⟩ ⟨args⟩ ts rfl]
        simp only [Oper.upon]
        refine hcall.mono ?_
        rintro e w' ⟨v, s', rfl, h2, β2, cp2, Rd2, h3, h4⟩
        refine hK s' _ _ h2 ⟨β2, cp2, Rd2, h3, fun hc => h4 fun sp hsp => ?_⟩
        simp only [calmOp, hsp, List.isEmpty_iff] at hc
        exact hc
      | tmp t =>
        obtain ⟨args⟩ := args
        have hp' : (callV tab nid (s.get t) (args.map s.ev) s dst).1 := hp
        have hv := h.env t
        have hst : ∀ s', (callV tab nid (s.get t) (args.map s.ev) s dst).2 s' → (opS tt tab nid ⟨dst, .call ⟨.value (.tmp t), ⟨args⟩, ts⟩, ty, pos, af, g⟩ s).2 s' := fun s' h => h
        unfold callV at hp' hst
        split at hp'
        · rename_i f caps he
          rw [he] at hv
          simp only [he] at hst
          obtain ⟨sp0, hsp0, hmt0⟩ : ∃ sp0, tab f = some sp0 ∧ sp0.mt = [] := by
            cases hT : tab f with
            | none => simp only [hT] at hp'; exact hp'.elim
            | some sp0 => cases hM : sp0.mt with
              | nil => exact ⟨sp0, rfl, hM⟩
              | cons _ _ => simp only [hT, hM] at hp'; exact hp'.elim
          simp only [hsp0, hmt0] at hp' hst
          obtain ⟨arr, hav, has, har⟩ := hv
          obtain ⟨hrow, hcall⟩ := call_ok (vs := (⟨args⟩ : Array Operand).map a.eval ++ arr) htab h hd hf hnx (by simp [has]) (fun j x hj => by
            rw [List.getElem?_append] at hj
            split at hj
            · rename_i hlt
              simp only [List.getElem?_map, Option.map_eq_some_iff] at hj
              obtain ⟨o, ho, rfl⟩ := hj
              simp only [List.length_map] at hlt
              have e : ((⟨args⟩ : Array Operand).map a.eval ++ arr).getD j undef = a.eval o := by
                rw [Array.getD_eq_getD_getElem?, Array.getElem?_append_left (by simpa using hlt)]
                simp [ho]
              rw [e]
              exact h.ev o
            · rename_i hge
              simp only [List.length_map, Nat.not_lt] at hge hj
              simp only [List.getElem?_map, Option.map_eq_some_iff] at hj
              obtain ⟨c, hc, rfl⟩ := hj
              have e : ((⟨args⟩ : Array Operand).map a.eval ++ arr).getD j undef = arr.getD (j - args.length) undef := by
                rw [Array.getD_eq_getD_getElem?, Array.getElem?_append_right (by simpa using hge)]
                simp [Array.getD_eq_getD_getElem?]
              rw [e]
              exact (har _ c hc).mc) hp'
          unfold Oper.wp
          rw [run_call_val hrow ⟨dst, .call ⟨.value (.tmp t), ⟨args⟩, ts⟩, ty, pos, af, g⟩ t ⟨args⟩ ts rfl hav]
          simp only [Oper.upon]
          refine hcall.mono ?_
          rintro e w' ⟨v, s', rfl, h2, β2, cp2, Rd2, h3, h4⟩
          exact hK s' _ _ (hst s' h2) ⟨β2, cp2, Rd2, h3, fun _ => h4 fun sp hsp => by rw [hsp0] at hsp; cases hsp; exact hmt0⟩
        · exact hp'.elim
      | _ => exact hp.elim
    | invoke r m => exact hp.elim
  | move x => exact absurd rfl hpure
  | pick c x y => exact absurd rfl hpure
  | build t p => exact absurd rfl hpure
  | load t x => exact absurd rfl hpure
  | nilCheck x => exact absurd rfl hpure
  | binOp op t x y t' => exact absurd rfl hpure
  | unOp op t x => exact absurd rfl hpure
  | convert t t' x => exact absurd rfl hpure
  | fieldAddr t x f => exact absurd rfl hpure
  | field t x f => exact absurd rfl hpure
  | indexAddr t x i => exact absurd rfl hpure
  | index t x i => exact absurd rfl hpure
  | extract x j => exact absurd rfl hpure
  | slice t x lo hi mx => exact absurd rfl hpure
  | makeFunc f x y => exact absurd rfl hpure
  | _ => exact hp.elim

/-- An append: the type of the row's elements. -/
def apTy (tt : Nat → Option TI) (o : Op) : Option Nat :=
  match o with
  | .call c => match c.callee with
    | .builtin .append => match c.argTypes.toList with
      | t :: _ => match tt t with
        | some ti => match ti.kind with
          | .slice e => some e
          | _ => none
        | none => none
      | [] => none
    | _ => none
  | _ => none
def calmT (tt : Nat → Option TI) (tab : Nat → Option Spec) (Es : List Nat) (o : Op) : Bool := calmOp tab o || match apTy tt o with
  | some e => Es.contains e
  | none => false
def RelD (tt : Nat → Option TI) (tab : Nat → Option Spec) (op : Op) (w0 : World) (Rd0 : Nat → Prop) (X : Cx) (s : St) (a : Act) (w : World) : Prop :=
  ∃ β cp Rd, Good X s a w β cp Rd ∧ ∀ Es : List Nat, calmT tt tab Es op = true → FrT (fun x => Es.contains x) w0 Rd0 w Rd
theorem calmT_nil {o : Op} (h : calmOp tab o = true) (Es : List Nat) : calmT tt tab Es o = true := by unfold calmT; rw [h]; rfl
theorem opS_soundD (htt : TTok P tt) (htab : TabOK P X.rt tab) (h : Good X s a w β cp Rd) {o : Oper} {nid : Nat} (hd : dstOK s.nt o.dst) (hf : ∀ j, j < 8 → ¬ s.keyed (nid + j)) (hnx : nid + 8 ≤ s.nx)
    (hp : (opS tt tab nid o s).1) {K : Act → World → Prop} {Q : Exit → Act → World → Prop} (hK : ∀ s' a' w', (opS tt tab nid o s).2 s' → RelD tt tab o.op w Rd X s' a' w' → K a' w') : o.wp P a w K Q := by
  by_cases hap : apTy tt o.op = none
  · refine opS_sound htt htab h hd hf hnx hp fun s' a' w' h1 ⟨β', cp', Rd', h2, h3⟩ => hK s' a' w' h1 ⟨β', cp', Rd', h2, fun Es hE => ?_⟩
    unfold calmT at hE
    rw [hap] at hE
    simp only [Bool.or_false] at hE
    exact (h3 hE).toT
  have hf0 : ¬ s.keyed nid := hf 0 (by omega)
  have hn0 : nid < s.nx := by omega
  obtain ⟨dst, op, ty, pos, af, g⟩ := o
  cases op with
  | call c =>
    obtain ⟨callee, args, ts⟩ := c
    cases callee with
    | builtin b =>
      cases b with
      | append =>
        obtain ⟨args⟩ := args
        obtain ⟨ts⟩ := ts
        match args, ts, hp with
        | [x, y], [t, t'], hp =>
          obtain ⟨u, w', h1, s', h2, β', cp', Rd', h3, h4⟩ := append_ok (ty := ty) htt h hd hf0 hn0 (h.ev x) (h.ev y) hp
          unfold Oper.wp execOp
          simp only [resolve, Sem.run_bind, Sem.run_pure, Result.andThen_ok, invoke, builtin]
          have h1' : (Builtin.append_ ⟨[t, t']⟩ ty (Array.map a.eval ⟨[x, y]⟩)).run P w = .ok u w' := by simpa using h1
          rw [h1']
          refine hK s' _ _ h2 ⟨β', cp', Rd', h3, fun Es hE => ?_⟩
          simp only [calmT, calmOp, Bool.false_or, apTy] at hE
          cases hti : tt t with
          | none => rw [hti] at hE; cases hE
          | some ti =>
            rw [hti] at hE
            simp only at hE
            cases hk : ti.kind with
            | slice e =>
              rw [hk] at hE
              simp only at hE
              exact (h4 ti e hti hk).mono fun t ht => by
                have := eq_of_beq ht
                subst this; exact hE
            | _ => rw [hk] at hE; cases hE
        | [], _, hp => exact hp.elim
        | [_], _, hp => exact hp.elim
        | _ :: _ :: _ :: _, _, hp => exact hp.elim
        | [_, _], [], hp => exact hp.elim
        | [_, _], [_], hp => exact hp.elim
        | [_, _], _ :: _ :: _ :: _, hp => exact hp.elim
      | _ => exact absurd rfl hap
    | _ => exact absurd rfl hap
  | _ => exact absurd rfl hap

/-- What is loaded stands in a variable of none of these types. -/
def clearO (Es : List Nat) (o : Oper) (s : St) : Prop :=
  match o.op with
  | .load _ x => match s.ev x with
    | .c (.ptr b _ _ _) => match s.box b with
      | some bx => Es.contains bx.ty = false
      | none => False
    | _ => False
  | _ => False
theorem load_okT (ht : TTok P tt) (h : Good X s a w β cp Rd) {d : Option Nat} (hd : dstOK s.nt d) {t : Nat} {v : Value} {b n i off : Nat} (hx : MA w (X.mt s β Rd) Rd (hOf s β cp) v (.c (.ptr b n i off))) {Es : List Nat} {bx : Box} (hbx : s.box b = some bx) (hE : Es.contains bx.ty = false)
    (hp : (loadS tt t (.c (.ptr b n i off)) s d).1) : ∃ u, (∀ w' Rd', FrT (fun x => Es.contains x) w Rd w' Rd' → (Instr.loadAt t v).run P w' = .ok u w') ∧ ∃ s', (loadS tt t (.c (.ptr b n i off)) s d).2 s' ∧ Good X s' (a.put d u) w β cp Rd := by
  unfold loadS at hp ⊢
  cases hti : tt t with
  | none => rw [hti] at hp; exact hp.elim
  | some ti =>
    rw [hti] at hp
    have hT := ht t ti hti
    simp only [hbx] at hp ⊢
    simp only [Res.mkE] at hp ⊢
    obtain ⟨hn, hi, ho⟩ := hp
    obtain ⟨g, hg, rfl⟩ := hx.2.at rfl hbx hn
    rcases (h.boxes b bx hbx).two (.inr (ne_of_lt (show i < bx.es.length by omega))) with ⟨hnone, _⟩ | ⟨g', cur, h1, h2, h4, h5, h6, h7, h9, h8⟩
    · rw [hnone] at hg; cases hg
    rw [h1] at hg; cases hg
    have hil : i < bx.es.length := by omega
    obtain ⟨e, he⟩ : ∃ e, bx.es[i]? = some e := ⟨_, List.getElem?_eq_getElem hil⟩
    have hel := h7 e (List.mem_of_getElem? he)
    have hspan : i * bx.k + bx.k ≤ cur.size := by
      rw [h4, ← Nat.succ_mul]
      exact Nat.mul_le_mul_right _ (by omega)
    have hcell : ∀ w' Rd', FrT (fun x => Es.contains x) w Rd w' Rd' → ∀ j, j < ti.sz → w'.cell? ⟨g, i * bx.k + off + j, none⟩ = some (cur.getD (i * bx.k + (off + j)) undef) := by
      intro w' Rd' hfr j hj
      have h2' := (hfr.block g (Array.getElem?_eq_some_iff.1 h2).1 (h.own_rd g ⟨b, bx, hbx, h1⟩) (fun t ht => by unfold tyAt at ht; rw [h2] at ht; cases ht; exact hE)).trans h2
      rw [cell_of_row w' g _ cur bx.ty (0, 0) h2']
      have : i * bx.k + off + j < cur.size := by omega
      simp [Nat.add_assoc] at this ⊢
      simp [this]
    refine ⟨_, ?_, _, ⟨e, he, rfl⟩, h.put hd (mk_ok hT (loaded bx.row ((e.drop off).take ti.sz)) (by rw [loaded_length]; simp; omega) (fun j => cur.getD (i * bx.k + (off + j)) undef) fun j c hj => ?_)⟩
    · intro w' Rd' hfr
      simp only [Instr.loadAt, Instr.sureAddr, Sem.run_bind, Sem.run_pure, Result.andThen_ok]
      exact loadVar_ok hT ⟨g, i * bx.k + off, none⟩ rfl _ (hcell w' Rd' hfr)
    · obtain ⟨c0, hj, hcc⟩ := loaded_get hj
      rw [List.getElem?_take] at hj
      split at hj
      · rw [List.getElem?_drop] at hj
        have := h8 i (off + j) e c0 he hj
        rcases hcc with rfl | rfl
        · exact this
        · exact this.strip
      · cases hj
theorem opP_soundT (htt : TTok P tt) (h : Good X s a w β cp Rd) {o : Oper} {nid : Nat} (hd : dstOK s.nt o.dst) {Es : List Nat} (hc : clearO Es o s) (hp : (opS tt tab nid o s).1) :
    ∃ u, (∀ w' Rd', FrT (fun x => Es.contains x) w Rd w' Rd' → (execOp a.eval o).run P w' = .ok (.value u) w') ∧ ∃ s', (opS tt tab nid o s).2 s' ∧ Good X s' (a.put o.dst u) w β cp Rd := by
  obtain ⟨dst, op, ty, pos, af, g⟩ := o
  cases op with
  | load t x =>
    have hv := h.ev x
    have hp' : (loadS tt t (s.ev x) s dst).1 := hp
    have hst : ∀ s', (loadS tt t (s.ev x) s dst).2 s' → (opS tt tab nid ⟨dst, .load t x, ty, pos, af, g⟩ s).2 s' := fun s' h => h
    unfold clearO at hc
    simp only at hc
    split at hc
    · rename_i b n i off he
      split at hc
      · rename_i bx hbx
        rw [he] at hv hp' hst
        obtain ⟨u, h1, s', h2, h3⟩ := load_okT htt h hd hv hbx hc hp'
        refine ⟨u, fun w' Rd' hf => ?_, s', hst s' h2, h3⟩
        unfold execOp
        simp only [Sem.run_bind, h1 w' Rd' hf, Result.andThen_ok, Sem.run_pure]
      · exact hc.elim
    · exact hc.elim
  | _ => exact hc.elim
end
end Go.VE
end
section
namespace Go.VE
open Go

/-- Whatever fits the one state fits the other. -/
def Ent (s s' : St) : Prop := ∀ X a w, Rel X s a w → Rel X s' a w

section
variable {P : Program} {tt : Nat → Option TI} {tab : Nat → Option Spec} {X : Cx}

theorem put_same {a : Act} {g : Nat} {v : Value} (h : a.tmps[g]? = some v) : a.put (some g) v = a := by
  have he := (Array.getElem?_eq_some_iff.1 h).2
  have : a.tmps.setIfInBounds g v = a.tmps := Array.ext (by simp) fun i h1 h2 => by
    rw [Array.getElem_setIfInBounds h2]
    by_cases e : g = i
    · subst e; simp [he]
    · simp [e]
  show { a with tmps := a.tmps.setIfInBounds g v } = a
  rw [this]

theorem guard_good {ops : Array Oper} {o : Oper} {s : St} {a : Act} {w : World} {β : Nat → Option Nat} {cp : Nat → Nat} {Rd : Nat → Prop} (G : Good X s a w β cp Rd) {yes no : St → Prop} (hg : guardW ops o s yes no) :
    (Region.wanted o (yielded ops a.tmps) = true ∧ ∃ s', Good X s' a w β cp Rd ∧ yes s') ∨ (Region.wanted o (yielded ops a.tmps) = false ∧ ∃ s', Good X s' a w β cp Rd ∧ no s') := by
  unfold guardW at hg
  unfold Region.wanted
  cases hgd : o.guard with
  | none => rw [hgd] at hg; exact .inl ⟨rfl, s, G, hg⟩
  | some jw =>
    obtain ⟨j, want⟩ := jw
    rw [hgd] at hg
    simp only at hg ⊢
    unfold guardB at hg
    rw [nthL_eq, Array.getElem?_toList] at hg
    unfold yielded
    cases hd : (ops[j]?).bind (·.dst) with
    | none =>
      rw [hd] at hg
      refine .inr ⟨?_, s, G, hg⟩
      simp
    | some g =>
      rw [hd] at hg
      simp only [Option.bind_some] at hg ⊢
      split at hg
      · rename_i t he
        have hv := G.env g
        rw [he] at hv
        have hv2 : a.tmps.getD g undef = .bool t := by
          generalize a.tmps.getD g undef = v at hv
          cases hv; rfl
        have hv3 : a.tmps[g]? = some (.bool t) := by
          rw [Array.getD_eq_getD_getElem?] at hv2
          cases hq : a.tmps[g]? with
          | none => rw [hq] at hv2; simp [undef] at hv2
          | some x => rw [hq] at hv2; simpa using hv2
        have hgl : g < s.nt := by rw [← G.size]; exact (Array.getElem?_eq_some_iff.1 hv3).1
        rw [hv3]
        have G' : Good X (s.put (some g) (.c (.v (.bool t)))) a w β cp Rd := by
          have := G.put (d := some g) (v := .bool t) (x := .c (.v (.bool t))) hgl (RC.v _ rfl)
          rw [put_same hv3] at this
          exact this
        cases want <;> cases t <;> simp only [ifP_true, ifP_false] at hg
        · exact .inl ⟨by simp, _, G', hg⟩
        · exact .inr ⟨by simp, _, G', hg⟩
        · exact .inr ⟨by simp, _, G', hg⟩
        · exact .inl ⟨by simp, _, G', hg⟩
      · rename_i he
        have hv := G.env g
        rw [he] at hv
        have hv2 : a.tmps.getD g undef = undef := hv
        refine .inr ⟨?_, s, G, hg⟩
        cases hq : a.tmps[g]? with
        | none => rfl
        | some x =>
          have : x = undef := by rw [Array.getD_eq_getD_getElem?, hq] at hv2; simpa using hv2
          subst this
          rfl
      · exact hg.elim

theorem guard_sound {ops : Array Oper} {o : Oper} {s : St} {a : Act} {w : World} (h : Rel X s a w) {yes no : St → Prop} (hg : guardW ops o s yes no) :
    (Region.wanted o (yielded ops a.tmps) = true ∧ ∃ s', Rel X s' a w ∧ yes s') ∨ (Region.wanted o (yielded ops a.tmps) = false ∧ ∃ s', Rel X s' a w ∧ no s') := by
  obtain ⟨β, cp, Rd, G⟩ := h
  rcases guard_good G hg with ⟨h1, s', h2, h3⟩ | ⟨h1, s', h2, h3⟩
  · exact .inl ⟨h1, s', ⟨β, cp, Rd, h2⟩, h3⟩
  · exact .inr ⟨h1, s', ⟨β, cp, Rd, h2⟩, h3⟩

theorem opW_sound (htt : TTok P tt) (htab : TabOK P X.rt tab) {o : Oper} {s : St} {a : Act} {w : World} (h : Rel X s a w) {K' : St → Prop} (hp : opW tt tab o s K') {K : Act → World → Prop} {Q : Exit → Act → World → Prop}
    (hK : ∀ s' a' w', K' s' → Rel X s' a' w' → K a' w') : o.wp P a w K Q := by
  obtain ⟨β, cp, Rd, G⟩ := h
  obtain ⟨hd, h1, h2⟩ := hp
  exact opS_sound (nid := s.nx) htt htab (G.bump 8) hd (fun j _ hk => by have := G.fresh _ hk; omega) (Nat.le_refl _) h1 fun s' a' w' h3 h4 => hK s' a' w' (h2 s' h3) h4.rel

theorem opsW_sound (htt : TTok P tt) (htab : TabOK P X.rt tab) {ops : Array Oper} {Q : Exit → Act → World → Prop} : ∀ (l : List Oper) (s : St) (a : Act) (w : World) (K : St → Prop), Rel X s a w → opsW tt tab ops l s K →
    (∀ s' a' w', K s' → Rel X s' a' w' → Q .normal a' w') → wpList P ops Q l a w
  | [], s, a, w, K, h, hp, hK => hK s a w hp h
  | o :: r, s, a, w, K, h, hp, hK => by
    unfold wpList
    rcases guard_sound h hp with ⟨hw, s1, h1, h2⟩ | ⟨hw, s1, h1, h2⟩
    · rw [if_pos hw]
      exact .inl (opW_sound htt htab h1 h2 fun s' a' w' h3 h4 => opsW_sound htt htab r s' a' w' K h4 h3 hK)
    · rw [if_neg (by rw [hw]; simp)]
      obtain ⟨β, cp, Rd, G⟩ := h1
      exact opsW_sound htt htab r _ _ w K ⟨β, cp, Rd, G.put (x := .c .und) h2.1 rfl⟩ h2.2 hK

structure QR (X : Cx) (Q' : Ex → St → Prop) (Q : Exit → Act → World → Prop) : Prop where
  normal : ∀ s a w, Q' .normal s → Rel X s a w → Q .normal a w
  exit : ∀ i s a w, Q' (.exit i) s → Rel X s a w → Q (.exit i) a w
  ret : ∀ s a w, Q' .ret s → Rel X s a w → Q .ret a w

def DrawOK (P : Program) (X : Cx) (dw : Nat → Array Oper → St → (St → Prop) → Prop) (id : Nat) (ops : Array Oper) : Prop :=
  ∀ s K Q a w, dw id ops s K → Rel X s a w → (∀ s' a' w', K s' → Rel X s' a' w' → Q .normal a' w') → (Code.region id ops true).wp P Q a w
/-- Of all regions that draw. -/
def allD (p : Nat → Array Oper → Prop) : Code → Prop
  | .region id ops true => p id ops
  | .seq a b => allD p a ∧ allD p b
  | .cond _ a b => allD p a ∧ allD p b
  | .block _ c => allD p c
  | .loop c => allD p c
  | _ => True
def allDB (p : Nat → Array Oper → Bool) : Code → Bool
  | .region id ops true => p id ops
  | .seq a b => allDB p a && allDB p b
  | .cond _ a b => allDB p a && allDB p b
  | .block _ c => allDB p c
  | .loop c => allDB p c
  | _ => true
theorem allDB_ok {p : Nat → Array Oper → Bool} {q : Nat → Array Oper → Prop} (h : ∀ id ops, p id ops = true → q id ops) : ∀ c, allDB p c = true → allD q c := by
  intro c
  induction c with
  | region id ops d => cases d <;> intro hc <;> first | trivial | exact h id ops hc
  | seq a b iha ihb => intro hc; simp only [allDB, Bool.and_eq_true] at hc; exact ⟨iha hc.1, ihb hc.2⟩
  | cond x a b iha ihb => intro hc; simp only [allDB, Bool.and_eq_true] at hc; exact ⟨iha hc.1, ihb hc.2⟩
  | block i c ih => intro hc; exact ih hc
  | loop c ih => intro hc; exact ih hc
  | _ => intro _; trivial

theorem runW_sound (htt : TTok P tt) (htab : TabOK P X.rt tab) {dw : Nat → Array Oper → St → (St → Prop) → Prop} : ∀ (c : Code), allD (DrawOK P X dw) c → ∀ (s : St) (a : Act) (w : World) (Q' : Ex → St → Prop) (Q : Exit → Act → World → Prop),
    Rel X s a w → runW tt tab Ent dw c s Q' → QR X Q' Q → c.wp P Q a w := by
  intro c
  induction c with
  | skip => intro _ s a w Q' Q h hp hq; exact wp_skip (hq.normal s a w hp h)
  | region id ops draw =>
    intro hdw s a w Q' Q h hp hq
    cases draw with
    | false => exact wp_region_list (opsW_sound htt htab _ s a w _ h hp hq.normal)
    | true => exact hdw s _ Q a w hp h hq.normal
  | seq x y ihx ihy =>
    intro hdw s a w Q' Q h hp hq
    exact wp_seq (ihx hdw.1 s a w _ _ h hp ⟨fun s' a' w' h1 h2 => ihy hdw.2 s' a' w' Q' Q h2 h1 hq, fun i s' a' w' h1 h2 => hq.exit i s' a' w' h1 h2, fun s' a' w' h1 h2 => hq.ret s' a' w' h1 h2⟩)
  | cond c x y ihx ihy =>
    intro hdw s a w Q' Q h hp hq
    have hp' : condW (s.ev c) (runW tt tab Ent dw x s Q') (runW tt tab Ent dw y s Q') := hp
    unfold condW at hp'
    obtain ⟨β, cp, Rd, G⟩ := h
    have hv := G.ev c
    split at hp'
    · rename_i t he
      rw [he] at hv
      have hv2 : a.eval c = .bool t := by
        generalize a.eval c = v at hv
        cases hv; rfl
      exact wp_cond_split hv2 (fun ht => ihx hdw.1 s a w Q' Q ⟨β, cp, Rd, G⟩ (hp'.1 ht) hq) (fun ht => ihy hdw.2 s a w Q' Q ⟨β, cp, Rd, G⟩ (hp'.2 ht) hq)
    · exact hp'.elim
  | block id c ih =>
    intro hdw s a w Q' Q h hp hq
    refine wp_block (ih hdw s a w _ _ h hp ⟨fun s' a' w' h1 h2 => hq.normal s' a' w' h1 h2, fun i s' a' w' h1 h2 => ?_, fun s' a' w' h1 h2 => hq.ret s' a' w' h1 h2⟩)
    simp only [blockK] at h1
    simp only [Exit.inBlock]
    by_cases e : i = id
    · rw [decide_eq_true e] at h1
      rw [if_pos e]
      exact hq.normal s' a' w' h1 h2
    · rw [decide_eq_false e] at h1
      rw [if_neg e]
      exact hq.exit i s' a' w' h1 h2
  | loop c ih =>
    intro hdw s a w Q' Q h hp hq
    obtain ⟨α, F, Inv, m, x0, h0, he, hr⟩ := hp
    intro b k cs
    have key : ∀ n (x : α) (a : Act) (w : World), m x = n → Inv x → Rel X (F x) a w →
        ∃ e a' w', Q e a' w' ∧ Arrives P (lone (b.at a (.code c :: .inLoop c :: k)) cs w) b k cs e a' w' := by
      intro n
      induction n using Nat.strongRecOn with
      | _ n IH =>
        intro x a w hn hI hR
        have hb : c.wp P (Exit.then (fun a' w' => ∃ y, Inv y ∧ m y < m x ∧ Rel X (F y) a' w') Q) a w :=
          ih hdw (F x) a w _ _ hR (hr x hI) ⟨fun s' a' w' h1 h2 => by obtain ⟨y, g1, g2, g3⟩ := h1; exact ⟨y, g1, g2, g3 X a' w' h2⟩, fun i s' a' w' h1 h2 => hq.exit i s' a' w' h1 h2, fun s' a' w' h1 h2 => hq.ret s' a' w' h1 h2⟩
        obtain ⟨e, a₁, w₁, hq1, harr⟩ := hb b (.inLoop c :: k) cs
        cases e with
        | normal =>
          obtain ⟨y, g1, g2, g3⟩ := hq1
          obtain ⟨e₂, a₂, w₂, hq₂, harr₂⟩ := IH (m y) (hn ▸ g2) y a₁ w₁ rfl g1 g3
          exact ⟨e₂, a₂, w₂, hq₂, .of_steps (Steps.trans harr (.one step_inLoop)) harr₂⟩
        | exit id => exact ⟨_, a₁, w₁, hq1, .pass (x := .inLoop c) rfl (fun _ _ => .inl (by simp)) harr⟩
        | goto l => exact ⟨_, a₁, w₁, hq1, .pass (x := .inLoop c) rfl (fun _ _ => .inl (by simp)) harr⟩
        | ret => exact ⟨_, a₁, w₁, hq1, .pass (x := .inLoop c) rfl (fun _ _ => .inl (by simp)) harr⟩
        | panic ch => exact ⟨_, a₁, w₁, hq1, .pass (x := .inLoop c) rfl (fun _ _ => .inl (by simp)) harr⟩
        | outgrown => exact ⟨_, a₁, w₁, hq1, .pass (x := .inLoop c) rfl (fun _ _ => .inl (by simp)) harr⟩
    obtain ⟨e, a', w', hq', harr⟩ := key _ x0 a w rfl h0 (he X a w h)
    exact ⟨e, a', w', hq', .of_steps (.one step_loop) harr⟩
  | exit id => intro _ s a w Q' Q h hp hq; exact wp_exit (hq.exit id s a w hp h)
  | ret => intro _ s a w Q' Q h hp hq; exact wp_ret (hq.ret s a w hp h)
  | _ => intro _ s a w Q' Q h hp hq; exact hp.elim
end
end Go.VE
end
section
namespace Go.VE
open Go

inductive Plan where
  | nil
  | first (i : Nat) (p : Plan)
  | firstT (i : Nat) (Es : List Nat) (p : Plan)
  | alt (i : Nat) (p rest : Plan)
deriving Repr

def waitL (i : Nat) : List Oper → List Bool → List Bool
  | [], acc => acc
  | o :: r, acc => waitL i r (acc ++ [o.after.any fun e => Region.binds .any e && (e.on == i || acc.getD e.on false)])
def waits (ops : Array Oper) (i j : Nat) : Bool := (waitL i ops.toList []).getD j false

def firstOK (tt : Nat → Option TI) (tab : Nat → Option Spec) (Es : List Nat) (ops : Array Oper) (listed : Array Bool) (i : Nat) : Bool :=
  match ops[i]? with
  | none => false
  | some oi => (Region.ready .any ops listed).contains i && pureOp oi.op && ((waitL i ops.toList []).length == ops.size) && (List.range ops.size).all fun j =>
    match ops[j]? with
    | none => false
    | some oj => (!waits ops i j || (!listed.getD j false && oj.after.any fun e => Region.binds .any e && (e.on == i || waits ops i e.on))) &&
        (j == i || listed.getD j true || waits ops i j || (oi.apart ops oj && (!isLoad oi.op || calmT tt tab Es oj.op)))

def Plan.ids : Plan → List Nat
  | .nil => []
  | .first _ _ => []
  | .firstT _ _ _ => []
  | .alt i _ r => i :: r.ids

def planOK (tt : Nat → Option TI) (tab : Nat → Option Spec) (ops : Array Oper) : Plan → Bool → Nat → Array Bool → Bool
  | .nil, false, _, listed => (Region.ready .any ops listed).isEmpty
  | .nil, true, _, _ => true
  | .first i p, false, fuel + 1, listed => firstOK tt tab [] ops listed i && planOK tt tab ops p false fuel (listed.setIfInBounds i true)
  | .firstT i Es p, false, fuel + 1, listed => firstOK tt tab Es ops listed i && planOK tt tab ops p false fuel (listed.setIfInBounds i true)
  | .alt i p r, m, fuel + 1, listed => (m || (!(Region.ready .any ops listed).isEmpty && (Region.ready .any ops listed).all fun k => k == i || r.ids.contains k)) && planOK tt tab ops p false fuel (listed.setIfInBounds i true) && planOK tt tab ops r true (fuel + 1) listed
  | _, _, _, _ => false

def ldTy (o : Op) : Option Nat := match o with
  | .load t _ => some t
  | _ => none
def mkPlan (tt : Nat → Option TI) (tab : Nat → Option Spec) (ops : Array Oper) : Nat → Array Bool → Plan
  | 0, _ => .nil
  | f + 1, listed => match (Region.ready .any ops listed).find? (firstOK tt tab [] ops listed) with
    | some i => .first i (mkPlan tt tab ops f (listed.setIfInBounds i true))
    | none => match (Region.ready .any ops listed).find? (fun i => firstOK tt tab (ops.toList.filterMap fun o => apTy tt o.op) ops listed i && match (ops[i]?).bind fun o => ldTy o.op with
        | some t => !(ops.toList.filterMap fun o => apTy tt o.op).contains t
        | none => false) with
      | some i => .firstT i (ops.toList.filterMap fun o => apTy tt o.op) (mkPlan tt tab ops f (listed.setIfInBounds i true))
      | none => (Region.ready .any ops listed).foldr (fun i r => .alt i (mkPlan tt tab ops f (listed.setIfInBounds i true)) r) .nil

def planOK' (tt : Nat → Option TI) (tab : Nat → Option Spec) (ops : Array Oper) (p : Plan) : Bool := Region.noSelect ops && planOK tt tab ops p false ops.size (Array.replicate ops.size false)

section
variable (tt : Nat → Option TI) (tab : Nat → Option Spec)
def stepW (ops : Array Oper) (i : Nat) (s : St) (k : St → Prop) : Prop :=
  match nthL ops.toList i with
  | some o => guardW ops o s (fun s => opW tt tab o s k) (fun s => dstOK s.nt o.dst ∧ k (s.put o.dst (.c .und)))
  | none => False

def stepT (Es : List Nat) (ops : Array Oper) (i : Nat) (s : St) (k : St → Prop) : Prop :=
  match nthL ops.toList i with
  | some o => guardW ops o s (fun s => clearO Es o s ∧ opW tt tab o s k) (fun s => dstOK s.nt o.dst ∧ k (s.put o.dst (.c .und)))
  | none => False
def planW (ops : Array Oper) (K : St → Prop) : Plan → Bool → St → Prop
  | .nil, false, s => K s
  | .nil, true, _ => True
  | .first i p, _, s => stepW tt tab ops i s fun s => planW ops K p false s
  | .firstT i Es p, _, s => stepT tt tab Es ops i s fun s => planW ops K p false s
  | .alt i p r, _, s => (stepW tt tab ops i s fun s => planW ops K p false s) ∧ planW ops K r true s

def drawW (ops : Array Oper) (s : St) (K : St → Prop) : Prop := ∃ p, planOK' tt tab ops p = true ∧ planW tt tab ops K p false s
end

section
variable {P : Program} {tt : Nat → Option TI} {tab : Nat → Option Spec} {ops : Array Oper}

def QN (Q0 : Act → World → Prop) : Exit → Act → World → Prop
  | .normal, a, w => Q0 a w
  | _, _, _ => False

def opI (P : Program) (tt : Nat → Option TI) (tab : Nat → Option Spec) (ops : Array Oper) (Q : Exit → Act → World → Prop) (i : Nat) (K : Act → World → (Nat → Prop) → Prop) (a : Act) (w : World) (Rd : Nat → Prop) : Prop :=
  match ops[i]? with
  | none => K a w Rd
  | some o => if Region.wanted o (yielded ops a.tmps) then o.wp P a w (fun a' w' => ∃ Rd', (∀ Es : List Nat, calmT tt tab Es o.op = true → FrT (fun x => Es.contains x) w Rd w' Rd') ∧ K a' w' Rd') Q else K (a.put o.dst undef) w Rd

def wpI (P : Program) (tt : Nat → Option TI) (tab : Nat → Option Spec) (ops : Array Oper) (Q0 : Act → World → Prop) : Nat → Array Bool → Act → World → (Nat → Prop) → Prop
  | 0, listed, a, w, _ => Region.ready .any ops listed = [] ∧ Q0 a w
  | fuel + 1, listed, a, w, Rd => (Region.ready .any ops listed = [] → Q0 a w) ∧ ∀ i ∈ Region.ready .any ops listed, opI P tt tab ops (QN Q0) i (wpI P tt tab ops Q0 fuel (listed.setIfInBounds i true)) a w Rd

theorem opI_mono {Q : Exit → Act → World → Prop} {i : Nat} {K K' : Act → World → (Nat → Prop) → Prop} {a : Act} {w : World} {Rd : Nat → Prop} (h : ∀ a w Rd, K a w Rd → K' a w Rd) (hh : opI P tt tab ops Q i K a w Rd) : opI P tt tab ops Q i K' a w Rd := by
  unfold opI at *
  split
  · exact h _ _ _ (by simpa [*] using hh)
  · rename_i o ho
    simp only [ho] at hh
    split
    · rename_i hw
      simp only [hw, if_true] at hh
      exact Oper.wp_mono (fun a' w' ⟨Rd', h1, h2⟩ => ⟨Rd', h1, h _ _ _ h2⟩) hh
    · rename_i hw; simp only [hw] at hh; exact h _ _ _ hh

theorem wpAny_of_I {Q0 : Act → World → Prop} : ∀ (fuel : Nat) (listed : Array Bool) (a : Act) (w : World) (Rd : Nat → Prop), wpI P tt tab ops Q0 fuel listed a w Rd → wpAny P .any ops (QN Q0) fuel listed a w
  | 0, _, _, _, _, h => h
  | fuel + 1, listed, a, w, Rd, h => ⟨h.1, fun i hi => by
      have h2 := h.2 i hi
      unfold opI at h2
      unfold wpOp
      split
      · rename_i ho; simp only [ho] at h2; exact wpAny_of_I fuel _ _ _ _ h2
      · rename_i o ho
        simp only [ho] at h2
        split
        · rename_i hw
          simp only [hw, if_true] at h2
          exact .inl (Oper.wp_mono (fun a' w' ⟨Rd', _, h3⟩ => wpAny_of_I fuel _ _ _ _ h3) h2)
        · rename_i hw; simp only [hw] at h2; exact wpAny_of_I fuel _ _ _ _ h2⟩

def YieldsF (Es : List Nat) (P : Program) (ops : Array Oper) (o : Oper) (v : Value) (a : Act) (w : World) (Rd : Nat → Prop) : Prop :=
  (Region.wanted o (yielded ops a.tmps) = true ∧ ∀ w' Rd', (isLoad o.op = true → FrT (fun x => Es.contains x) w Rd w' Rd') → (execOp a.eval o).run P w' = .ok (.value v) w') ∨ (Region.wanted o (yielded ops a.tmps) = false ∧ v = undef)

theorem YieldsF.opI {Es : List Nat} {Q : Exit → Act → World → Prop} {i : Nat} {o : Oper} {v : Value} {a : Act} {w : World} {Rd : Nat → Prop} (hi : ops[i]? = some o) (hy : YieldsF Es P ops o v a w Rd) {K : Act → World → (Nat → Prop) → Prop} (h : K (a.put o.dst v) w Rd) : opI P tt tab ops Q i K a w Rd := by
  unfold VE.opI
  simp only [hi]
  rcases hy with ⟨hw, hv⟩ | ⟨hw, rfl⟩
  · simp only [hw, if_true, Oper.wp, hv w Rd (fun _ => FrT.refl w Rd), Oper.upon]; exact ⟨Rd, fun _ _ => FrT.refl w Rd, h⟩
  · simp only [hw, Bool.false_eq_true, if_false]; exact h

theorem YieldsF.of_same {Es : List Nat} {o : Oper} {v : Value} {a a' : Act} {w w' : World} {Rd Rd' : Nat → Prop} (hy : YieldsF Es P ops o v a w Rd) (he : execOp a'.eval o = execOp a.eval o)
    (hw : Region.wanted o (yielded ops a'.tmps) = Region.wanted o (yielded ops a.tmps)) (hf : isLoad o.op = true → FrT (fun x => Es.contains x) w Rd w' Rd') : YieldsF Es P ops o v a' w' Rd' := by
  rcases hy with ⟨h1, h2⟩ | ⟨h1, h2⟩
  · exact .inl ⟨hw.trans h1, fun w2 Rd2 h3 => by rw [he]; exact h2 w2 Rd2 fun hl => (hf hl).trans (h3 hl)⟩
  · exact .inr ⟨hw.trans h1, h2⟩

theorem opI_put {Es : List Nat} {Q0 : Act → World → Prop} {j : Nat} {oi oj : Oper} {v : Value} (hj : ops[j]? = some oj) (hap : oi.apart ops oj = true) (hcalm : isLoad oi.op = true → calmT tt tab Es oj.op = true)
    (hsi : ∀ cs b, oi.op ≠ .select cs b) (hsj : ∀ cs b, oj.op ≠ .select cs b) {K : Act → World → (Nat → Prop) → Prop} {a : Act} {w : World} {Rd : Nat → Prop}
    (hy : YieldsF Es P ops oi v a w Rd) (h : opI P tt tab ops (QN Q0) j K (a.put oi.dst v) w Rd) :
    opI P tt tab ops (QN Q0) j (fun a' w' Rd' => YieldsF Es P ops oi v a' w' Rd' ∧ K (a'.put oi.dst v) w' Rd') a w Rd := by
  obtain ⟨h1, h2, h3⟩ := Oper.apart_spec hap
  have keep : ∀ (w' : World) (Rd' : Nat → Prop), (isLoad oi.op = true → FrT (fun x => Es.contains x) w Rd w' Rd') → ∀ u, YieldsF Es P ops oi v (a.put oj.dst u) w' Rd' := fun w' Rd' hf u =>
    hy.of_same (execOp_put oi hsi a oj.dst u h3) (wanted_put oi a oj.dst u h3) hf
  have keepD : ∀ (w' : World) (Rd' : Nat → Prop) d u, (isLoad oi.op = true → FrT (fun x => Es.contains x) w Rd w' Rd') → YieldsF Es P ops oi v ({ a with defers := d :: a.defers }.put oj.dst u) w' Rd' := fun w' Rd' d u hf =>
    (hy.of_same (a' := { a with defers := d :: a.defers }) rfl rfl (fun h => FrT.refl w Rd)).of_same (execOp_put oi hsi _ oj.dst u h3) (wanted_put oi _ oj.dst u h3) hf
  unfold opI at *
  simp only [hj] at *
  rw [wanted_put oj a oi.dst v h1] at h
  split
  · rename_i hw
    simp only [hw, if_true] at h
    unfold Oper.wp at *
    rw [execOp_put oj hsj a oi.dst v h1] at h
    generalize (execOp a.eval oj).run P w = r at *
    cases r with
    | ok n w' =>
      cases n <;> simp only [Oper.upon] at h ⊢
      case value u =>
        obtain ⟨Rd', g1, g2⟩ := h
        exact ⟨Rd', g1, keep w' Rd' (fun hl => g1 Es (hcalm hl)) u, by rw [← Act.put_comm a v u h2]; exact g2⟩
      case skip =>
        obtain ⟨Rd', g1, g2⟩ := h
        exact ⟨Rd', g1, keep w' Rd' (fun hl => g1 Es (hcalm hl)) _, by rw [← Act.put_comm a v undef h2]; exact g2⟩
      case defer d =>
        obtain ⟨Rd', g1, g2⟩ := h
        refine ⟨Rd', g1, keepD w' Rd' d _ (fun hl => g1 Es (hcalm hl)), ?_⟩
        rw [← Act.put_comm _ v undef h2, ← Act.put_defers]
        exact g2
      case enter f args =>
        refine Calls.mono h fun e w'' he => ?_
        cases e with
        | returned u =>
          obtain ⟨Rd', g1, g2⟩ := he
          exact ⟨Rd', g1, keep w'' Rd' (fun hl => g1 Es (hcalm hl)) u, by rw [← Act.put_comm a v u h2]; exact g2⟩
        | panicked c => exact he
        | outgrown => exact he
      case row row args =>
        refine Rows.mono h fun u w'' he => ?_
        obtain ⟨Rd', g1, g2⟩ := he
        exact ⟨Rd', g1, keep w'' Rd' (fun hl => g1 Es (hcalm hl)) u, by rw [← Act.put_comm a v u h2]; exact g2⟩
    | halt x w' => cases x <;> simp only [Oper.upon] at h ⊢ <;> exact h
  · rename_i hw
    simp only [hw] at h
    exact ⟨keep w Rd (fun _ => FrT.refl w Rd) _, by rw [← Act.put_comm a v undef h2]; exact h⟩

theorem wpI_first {Es : List Nat} {Q0 : Act → World → Prop} {i : Nat} {oi : Oper} {v : Value} (W : Nat → Bool) (hi : ops[i]? = some oi) (hsel : ∀ (j : Nat) (o : Oper) cs b, ops[j]? = some o → o.op ≠ .select cs b)
    (hedge : ∀ j, W j = true → ∃ o e, ops[j]? = some o ∧ e ∈ o.after ∧ Region.binds .any e = true ∧ (e.on = i ∨ W e.on = true)) :
    ∀ (fuel : Nat) (listed : Array Bool) (a : Act) (w : World) (Rd : Nat → Prop),
      (∀ j, W j = true → listed.getD j false = false) →
      (∀ j oj, ops[j]? = some oj → j ≠ i → listed.getD j true = false → W j = false → oi.apart ops oj = true ∧ (isLoad oi.op = true → calmT tt tab Es oj.op = true)) →
      i ∈ Region.ready .any ops listed → YieldsF Es P ops oi v a w Rd →
      wpI P tt tab ops Q0 fuel (listed.setIfInBounds i true) (a.put oi.dst v) w Rd → wpI P tt tab ops Q0 (fuel + 1) listed a w Rd := by
  intro fuel
  induction fuel with
  | zero =>
    intro listed a w Rd _ _ hr hy H
    refine ⟨fun h => (by rw [h] at hr; cases hr), fun j hj => ?_⟩
    by_cases hji : j = i
    · subst hji; exact hy.opI hi H
    · have := ready_mono hj hji
      rw [H.1] at this
      cases this
  | succ fuel ih =>
    intro listed a w Rd hun hfree hr hy H
    refine ⟨fun h => (by rw [h] at hr; cases hr), fun j hj => ?_⟩
    by_cases hji : j = i
    · subst hji; exact hy.opI hi H
    · have h1 := H.2 j (ready_mono hj hji)
      obtain ⟨hjun, oj, hoj, hall⟩ := mem_ready.1 hj
      have hi0 : listed.getD i false = false := by
        have h0 := (mem_ready.1 hr).1
        rcases Nat.lt_or_ge i listed.size with h' | h'
        · simp [h'] at h0 ⊢; exact h0
        · simp [Array.getElem?_eq_none h'] at h0
      have hWj : W j = false := by
        cases hW : W j with
        | false => rfl
        | true =>
          obtain ⟨o, e, k1, k2, k3, k4⟩ := hedge j hW
          rw [hoj] at k1; cases k1
          have k5 := hall e k2 k3
          rcases k4 with k4 | k4
          · rw [k4, hi0] at k5; cases k5
          · rw [hun _ k4] at k5; cases k5
      obtain ⟨hap, hcalm⟩ := hfree j oj hoj hji hjun hWj
      have h2 := opI_put hoj hap hcalm (fun cs b => hsel i oi cs b hi) (fun cs b => hsel j oj cs b hoj) hy h1
      have hun' : ∀ k, W k = true → (listed.setIfInBounds j true).getD k false = false := fun k hk => by
        have hne : j ≠ k := by rintro rfl; rw [hWj] at hk; cases hk
        rw [getD_set_ne false hne]; exact hun k hk
      have hfree' : ∀ k ok, ops[k]? = some ok → k ≠ i → (listed.setIfInBounds j true).getD k true = false → W k = false → oi.apart ops ok = true ∧ (isLoad oi.op = true → calmT tt tab Es ok.op = true) := fun k ok hk hki hu hw => by
        refine hfree k ok hk hki ?_ hw
        by_cases hjk : j = k
        · subst hjk; exact hjun
        · rw [getD_set_ne true hjk] at hu; exact hu
      refine opI_mono (fun a' w' Rd' h3 => ih (listed.setIfInBounds j true) a' w' Rd' hun' hfree' (ready_mono hr (Ne.symm hji)) h3.1 ?_) h2
      rw [Array.setIfInBounds_comm _ _ hji]
      exact h3.2
end

section
variable {P : Program} {tt : Nat → Option TI} {tab : Nat → Option Spec} {X : Cx} {ops : Array Oper}

theorem stepW_sound (htt : TTok P tt) (htab : TabOK P X.rt tab) {i : Nat} {s : St} {a : Act} {w : World} {β : Nat → Option Nat} {cp : Nat → Nat} {Rd : Nat → Prop} (h : Good X s a w β cp Rd) {k : St → Prop} (hp : stepW tt tab ops i s k)
    {Q : Exit → Act → World → Prop} {K : Act → World → (Nat → Prop) → Prop} (hK : ∀ s' a' w' β' cp' Rd', k s' → Good X s' a' w' β' cp' Rd' → K a' w' Rd') : opI P tt tab ops Q i K a w Rd := by
  unfold stepW at hp
  rw [nthL_eq, Array.getElem?_toList] at hp
  unfold opI
  cases hi : ops[i]? with
  | none => rw [hi] at hp; exact hp.elim
  | some o =>
    rw [hi] at hp
    simp only at hp ⊢
    rcases guard_good h hp with ⟨hw, s1, h1, hd, h2, h3⟩ | ⟨hw, s1, h1, hd, h2⟩
    · rw [if_pos hw]
      exact opS_soundD (nid := s1.nx) htt htab (h1.bump 8) hd (fun j _ hk => by have := h1.fresh _ hk; omega) (Nat.le_refl _) h2 fun s' a' w' g1 ⟨β', cp', Rd', g2, g3⟩ => ⟨Rd', g3, hK s' a' w' β' cp' Rd' (h3 s' g1) g2⟩
    · rw [if_neg (by rw [hw]; simp)]
      exact hK _ _ _ β cp Rd h2 (h1.put (x := .c .und) hd rfl)

theorem stepW_pure (htt : TTok P tt) {i : Nat} {oi : Oper} (hi : ops[i]? = some oi) (hpure : pureOp oi.op = true) {s : St} {a : Act} {w : World} {β : Nat → Option Nat} {cp : Nat → Nat} {Rd : Nat → Prop} (h : Good X s a w β cp Rd) {k : St → Prop} (hp : stepW tt tab ops i s k) :
    ∃ v s', YieldsF [] P ops oi v a w Rd ∧ k s' ∧ Good X s' (a.put oi.dst v) w β cp Rd := by
  unfold stepW at hp
  rw [nthL_eq, Array.getElem?_toList, hi] at hp
  simp only at hp
  rcases guard_good h hp with ⟨hw, s1, h1, hd, h2, h3⟩ | ⟨hw, s1, h1, hd, h2⟩
  · obtain ⟨u, g1, s', g2, g3⟩ := opP_sound (tab := tab) (nid := s1.nx) htt (h1.bump 8) hd hpure h2
    exact ⟨u, s', .inl ⟨hw, fun w' Rd' hf => g1 w' Rd' fun hl => (hf hl).fr⟩, h3 s' g2, g3⟩
  · exact ⟨undef, _, .inr ⟨hw, rfl⟩, h2, h1.put (x := .c .und) hd rfl⟩
theorem stepT_pure (htt : TTok P tt) {Es : List Nat} {i : Nat} {oi : Oper} (hi : ops[i]? = some oi) {s : St} {a : Act} {w : World} {β : Nat → Option Nat} {cp : Nat → Nat} {Rd : Nat → Prop} (h : Good X s a w β cp Rd) {k : St → Prop} (hp : stepT tt tab Es ops i s k) :
    ∃ v s', YieldsF Es P ops oi v a w Rd ∧ k s' ∧ Good X s' (a.put oi.dst v) w β cp Rd := by
  unfold stepT at hp
  rw [nthL_eq, Array.getElem?_toList, hi] at hp
  simp only at hp
  rcases guard_good h hp with ⟨hw, s1, h1, hc, hd, h2, h3⟩ | ⟨hw, s1, h1, hd, h2⟩
  · have hc' : clearO Es oi { s1 with nx := s1.nx + 8 } := hc
    obtain ⟨u, g1, s', g2, g3⟩ := opP_soundT (tab := tab) (nid := s1.nx) htt (h1.bump 8) hd hc' h2
    exact ⟨u, s', .inl ⟨hw, fun w' Rd' hf => g1 w' Rd' (hf (by
      unfold clearO at hc
      split at hc
      · rename_i he; rw [he]; rfl
      · exact hc.elim))⟩, h3 s' g2, g3⟩
  · exact ⟨undef, _, .inr ⟨hw, rfl⟩, h2, h1.put (x := .c .und) hd rfl⟩

theorem firstOK_spec {Es : List Nat} {listed : Array Bool} {i : Nat} (h : firstOK tt tab Es ops listed i = true) : ∃ oi, ops[i]? = some oi ∧ i ∈ Region.ready .any ops listed ∧ pureOp oi.op = true ∧
    (∀ j, waits ops i j = true → ∃ o e, ops[j]? = some o ∧ e ∈ o.after ∧ Region.binds .any e = true ∧ (e.on = i ∨ waits ops i e.on = true)) ∧
    (∀ j, waits ops i j = true → listed.getD j false = false) ∧
    (∀ j oj, ops[j]? = some oj → j ≠ i → listed.getD j true = false → waits ops i j = false → oi.apart ops oj = true ∧ (isLoad oi.op = true → calmT tt tab Es oj.op = true)) := by
  unfold firstOK at h
  cases hi : ops[i]? with
  | none => rw [hi] at h; cases h
  | some oi =>
    rw [hi] at h
    simp only [Bool.and_eq_true, List.all_eq_true, List.mem_range, beq_iff_eq] at h
    obtain ⟨⟨⟨h1, h2⟩, hsz⟩, h3⟩ := h
    have hin : ∀ j, waits ops i j = true → j < ops.size := by
      intro j hj
      unfold waits at hj
      rcases Nat.lt_or_ge j ops.size with h' | h'
      · exact h'
      · rw [List.getD_eq_getElem?_getD, List.getElem?_eq_none (by omega)] at hj; cases hj
    refine ⟨oi, rfl, by simpa using h1, h2, fun j hj => ?_, fun j hj => ?_, fun j oj hoj hji hun hw => ?_⟩
    · have h4 := h3 j (hin j hj)
      have hoj : ops[j]? = some (ops[j]'(hin j hj)) := Array.getElem?_eq_getElem (hin j hj)
      rw [hoj] at h4
      simp only [hj, Bool.not_true, Bool.false_or, Bool.and_eq_true] at h4
      obtain ⟨e, he, hb⟩ := Array.any_eq_true'.1 h4.1.2
      simp only [Bool.and_eq_true, Bool.or_eq_true, beq_iff_eq] at hb
      exact ⟨_, e, hoj, he, hb.1, hb.2⟩
    · have h4 := h3 j (hin j hj)
      have hoj : ops[j]? = some (ops[j]'(hin j hj)) := Array.getElem?_eq_getElem (hin j hj)
      rw [hoj] at h4
      simp only [hj, Bool.not_true, Bool.false_or, Bool.and_eq_true, Bool.not_eq_true'] at h4
      exact h4.1.1
    · have h4 := h3 j (Array.getElem?_eq_some_iff.1 hoj).1
      rw [hoj] at h4
      simp only [hw, Bool.not_false, Bool.true_or, Bool.true_and, Bool.or_eq_true, beq_iff_eq, hji, hun, false_or, Bool.false_eq_true, Bool.and_eq_true, Bool.not_eq_true'] at h4
      exact ⟨h4.1, fun hl => h4.2.resolve_left (by rw [hl]; simp)⟩

theorem planW_sound (htt : TTok P tt) (htab : TabOK P X.rt tab) (hs : Region.noSelect ops = true) {K : St → Prop} {Q0 : Act → World → Prop} (hK : ∀ s' a' w', K s' → Rel X s' a' w' → Q0 a' w') :
    ∀ (p : Plan) (m : Bool) (fuel : Nat) (listed : Array Bool) (s : St) (a : Act) (w : World) (β : Nat → Option Nat) (cp : Nat → Nat) (Rd : Nat → Prop), planOK tt tab ops p m fuel listed = true → Good X s a w β cp Rd → planW tt tab ops K p m s →
      (m = false → wpI P tt tab ops Q0 fuel listed a w Rd) ∧ (m = true → ∀ i ∈ p.ids, opI P tt tab ops (QN Q0) i (wpI P tt tab ops Q0 (fuel - 1) (listed.setIfInBounds i true)) a w Rd) := by
  intro p
  induction p with
  | nil =>
    intro m fuel listed s a w β cp Rd hok h hp
    cases m with
    | true => exact ⟨fun h => (by cases h), fun _ i hi => by cases hi⟩
    | false =>
      have hr : Region.ready .any ops listed = [] := by simpa [planOK] using hok
      refine ⟨fun _ => ?_, fun h => by cases h⟩
      have hq : Q0 a w := hK s a w hp ⟨β, cp, Rd, h⟩
      cases fuel with
      | zero => exact ⟨hr, hq⟩
      | succ f => exact ⟨fun _ => hq, by rw [hr]; simp⟩
  | first i p ih =>
    intro m fuel listed s a w β cp Rd hok h hp
    cases m with
    | true => cases fuel <;> simp [planOK] at hok
    | false =>
      cases fuel with
      | zero => simp [planOK] at hok
      | succ f =>
        simp only [planOK, Bool.and_eq_true] at hok
        obtain ⟨oi, hi, hr, hpure, he, hu, hf⟩ := firstOK_spec hok.1
        obtain ⟨v, s', hy, hk, hG⟩ := stepW_pure htt hi hpure h hp
        exact ⟨fun _ => wpI_first (waits ops i) hi (Region.noSelect_spec hs) he f listed a w Rd hu hf hr hy ((ih false f _ s' _ w β cp Rd hok.2 hG hk).1 rfl), fun h => by cases h⟩
  | firstT i Es p ih =>
    intro m fuel listed s a w β cp Rd hok h hp
    cases m with
    | true => cases fuel <;> simp [planOK] at hok
    | false =>
      cases fuel with
      | zero => simp [planOK] at hok
      | succ f =>
        simp only [planOK, Bool.and_eq_true] at hok
        obtain ⟨oi, hi, hr, hpure, he, hu, hf⟩ := firstOK_spec hok.1
        obtain ⟨v, s', hy, hk, hG⟩ := stepT_pure htt hi h hp
        exact ⟨fun _ => wpI_first (waits ops i) hi (Region.noSelect_spec hs) he f listed a w Rd hu hf hr hy ((ih false f _ s' _ w β cp Rd hok.2 hG hk).1 rfl), fun h => by cases h⟩
  | alt i p r ihp ihr =>
    intro m fuel listed s a w β cp Rd hok h hp
    cases fuel with
    | zero => cases m <;> simp [planOK] at hok
    | succ f =>
      simp only [planOK, Bool.and_eq_true] at hok
      obtain ⟨⟨hcov, hokp⟩, hokr⟩ := hok
      obtain ⟨hp1, hp2⟩ := hp
      have hall : ∀ k ∈ (Plan.alt i p r).ids, opI P tt tab ops (QN Q0) k (wpI P tt tab ops Q0 f (listed.setIfInBounds k true)) a w Rd := by
        intro k hk
        simp only [Plan.ids, List.mem_cons] at hk
        rcases hk with rfl | hk
        · exact stepW_sound htt htab h hp1 fun s' a' w' β' cp' Rd' h1 h2 => (ihp false f _ s' a' w' β' cp' Rd' hokp h2 h1).1 rfl
        · exact (ihr true (f + 1) listed s a w β cp Rd hokr h hp2).2 rfl k hk
      refine ⟨fun hm => ⟨fun hr => ?_, fun k hk => ?_⟩, fun _ => hall⟩
      · -- the region's end: the plan would be over
        exfalso
        subst hm
        rw [hr] at hcov
        simp at hcov
      · subst hm
        simp only [Bool.false_or, Bool.and_eq_true, List.all_eq_true, Bool.or_eq_true, beq_iff_eq, List.contains_iff_mem] at hcov
        exact hall k (List.mem_cons.2 (hcov.2 k hk))

theorem Good.sameHeap {s : St} {a : Act} {w w' : World} {β : Nat → Option Nat} {cp : Nat → Nat} {Rd : Nat → Prop} (h : Good X s a w β cp Rd) (hos : w'.os = w.os) (htape : w'.tape = w.tape) (hout : w'.output = w.output ∧ True) (hh : w'.heap = w.heap) : Good X s a w' β cp Rd := by
  refine h.re rfl rfl rfl h.fresh hos htape hout (by rw [hh]; exact Nat.le_refl _) (fun g _ _ _ => by rw [hh]) (fun _ h => h) (fun _ h => .inl h) (fun _ h => .inl h) (fun b bx g h1 h2 => .inl ⟨bx, h1, h2⟩) h.own_rd
    (fun g hg => ?_) h.inj (fun _ _ h => h) (fun _ _ h => h) ?_ (fun b bx hb => ?_)
  · obtain ⟨_, bv, p, bs, h1, _⟩ := h.rdok g (h.rd0 g hg)
    exact ⟨bv, p, p, h1, h1.congr (by rw [hh])⟩
  · exact h.rdok.mono (fun g _ _ => by rw [hh]) (by rw [hh]; exact Nat.le_refl _) (fun _ _ h => h) (fun g _ => by rw [hh]) (Nat.le_refl _)
  · exact ((h.boxes b bx hb).heap (w' := w') fun g _ => by rw [hh]).mono fun v c hc => hc.mono (K := fun _ => True) (fun g _ _ => by rw [hh]) (by rw [hh]; exact Nat.le_refl _) (fun _ _ h => h) (fun _ h => h) (cIds_all c) (fun _ _ _ _ _ _ h => h)

theorem drawW_ok (hm : P.follows .mixedOrders = true) (htt : TTok P tt) (htab : TabOK P X.rt tab) (id : Nat) (ops : Array Oper) : DrawOK P X (fun _ => drawW tt tab) id ops := by
  intro s K Q a w hp h hK
  obtain ⟨p, hok, hp⟩ := hp
  simp only [planOK', Bool.and_eq_true] at hok
  obtain ⟨β, cp, Rd, G⟩ := h
  have h1 := (planW_sound (Q0 := Q .normal) htt htab hok.1 hK p false ops.size _ s a { w with drawn := w.drawn + 1 } β cp Rd hok.2 (G.sameHeap rfl rfl ⟨rfl, trivial⟩ rfl) hp).1 rfl
  exact wp_mono (wp_region_any hm (wpAny_of_I _ _ _ _ _ h1)) fun e a w hq => by
    cases e <;> first | exact hq | exact hq.elim

/-- The order of the text. -/
def linP (tab : Nat → Option Spec) (ops : Array Oper) : Nat → Nat → Array Bool → Plan
  | 0, _, _ => .nil
  | f + 1, i, listed => bif firstOK (fun _ => none) tab [] ops listed i then .first i (linP tab ops f (i + 1) (listed.setIfInBounds i true)) else .alt i (linP tab ops f (i + 1) (listed.setIfInBounds i true)) .nil
def seqOK (tab : Nat → Option Spec) (ops : Array Oper) : Bool := planOK' (fun _ => none) tab ops (linP tab ops ops.size 0 (Array.replicate ops.size false))
theorem guardW_mono {ops : Array Oper} {o : Oper} {s : St} {yes yes' no no' : St → Prop} (h1 : ∀ s, yes s → yes' s) (h2 : ∀ s, no s → no' s) (hg : guardW ops o s yes no) : guardW ops o s yes' no' := by
  unfold guardW guardB at *
  cases hgd : o.guard with
  | none => simp only [hgd] at hg ⊢; exact h1 _ hg
  | some jw =>
    obtain ⟨j, want⟩ := jw
    simp only [hgd] at hg ⊢
    cases hb : (nthL ops.toList j).bind (·.dst) with
    | none => simp only [hb] at hg ⊢; exact h2 _ hg
    | some g =>
      simp only [hb] at hg ⊢
      generalize s.get g = x at hg ⊢
      cases x with
      | c c =>
        cases c with
        | und => exact h2 _ hg
        | v v =>
          cases v with
          | bool t => cases want <;> exact ⟨fun ht => by first | exact h1 _ (hg.1 ht) | exact h2 _ (hg.1 ht), fun ht => by first | exact h1 _ (hg.2 ht) | exact h2 _ (hg.2 ht)⟩
          | _ => exact hg.elim
        | _ => exact hg.elim
      | _ => exact hg.elim
theorem linP_ok (tt : Nat → Option TI) (tab : Nat → Option Spec) (ops : Array Oper) (K : St → Prop) : ∀ (f i : Nat) (listed : Array Bool) (s : St), i + f = ops.size → opsW tt tab ops (ops.toList.drop i) s K → planW tt tab ops K (linP tab ops f i listed) false s
  | 0, i, listed, s, hf, h => by
    have : ops.toList.drop i = [] := List.drop_eq_nil_of_le (by simp; omega)
    rw [this] at h
    exact h
  | f + 1, i, listed, s, hf, h => by
    have hi : i < ops.toList.length := by simp; omega
    rw [List.drop_eq_getElem_cons hi] at h
    have hstep : stepW tt tab ops i s fun s => planW tt tab ops K (linP tab ops f (i + 1) (listed.setIfInBounds i true)) false s := by
      unfold stepW
      rw [nthL_eq, List.getElem?_eq_getElem hi]
      simp only [opsW] at h
      simp only
      refine guardW_mono (fun s hs => ?_) (fun s hs => ⟨hs.1, linP_ok tt tab ops K f (i + 1) _ _ (by omega) hs.2⟩) h
      obtain ⟨h1, h2, h3⟩ := hs
      exact ⟨h1, h2, fun s' hs' => linP_ok tt tab ops K f (i + 1) _ _ (by omega) (h3 s' hs')⟩
    unfold linP
    cases firstOK (fun _ => none) tab [] ops listed i with
    | true => exact hstep
    | false => exact ⟨hstep, trivial⟩

theorem calmT_empty (tt : Nat → Option TI) (tab : Nat → Option Spec) (o : Op) : calmT tt tab [] o = calmOp tab o := by
  unfold calmT
  cases apTy tt o <;> simp
theorem firstOK_tt (tt tt' : Nat → Option TI) (tab : Nat → Option Spec) (ops : Array Oper) (listed : Array Bool) (i : Nat) : firstOK tt tab [] ops listed i = firstOK tt' tab [] ops listed i := by
  unfold firstOK
  simp only [calmT_empty]
def noT : Plan → Bool
  | .nil => true
  | .first _ p => noT p
  | .firstT _ _ _ => false
  | .alt _ p r => noT p && noT r
theorem planOK_tt (tt tt' : Nat → Option TI) (tab : Nat → Option Spec) (ops : Array Oper) : ∀ (p : Plan) (m : Bool) (fuel : Nat) (listed : Array Bool), noT p = true → planOK tt tab ops p m fuel listed = planOK tt' tab ops p m fuel listed
  | .nil, m, fuel, listed, _ => by cases m <;> rfl
  | .first i p, m, fuel, listed, h => by
    cases m with
    | true => cases fuel <;> rfl
    | false => cases fuel with
      | zero => rfl
      | succ f => simp only [planOK]; rw [firstOK_tt tt tt', planOK_tt tt tt' tab ops p false f _ h]
  | .firstT _ _ _, _, _, _, h => by cases h
  | .alt i p r, m, fuel, listed, h => by
    simp only [noT, Bool.and_eq_true] at h
    cases fuel with
    | zero => cases m <;> rfl
    | succ f => simp only [planOK]; rw [planOK_tt tt tt' tab ops p false f _ h.1, planOK_tt tt tt' tab ops r true (f + 1) _ h.2]
theorem noT_linP (tab : Nat → Option Spec) (ops : Array Oper) : ∀ (f i : Nat) (listed : Array Bool), noT (linP tab ops f i listed) = true
  | 0, _, _ => rfl
  | f + 1, i, listed => by
    unfold linP
    cases firstOK (fun _ => none) tab [] ops listed i with
    | true => exact noT_linP tab ops f _ _
    | false => simp only [cond_false, noT, noT_linP tab ops f, Bool.and_true]
/-- Regions that draw: in the order of the text, where that is all. -/
def dwS (tt : Nat → Option TI) (tab : Nat → Option Spec) (sq : Nat → Bool) (id : Nat) (ops : Array Oper) (s : St) (K : St → Prop) : Prop :=
  match sq id with
  | true => opsW tt tab ops ops.toList s K
  | false => drawW tt tab ops s K
def dwOK (tab : Nat → Option Spec) (sq : Nat → Bool) (id : Nat) (ops : Array Oper) : Bool := !sq id || seqOK tab ops
theorem seqOK_plan {tt : Nat → Option TI} {tab : Nat → Option Spec} {ops : Array Oper} (hp : seqOK tab ops = true) : planOK' tt tab ops (linP tab ops ops.size 0 (Array.replicate ops.size false)) = true := by
  unfold planOK'
  rw [planOK_tt tt (fun _ => none) tab ops _ _ _ _ (noT_linP tab ops _ _ _)]
  exact hp
theorem dwS_ok (hm : P.follows .mixedOrders = true) (htt : TTok P tt) (htab : TabOK P X.rt tab) {sq : Nat → Bool} {c : Code} (h : allDB (dwOK tab sq) c = true) : allD (DrawOK P X (dwS tt tab sq)) c := by
  refine allDB_ok (fun id ops hp => ?_) c h
  intro s K Q a w hd hR hK
  refine drawW_ok hm htt htab id ops s K Q a w ?_ hR hK
  unfold dwS at hd
  cases hs : sq id with
  | false => rw [hs] at hd; exact hd
  | true =>
    rw [hs] at hd
    simp only [dwOK, hs, Bool.not_true, Bool.false_or] at hp
    have hq : planOK' tt tab ops (linP tab ops ops.size 0 (Array.replicate ops.size false)) = true := by
      unfold planOK'
      rw [planOK_tt tt (fun _ => none) tab ops _ _ _ _ (noT_linP tab ops _ _ _)]
      exact hp
    exact ⟨_, hq, linP_ok tt tab ops K ops.size 0 _ s (by omega) (by simpa using hd)⟩
end
end Go.VE
end
section
namespace Go.VE
open Go

/-! What a function hands back. -/
def expC0 (s : St) (ids : List Nat) : C → C
  | .rdr => .bot
  | c => renC0 s ids c
def expC (s : St) (ids : List Nat) : C → C
  | .fn f caps => .fn f (caps.map (expC0 s ids))
  | c => expC0 s ids c
def expA1 (s : St) (ids : List Nat) : AV → AV
  | .c x => .c (expC s ids x)
  | .agg cs => .agg (cs.map (expC s ids))
  | .tup _ => .c .bot
  | .mp _ _ => .c .bot
def expA (s : St) (ids : List Nat) : AV → AV
  | .tup vs => .tup (vs.map (expA1 s ids))
  | .c x => expA1 s ids (.c x)
  | .agg cs => expA1 s ids (.agg cs)
  | .mp _ _ => .c .bot
def expB (s : St) (ids : List Nat) (bx : Box) : Box :=
  match bx.row with
  | true => bx
  | false => { bx with es := bx.es.map fun e => e.map (expC s ids) }
def expOk0 (s : St) (ids : List Nat) (c : C) : Prop :=
  match hkey c with
  | some (b, _) => match idxOf b ids 0 with
    | some _ => True
    | none => sealOk s c
  | none => True
def expOk0s (s : St) (ids : List Nat) : List C → Prop
  | [] => True
  | c :: r => expOk0 s ids c ∧ expOk0s s ids r
def expOk (s : St) (ids : List Nat) : C → Prop
  | .fn _ caps => expOk0s s ids caps
  | c => expOk0 s ids c
def expOks (s : St) (ids : List Nat) : List C → Prop
  | [] => True
  | c :: r => expOk s ids c ∧ expOks s ids r
def flatOk0 (s : St) (ids : List Nat) (c : C) : Prop :=
  match hkey c with
  | some (b, _) => match idxOf b ids 0 with
    | some _ => True
    | none => match s.box b with
      | some bx => pureV bx.es
      | none => True
  | none => match c with
    | .sl _ _ => False
    | .rp _ => False
    | .ex _ _ => False
    | _ => True
def flatOk0s (s : St) (ids : List Nat) : List C → Prop
  | [] => True
  | c :: r => flatOk0 s ids c ∧ flatOk0s s ids r
def flatOk (s : St) (ids : List Nat) : C → Prop
  | .fn _ caps => flatOk0s s ids caps
  | c => flatOk0 s ids c
def flatOks (s : St) (ids : List Nat) : List C → Prop
  | [] => True
  | c :: r => flatOk s ids c ∧ flatOks s ids r
def expBs (s : St) (ids : List Nat) (flat : Bool) : List Nat → Prop
  | [] => True
  | b :: r => (match s.box b with
    | some bx => bx.fz = false ∧ (match bx.row with
      | true => flat = true → pureV bx.es
      | false => expOks s ids bx.es.flatten ∧ (flat = true → flatOks s ids bx.es.flatten))
    | none => False) ∧ expBs s ids flat r
def expBoxes (s : St) (ids : List Nat) : List Nat → List Box
  | [] => []
  | b :: r => expB s ids (boxN s b) :: expBoxes s ids r
def catCells : List AV → List C
  | [] => []
  | x :: r => cellsOf x ++ catCells r
def allCells : AV → List C
  | .tup vs => catCells vs
  | .c x => [x]
  | .agg cs => cs
  | .mp _ _ => []
def numsOf : Nat → List Box → List Nat
  | _, [] => []
  | k, _ :: r => k :: numsOf (k + 1) r
def varCells (s : St) : List Nat → List C
  | [] => []
  | b :: r => (match isVar s b, s.box b with
    | true, some bx => bx.es.flatten
    | _, _ => []) ++ varCells s r
def xids (s : St) (ins : List Box) (shut : Bool) (cs : List C) : List Nat :=
  match shut with
  | true => numsOf 0 ins
  | false => numsOf 0 ins ++ (gather s FUEL (numsOf 0 ins) (cs ++ varCells s (numsOf 0 ins))).drop ins.length

/-- A result: in a slot, or in a cell. -/
inductive RV where
  | tmp (t : Nat)
  | cell (a t : Nat)
def RV.var : RV → ResultVar
  | .tmp t => .tmp t
  | .cell a t => .cell a t
def rvS (tt : Nat → Option TI) (s : St) : RV → Prop × AV
  | .tmp t => (True, s.get t)
  | .cell a t => match tt t, s.get a with
    | some ti, .c (.ptr b n i off) => match s.box b with
      | some bx => match nthL bx.es i with
        | some e => (n = bx.es.length ∧ i < n ∧ off + ti.sz ≤ bx.k, mkAV ti.kind.agg (loaded bx.row ((e.drop off).take ti.sz)))
        | none => (False, .c .bot)
      | none => (False, .c .bot)
    | _, _ => (False, .c .bot)
def rvOk (tt : Nat → Option TI) (s : St) : List RV → Prop
  | [] => True
  | r :: l => (rvS tt s r).1 ∧ rvOk tt s l
def resAV (tt : Nat → Option TI) (s : St) : List RV → AV
  | [] => .tup []
  | [r] => (rvS tt s r).2
  | l => .tup (l.map fun r => (rvS tt s r).2)

def retE (sp : Spec) (args : List AV) (ins : List Box) (pk0 : Nat) (s : St) (res : AV) (ids : List Nat) : Prop :=
  expOks s ids (allCells res) ∧ (sp.flat = true → flatOks s ids (allCells res)) ∧ expBs s ids sp.flat ids ∧ distN ids = true ∧ ids.length ≤ ins.length + 8 ∧ s.pk ≤ pk0 + sp.cost ∧
    sp.post args ins (expA s ids res) (expBoxes s ids ids)
/-- What a function's end asks. -/
def retW (tt : Nat → Option TI) (sp : Spec) (args : List AV) (ins : List Box) (ts : List RV) (pk0 : Nat) (s : St) : Prop :=
  rvOk tt s ts ∧ retE sp args ins pk0 s (resAV tt s ts) (xids s ins sp.shut (allCells (resAV tt s ts)))

def retQ (tt : Nat → Option TI) (sp : Spec) (args : List AV) (ins : List Box) (ts : List RV) (pk0 : Nat) : Ex → St → Prop
  | .normal, s => retW tt sp args ins ts pk0 s
  | .ret, s => retW tt sp args ins ts pk0 s
  | .exit _, _ => False

def envOf : Nat → List AV → List (Nat × AV)
  | _, [] => []
  | k, x :: r => (k, x) :: envOf (k + 1) r
def entSt (nt : Nat) (args : List AV) (ins : List Box) (pk : Nat) : St := ⟨nt, ins.length, envOf 0 args, expHp 0 ins, ins.length, pk⟩
def entPins (ins : List Box) (β0 : Nat → Option Nat) (cp0 : Nat → Nat) : List (Box × Option Nat × Nat) := ins.zipIdx.map fun p => (p.1, β0 p.2, cp0 p.2)

theorem entPins_get {ins : List Box} {β0 : Nat → Option Nat} {cp0 : Nat → Nat} {i : Nat} {q : Box × Option Nat × Nat} (h : (entPins ins β0 cp0)[i]? = some q) : ∃ bx, ins[i]? = some bx ∧ q = (bx, β0 i, cp0 i) := by
  simp only [entPins, List.getElem?_map, List.getElem?_zipIdx, Option.map_map, Option.map_eq_some_iff] at h
  obtain ⟨bx, h1, rfl⟩ := h
  exact ⟨bx, h1, by simp⟩
theorem entPins_of {ins : List Box} (β0 : Nat → Option Nat) (cp0 : Nat → Nat) {i : Nat} {bx : Box} (h : ins[i]? = some bx) : (entPins ins β0 cp0)[i]? = some (bx, β0 i, cp0 i) := by
  simp [entPins, List.getElem?_zipIdx, h]

theorem lkE_env : ∀ (l : List AV) (k t : Nat), lkE (envOf k l) t = if k ≤ t then (l[t - k]?).getD (.c .bot) else .c .bot
  | [], k, t => by simp [envOf, lkE]
  | x :: r, k, t => by
    simp only [envOf, lkE]
    by_cases h : k = t
    · subst h; simp
    · have e : (k == t) = false := by simpa using h
      rw [e, cond_false, lkE_env r (k + 1) t]
      by_cases h2 : k ≤ t
      · have : t - k = t - (k + 1) + 1 := by omega
        rw [if_pos (by omega), if_pos h2, this, List.getElem?_cons_succ]
      · rw [if_neg (by omega), if_neg h2]

section
variable {P : Program} {X : Cx} {s : St} {a : Act} {w : World} {β : Nat → Option Nat} {cp : Nat → Nat} {Rd : Nat → Prop}

theorem ent_box (nt : Nat) (args : List AV) (ins : List Box) (pk b : Nat) : (entSt nt args ins pk).box b = ins[b]? := exp_box ins b
theorem ent_keyed (nt : Nat) (args : List AV) (ins : List Box) (pk b : Nat) : (entSt nt args ins pk).keyed b ↔ b < ins.length := exp_keyed ins b

/-- The state at a function's entry. -/
theorem good_entry {rt : RT} {nt pk : Nat} {Av Rd : Nat → Prop} {args : List AV} {vs : Array Value} {ins : List Box} {β0 : Nat → Option Nat} {cp0 : Nat → Nat} (T : Takes rt w Av Rd pk args vs ins β0 cp0) (hnt : args.length ≤ nt) :
    Good ⟨rt, w, Av, Rd, entPins ins β0 cp0, [], w, fun _ => False⟩ (entSt nt args ins pk) { tmps := vs ++ Array.replicate (nt - vs.size) undef, defers := [] } w β0 cp0 Rd := by
  have hH : ∀ c v, hOf (expSt ins) β0 cp0 c v → hOf (entSt nt args ins pk) β0 cp0 c v := fun c v h => h
  have hhas : ∀ g, has (entSt nt args ins pk) β0 g → has (expSt ins) β0 g := fun g h => h
  have hmt : ∀ g, Cx.mt ⟨rt, w, Av, Rd, entPins ins β0 cp0, [], w, fun _ => False⟩ (entSt nt args ins pk) β0 Rd g → avIn Av ins β0 g := by
    rintro g (h | h | h)
    · exact .inl h
    · exact .inr (hhas g h.has)
    · exact .inl (T.rdav g h)
  exact {
    defers := rfl
    size := by
      have := T.size
      simp [entSt]; omega
    keeps := Keeps.refl _ _
    fresh := fun b hb => (ent_keyed nt args ins pk b).1 hb
    org := fun b bx g h1 h2 => .inr ⟨_, entPins_of β0 cp0 (by rw [← ent_box nt args ins pk]; exact h1), h2⟩
    own_rd := fun g hg hr => T.pasav g (hhas g hg) (T.rdav g hr)
    own_av := fun g hg => T.pasav g (hhas g hg)
    rdsame := fun g hg => by
      obtain ⟨_, bv, p, bs, h1, _⟩ := T.rdok g hg
      exact ⟨bv, p, p, h1, h1⟩
    inj := fun b b' bx bx' g h1 h2 => T.inj b b' bx bx' g (by rw [← ent_box nt args ins pk]; exact h1) (by rw [← ent_box nt args ins pk]; exact h2)
    rd0 := fun g h => h
    rdge := fun g h => .inl h
    avlt := fun g h => T.avlt g h
    npin := by simp [entPins, entSt]
    pin := fun i q hq => by
      obtain ⟨bx, h1, rfl⟩ := entPins_get hq
      refine ⟨(ent_keyed nt args ins pk i).2 (List.getElem?_eq_some_iff.1 h1).1, fun bx' hb => ?_⟩
      rw [ent_box, h1] at hb
      cases hb
      exact ⟨Nat.le_refl _, fun _ => ⟨rfl, rfl, rfl⟩⟩
    rdok := T.rdok.mono (fun _ _ _ => rfl) (Nat.le_refl _) (fun g _ hm => hmt g hm) (fun _ _ => rfl) (Nat.le_refl _)
    env := fun t => by
      show MA _ _ _ _ _ (lkE (envOf 0 args) t)
      rw [lkE_env]
      simp only [Nat.zero_le, if_true, Nat.sub_zero]
      cases hx : args[t]? with
      | none => trivial
      | some x =>
        have hlt := (List.getElem?_eq_some_iff.1 hx).1
        have := T.args t x hx
        have hsz := T.size
        have e : (vs ++ Array.replicate (nt - vs.size) undef).getD t undef = vs.getD t undef := by
          simp [Array.getElem?_append, hsz, hlt]
        simp only [Option.getD_some]
        show MA _ _ _ _ ((vs ++ Array.replicate (nt - vs.size) undef).getD t undef) x
        rw [e]
        exact this.mono (K := fun _ => True) (fun _ _ _ => rfl) (Nat.le_refl _) (fun g _ hm => hmt g hm) (fun _ h => h) (avIds_all x) (fun c _ _ _ _ v h => hH c v h)
    boxes := fun b bx h1 => by
      rw [ent_box] at h1
      exact (T.boxes b bx h1).2.mono fun v c hc => hc.mono (K := fun _ => True) (fun _ _ _ => rfl) (Nat.le_refl _) (fun g _ hm => hmt g hm) (fun _ h => h) (cIds_all c) (fun c _ _ _ _ v h => hH c v h)
    glob := ⟨T.glob.1, fun g hg => by
      obtain ⟨k1, k2, k3⟩ := T.glob.2 g hg
      refine ⟨k1, fun hm => ?_⟩
      rcases hm with hm | ⟨i, q, h1, h2⟩
      · exact k2 hm
      · obtain ⟨bx, h3, rfl⟩ := entPins_get h1
        exact k3 ⟨i, bx, by rw [exp_box]; exact h3, h2⟩⟩
    kept := fun g hg => hg.elim }
end
end Go.VE
end
section
namespace Go.VE
open Go

theorem expBoxes_ren (s : St) (ids : List Nat) : ∀ l, expBoxes s ids l = renIns s (expB s ids) l
  | [] => rfl
  | b :: r => by simp only [expBoxes, renIns, List.map_cons]; rw [expBoxes_ren s ids r]; rfl
theorem expB_fit (s : St) (ids : List Nat) (bx : Box) : (expB s ids bx).es.length = bx.es.length ∧ (expB s ids bx).k = bx.k ∧ (expB s ids bx).fz = bx.fz ∧ (expB s ids bx).row = bx.row ∧ (expB s ids bx).ty = bx.ty := by
  unfold expB; split <;> simp_all

section
variable {X : Cx} {s : St} {a : Act} {w : World} {β : Nat → Option Nat} {cp : Nat → Nat} {Rd : Nat → Prop}

theorem expBs_box {ids : List Nat} {flat : Bool} : ∀ {l : List Nat}, expBs s ids flat l → ∀ b ∈ l, ∃ bx, s.box b = some bx ∧ bx.fz = false ∧ (bx.row = true → flat = true → pureV bx.es) ∧ (bx.row = false → expOks s ids bx.es.flatten ∧ (flat = true → flatOks s ids bx.es.flatten))
  | [], _, b, hb => by simp at hb
  | x :: r, h, b, hb => by
    obtain ⟨h1, h2⟩ := h
    rcases List.mem_cons.1 hb with rfl | hb
    · cases hbx : s.box b with
      | none => rw [hbx] at h1; exact h1.elim
      | some bx =>
        rw [hbx] at h1
        refine ⟨bx, rfl, h1.1, fun hr => ?_, fun hr => ?_⟩ <;> (have := h1.2; rw [hr] at this; exact this)
    · exact expBs_box h2 b hb

/-- What is handed back, and how. -/
structure ExpOK (X : Cx) (s : St) (ids : List Nat) : Prop where
  ren : RenOK s ids
  pre : ∀ b, b < s.np → b ∈ ids

abbrev eAv (X : Cx) (s : St) (β : Nat → Option Nat) (ids : List Nat) (flat : Bool) : Nat → Prop := avoid X.Av0 (renIns s (expB s ids) ids) (renβ β ids) X.Rd0 flat X.w0.heap.size

theorem eAv_mt (h : Good X s a w β cp Rd) {ids : List Nat} (hE : ExpOK X s ids) {flat : Bool} {g : Nat} (hg : eAv X s β ids flat g) : X.mt s β Rd g ∨ (flat = true ∧ g < X.w0.heap.size) := by
  rcases hg with hg | hg | hg | hg
  · exact .inl (.inl hg)
  · obtain ⟨b, bx, _, h2, h3, h4⟩ := ren_has hE.ren hg
    exact .inl (.inr (.inl ⟨b, bx, h2, h3, h4⟩))
  · exact .inl (.inr (.inr (h.rd0 g hg)))
  · exact .inr hg

/-- A box that stays behind is new. -/
theorem stays_new (h : Good X s a w β cp Rd) {ids : List Nat} (hE : ExpOK X s ids) {flat : Bool} {b : Nat} {bx : Box} (hb : b ∉ ids) (hbx : s.box b = some bx) {g : Nat} (hg : β b = some g) : ¬ eAv X s β ids flat g := by
  have hnew : X.w0.heap.size ≤ g := by
    rcases h.org b bx g hbx hg with h1 | ⟨q, h1, _⟩
    · exact h1
    · have := (List.getElem?_eq_some_iff.1 h1).1
      rw [h.npin] at this
      exact absurd (hE.pre b this) hb
  rintro (h1 | h1 | h1 | h1)
  · exact h.own_av g ⟨b, bx, hbx, hg⟩ h1
  · obtain ⟨b', bx', h2, h3, _, h4⟩ := ren_has hE.ren h1
    have := h.inj b b' bx bx' g hbx h3 hg h4
    subst this
    exact hb h2
  · exact h.own_rd g ⟨b, bx, hbx, hg⟩ (h.rd0 g h1)
  · have := h1.2; omega

variable {ids : List Nat} {flat : Bool}

theorem pureV_rc {es : List (List C)} (hp : pureV es) {Mt Mt' : Nat → Prop} {v : Value} {c : C} (hc : ∃ e ∈ es, c ∈ e) (h : RC w Mt v c) : RC w Mt' v c := by
  obtain ⟨e, h1, h2⟩ := hc
  have := hp e h1 c h2
  cases c with
  | v x => cases h with | v _ hx => exact RC.v _ hx
  | _ => cases this

theorem exp0_ok (h : Good X s a w β cp Rd) (hE : ExpOK X s ids) {v : Value} {c : C} (hm : MC0 w (X.mt s β Rd) Rd (hOf s β cp) v c) (ho : expOk0 s ids c) (hf : flat = true → flatOk0 s ids c) :
    MC0 w (eAv X s β ids flat) X.Rd0 (hOf (expSt (renIns s (expB s ids) ids)) (renβ β ids) (rencp cp ids)) v (expC0 s ids c) := by
  have hM : flat = false → ∀ g, g < w.heap.size → eAv X s β ids flat g → X.mt s β Rd g := fun hfl g _ hg => (eAv_mt h hE hg).resolve_right fun hh => by rw [hfl] at hh; cases hh.1
  have hmono : ∀ v c', (flat = true → okV c' = true) → RC w (X.mt s β Rd) v c' → RC w (eAv X s β ids flat) v c' := by
    intro v c' hv hr
    cases hfl : flat with
    | false => subst hfl; exact hr.mono (fun _ _ _ => rfl) (Nat.le_refl _) (hM rfl)
    | true =>
      have := hv hfl
      cases c' with
      | v x => cases hr with | v _ hx => exact RC.v _ hx
      | _ => cases this
  -- rows that stay behind
  have stay : ∀ b n, hkey c = some (b, n) → (∀ f l, c ≠ .fn f l) → sealOk s c → idxOf b ids 0 = none → (flat = true → match s.box b with | some bx => pureV bx.es | none => True) →
      MC0 w (eAv X s β ids flat) X.Rd0 (hOf (expSt (renIns s (expB s ids) ids)) (renβ β ids) (rencp cp ids)) v (sealC s c) := by
    intro b n hk hnf h1 hj h2
    have hm' : MC w (X.mt s β Rd) Rd (hOf s β cp) v c := hm.mc
    have hrow : ∀ b' ∈ rowIds [c], b' = b := fun b' hb' => by
      obtain ⟨n', hn'⟩ := rowIds_one hnf hb'
      rw [hk] at hn'
      cases hn'; rfl
    have := seal_okC (Mt' := eAv X s β ids flat) (Rd' := Rd) (H' := hOf (expSt (renIns s (expB s ids) ids)) (renβ β ids) (rencp cp ids)) h (fun _ h => h) (ids := [b])
      (fun b' hb' bx g hbx hg => by
        simp only [List.mem_singleton] at hb'
        subst hb'
        exact stays_new h hE (idxOf_none hj) hbx hg)
      (fun v c' hc' hr => hmono v c' (fun hfl => by
        rcases hc' with rfl | ⟨x, rfl⟩ | ⟨b', bx, hb', hbx, e, he, hce⟩
        · cases hr <;> cases hk
        · cases hk
        · rw [hrow b' hb'] at hbx
          have := h2 hfl
          rw [hbx] at this
          exact this e he c' hce) hr) hm' h1 (fun b' hb' => by rw [hrow b' hb']; simp)
    cases c with
    | own b' n' t =>
      simp only [sealC] at this ⊢
      split
      · rename_i bx hbx
        rw [hbx] at this
        simp only at this
        split
        · rename_i hr; rw [hr] at this; exact this
        · trivial
      · trivial
    | vw b' n' lo hi =>
      simp only [sealC] at this ⊢
      split
      · rename_i bx hbx
        rw [hbx] at this
        simp only at this
        split
        · rename_i hr; rw [hr] at this; exact this
        · trivial
      · trivial
    | ptr b' n' i off =>
      simp only [sealC] at this ⊢
      split
      · rename_i bx hbx
        rw [hbx] at this
        simp only at this
        split
        · trivial
        · rename_i hr
          rw [hr] at this
          simp only at this
          cases hz : (i == 0 && off == 0) with
          | true => rw [hz] at this; exact this
          | false => trivial
      · trivial
    | _ => cases hk
  cases c with
  | rdr => trivial
  | own b n t =>
    simp only [expC0, renC0, hkey]
    simp only [expOk0, flatOk0, hkey] at ho hf
    split
    · rename_i j hj
      exact ⟨hm.1, ren_handle (F := expB s ids) (fun bx => ⟨(expB_fit s ids bx).1, (expB_fit s ids bx).2.1⟩) hE.ren rfl hj hm.2⟩
    · rename_i hj
      simp only [hj] at ho hf
      exact stay b n rfl (fun _ _ e => by cases e) ho hj hf
  | vw b n lo hi =>
    simp only [expC0, renC0, hkey]
    simp only [expOk0, flatOk0, hkey] at ho hf
    split
    · rename_i j hj
      exact ⟨hm.1, ren_handle (F := expB s ids) (fun bx => ⟨(expB_fit s ids bx).1, (expB_fit s ids bx).2.1⟩) hE.ren rfl hj hm.2⟩
    · rename_i hj
      simp only [hj] at ho hf
      exact stay b n rfl (fun _ _ e => by cases e) ho hj hf
  | ptr b n i off =>
    simp only [expC0, renC0, hkey]
    simp only [expOk0, flatOk0, hkey] at ho hf
    split
    · rename_i j hj
      exact ⟨hm.1, ren_handle (F := expB s ids) (fun bx => ⟨(expB_fit s ids bx).1, (expB_fit s ids bx).2.1⟩) hE.ren rfl hj hm.2⟩
    · rename_i hj
      simp only [hj] at ho hf
      exact stay b n rfl (fun _ _ e => by cases e) ho hj hf
  | v x =>
    simp only [expC0, renC0, hkey]
    have hm' : RC w (X.mt s β Rd) v (.v x) := hm
    unfold sealC
    split
    · rename_i he; cases he
    · rename_i he; cases he
    · rename_i he
      cases he
      cases hm' with
      | v _ _ => exact RC.sl true [] 0 none ⟨0, 0, none⟩ 0 0 rfl (fun _ => rfl) (Nat.le_refl _) (by simp [maxLen]) (by simp) (fun h => absurd rfl h) (fun _ _ => undef) (by simp) (by simp)
    · rename_i he; cases he
    · rename_i he; cases he
    · rename_i he; cases he
    · rename_i he; cases he
    · exact hmono _ _ (fun _ => rfl) hm'
  | sl t es => exact hmono _ _ (fun hfl => (hf hfl).elim) hm
  | rp cs => exact hmono _ _ (fun hfl => (hf hfl).elim) hm
  | ex x c => exact ⟨hm.1, hmono _ _ (fun hfl => (hf hfl).elim) hm.2⟩
  | fn f caps => exact hm.elim
  | und => trivial
  | bot => trivial

theorem expOk0s_get : ∀ {cs : List C} {j : Nat} {c : C}, expOk0s s ids cs → cs[j]? = some c → expOk0 s ids c
  | [], _, _, _, h => by simp at h
  | x :: r, 0, c, h, hj => by simp at hj; subst hj; exact h.1
  | x :: r, j + 1, c, h, hj => expOk0s_get h.2 (by simpa using hj)
theorem expOks_get : ∀ {cs : List C} {j : Nat} {c : C}, expOks s ids cs → cs[j]? = some c → expOk s ids c
  | [], _, _, _, h => by simp at h
  | x :: r, 0, c, h, hj => by simp at hj; subst hj; exact h.1
  | x :: r, j + 1, c, h, hj => expOks_get h.2 (by simpa using hj)
theorem flatOk0s_get : ∀ {cs : List C} {j : Nat} {c : C}, flatOk0s s ids cs → cs[j]? = some c → flatOk0 s ids c
  | [], _, _, _, h => by simp at h
  | x :: r, 0, c, h, hj => by simp at hj; subst hj; exact h.1
  | x :: r, j + 1, c, h, hj => flatOk0s_get h.2 (by simpa using hj)
theorem flatOks_get : ∀ {cs : List C} {j : Nat} {c : C}, flatOks s ids cs → cs[j]? = some c → flatOk s ids c
  | [], _, _, _, h => by simp at h
  | x :: r, 0, c, h, hj => by simp at hj; subst hj; exact h.1
  | x :: r, j + 1, c, h, hj => flatOks_get h.2 (by simpa using hj)
theorem expOks_left : ∀ {l r : List C}, expOks s ids (l ++ r) → expOks s ids l ∧ expOks s ids r
  | [], _, h => ⟨trivial, h⟩
  | _ :: _, _, h => let ⟨a, b⟩ := expOks_left h.2; ⟨⟨h.1, a⟩, b⟩
theorem flatOks_left : ∀ {l r : List C}, flatOks s ids (l ++ r) → flatOks s ids l ∧ flatOks s ids r
  | [], _, h => ⟨trivial, h⟩
  | _ :: _, _, h => let ⟨a, b⟩ := flatOks_left h.2; ⟨⟨h.1, a⟩, b⟩

theorem exp_ok (h : Good X s a w β cp Rd) (hE : ExpOK X s ids) {v : Value} {c : C} (hm : MC w (X.mt s β Rd) Rd (hOf s β cp) v c) (ho : expOk s ids c) (hf : flat = true → flatOk s ids c) :
    MC w (eAv X s β ids flat) X.Rd0 (hOf (expSt (renIns s (expB s ids) ids)) (renβ β ids) (rencp cp ids)) v (expC s ids c) := by
  cases c with
  | fn f caps =>
    obtain ⟨arr, rfl, hs, hr⟩ := hm
    refine ⟨arr, rfl, by simpa using hs, fun j c hj => ?_⟩
    simp only [List.getElem?_map, Option.map_eq_some_iff] at hj
    obtain ⟨c0, hc0, rfl⟩ := hj
    exact exp0_ok h hE (hr j c0 hc0) (expOk0s_get ho hc0) fun hfl => flatOk0s_get (hf hfl) hc0
  | _ => simp only [MC] at hm; exact (exp0_ok h hE hm ho hf).mc

theorem expA1_ok (h : Good X s a w β cp Rd) (hE : ExpOK X s ids) {v : Value} {x : AV} (hm : MA1 w (X.mt s β Rd) Rd (hOf s β cp) v x) (ho : expOks s ids (cellsOf x)) (hf : flat = true → flatOks s ids (cellsOf x)) :
    MA1 w (eAv X s β ids flat) X.Rd0 (hOf (expSt (renIns s (expB s ids) ids)) (renβ β ids) (rencp cp ids)) v (expA1 s ids x) := by
  cases x with
  | c x => exact exp_ok h hE hm ho.1 fun hfl => (hf hfl).1
  | agg cs =>
    obtain ⟨arr, rfl, hs, hr⟩ := hm
    refine ⟨arr, rfl, by simpa using hs, fun j c hj => ?_⟩
    simp only [List.getElem?_map, Option.map_eq_some_iff] at hj
    obtain ⟨c0, hc0, rfl⟩ := hj
    exact exp_ok h hE (hr j c0 hc0) (expOks_get ho hc0) fun hfl => flatOks_get (hf hfl) hc0
  | tup vs => exact hm.elim
  | mp _ _ => exact hm.elim

theorem catCells_get : ∀ {vs : List AV} {j : Nat} {x : AV}, expOks s ids (catCells vs) → vs[j]? = some x → expOks s ids (cellsOf x)
  | [], _, _, _, h => by simp at h
  | x :: r, 0, c, h, hj => by simp at hj; subst hj; exact (expOks_left h).1
  | x :: r, j + 1, c, h, hj => catCells_get (expOks_left h).2 (by simpa using hj)
theorem catCells_flat : ∀ {vs : List AV} {j : Nat} {x : AV}, flatOks s ids (catCells vs) → vs[j]? = some x → flatOks s ids (cellsOf x)
  | [], _, _, _, h => by simp at h
  | x :: r, 0, c, h, hj => by simp at hj; subst hj; exact (flatOks_left h).1
  | x :: r, j + 1, c, h, hj => catCells_flat (flatOks_left h).2 (by simpa using hj)

theorem expA_ok (h : Good X s a w β cp Rd) (hE : ExpOK X s ids) {v : Value} {x : AV} (hm : MA w (X.mt s β Rd) Rd (hOf s β cp) v x) (ho : expOks s ids (allCells x)) (hf : flat = true → flatOks s ids (allCells x)) :
    MA w (eAv X s β ids flat) X.Rd0 (hOf (expSt (renIns s (expB s ids) ids)) (renβ β ids) (rencp cp ids)) v (expA s ids x) := by
  cases x with
  | c x => exact expA1_ok (x := .c x) h hE hm ho hf
  | agg cs => exact expA1_ok (x := .agg cs) h hE hm ho hf
  | mp _ _ => trivial
  | tup vs =>
    obtain ⟨arr, rfl, hs, hr⟩ := hm
    refine ⟨arr, rfl, by simpa using hs, fun j x hj => ?_⟩
    simp only [List.getElem?_map, Option.map_eq_some_iff] at hj
    obtain ⟨x0, hx0, rfl⟩ := hj
    exact expA1_ok h hE (hr j x0 hx0) (catCells_get ho hx0) fun hfl => catCells_flat (hf hfl) hx0

/-- A box that is handed back. -/
theorem expB_ok (h : Good X s a w β cp Rd) (hE : ExpOK X s ids) {b : Nat} {bx : Box} (hbx : s.box b = some bx) (h1 : bx.row = true → flat = true → pureV bx.es) (h2 : bx.row = false → expOks s ids bx.es.flatten ∧ (flat = true → flatOks s ids bx.es.flatten)) :
    BoxOK w (MC w (eAv X s β ids flat) X.Rd0 (hOf (expSt (renIns s (expB s ids) ids)) (renβ β ids) (rencp cp ids))) (β b) (cp b) (expB s ids bx) := by
  have hB := h.boxes b bx hbx
  unfold expB
  cases hrow : bx.row with
  | true =>
    simp only
    rcases hB.two (.inl hrow) with hB | ⟨g, cur, k1, k2, k4, k5, k6, k7, k9, k8⟩
    · exact .inl (.inl hB)
    · refine .inl (.inr ⟨g, cur, k1, k2, k4, k5, k6, k7, k9, fun i j e c he hc => ?_⟩)
      have hr := (k8 i j e c he hc).rc (k9 hrow e (List.mem_of_getElem? he) c (List.mem_of_getElem? hc))
      cases hfl : flat with
      | true => exact (pureV_rc (h1 hrow hfl) ⟨e, List.mem_of_getElem? he, List.mem_of_getElem? hc⟩ hr).mc
      | false => exact (hr.mono (fun _ _ _ => rfl) (Nat.le_refl _) fun g _ hg => (eAv_mt h hE hg).resolve_right fun hh => by cases hh.1).mc
  | false =>
    simp only
    rcases hB with (⟨_, _, hB⟩ | ⟨g, cur, k1, k2, k4, k5, k6, k7, k9, k8⟩) | ⟨k1, k2, k0, g, es, clk, k3, k4⟩
    · rw [hrow] at hB; cases hB
    · obtain ⟨q1, q2⟩ := h2 hrow
      refine .inl (.inr ⟨g, cur, k1, k2, k4, by simpa using k5, k6, fun e he => ?_, fun h => by simp at h, fun i j e c he hc => ?_⟩)
      · simp only [List.mem_map] at he
        obtain ⟨e', he', rfl⟩ := he
        simpa using k7 e' he'
      · simp only [List.getElem?_map, Option.map_eq_some_iff] at he
        obtain ⟨e', he', rfl⟩ := he
        simp only [List.getElem?_map, Option.map_eq_some_iff] at hc
        obtain ⟨c', hc', rfl⟩ := hc
        have hmem : c' ∈ bx.es.flatten := List.mem_flatten.2 ⟨e', List.mem_of_getElem? he', List.mem_of_getElem? hc'⟩
        obtain ⟨q, hq, hqe⟩ := List.getElem_of_mem hmem
        have e1 := List.getElem?_eq_getElem hq
        rw [hqe] at e1
        exact exp_ok h hE (k8 i j e' c' he' hc') (expOks_get q1 e1) fun hfl => flatOks_get (q2 hfl) e1
    · exact .inr ⟨by simp [k1], rfl, k0, g, es, clk, k3, k4⟩
end
end Go.VE
end
section
namespace Go.VE
open Go

def resVal : List Value → Value
  | [v] => v
  | vs => .tuple vs.toArray

theorem load_val {P : Program} {tt : Nat → Option TI} {X : Cx} {s : St} {a : Act} {w : World} {β : Nat → Option Nat} {cp : Nat → Nat} {Rd : Nat → Prop} (ht : TTok P tt) (h : Good X s a w β cp Rd) {r : RV} (hr : (rvS tt s r).1) :
    ∃ v, (match r.var with | .tmp t => pure (a.tmps.getD t undef) | .cell c t => do loadVar t (← asAddr (a.tmps.getD c undef)) : Sem Value).run P w = .ok v w ∧ MA w (X.mt s β Rd) Rd (hOf s β cp) v (rvS tt s r).2 := by
  cases r with
  | tmp t => exact ⟨_, rfl, h.env t⟩
  | cell c t =>
    simp only [rvS] at hr ⊢
    have hc := h.env c
    split at hr
    · rename_i ti b n i off hti hg
      rw [hg] at hc
      split at hr
      · rename_i bx hbx
        split at hr
        · rename_i e he
          have hlt : c < s.nt := by
            rw [← h.size]
            rcases Nat.lt_or_ge c a.tmps.size with h' | h'
            · exact h'
            · obtain ⟨g, _, hv⟩ := hc.2.at rfl hbx hr.1
              rw [Array.getD_eq_getD_getElem?, Array.getElem?_eq_none h'] at hv
              simp [undef] at hv
          have hp : (loadS tt t (.c (.ptr b n i off)) s (some c)).1 := by
            unfold loadS
            simp only [hti, hbx]
            exact hr
          obtain ⟨u, h1, s', h2, h3⟩ := load_ok ht h (d := some c) hlt (x := .c (.ptr b n i off)) hc hp
          refine ⟨u, ?_, ?_⟩
          · have := h1 w Rd (Fr.refl w Rd)
            obtain ⟨g, _, hv⟩ := hc.2.at rfl hbx hr.1
            simp only [RV.var]
            rw [hv] at this ⊢
            simpa [Instr.loadAt, Instr.sureAddr, asAddr] using this
          · unfold loadS at h2
            simp only [hti, hbx, Res.mkE] at h2
            obtain ⟨e', he', rfl⟩ := h2
            rw [nthL_eq] at he
            rw [he] at he'
            cases he'
            have h4 := h3.env c
            have e1 : (a.put (some c) u).tmps.getD c undef = u := by
              have : c < a.tmps.size := by rw [h.size]; exact hlt
              simp [Act.put, this]
            rw [e1] at h4
            have e2 : (s.put (some c) (mkAV ti.kind.agg (loaded bx.row (List.take ti.sz (List.drop off e))))).get c = mkAV ti.kind.agg (loaded bx.row (List.take ti.sz (List.drop off e))) := by simp [St.put, St.get, lkE]
            rw [e2] at h4
            exact h4
        · exact hr.elim
      · exact hr.elim
    · exact hr.elim

theorem results_ok {P : Program} {tt : Nat → Option TI} {X : Cx} {s : St} {a : Act} {w : World} {β : Nat → Option Nat} {cp : Nat → Nat} {Rd : Nat → Prop} (ht : TTok P tt) (h : Good X s a w β cp Rd) {fn : Func} {ts : List RV} (hres : fn.results = (ts.map RV.var).toArray) (hr : rvOk tt s ts) :
    ∃ vs : List Value, vs.length = ts.length ∧ (results fn a.tmps).run P w = .ok (resVal vs) w ∧ ∀ j r, ts[j]? = some r → MA w (X.mt s β Rd) Rd (hOf s β cp) (vs.getD j undef) (rvS tt s r).2 := by
  have key : ∀ (F : ResultVar → Sem Value) (_ : ∀ t, F (.tmp t) = pure (a.tmps.getD t undef)) (_ : ∀ c t, F (.cell c t) = do loadVar t (← asAddr (a.tmps.getD c undef))) (l : List RV), rvOk tt s l →
      ∃ vs : List Value, vs.length = l.length ∧ ((l.map RV.var).mapM F).run P w = .ok vs w ∧ ∀ j r, l[j]? = some r → MA w (X.mt s β Rd) Rd (hOf s β cp) (vs.getD j undef) (rvS tt s r).2 := by
    intro F hF1 hF2 l
    induction l with
    | nil => intro _; exact ⟨[], rfl, rfl, by simp⟩
    | cons r l ih =>
      rintro ⟨h1, h2⟩
      obtain ⟨vs, q1, q2, q3⟩ := ih h2
      obtain ⟨v, q4, q5⟩ := load_val ht h h1
      refine ⟨v :: vs, by simp [q1], ?_, fun j r' hj => ?_⟩
      · have : (F r.var).run P w = .ok v w := by
          cases r with
          | tmp t => rw [← q4]; simp only [RV.var, hF1]
          | cell c t => rw [← q4]; simp only [RV.var, hF2]
        simp only [List.map_cons, List.mapM_cons, Sem.run_bind, this, Result.andThen_ok, q2, Sem.run_pure]
      · cases j with
        | zero => simp only [List.getElem?_cons_zero, Option.some.injEq] at hj; subst hj; simpa using q5
        | succ j => simpa using q3 j r' (by simpa using hj)
  obtain ⟨vs, q1, q2, q3⟩ := key (fun x => match x with | .tmp t => pure (a.tmps.getD t undef) | .cell c t => do loadVar t (← asAddr (a.tmps.getD c undef))) (fun _ => rfl) (fun _ _ => rfl) ts hr
  refine ⟨vs, q1, ?_, q3⟩
  unfold results
  rw [hres]
  simp only [List.mapM_toArray]
  have hm : (List.mapM (m := Sem) (fun x => match x with | .tmp t => pure (a.tmps.getD t undef) | .cell c t => do loadVar t (← asAddr (a.tmps.getD c undef))) (ts.map RV.var)).run P w = .ok vs w := q2
  have hfin : ∀ (M : Sem (List Value)), M.run P w = .ok vs w → (do
      let vs ← List.toArray <$> M
      pure (if h : vs.size = 1 then vs[0] else Value.tuple vs) : Sem Value).run P w = .ok (resVal vs) w := by
    intro M hM
    simp only [map_eq_pure_bind, Sem.run_bind, hM, Result.andThen_ok, Sem.run_pure]
    congr 1
    match vs with
    | [] => simp [resVal]
    | [v] => simp [resVal]
    | _ :: _ :: _ => simp [resVal]
  exact hfin _ hm

theorem numsOf_get : ∀ (ins : List Box) (k i : Nat), i < ins.length → (numsOf k ins)[i]? = some (k + i)
  | [], _, _, h => by simp at h
  | _ :: r, k, 0, _ => rfl
  | _ :: r, k, i + 1, h => by
    simp only [numsOf, List.getElem?_cons_succ]
    rw [numsOf_get r (k + 1) i (by simpa using h)]
    congr 1; omega
theorem numsOf_len : ∀ (ins : List Box) (k : Nat), (numsOf k ins).length = ins.length
  | [], _ => rfl
  | _ :: r, k => by simp [numsOf, numsOf_len r (k + 1)]
theorem xids_pre (s : St) (ins : List Box) (shut : Bool) (cs : List C) : ∀ i, i < ins.length → (xids s ins shut cs)[i]? = some i := by
  intro i hi
  have h1 := numsOf_get ins 0 i hi
  rw [Nat.zero_add] at h1
  unfold xids
  split
  · exact h1
  · rw [List.getElem?_append_left (by rw [numsOf_len]; exact hi)]; exact h1

section
variable {P : Program} {tt : Nat → Option TI} {tab : Nat → Option Spec} {rt : RT}

theorem ret_gives (htt : TTok P tt) {sp : Spec} {args : List AV} {ins : List Box} {ts : List RV} {fn : Func} (hres : fn.results = (ts.map RV.var).toArray) {w0 w : World} {Av Rd0 : Nat → Prop} {pk : Nat} {β0 : Nat → Option Nat} {cp0 : Nat → Nat} {s : St} {a : Act}
    (h : Rel ⟨rt, w0, Av, Rd0, entPins ins β0 cp0, [], w0, fun _ => False⟩ s a w) (hret : retW tt sp args ins ts pk s) :
    a.defers = [] ∧ ∃ v, (results fn a.tmps).run P w = .ok v w ∧ ∃ v' r bs β cp Rd', Ending.returned v = .returned v' ∧ sp.post args ins r bs ∧ Gives rt sp w0 w Av Rd0 pk ins β0 cp0 v' r bs β cp Rd' := by
  obtain ⟨β, cp, Rd, G⟩ := h
  obtain ⟨hrv, hret⟩ := hret
  obtain ⟨vals, hvl, hrun, hvm⟩ := results_ok htt G hres hrv
  refine ⟨G.defers, _, hrun, ?_⟩
  have hpre := xids_pre s ins sp.shut (allCells (resAV tt s ts))
  generalize xids s ins sp.shut (allCells (resAV tt s ts)) = ids at hret hpre
  obtain ⟨h1, h5, hbs, h2, h3, h4, h6⟩ := hret
  have hnp : s.np = ins.length := by have := G.npin; simpa [entPins] using this.symm
  have hE : ExpOK ⟨rt, w0, Av, Rd0, entPins ins β0 cp0, [], w0, fun _ => False⟩ s ids := ⟨⟨fun b hb => let ⟨bx, q1, q2, _⟩ := expBs_box hbs b hb; ⟨bx, q1, q2⟩, distN_inj _ h2⟩, fun b hb => List.mem_of_getElem? (hpre b (by omega))⟩
  have hv : MA w (Cx.mt ⟨rt, w0, Av, Rd0, entPins ins β0 cp0, [], w0, fun _ => False⟩ s β Rd) Rd (hOf s β cp) (resVal vals) (resAV tt s ts) ∨ (∃ l, resAV tt s ts = .tup l ∧ ts.length ≠ 1 ∧ ∃ x ∈ l, ((∃ l', x = .tup l') ∨ ∃ b ks, x = .mp b ks)) := by
    match ts, vals, hvl, hvm with
    | [], [], _, _ => exact .inl ⟨_, rfl, rfl, by simp⟩
    | [t], [v], _, hvm => exact .inl (hvm 0 t rfl)
    | t :: t' :: r', v :: v' :: vr, hvl, hvm =>
      by_cases htup : ∃ x ∈ (t :: t' :: r').map fun r => (rvS tt s r).2, ((∃ l', x = .tup l') ∨ ∃ b ks, x = .mp b ks)
      · exact .inr ⟨_, rfl, by simp, htup⟩
      refine .inl ⟨_, rfl, by simpa using hvl, fun j x hj => ?_⟩
      simp only [List.getElem?_map, Option.map_eq_some_iff] at hj
      obtain ⟨t2, ht2, rfl⟩ := hj
      have := hvm j t2 ht2
      have e : (v :: v' :: vr).toArray.getD j undef = (v :: v' :: vr).getD j undef := by
        rw [Array.getD_eq_getD_getElem?, List.getElem?_toArray, List.getD_eq_getElem?_getD]
      rw [e]
      cases hg : (rvS tt s t2).2 with
      | tup vs => exact absurd ⟨_, List.mem_map.2 ⟨t2, List.mem_of_getElem? ht2, rfl⟩, .inl ⟨vs, hg⟩⟩ htup
      | mp b ks => exact absurd ⟨_, List.mem_map.2 ⟨t2, List.mem_of_getElem? ht2, rfl⟩, .inr ⟨b, ks, hg⟩⟩ htup
      | c x => rw [hg] at this; exact this
      | agg cs => rw [hg] at this; exact this
  have hval : MA w (eAv ⟨rt, w0, Av, Rd0, entPins ins β0 cp0, [], w0, fun _ => False⟩ s β ids sp.flat) Rd0 (hOf (expSt (renIns s (expB s ids) ids)) (renβ β ids) (rencp cp ids)) (resVal vals) (expA s ids (resAV tt s ts)) := by
    match ts, vals, hvl, hvm, hv with
    | [], [], _, _, _ => exact ⟨_, rfl, rfl, by simp⟩
    | [t], [v], _, hvm, hv =>
      rcases hv with hv | ⟨l, _, hl, _⟩
      · exact expA_ok (flat := sp.flat) G hE hv h1 h5
      · simp at hl
    | t :: t' :: r', v :: v' :: vr, hvl, hvm, _ =>
      refine ⟨_, rfl, by simpa using hvl, fun j x hj => ?_⟩
      simp only [List.getElem?_map, Option.map_eq_some_iff] at hj
      obtain ⟨x0, ⟨t2, ht2, rfl⟩, rfl⟩ := hj
      have hm := hvm j t2 ht2
      have e : (v :: v' :: vr).toArray.getD j undef = (v :: v' :: vr).getD j undef := by
        rw [Array.getD_eq_getD_getElem?, List.getElem?_toArray, List.getD_eq_getElem?_getD]
      rw [e]
      have hj2 : ((t :: t' :: r').map fun r => (rvS tt s r).2)[j]? = some (rvS tt s t2).2 := by simp only [List.getElem?_map, ht2, Option.map_some]
      cases hg : (rvS tt s t2).2 with
      | tup vs => trivial
      | mp _ _ => trivial
      | c x =>
        rw [hg] at hm hj2
        exact expA1_ok (x := .c x) G hE hm (catCells_get h1 hj2) fun hfl => catCells_flat (h5 hfl) hj2
      | agg cs =>
        rw [hg] at hm hj2
        exact expA1_ok (x := .agg cs) G hE hm (catCells_get h1 hj2) fun hfl => catCells_flat (h5 hfl) hj2
  rw [expBoxes_ren] at h6
  have hblen : (renIns s (expB s ids) ids).length = ids.length := by simp [renIns]
  refine ⟨_, _, _, renβ β ids, rencp cp ids, Rd0, rfl, h6, ?_⟩
  have hsub : ∀ g, eAv ⟨rt, w0, Av, Rd0, entPins ins β0 cp0, [], w0, fun _ => False⟩ s β ids false g → Cx.mt ⟨rt, w0, Av, Rd0, entPins ins β0 cp0, [], w0, fun _ => False⟩ s β Rd g := fun g hg => (eAv_mt G hE hg).resolve_right fun hh => by cases hh.1
  exact {
    keeps := G.keeps.mono fun g _ hg => by
      rcases hg with hg | ⟨i, q, hq, hqg⟩
      · exact .inl hg
      · obtain ⟨bx, p1, rfl⟩ := entPins_get hq
        exact .inr ⟨i, bx, by rw [exp_box]; exact p1, hqg⟩
    few := by rw [hblen]; exact h3
    long := by
      rw [hblen]
      rcases Nat.lt_or_ge ids.length ins.length with hl | hl
      · have := hpre ids.length hl
        rw [List.getElem?_eq_none (Nat.le_refl _)] at this; cases this
      · exact hl
    rd := fun _ h => h
    rdge := fun _ h => .inl h
    same := G.rdsame
    rdok := fun g hg => by
      obtain ⟨k1, bv, p, bs, k2, k3, k4, k5⟩ := G.rdok g (G.rd0 g hg)
      exact ⟨k1, bv, p, bs, k2, Nat.le_trans k3 h4, k4, k5.mono (fun _ _ _ => rfl) (Nat.le_refl _) fun g _ hg => hsub g hg⟩
    rdnew := fun g h1 h2 => absurd h1 h2
    value := hval
    boxes := fun j bx hj => by
      obtain ⟨b, bx0, k1, k2, k3, rfl, k5, k6⟩ := ren_get (β := β) (cp := cp) hE.ren hj
      obtain ⟨bx1, q1, q2, q3, q4⟩ := expBs_box hbs b (List.mem_of_getElem? k1)
      rw [k2] at q1
      cases q1
      refine ⟨by rw [(expB_fit s ids bx0).2.2.1]; exact k3, ?_⟩
      rw [k5, k6]
      exact expB_ok (flat := sp.flat) G hE k2 q3 q4
    org := fun j bx g hj hg => by
      obtain ⟨b, bx0, k1, k2, k3, rfl, k5, k6⟩ := ren_get (β := β) (cp := cp) hE.ren hj
      rw [k5] at hg
      refine ⟨?_, fun hr => G.own_rd g ⟨b, bx0, k2, hg⟩ (G.rd0 g hr)⟩
      rcases G.org b bx0 g k2 hg with h7 | ⟨q, h7, h8⟩
      · exact .inl h7
      · obtain ⟨bx1, p1, rfl⟩ := entPins_get h7
        have hb := (List.getElem?_eq_some_iff.1 p1).1
        have := distN_inj _ h2 j b b k1 (hpre b hb)
        subst this
        exact .inr ⟨hb, h8⟩
    inj := fun j j' bx bx' g hj hj' hg hg' => by
      obtain ⟨b, bx0, k1, k2, k3, _, k5, k6⟩ := ren_get (β := β) (cp := cp) hE.ren hj
      obtain ⟨b', bx0', l1, l2, l3, _, l5, l6⟩ := ren_get (β := β) (cp := cp) hE.ren hj'
      rw [k5] at hg
      rw [l5] at hg'
      have := G.inj b b' bx0 bx0' g k2 l2 hg hg'
      subst this
      exact distN_inj _ h2 j j' b k1 l1
    pins := fun i bx0 bx hi hj => by
      obtain ⟨b, bx1, k1, k2, k3, rfl, k5, k6⟩ := ren_get (β := β) (cp := cp) hE.ren hj
      rw [hpre i (List.getElem?_eq_some_iff.1 hi).1] at k1
      cases k1
      obtain ⟨e1, e2, _⟩ := expB_fit s ids bx1
      rw [e1, e2, k5, k6]
      exact (G.pin i _ (entPins_of β0 cp0 hi)).2 bx1 k2 }

/-- A FUNCTION'S CONTRACT, FROM ITS TEXT. -/
theorem fn_sat (hm : P.follows .mixedOrders = true) (htt : TTok P tt) (htab : TabOK P rt tab) {f : FuncId} {fn : Func} {c : Code} (hf : P.funcs[f]? = some fn) (hb : fn.body = some c) {ts : List RV} (hres : fn.results = (ts.map RV.var).toArray) {nt : Nat} (hnt : fn.ntmps = nt)
    {sq : Nat → Bool} (hsq : allDB (dwOK tab sq) c = true)
    {sp : Spec} (body : ∀ args ins pk, sp.pre args ins → pk + sp.cost ≤ pickLimit → args.length ≤ nt ∧ runW tt tab Ent (dwS tt tab sq) c (entSt nt args ins pk) (retQ tt sp args ins ts pk)) : Sat P rt f sp := by
  intro w Av Rd pk args vs ins β0 cp0 T hpre hpk
  obtain ⟨hlen, hrun⟩ := body args ins pk hpre hpk
  subst hnt
  refine calls_of_wp hf hb ?_
  have hG := good_entry (nt := fn.ntmps) T hlen
  refine runW_sound (X := ⟨rt, w, Av, Rd, entPins ins β0 cp0, [], w, fun _ => False⟩) htt htab c (dwS_ok hm htt htab hsq) _ _ _ _ _ ⟨_, _, _, hG⟩ hrun ⟨fun s a w' h1 h2 => ?_, fun i s a w' h1 h2 => h1.elim, fun s a w' h1 h2 => ?_⟩
  · exact ret_gives htt hres h2 h1
  · exact ret_gives htt hres h2 h1
end
end Go.VE
end
section
namespace Go.VE
open Go

def vB : Value → Value → Bool
  | .int k n, .int k' n' => decide (k = k') && decide (n = n')
  | .bool b, .bool b' => b == b'
  | .string b, .string b' => decide (b.data = b'.data)
  | .slice none 0 0, .slice none 0 0 => true
  | .map none, .map none => true
  | .pointer none, .pointer none => true
  | .nilFunc, .nilFunc => true
  | .nilIface, .nilIface => true
  | _, _ => false
theorem vB_eq {a b : Value} (h : vB a b = true) : a = b ∧ a.oneCell' = true := by
  unfold vB at h
  split at h
  · simp only [Bool.and_eq_true, decide_eq_true_eq] at h
    obtain ⟨rfl, rfl⟩ := h
    exact ⟨rfl, rfl⟩
  · rename_i b b'
    have h' := eq_of_beq h
    subst h'
    exact ⟨rfl, rfl⟩
  · rename_i b b'
    have h' : b.data = b'.data := by simpa using h
    cases b; cases b'
    simp only at h'
    subst h'
    exact ⟨rfl, rfl⟩
  · exact ⟨rfl, rfl⟩
  · exact ⟨rfl, rfl⟩
  · exact ⟨rfl, rfl⟩
  · exact ⟨rfl, rfl⟩
  · exact ⟨rfl, rfl⟩
  · cases h
def vsB : List Value → List Value → Bool
  | [], [] => true
  | a :: r, b :: r' => vB a b && vsB r r'
  | _, _ => false
theorem vsB_eq : ∀ {l r : List Value}, vsB l r = true → l = r ∧ ∀ v ∈ r, v.oneCell' = true
  | [], [], _ => ⟨rfl, by simp⟩
  | a :: l, b :: r, h => by
    simp only [vsB, Bool.and_eq_true] at h
    obtain ⟨h1, h2⟩ := vB_eq h.1
    obtain ⟨h3, h4⟩ := vsB_eq h.2
    subst h1 h3
    exact ⟨rfl, by simpa using ⟨h2, h4⟩⟩
  | [], _ :: _, h => by cases h
  | _ :: _, [], h => by cases h

def fsB : List (Nat × Nat) → List (Nat × Nat) → Bool
  | [], [] => true
  | a :: r, b :: r' => a.1 == b.1 && a.2 == b.2 && fsB r r'
  | _, _ => false
theorem fsB_eq : ∀ {l r : List (Nat × Nat)}, fsB l r = true → l = r
  | [], [], _ => rfl
  | a :: l, b :: r, h => by
    simp only [fsB, Bool.and_eq_true, beq_iff_eq] at h
    obtain ⟨⟨h1, h2⟩, h3⟩ := h
    rw [fsB_eq h3]
    cases a; cases b
    simp only at h1 h2
    subst h1 h2
    rfl
  | [], _ :: _, h => by cases h
  | _ :: _, [], h => by cases h

def descB (P : Program) : TypeDesc → TK → Bool
  | .int k, .int k' => decide (k = k')
  | .bool, .bool => true
  | .string, .string => true
  | .slice e, .slice e' => e == e'
  | .map k _, .map k' => k == k'
  | .struct fields, .struct fs => fsB (fields.toList.map (fun f => (f.type, f.offset))) (fs.map (fun x => (x.1, x.2.1))) && fs.all fun x => x.2.2 != 0 && match P.info? x.1 with
    | some j => j.size == x.2.2
    | none => false
  | .pointer _, .other => true
  | .func _ _ _, .other => true
  | .map _ _, .other => true
  | .interface _, .other => true
  | .interface _, .iface => true
  | _, _ => false
theorem descB_ok {P : Program} {d : TypeDesc} {k : TK} (h : descB P d k = true) : descOK P d k := by
  unfold descB at h
  split at h
  · simpa [descOK] using h
  · trivial
  · trivial
  · simpa [descOK] using h
  · simpa [descOK] using h
  · simp only [Bool.and_eq_true, List.all_eq_true] at h
    refine ⟨fsB_eq h.1, fun x hx => ?_⟩
    obtain ⟨h1, h2⟩ := by simpa using h.2 x hx
    refine ⟨h1, ?_⟩
    split at h2
    · rename_i j hj; exact ⟨j, hj, by simpa using h2⟩
    · cases h2
  · trivial
  · trivial
  · trivial
  · trivial
  · trivial
  · cases h

def tiB (P : Program) (t : Nat) (x : TI) : Bool :=
  (match P.info? t with
  | some i => i.size == x.sz && i.bytes == x.bytes && match i.zero with
    | some z => vsB z.cells.toList x.zv
    | none => false
  | none => false) &&
  (match P.underlying t with
  | some d => descB P d x.kind
  | none => false) && x.zv.length == x.sz && (x.kind.agg || x.sz == 1)

def EqvOK (P : Program) (t n : Nat) : Prop := P.eqGuardType P.depth t = false ∧ ∀ (w : World) (as bs : List Int), as.length = n → bs.length = n →
    (Op.equalIn 10000 t (.agg (as.map (Value.int .i64)).toArray) (.agg (bs.map (Value.int .i64)).toArray)).run P w = .ok (decide (as = bs)) w ∧ (Instr.checkKey false 10000 t (.agg (as.map (Value.int .i64)).toArray)).run P w = .ok () w

theorem tiB_ok {P : Program} {t : Nat} {x : TI} (h : tiB P t x = true) (he : x.eq = true → EqvOK P t x.sz) : TIok P t x := by
  simp only [tiB, Bool.and_eq_true, Bool.or_eq_true, beq_iff_eq] at h
  obtain ⟨⟨⟨h1, h2⟩, h3⟩, h4⟩ := h
  split at h1
  · rename_i i hi
    simp only [Bool.and_eq_true, beq_iff_eq] at h1
    obtain ⟨⟨k1, k2⟩, k3⟩ := h1
    split at k3
    · rename_i z hz
      obtain ⟨q1, q2⟩ := vsB_eq k3
      refine ⟨⟨i, z, hi, k1, k2, hz, q1⟩, ?_, h3, q2, fun hk => h4.resolve_left (by rw [hk]; simp), he⟩
      split at h2
      · rename_i d hd; exact ⟨d, hd, descB_ok h2⟩
      · cases h2
    · cases k3
  · cases h1

def ttOf : List (Nat × TI) → Nat → Option TI
  | [], _ => none
  | (k, x) :: r, t => bif k == t then some x else ttOf r t
theorem ttOf_ok {P : Program} : ∀ (l : List (Nat × TI)), (∀ p ∈ l, TIok P p.1 p.2) → TTok P (ttOf l)
  | [], _, t, x, h => by cases h
  | (k, y) :: r, hl, t, x, h => by
    simp only [ttOf] at h
    cases hk : k == t with
    | true =>
      rw [hk, cond_true, Option.some.injEq] at h
      subst h
      have := eq_of_beq hk
      subst this
      exact hl (k, y) (by simp)
    | false => rw [hk, cond_false] at h; exact ttOf_ok r (fun p hp => hl p (by simp [hp])) t x h
theorem tts_ok {P : Program} {l : List (Nat × TI)} (h : l.all (fun p => tiB P p.1 p.2) = true) (he : ∀ p ∈ l, p.2.eq = true → EqvOK P p.1 p.2.sz) : TTok P (ttOf l) :=
  ttOf_ok l fun p hp => tiB_ok (List.all_eq_true.1 h p hp) (he p hp)

def rowB (P : Program) (f : FuncId) : Bool :=
  match P.funcs[f]? with
  | some fn => !(fn.name == "runtime.NumGoroutine") && !fn.body.isNone
  | none => false
theorem rowB_ok {P : Program} {f : FuncId} (h : rowB P f = true) : FnRow P f := by
  unfold rowB at h
  split at h
  · rename_i fn hfn
    simp only [Bool.and_eq_true, Bool.not_eq_true'] at h
    exact ⟨fn, hfn, h.1, h.2⟩
  · cases h
end Go.VE
end
section
namespace Go.VE
open Go

abbrev iarr (xs : List Int) : Array Value := (xs.map (Value.int .i64)).toArray

def FieldEq (P : Program) (d t m : Nat) : Prop := ∀ (w : World) (xs ys : List Int) (off : Nat), off + m ≤ xs.length → off + m ≤ ys.length → ∃ va vb, (part t (iarr xs) off).run P w = .ok va w ∧ (part t (iarr ys) off).run P w = .ok vb w ∧
  (Op.equalIn d t va vb).run P w = .ok (decide ((xs.drop off).take m = (ys.drop off).take m)) w ∧ (Instr.checkKey false d t va).run P w = .ok () w

def EqI (P : Program) (d t n : Nat) : Prop := ∀ (w : World) (as bs : List Int), as.length = n → bs.length = n → (Op.equalIn d t (.agg (iarr as)) (.agg (iarr bs))).run P w = .ok (decide (as = bs)) w ∧ (Instr.checkKey false d t (.agg (iarr as))).run P w = .ok () w

section
variable {P : Program}

theorem fieldEq_int {d t : Nat} {x : TI} (hT : TIok P t x) (hk : x.kind = .int .i64) : FieldEq P (d + 1) t 1 := by
  intro w xs ys off h1 h2
  have ha := hT.run_isAgg (w := w)
  rw [hk] at ha
  obtain ⟨a, hxa⟩ : ∃ a, xs[off]? = some a := ⟨_, List.getElem?_eq_getElem (by omega)⟩
  obtain ⟨b, hyb⟩ : ∃ b, ys[off]? = some b := ⟨_, List.getElem?_eq_getElem (by omega)⟩
  obtain ⟨dd, hu, hdk⟩ := hT.und
  rw [hk] at hdk
  have hu' : P.underlying t = some (.int .i64) := by cases dd <;> first | exact hdk.elim | (simp only [descOK] at hdk; subst hdk; exact hu)
  refine ⟨.int .i64 a, .int .i64 b, ?_, ?_, ?_, ?_⟩
  · unfold part
    rw [Sem.run_bind, ha]
    simp [TK.agg, hxa]
  · unfold part
    rw [Sem.run_bind, ha]
    simp [TK.agg, hyb]
  · unfold Op.equalIn
    rw [Sem.run_bind, run_underlying hu' w]
    have e1 : (xs.drop off).take 1 = [a] := by
      have hl := (List.getElem?_eq_some_iff.1 hxa).1
      rw [List.drop_eq_getElem_cons hl, List.take_succ_cons, List.take_zero, (List.getElem?_eq_some_iff.1 hxa).2]
    have e2 : (ys.drop off).take 1 = [b] := by
      have hl := (List.getElem?_eq_some_iff.1 hyb).1
      rw [List.drop_eq_getElem_cons hl, List.take_succ_cons, List.take_zero, (List.getElem?_eq_some_iff.1 hyb).2]
    rw [e1, e2]
    simp
    rfl
  · unfold Instr.checkKey
    rw [Sem.run_bind, run_underlying hu' w]
    rfl

theorem fieldEq_struct {d t : Nat} {x : TI} (hT : TIok P t x) (hk : x.kind.agg = true) (h : EqI P d t x.sz) : FieldEq P d t x.sz := by
  intro w xs ys off h1 h2
  have ha := hT.run_isAgg (w := w)
  rw [hk] at ha
  have hs := hT.run_sizeOf (w := w)
  have hp : ∀ zs : List Int, off + x.sz ≤ zs.length → (part t (iarr zs) off).run P w = .ok (.agg (iarr ((zs.drop off).take x.sz))) w := by
    intro zs hz
    unfold part
    rw [Sem.run_bind, ha]
    simp only [Result.andThen_ok, if_true, Sem.run_bind, hs, Sem.run_pure]
    congr 2
    simp [iarr, List.map_take, List.map_drop]
  obtain ⟨q1, q2⟩ := h w ((xs.drop off).take x.sz) ((ys.drop off).take x.sz) (by simp; omega) (by simp; omega)
  exact ⟨_, _, hp xs h1, hp ys h2, q1, q2⟩

/-- The fields lie in a row from 'o' to 'n'. -/
def Chain (P : Program) (d n : Nat) : Nat → List Field → Prop
  | o, [] => o = n
  | o, f :: r => f.name ≠ "_" ∧ f.offset = o ∧ ∃ m, o + m ≤ n ∧ FieldEq P d f.type m ∧ Chain P d n (o + m) r

theorem loop_ok {d n : Nat} (w : World) (xs ys : List Int) (hx : xs.length = n) (hy : ys.length = n) : ∀ (L : List Field) (o : Nat), Chain P d n o L →
    (do
      let r ← forIn L ((none : Option Bool), ()) (fun f (_ : Option Bool × Unit) => (do
        if f.name ≠ "_" then
          if !(← Op.equalIn d f.type (← part f.type (iarr xs) f.offset) (← part f.type (iarr ys) f.offset)) then pure (ForInStep.done (some false, ()))
          else pure (ForInStep.yield (none, ()))
        else pure (ForInStep.yield (none, ())) : Sem (ForInStep (Option Bool × Unit))))
      match r.1 with
      | some r => pure r
      | none => pure true : Sem Bool).run P w = .ok (decide (xs.drop o = ys.drop o)) w
  | [], o, h => by
    have : o = n := h
    subst this
    simp [List.drop_eq_nil_of_le (Nat.le_of_eq hx), List.drop_eq_nil_of_le (Nat.le_of_eq hy)]
  | f :: L, o, h => by
    obtain ⟨h1, rfl, m, h2, h3, h4⟩ := h
    obtain ⟨va, vb, p1, p2, p3, _⟩ := h3 w xs ys f.offset (by omega) (by omega)
    have ih := loop_ok w xs ys hx hy L (f.offset + m) h4
    have split : (xs.drop f.offset = ys.drop f.offset) ↔ ((xs.drop f.offset).take m = (ys.drop f.offset).take m ∧ xs.drop (f.offset + m) = ys.drop (f.offset + m)) := by
      constructor
      · intro e
        rw [← List.drop_drop, ← List.drop_drop, e]
        exact ⟨rfl, rfl⟩
      · rintro ⟨e1, e2⟩
        rw [← List.take_append_drop m (xs.drop f.offset), ← List.take_append_drop m (ys.drop f.offset), e1, List.drop_drop, List.drop_drop, e2]
    simp only [List.forIn_cons, ne_eq, h1, not_false_eq_true, if_true, Sem.run_bind, p1, p2, p3, Result.andThen_ok]
    by_cases he : (xs.drop f.offset).take m = (ys.drop f.offset).take m
    · simp only [he, decide_true, Bool.not_true, Bool.false_eq_true, if_false, Sem.run_pure, Result.andThen_ok]
      simp only [Sem.run_bind] at ih
      rw [ih]
      congr 1
      simp only [split, he, true_and]
    · simp only [he, decide_false, Bool.not_false, if_true, Sem.run_pure, Result.andThen_ok]
      congr 1
      simp only [split, he, false_and, decide_false]

theorem loop_ck {d n : Nat} (w : World) (xs : List Int) (hx : xs.length = n) : ∀ (L : List Field) (o : Nat), Chain P d n o L →
    (forIn L PUnit.unit (fun f (_ : PUnit) => (do
        if f.name ≠ "_" then
          Instr.checkKey false d f.type (← part f.type (iarr xs) f.offset)
          pure (ForInStep.yield PUnit.unit)
        else pure (ForInStep.yield PUnit.unit) : Sem (ForInStep PUnit))) : Sem PUnit).run P w = .ok PUnit.unit w
  | [], _, _ => by simp
  | f :: L, o, h => by
    obtain ⟨h1, rfl, m, h2, h3, h4⟩ := h
    obtain ⟨va, vb, p1, p2, p3, p4⟩ := h3 w xs xs f.offset (by omega) (by omega)
    have ih := loop_ck w xs hx L (f.offset + m) h4
    simp only [List.forIn_cons, ne_eq, h1, not_false_eq_true, if_true, Sem.run_bind, p1, p4, Result.andThen_ok, Sem.run_pure]
    exact ih

theorem eqI_struct {t d n : Nat} {fields : Array Field} (hu : P.underlying t = some (.struct fields)) (hs : P.stoodInHeld t = false) (hc : Chain P d n 0 fields.toList) : EqI P (d + 1) t n := by
  intro w as bs ha hb
  refine ⟨?_, ?_⟩
  rotate_left
  · unfold Instr.checkKey
    rw [Sem.run_bind, run_underlying hu w]
    have := loop_ck w as ha fields.toList 0 hc
    simp only [Result.andThen_ok]
    obtain ⟨fields⟩ := fields
    simpa using this
  unfold Op.equalIn
  rw [Sem.run_bind, run_underlying hu w]
  have := loop_ok w as bs ha hb fields.toList 0 hc
  simp only [List.drop_zero] at this
  simp only [Result.andThen_ok]
  rw [← this]
  obtain ⟨fields⟩ := fields
  simp [hs]
  refine congr (congrArg _ ?_) ?_
  · rfl
  · funext a w'
    obtain ⟨a, _⟩ := a
    cases a <;> rfl
theorem eqv_of {t n d : Nat} {x : TI} (_h : x.sz = n) (hg : P.eqGuardType P.depth t = false) (he : EqI P (d + 1) t n) (hd : d + 1 = 10000) : EqvOK P t n :=
  ⟨hg, fun w as bs ha hb => hd ▸ he w as bs ha hb⟩

def chB (n : Nat) : Nat → List Field → List (Nat × Nat) → Bool
  | o, [], [] => o == n
  | o, f :: r, x :: r' => f.name != "_" && f.type == x.1 && f.offset == o && decide (o + x.2 ≤ n) && chB n (o + x.2) r r'
  | _, _, _ => false
theorem chB_ok {d n : Nat} : ∀ (L : List Field) (o : Nat) (l : List (Nat × Nat)), chB n o L l = true → (∀ x ∈ l, FieldEq P d x.1 x.2) → Chain P d n o L
  | [], o, [], h, _ => by simpa [chB, Chain] using h
  | f :: r, o, x :: r', h, hl => by
    simp only [chB, Bool.and_eq_true, bne_iff_ne, beq_iff_eq, decide_eq_true_eq] at h
    obtain ⟨⟨⟨⟨h1, h2⟩, h3⟩, h4⟩, h5⟩ := h
    exact ⟨h1, h3, x.2, h4, h2 ▸ hl x (by simp), chB_ok r _ r' h5 fun y hy => hl y (by simp [hy])⟩
  | [], _, _ :: _, h, _ => by cases h
  | _ :: _, _, [], h, _ => by cases h
def eqB (P : Program) (t n : Nat) (l : List (Nat × Nat)) : Bool :=
  match P.underlying t with
  | some (.struct fs) => !P.stoodInHeld t && chB n 0 fs.toList l
  | _ => false
theorem eqB_ok {t n d : Nat} {l : List (Nat × Nat)} (h : eqB P t n l = true) (hl : ∀ x ∈ l, FieldEq P d x.1 x.2) : EqI P (d + 1) t n := by
  unfold eqB at h
  split at h
  · rename_i fs hu
    simp only [Bool.and_eq_true, Bool.not_eq_true'] at h
    exact eqI_struct hu h.1 (chB_ok _ _ _ h.2 hl)
  · cases h
end
end Go.VE
end
section
namespace Go.VE
open Go
section
variable (tt : Nat → Option TI) (tab : Nat → Option Spec) (nid : Nat) (d : Option Nat) (t : Nat) (p : String) (af : Array Edge) (g : Option (Nat × Bool)) (s : St)
theorem opS_move (x : Operand) : opS tt tab nid ⟨d, .move x, t, p, af, g⟩ s = Res.mk1 True (s.put d (s.ev x)) := rfl
theorem opS_assign (x : Operand) : opS tt tab nid ⟨d, .assign x, t, p, af, g⟩ s = assignS tt nid (s.ev x) (tt t) s d := rfl
theorem opS_pick (c x y : Operand) : opS tt tab nid ⟨d, .pick c x y, t, p, af, g⟩ s = pickS (s.ev c) (s.ev x) (s.ev y) s d := rfl
theorem opS_alloc (u : Nat) : opS tt tab nid ⟨d, .alloc u, t, p, af, g⟩ s = allocS nid (tt u) u s d := rfl
theorem opS_box (u : Nat) (x : Operand) : opS tt tab nid ⟨d, .box u x, t, p, af, g⟩ s = boxS nid u (cellsOf (s.ev x)) s d := rfl
theorem opS_build (u : Nat) (l : List (Nat × Operand)) : opS tt tab nid ⟨d, .build u ⟨l⟩, t, p, af, g⟩ s = buildS tt u (l.map fun p => (p.1, s.ev p.2)) s d := rfl
theorem opS_buildSlice (u n : Nat) (l : List (Nat × Operand)) : opS tt tab nid ⟨d, .buildSlice u n ⟨l⟩, t, p, af, g⟩ s = buildSliceS tt nid u n (l.map fun p => (p.1, s.ev p.2)) s d := rfl
theorem opS_load (u : Nat) (x : Operand) : opS tt tab nid ⟨d, .load u x, t, p, af, g⟩ s = loadS tt u (s.ev x) s d := rfl
theorem opS_store (u : Nat) (x y : Operand) : opS tt tab nid ⟨d, .store u x y, t, p, af, g⟩ s = storeS tt u (s.ev x) (s.ev y) s d := rfl
theorem opS_nilCheck (x : Operand) : opS tt tab nid ⟨d, .nilCheck x, t, p, af, g⟩ s = nilS (s.ev x) s d := rfl
theorem opS_binOp (op : BinOp) (u : Nat) (x y : Operand) (u' : Nat) : opS tt tab nid ⟨d, .binOp op u x y u', t, p, af, g⟩ s = binS tt op u (isNilK y) (s.ev x) (s.ev y) s d := rfl
theorem opS_unOp (op : UnOp) (u : Nat) (x : Operand) : opS tt tab nid ⟨d, .unOp op u x, t, p, af, g⟩ s = unS op (s.ev x) s d := rfl
theorem opS_convert (u u' : Nat) (x : Operand) : opS tt tab nid ⟨d, .convert u u' x, t, p, af, g⟩ s = convertS tt u u' (s.ev x) s d := rfl
theorem opS_makeMap (u : Nat) : opS tt tab nid ⟨d, .makeMap u none, t, p, af, g⟩ s = makeMapS nid u s d := rfl
theorem opS_mapUpdate (u : Nat) (m k x : Operand) : opS tt tab nid ⟨none, .mapUpdate u m k x, t, p, af, g⟩ s = mapUpdS tt u (s.ev m) (s.ev k) (s.ev x) s := rfl
theorem opS_makeSlice (u : Nat) (x y : Operand) : opS tt tab nid ⟨d, .makeSlice u x y, t, p, af, g⟩ s = makeSliceS tt nid u (s.ev x) (s.ev y) s d := rfl
theorem opS_fieldAddr (u : Nat) (x : Operand) (f : Nat) : opS tt tab nid ⟨d, .fieldAddr u x f, t, p, af, g⟩ s = fieldAddrS tt u (s.ev x) f s d := rfl
theorem opS_field (u : Nat) (x : Operand) (f : Nat) : opS tt tab nid ⟨d, .field u x f, t, p, af, g⟩ s = fieldS tt u (s.ev x) f s d := rfl
theorem opS_indexAddr (u : Nat) (x y : Operand) : opS tt tab nid ⟨d, .indexAddr u x y, t, p, af, g⟩ s = indexAddrS tt u (s.ev x) (s.ev y) s d := rfl
theorem opS_index (u : Nat) (x y : Operand) : opS tt tab nid ⟨d, .index u x y, t, p, af, g⟩ s = indexS tt u (s.ev x) (s.ev y) s d := rfl
theorem opS_extract (x : Operand) (j : Nat) : opS tt tab nid ⟨d, .extract x j, t, p, af, g⟩ s = extractS (s.ev x) j s d := rfl
theorem opS_slice (u : Nat) (x : Operand) (lo hi mx : Option Operand) : opS tt tab nid ⟨d, .slice u x lo hi mx, t, p, af, g⟩ s = sliceS tt u (s.ev x) (lo.map s.ev) (hi.map s.ev) (mx.map s.ev) s d := rfl
theorem opS_len (x : Operand) (u : Nat) : opS tt tab nid ⟨d, .call ⟨.builtin .len, ⟨[x]⟩, ⟨[u]⟩⟩, t, p, af, g⟩ s = lenS tt u (s.ev x) s d := rfl
theorem opS_append (x y : Operand) (u u' : Nat) : opS tt tab nid ⟨d, .call ⟨.builtin .append, ⟨[x, y]⟩, ⟨[u, u']⟩⟩, t, p, af, g⟩ s = appendS tt nid u u' (s.ev x) (s.ev y) s d := rfl
theorem opS_min (l : List Operand) (ts : Array Nat) : opS tt tab nid ⟨d, .call ⟨.builtin .min, ⟨l⟩, ts⟩, t, p, af, g⟩ s = minS false (l.map s.ev) s d := rfl
theorem opS_copy (x y : Operand) (u u' : Nat) : opS tt tab nid ⟨d, .call ⟨.builtin .copy, ⟨[x, y]⟩, ⟨[u, u']⟩⟩, t, p, af, g⟩ s = copyS tt u (s.ev x) (s.ev y) s d := rfl
theorem opS_callv (u : Nat) (l : List Operand) (ts : Array Nat) : opS tt tab nid ⟨d, .call ⟨.value (.tmp u), ⟨l⟩, ts⟩, t, p, af, g⟩ s = callV tab nid (s.get u) (l.map s.ev) s d := rfl
theorem opS_makeFunc (f : FuncId) (l : List Operand) : opS tt tab nid ⟨d, .makeFunc (.func f) ⟨[]⟩ ⟨l⟩, t, p, af, g⟩ s = makeFuncS f (l.map s.ev) s d := rfl
theorem opS_max (l : List Operand) (ts : Array Nat) : opS tt tab nid ⟨d, .call ⟨.builtin .max, ⟨l⟩, ts⟩, t, p, af, g⟩ s = minS true (l.map s.ev) s d := rfl
theorem opS_call (f : Nat) (l : List Operand) (ts : Array Nat) : opS tt tab nid ⟨d, .call ⟨.value (.func f), ⟨l⟩, ts⟩, t, p, af, g⟩ s = callS tab nid f (l.map s.ev) s d := rfl
end

def tabOf : List (Nat × Spec) → Nat → Option Spec
  | [], _ => none
  | (k, x) :: r, t => bif k == t then some x else tabOf r t
theorem tabOf_nil {P : Program} {rt : RT} : TabOK P rt (tabOf []) := fun _ _ h => by cases h
theorem tabOf_cons {P : Program} {rt : RT} {f : Nat} {sp : Spec} {l : List (Nat × Spec)} (h1 : rowB P f = true) (h2 : Sat P rt f sp) (h3 : TabOK P rt (tabOf l)) : TabOK P rt (tabOf ((f, sp) :: l)) := by
  intro k x h
  simp only [tabOf] at h
  cases hk : f == k with
  | true =>
    rw [hk, cond_true, Option.some.injEq] at h
    subst h
    have := eq_of_beq hk
    subst this
    exact ⟨rowB_ok h1, h2⟩
  | false => rw [hk, cond_false] at h; exact h3 k x h

end Go.VE
namespace Go.VE
/-- A contract, by a family of arguments. -/
def famPre {α : Type} (dec : List AV → Option α) (A : α → List AV) (pre : α → Prop) (args : List AV) : Prop :=
  match dec args with
  | some x => args = A x ∧ pre x
  | none => False
def famPost {α : Type} (dec : List AV → Option α) (post : α → AV → List Box → Prop) (args : List AV) (r : AV) (bs : List Box) : Prop :=
  match dec args with
  | some x => post x r bs
  | none => True
def famSpec {α : Type} (A : α → List AV) (dec : List AV → Option α) (pre : α → Prop) (post : α → AV → List Box → Prop) (cost : Nat) (flat : Bool) : Spec :=
  ⟨fun args ins => ins = [] ∧ famPre dec A pre args, fun args _ r bs => famPost dec post args r bs, cost, flat, [], false⟩
/-- The same, with rows that are handed back read only. -/
def famSpecS {α : Type} (A : α → List AV) (dec : List AV → Option α) (pre : α → Prop) (post : α → AV → List Box → Prop) (cost : Nat) (flat : Bool) : Spec :=
  ⟨fun args ins => ins = [] ∧ famPre dec A pre args, fun args _ r bs => famPost dec post args r bs, cost, flat, [], true⟩
/-- With boxes that are handed over. -/
def famPreM {α : Type} (dec : List AV → List Box → Option α) (A : α → List AV) (B : α → List Box) (pre : α → Prop) (args : List AV) (ins : List Box) : Prop :=
  match dec args ins with
  | some x => args = A x ∧ ins = B x ∧ pre x
  | none => False
def famPostM {α : Type} (dec : List AV → List Box → Option α) (post : α → AV → List Box → Prop) (args : List AV) (ins : List Box) (r : AV) (bs : List Box) : Prop :=
  match dec args ins with
  | some x => post x r bs
  | none => True
def famSpecM {α : Type} (A : α → List AV) (B : α → List Box) (dec : List AV → List Box → Option α) (pre : α → Prop) (post : α → AV → List Box → Prop) (cost : Nat) (flat : Bool) (mt : List Bool) (shut : Bool) : Spec :=
  ⟨fun args ins => famPreM dec A B pre args ins, fun args ins r bs => famPostM dec post args ins r bs, cost, flat, mt, shut⟩
theorem famPre_ex {α : Type} {dec : List AV → Option α} {A : α → List AV} {pre : α → Prop} {args : List AV} (h : famPre dec A pre args) : ∃ x, args = A x ∧ pre x ∧ dec (A x) = some x := by
  unfold famPre at h
  split at h
  · rename_i x hx
    obtain ⟨rfl, h2⟩ := h
    exact ⟨x, rfl, h2, hx⟩
  · exact h.elim
theorem famPreM_ex {α : Type} {dec : List AV → List Box → Option α} {A : α → List AV} {B : α → List Box} {pre : α → Prop} {args : List AV} {ins : List Box} (h : famPreM dec A B pre args ins) : ∃ x, args = A x ∧ ins = B x ∧ pre x ∧ dec (A x) (B x) = some x := by
  unfold famPreM at h
  split at h
  · rename_i x hx
    obtain ⟨rfl, rfl, h2⟩ := h
    exact ⟨x, rfl, rfl, h2, hx⟩
  · exact h.elim
end Go.VE
end
section
namespace Go.VE
open Go

theorem lkB_mem : ∀ (hp : List (Nat × Option Box)) (b : Nat) (x : Option Box), lkB hp b = some x → (b, x) ∈ hp
  | [], _, _, h => by cases h
  | (k, y) :: r, b, x, h => by
    simp only [lkB] at h
    cases hk : k == b with
    | true =>
      rw [hk, cond_true, Option.some.injEq] at h
      subst h
      have := eq_of_beq hk
      subst this
      simp
    | false => rw [hk, cond_false] at h; exact List.mem_cons_of_mem _ (lkB_mem r b x h)

/-! A state that knows less: boxes may be numbered anew, rows may be sealed, what is not named is forgotten. -/
def rho : List (Nat × Nat) → Nat → Nat
  | [], b => b
  | (k, x) :: r, b => bif k == b then x else rho r b
def keyB (hp : List (Nat × Option Box)) (b : Nat) : Bool :=
  match lkB hp b with
  | some _ => true
  | none => false
/-- Is the old box one that may still be written? -/
def keptB (ρ : List (Nat × Nat)) : List (Nat × Option Box) → Nat → Bool
  | [], _ => false
  | (k, some bx) :: r, b => (!bx.fz && (rho ρ k == b)) || keptB ρ r b
  | (_, none) :: r, b => keptB ρ r b
def slOf (s : St) (ρ : List (Nat × Nat)) (hp : List (Nat × Option Box)) (x : C) (t : Bool) (es : List (List C)) : Prop :=
  match x with
  | .sl t0 es0 => es0 = es ∧ (t = true → t0 = true)
  | .v (.slice none 0 0) => es = []
  | .own b n t0 => match s.box b with
    | some bx => bx.row = true ∧ n = bx.es.length ∧ bx.es = es ∧ (t = true → t0 = true) ∧ keptB ρ hp b = false
    | none => False
  | .vw b n lo hi => match s.box b with
    | some bx => bx.row = true ∧ n = bx.es.length ∧ (bx.es.take hi).drop lo = es ∧ t = false ∧ keptB ρ hp b = false
    | none => False
  | _ => False
def leC0 (s : St) (ρ : List (Nat × Nat)) (hp : List (Nat × Option Box)) (x : C) : C → Prop
  | .bot => True
  | .own b n t => match x with
    | .own b0 n0 t0 => b0 = rho ρ b ∧ n0 = n ∧ (t = true → t0 = true) ∧ keyB hp b = true
    | _ => False
  | .vw b n lo hi => match x with
    | .vw b0 n0 lo0 hi0 => b0 = rho ρ b ∧ n0 = n ∧ lo0 = lo ∧ hi0 = hi ∧ keyB hp b = true
    | _ => False
  | .ptr b n i off => match x with
    | .ptr b0 n0 i0 off0 => b0 = rho ρ b ∧ n0 = n ∧ i0 = i ∧ off0 = off ∧ keyB hp b = true
    | _ => False
  | .sl t es => slOf s ρ hp x t es
  | .fn _ _ => False
  | y => x = y
def leC0s (s : St) (ρ : List (Nat × Nat)) (hp : List (Nat × Option Box)) : List C → List C → Prop
  | [], [] => True
  | x :: r, y :: r' => leC0 s ρ hp x y ∧ leC0s s ρ hp r r'
  | _, _ => False
def leC (s : St) (ρ : List (Nat × Nat)) (hp : List (Nat × Option Box)) (x : C) : C → Prop
  | .fn f caps => match x with
    | .fn f0 caps0 => f0 = f ∧ leC0s s ρ hp caps0 caps
    | _ => False
  | y => leC0 s ρ hp x y
def leCs (s : St) (ρ : List (Nat × Nat)) (hp : List (Nat × Option Box)) : List C → List C → Prop
  | [], [] => True
  | x :: r, y :: r' => leC s ρ hp x y ∧ leCs s ρ hp r r'
  | _, _ => False
def leA1 (s : St) (ρ : List (Nat × Nat)) (hp : List (Nat × Option Box)) (x y : AV) : Prop :=
  match x, y with
  | _, .c .bot => True
  | .c x, .c y => leC s ρ hp x y
  | .agg xs, .agg ys => leCs s ρ hp xs ys
  | _, _ => False
def leAs (s : St) (ρ : List (Nat × Nat)) (hp : List (Nat × Option Box)) : List AV → List AV → Prop
  | [], [] => True
  | x :: r, y :: r' => leA1 s ρ hp x y ∧ leAs s ρ hp r r'
  | _, _ => False
def leA (s : St) (ρ : List (Nat × Nat)) (hp : List (Nat × Option Box)) (x y : AV) : Prop :=
  match x, y with
  | .tup xs, .tup ys => leAs s ρ hp xs ys
  | .mp b0 ks0, .mp b ks => b0 = rho ρ b ∧ ks0 = ks ∧ keyB hp b = true
  | x, y => leA1 s ρ hp x y
def leEs (s : St) (ρ : List (Nat × Nat)) (hp : List (Nat × Option Box)) : List (List C) → List (List C) → Prop
  | [], [] => True
  | x :: r, y :: r' => leCs s ρ hp x y ∧ leEs s ρ hp r r'
  | _, _ => False
def leB (s : St) (ρ : List (Nat × Nat)) (hp : List (Nat × Option Box)) (b : Nat) (y : Box) : Prop :=
  match s.box (rho ρ b) with
  | some x => x.k = y.k ∧ x.ty = y.ty ∧ x.row = y.row ∧ (y.fz = false → x.fz = false) ∧ match y.row with
    | true => x.es = y.es
    | false => leEs s ρ hp x.es y.es
  | none => False
def leEnv (s : St) (ρ : List (Nat × Nat)) (hp : List (Nat × Option Box)) : List (Nat × AV) → Prop
  | [] => True
  | (t, y) :: r => leA s ρ hp (s.get t) y ∧ leEnv s ρ hp r
def leHp (s : St) (ρ : List (Nat × Nat)) (hp : List (Nat × Option Box)) (nx : Nat) : List (Nat × Option Box) → Prop
  | [] => True
  | (b, some y) :: r => leB s ρ hp b y ∧ b < nx ∧ leHp s ρ hp nx r
  | (_, none) :: _ => False
def injR (ρ : List (Nat × Nat)) : List (Nat × Option Box) → Bool
  | [] => true
  | (k, _) :: r => (r.all fun p => !(rho ρ k == rho ρ p.1) || (k == p.1)) && injR ρ r
def preR (ρ : List (Nat × Nat)) (hp : List (Nat × Option Box)) : Nat → Bool
  | 0 => true
  | n + 1 => (rho ρ n == n) && keyB hp n && preR ρ hp n

section
variable {X : Cx} {s : St} {a : Act} {w : World} {β : Nat → Option Nat} {cp : Nat → Nat} {Rd : Nat → Prop} {ρ : List (Nat × Nat)} {hp : List (Nat × Option Box)}

theorem leC0s_get : ∀ {xs ys : List C}, leC0s s ρ hp xs ys → ys.length = xs.length ∧ ∀ (j : Nat) y, ys[j]? = some y → ∃ x, xs[j]? = some x ∧ leC0 s ρ hp x y
  | [], [], _ => ⟨rfl, fun j y h => by simp at h⟩
  | x :: r, y :: r', h => by
    obtain ⟨q1, q2⟩ := leC0s_get h.2
    refine ⟨by simp [q1], fun j z hj => ?_⟩
    cases j with
    | zero => simp at hj; subst hj; exact ⟨x, rfl, h.1⟩
    | succ j => simpa using q2 j z (by simpa using hj)
  | [], _ :: _, h => h.elim
  | _ :: _, [], h => h.elim
theorem leCs_get : ∀ {xs ys : List C}, leCs s ρ hp xs ys → ys.length = xs.length ∧ ∀ (j : Nat) y, ys[j]? = some y → ∃ x, xs[j]? = some x ∧ leC s ρ hp x y
  | [], [], _ => ⟨rfl, fun j y h => by simp at h⟩
  | x :: r, y :: r', h => by
    obtain ⟨q1, q2⟩ := leCs_get h.2
    refine ⟨by simp [q1], fun j z hj => ?_⟩
    cases j with
    | zero => simp at hj; subst hj; exact ⟨x, rfl, h.1⟩
    | succ j => simpa using q2 j z (by simpa using hj)
  | [], _ :: _, h => h.elim
  | _ :: _, [], h => h.elim
theorem leAs_get : ∀ {xs ys : List AV}, leAs s ρ hp xs ys → ys.length = xs.length ∧ ∀ (j : Nat) y, ys[j]? = some y → ∃ x, xs[j]? = some x ∧ leA1 s ρ hp x y
  | [], [], _ => ⟨rfl, fun j y h => by simp at h⟩
  | x :: r, y :: r', h => by
    obtain ⟨q1, q2⟩ := leAs_get h.2
    refine ⟨by simp [q1], fun j z hj => ?_⟩
    cases j with
    | zero => simp at hj; subst hj; exact ⟨x, rfl, h.1⟩
    | succ j => simpa using q2 j z (by simpa using hj)
  | [], _ :: _, h => h.elim
  | _ :: _, [], h => h.elim
theorem leEs_get : ∀ {xs ys : List (List C)}, leEs s ρ hp xs ys → ys.length = xs.length ∧ ∀ (j : Nat) y, ys[j]? = some y → ∃ x, xs[j]? = some x ∧ leCs s ρ hp x y
  | [], [], _ => ⟨rfl, fun j y h => by simp at h⟩
  | x :: r, y :: r', h => by
    obtain ⟨q1, q2⟩ := leEs_get h.2
    refine ⟨by simp [q1], fun j z hj => ?_⟩
    cases j with
    | zero => simp at hj; subst hj; exact ⟨x, rfl, h.1⟩
    | succ j => simpa using q2 j z (by simpa using hj)
  | [], _ :: _, h => h.elim
  | _ :: _, [], h => h.elim
theorem leHp_get {nx : Nat} : ∀ {l : List (Nat × Option Box)}, leHp s ρ hp nx l → ∀ b x, (b, x) ∈ l → ∃ y, x = some y ∧ leB s ρ hp b y ∧ b < nx
  | [], _, b, x, h => by simp at h
  | (k, some z) :: r, h, b, x, hm => by
    rcases List.mem_cons.1 hm with e | hm
    · cases e; exact ⟨z, rfl, h.1, h.2.1⟩
    · exact leHp_get h.2.2 b x hm
  | (k, none) :: r, h, _, _, _ => h.elim
theorem leEnv_get : ∀ {l : List (Nat × AV)}, leEnv s ρ hp l → ∀ t, lkE l t = .c .bot ∨ leA s ρ hp (s.get t) (lkE l t)
  | [], _, t => .inl rfl
  | (k, y) :: r, h, t => by
    simp only [lkE]
    cases hk : k == t with
    | true =>
      have := eq_of_beq hk
      subst this
      exact .inr h.1
    | false => exact leEnv_get h.2 t
theorem keptB_mem : ∀ {l : List (Nat × Option Box)} {k : Nat} {bx : Box}, (k, some bx) ∈ l → bx.fz = false → keptB ρ l (rho ρ k) = true
  | (k', some z) :: r, k, bx, h, hz => by
    simp only [keptB, Bool.or_eq_true, Bool.and_eq_true, Bool.not_eq_true', beq_iff_eq]
    rcases List.mem_cons.1 h with e | h
    · cases e; exact .inl ⟨hz, rfl⟩
    · exact .inr (keptB_mem h hz)
  | (k', none) :: r, k, bx, h, hz => by
    simp only [keptB]
    rcases List.mem_cons.1 h with e | h
    · cases e
    · exact keptB_mem h hz
theorem injR_ok : ∀ {l : List (Nat × Option Box)}, injR ρ l = true → ∀ b x b' x', (b, x) ∈ l → (b', x') ∈ l → rho ρ b = rho ρ b' → b = b'
  | [], _, _, _, _, _, h, _, _ => by simp at h
  | (k, z) :: r, h, b, x, b', x', h1, h2, e => by
    simp only [injR, Bool.and_eq_true, List.all_eq_true, Bool.or_eq_true, Bool.not_eq_true', beq_iff_eq] at h
    rcases List.mem_cons.1 h1 with e1 | h1 <;> rcases List.mem_cons.1 h2 with e2 | h2
    · cases e1; cases e2; rfl
    · cases e1
      rcases h.1 _ h2 with h3 | h3
      · simp only at h3; rw [e] at h3; simp at h3
      · exact h3
    · cases e2
      rcases h.1 _ h1 with h3 | h3
      · simp only at h3; rw [← e] at h3; simp at h3
      · exact h3.symm
    · exact injR_ok h.2 b x b' x' h1 h2 e
theorem preR_ok : ∀ {n : Nat}, preR ρ hp n = true → ∀ b, b < n → rho ρ b = b ∧ keyB hp b = true
  | 0, _, b, h => by omega
  | n + 1, h, b, hb => by
    simp only [preR, Bool.and_eq_true, beq_iff_eq] at h
    by_cases e : b = n
    · subst e; exact h.1
    · exact preR_ok h.2 b (by omega)

theorem ent_of {env' : List (Nat × AV)} {nx' pk' : Nat} (ρ : List (Nat × Nat)) (hE : leEnv s ρ hp env') (hB : leHp s ρ hp nx' hp) (hI : injR ρ hp = true) (hP : preR ρ hp s.np = true) (hpk : s.pk ≤ pk') : Ent s ⟨s.nt, s.np, env', hp, nx', pk'⟩ := by
  intro X a w ⟨β, cp, Rd, h⟩
  generalize hs' : (St.mk s.nt s.np env' hp nx' pk') = s'
  have hbox : ∀ b bx', s'.box b = some bx' → (b, some bx') ∈ hp ∧ leB s ρ hp b bx' ∧ b < nx' := by
    intro b bx' hb
    rw [← hs'] at hb
    simp only [St.box] at hb
    cases hl : lkB hp b with
    | none => rw [hl] at hb; cases hb
    | some x =>
      rw [hl] at hb
      simp only [Option.getD_some] at hb
      subst hb
      have hm := lkB_mem hp b _ hl
      obtain ⟨y, e, h1, h2⟩ := leHp_get hB b _ hm
      cases e
      exact ⟨hm, h1, h2⟩
  have hkq : ∀ b, s'.keyed b ↔ keyB hp b = true := by
    intro b
    rw [← hs']
    simp only [St.keyed, keyB]
    cases lkB hp b <;> simp
  have hkmem : ∀ b, keyB hp b = true → ∃ y, s'.box b = some y ∧ leB s ρ hp b y ∧ b < nx' := by
    intro b hb
    unfold keyB at hb
    split at hb
    · rename_i x hx
      obtain ⟨y, rfl, h1, h2⟩ := leHp_get hB b _ (lkB_mem hp b _ hx)
      exact ⟨y, by rw [← hs']; simp [St.box, hx], h1, h2⟩
    · cases hb
  have hbx : ∀ b y, leB s ρ hp b y → ∃ x, s.box (rho ρ b) = some x ∧ x.k = y.k ∧ x.ty = y.ty ∧ x.row = y.row ∧ (y.fz = false → x.fz = false) ∧ y.es.length = x.es.length ∧ (y.row = true → x.es = y.es) ∧ (y.row = false → leEs s ρ hp x.es y.es) := by
    intro b y hl
    unfold leB at hl
    split at hl
    · rename_i x hx
      obtain ⟨q1, q2, q3, q4, q5⟩ := hl
      refine ⟨x, hx, q1, q2, q3, q4, ?_, fun hr => by rw [hr] at q5; exact q5, fun hr => by rw [hr] at q5; exact q5⟩
      cases hr : y.row with
      | true => rw [hr] at q5; simp only at q5; rw [q5]
      | false => rw [hr] at q5; exact (leEs_get q5).1
    · exact hl.elim
  let β' : Nat → Option Nat := fun b => β (rho ρ b)
  let cp' : Nat → Nat := fun b => cp (rho ρ b)
  have has1 : ∀ g, has s' β' g → has s β g := by
    rintro g ⟨b, bx', h1, h2⟩
    obtain ⟨_, h3, _⟩ := hbox b bx' h1
    obtain ⟨x, h4, _⟩ := hbx b bx' h3
    exact ⟨_, x, h4, h2⟩
  have own1 : ∀ g, owns s' β' g → owns s β g := by
    rintro g ⟨b, bx', h1, hz, h2⟩
    obtain ⟨_, h3, _⟩ := hbox b bx' h1
    obtain ⟨x, h4, _, _, _, h5, _⟩ := hbx b bx' h3
    exact ⟨_, x, h4, h5 hz, h2⟩
  have mt1 : ∀ g, X.mt s' β' Rd g → X.mt s β Rd g := fun g hg => hg.imp id fun hg => hg.imp (own1 g) id
  -- a handle
  have hH : ∀ c b n, hkey c = some (b, n) → keyB hp b = true → ∀ v, hOf s β cp (setId (rho ρ b) c) v → hOf s' β' cp' c v := by
    intro c b n hk hb v hc
    refine ⟨b, n, hk, (hkq b).2 hb, fun bx' hbx' => ?_⟩
    obtain ⟨_, h3, _⟩ := hbox b bx' hbx'
    obtain ⟨x, h4, h5, _, _, _, h6, _⟩ := hbx b bx' h3
    obtain ⟨b0, n0, k1, k2, k3⟩ := hc
    rw [hkey_setId hk] at k1
    cases k1
    rw [h6, ← h5]
    have := k3 x h4
    rwa [hV_setId] at this
  -- a row that is sealed
  have hav : ∀ b, keptB ρ hp b = false → ∀ bx g, s.box b = some bx → β b = some g → ¬ X.mt s' β' Rd g := by
    rintro b hkb bx g hbx0 hg (h1 | ⟨b', bx', h1, hz, h2⟩ | h1)
    · exact h.own_av g ⟨b, bx, hbx0, hg⟩ h1
    · obtain ⟨hm, h3, _⟩ := hbox b' bx' h1
      obtain ⟨x, h4, _⟩ := hbx b' bx' h3
      have := h.inj b (rho ρ b') bx x g hbx0 h4 hg h2
      rw [this, keptB_mem hm hz] at hkb
      cases hkb
    · exact h.own_rd g ⟨b, bx, hbx0, hg⟩ h1
  have hS : ∀ {v : Value} {x : C} {t : Bool} {es : List (List C)}, MC w (X.mt s β Rd) Rd (hOf s β cp) v x → slOf s ρ hp x t es → RC w (X.mt s' β' Rd) v (.sl t es) := by
    intro v x t es hm hl
    unfold slOf at hl
    split at hl
    · rename_i t0 es0
      obtain ⟨rfl, ht⟩ := hl
      exact ((RC.mono (Mt := X.mt s β Rd) hm (fun _ _ _ => rfl) (Nat.le_refl _) fun g _ hg => mt1 g hg).weak ht)
    · subst hl
      cases hm with
      | v _ _ => exact (RC.sl true [] 0 none ⟨0, 0, none⟩ 0 0 rfl (fun _ => rfl) (Nat.le_refl _) (by simp [maxLen]) (by simp) (fun h => absurd rfl h) (fun _ _ => undef) (by simp) (by simp)).weak (fun _ => rfl)
    · rename_i b n t0
      split at hl
      · rename_i bx hbx0
        obtain ⟨hr, hn, rfl, ht, hkb⟩ := hl
        have := seal_ok (Mt' := X.mt s' β' Rd) (Rd' := Rd) (H' := fun _ _ => False) h (fun g _ hg => mt1 g hg) (fun _ h => h) (ids := [b]) (fun b' hb' bx' g h1 h2 => by simp only [List.mem_singleton] at hb'; subst hb'; exact hav b' hkb bx' g h1 h2) hm (by simp only [sealOk, hbx0]; exact hn) (by simp [rowIds])
        simp only [sealC, hbx0, hr] at this
        exact RC.weak this ht
      · exact hl.elim
    · rename_i b n lo hi
      split at hl
      · rename_i bx hbx0
        obtain ⟨hr, hn, rfl, ht, hkb⟩ := hl
        have := seal_ok (Mt' := X.mt s' β' Rd) (Rd' := Rd) (H' := fun _ _ => False) h (fun g _ hg => mt1 g hg) (fun _ h => h) (ids := [b]) (fun b' hb' bx' g h1 h2 => by simp only [List.mem_singleton] at hb'; subst hb'; exact hav b' hkb bx' g h1 h2) hm (by simp only [sealOk, hbx0]; exact hn) (by simp [rowIds])
        simp only [sealC, hbx0, hr] at this
        rw [ht]
        exact this
      · exact hl.elim
    · exact hl.elim
  have hC0 : ∀ {v : Value} {x y : C}, MC0 w (X.mt s β Rd) Rd (hOf s β cp) v x → leC0 s ρ hp x y → MC0 w (X.mt s' β' Rd) Rd (hOf s' β' cp') v y := by
    intro v x y hm hl
    cases y with
    | bot => trivial
    | own b n t =>
      cases x <;> simp only [leC0] at hl
      obtain ⟨rfl, rfl, ht, hb⟩ := hl
      refine ⟨hm.1, hH (.own b _ t) b _ rfl hb v ?_⟩
      obtain ⟨b0, n0, k1, k2, k3⟩ := hm.2
      cases k1
      refine ⟨_, _, rfl, k2, fun bx hbx0 => ?_⟩
      obtain ⟨k4, k5⟩ := k3 bx hbx0
      refine ⟨k4, fun hn => (k5 hn).imp id fun ⟨g, c, q1, q2, q3, q4, q5⟩ => ⟨g, c, q1, q2, q3, q4, fun h => q5 (ht h)⟩⟩
    | vw b n lo hi =>
      cases x <;> simp only [leC0] at hl
      obtain ⟨rfl, rfl, rfl, rfl, hb⟩ := hl
      exact ⟨hm.1, hH (.vw b _ _ _) b _ rfl hb v hm.2⟩
    | ptr b n i off =>
      cases x <;> simp only [leC0] at hl
      obtain ⟨rfl, rfl, rfl, rfl, hb⟩ := hl
      exact ⟨hm.1, hH (.ptr b _ _ _) b _ rfl hb v hm.2⟩
    | sl t es => exact hS hm.mc hl
    | fn f caps => exact hl.elim
    | v z =>
      have e : x = .v z := hl
      subst e
      exact RC.mono (Mt := X.mt s β Rd) hm (fun _ _ _ => rfl) (Nat.le_refl _) fun g _ hg => mt1 g hg
    | rp z =>
      have e : x = .rp z := hl
      subst e
      exact RC.mono (Mt := X.mt s β Rd) hm (fun _ _ _ => rfl) (Nat.le_refl _) fun g _ hg => mt1 g hg
    | ex z c =>
      have e : x = .ex z c := hl
      subst e
      exact ⟨hm.1, RC.mono hm.2 (fun _ _ _ => rfl) (Nat.le_refl _) fun g _ hg => mt1 g hg⟩
    | rdr =>
      have e : x = .rdr := hl
      subst e
      exact hm
    | und =>
      have e : x = .und := hl
      subst e
      exact hm
  have hC : ∀ {v : Value} {x y : C}, MC w (X.mt s β Rd) Rd (hOf s β cp) v x → leC s ρ hp x y → MC w (X.mt s' β' Rd) Rd (hOf s' β' cp') v y := by
    intro v x y hm hl
    cases y with
    | fn f caps =>
      cases x <;> simp only [leC] at hl
      obtain ⟨rfl, hl⟩ := hl
      obtain ⟨arr, rfl, hs, hr⟩ := hm
      obtain ⟨q1, q2⟩ := leC0s_get hl
      refine ⟨arr, rfl, by rw [q1]; exact hs, fun j c hj => ?_⟩
      obtain ⟨x, q3, q4⟩ := q2 j c hj
      exact hC0 (hr j x q3) q4
    | bot => trivial
    | sl t es => exact (hS hm hl).mc
    | _ =>
      simp only [leC] at hl
      cases x with
      | fn f caps => simp [leC0] at hl
      | _ => simp only [MC] at hm ⊢; exact hC0 hm hl
  have hA1 : ∀ {v : Value} {x y : AV}, MA1 w (X.mt s β Rd) Rd (hOf s β cp) v x → leA1 s ρ hp x y → MA1 w (X.mt s' β' Rd) Rd (hOf s' β' cp') v y := by
    intro v x y hm hl
    unfold leA1 at hl
    split at hl
    · trivial
    · exact hC hm hl
    · rename_i xs ys
      obtain ⟨arr, rfl, hs, hr⟩ := hm
      obtain ⟨q1, q2⟩ := leCs_get hl
      refine ⟨arr, rfl, by rw [q1]; exact hs, fun j c hj => ?_⟩
      obtain ⟨x, q3, q4⟩ := q2 j c hj
      exact hC (hr j x q3) q4
    · exact hl.elim
  have hA : ∀ {v : Value} {x y : AV}, MA w (X.mt s β Rd) Rd (hOf s β cp) v x → leA s ρ hp x y → MA w (X.mt s' β' Rd) Rd (hOf s' β' cp') v y := by
    intro v x y hm hl
    unfold leA at hl
    split at hl
    · rename_i xs ys
      obtain ⟨arr, rfl, hs, hr⟩ := hm
      obtain ⟨q1, q2⟩ := leAs_get hl
      refine ⟨arr, rfl, by rw [q1]; exact hs, fun j c hj => ?_⟩
      obtain ⟨x, q3, q4⟩ := q2 j c hj
      exact hA1 (hr j x q3) q4
    · obtain ⟨rfl, rfl, hb⟩ := hl
      obtain ⟨g, es, clk, rfl, q1, q2, q3, q4, q5⟩ := hm
      exact ⟨g, es, clk, rfl, hH (.ptr _ 0 0 0) _ 0 rfl hb _ q1, fun hg => q2 (mt1 g hg), q3, q4, q5⟩
    · rename_i hn1 hn2
      cases x with
      | mp b0 k0 =>
        cases y with
        | c y => cases y <;> first | trivial | exact hl.elim
        | agg ys => exact hl.elim
        | tup ys => exact hl.elim
        | mp b1 k1 => exact absurd rfl (hn2 b0 k0 b1 k1 rfl)
      | tup xs =>
        cases y with
        | c y => cases y <;> first | trivial | exact hl.elim
        | agg ys => exact hl.elim
        | tup ys => exact absurd rfl (hn1 xs ys rfl)
        | mp _ _ => exact hl.elim
      | c x =>
        cases y with
        | mp _ _ => exact hl.elim
        | tup ys => exact hl.elim
        | c y => exact hA1 (x := .c x) (y := .c y) hm hl
        | agg ys => exact hA1 (x := .c x) (y := .agg ys) hm hl
      | agg xs =>
        cases y with
        | mp _ _ => exact hl.elim
        | tup ys => exact hl.elim
        | c y => exact hA1 (x := .agg xs) (y := .c y) hm hl
        | agg ys => exact hA1 (x := .agg xs) (y := .agg ys) hm hl
  have e1 : s'.env = env' ∧ s'.nt = s.nt ∧ s'.np = s.np ∧ s'.nx = nx' ∧ s'.pk = pk' := by rw [← hs']; exact ⟨rfl, rfl, rfl, rfl, rfl⟩
  refine ⟨β', cp', Rd, ?_⟩
  exact {
    defers := h.defers
    size := by rw [e1.2.1]; exact h.size
    keeps := h.keeps
    fresh := fun b hb => by
      rw [e1.2.2.2.1]
      obtain ⟨y, _, _, h1⟩ := hkmem b ((hkq b).1 hb)
      exact h1
    org := fun b bx' g h1 h2 => by
      obtain ⟨hm, h3, _⟩ := hbox b bx' h1
      obtain ⟨x, h4, _⟩ := hbx b bx' h3
      rcases h.org _ x g h4 h2 with h5 | ⟨q, h5, h6⟩
      · exact .inl h5
      · refine .inr ⟨q, ?_, h6⟩
        have hlt := (List.getElem?_eq_some_iff.1 h5).1
        rw [h.npin] at hlt
        obtain ⟨r1, r2⟩ := preR_ok hP _ hlt
        -- the number that is handed over stays
        obtain ⟨y2, hy2, hl2, _⟩ := hkmem _ r2
        obtain ⟨hm2, _⟩ := hbox _ _ hy2
        have := injR_ok hI b _ (rho ρ b) _ hm hm2 r1.symm
        rw [this]
        exact h5
    own_rd := fun g hg => h.own_rd g (has1 g hg)
    own_av := fun g hg => h.own_av g (has1 g hg)
    rdsame := h.rdsame
    inj := fun b b' bx bx' g h1 h2 h3 h4 => by
      obtain ⟨m1, l1, _⟩ := hbox b bx h1
      obtain ⟨m2, l2, _⟩ := hbox b' bx' h2
      obtain ⟨x, k1, _⟩ := hbx b bx l1
      obtain ⟨x', k2, _⟩ := hbx b' bx' l2
      exact injR_ok hI b _ b' _ m1 m2 (h.inj _ _ x x' g k1 k2 h3 h4)
    rd0 := h.rd0
    rdge := h.rdge
    avlt := h.avlt
    npin := by rw [e1.2.2.1]; exact h.npin
    glob := h.glob
    kept := fun q hq => by
      obtain ⟨k1, k2, k3, k4, k5⟩ := h.kept q hq
      refine ⟨k1, k2, fun ho => k3 (own1 q ho), k4, fun ⟨b, bx', es, clk, m1, m2, m3⟩ => ?_⟩
      obtain ⟨_, h3, _⟩ := hbox b bx' m1
      obtain ⟨x, h4, _⟩ := hbx b bx' h3
      exact k5 ⟨_, x, es, clk, h4, m2, m3⟩
    pin := fun i q hq => by
      have hlt := (List.getElem?_eq_some_iff.1 hq).1
      rw [h.npin] at hlt
      obtain ⟨r1, r2⟩ := preR_ok hP i hlt
      obtain ⟨p1, p2⟩ := h.pin i q hq
      refine ⟨(hkq i).2 r2, fun bx' hb => ?_⟩
      obtain ⟨m1, l1, _⟩ := hbox i bx' hb
      obtain ⟨x, k1, k2, _, _, _, k3, _⟩ := hbx i bx' l1
      rw [r1] at k1
      obtain ⟨p3, p4⟩ := p2 x k1
      rw [k3, ← k2]
      refine ⟨p3, fun hl => ?_⟩
      obtain ⟨p5, p6, p7⟩ := p4 hl
      exact ⟨by simp only [β', r1]; exact p5, by simp only [cp', r1]; exact p6, p7⟩
    rdok := by
      rw [e1.2.2.2.2]
      exact h.rdok.mono (fun _ _ _ => rfl) (Nat.le_refl _) (fun g _ hm => mt1 g hm) (fun _ _ => rfl) hpk
    env := fun t => by
      have e2 : s'.get t = lkE env' t := by rw [← hs']; rfl
      rw [e2]
      rcases leEnv_get hE t with he | he
      · rw [he]; trivial
      · exact hA (h.env t) he
    boxes := fun b bx' hb => by
      obtain ⟨m1, l1, _⟩ := hbox b bx' hb
      obtain ⟨x, k1, k2, k3, k4, k5, k6, k7, k8⟩ := hbx b bx' l1
      rcases h.boxes _ x k1 with (⟨q1, q2, q3⟩ | ⟨g, cur, q1, q2, q4, q5, q6, q7, q9, q8⟩) | ⟨q1, q2, q3, q4⟩
      rotate_left 2
      · exact .inr ⟨List.eq_nil_of_length_eq_zero (by rw [k6, q1]; rfl), by rw [← k4]; exact q2, q3, q4⟩
      · exact .inl (.inl ⟨q1, List.eq_nil_of_length_eq_zero (by rw [k6, q2]; rfl), by rw [← k4]; exact q3⟩)
      · refine .inl (.inr ⟨g, cur, q1, by rw [← k3]; exact q2, by rw [← k2]; exact q4, by rw [k6]; exact q5, q6, ?_, ?_, ?_⟩)
        · intro e he
          cases hr : bx'.row with
          | true => rw [← k7 hr] at he; rw [← k2]; exact q7 e he
          | false =>
            obtain ⟨i, hi, rfl⟩ := List.getElem_of_mem he
            obtain ⟨x2, r1, r2⟩ := (leEs_get (k8 hr)).2 i _ (List.getElem?_eq_getElem hi)
            rw [(leCs_get r2).1, ← k2]
            exact q7 x2 (List.mem_of_getElem? r1)
        · intro hr
          rw [← k7 hr]
          exact q9 (by rw [k4]; exact hr)
        · intro i j e c he hc
          cases hr : bx'.row with
          | true =>
            rw [← k7 hr] at he
            have := (q8 i j e c he hc).rc (q9 (by rw [k4]; exact hr) e (List.mem_of_getElem? he) c (List.mem_of_getElem? hc))
            rw [k2] at this
            exact (this.mono (fun _ _ _ => rfl) (Nat.le_refl _) fun g _ hg => mt1 g hg).mc
          | false =>
            obtain ⟨x2, r1, r2⟩ := (leEs_get (k8 hr)).2 i e he
            obtain ⟨x3, r3, r4⟩ := (leCs_get r2).2 j c hc
            have := q8 i j x2 x3 r1 r3
            rw [k2] at this
            exact hC this r4 }
end

theorem loopI {tt : Nat → Option TI} {tab : Nat → Option Spec} {dw : Nat → Array Oper → St → (St → Prop) → Prop} {c : Code} {s : St} {Q : Ex → St → Prop} {α : Type} (F : α → St) (Inv : α → Prop) (m : α → Nat) (x0 : α) (h0 : Inv x0) (he : Ent s (F x0))
    (hs : ∀ x, Inv x → runW tt tab Ent dw c (F x) (seqK Q fun s' => ∃ y, Inv y ∧ m y < m x ∧ Ent s' (F y))) : runW tt tab Ent dw (.loop c) s Q := ⟨α, F, Inv, m, x0, h0, he, hs⟩
theorem drawI {tt : Nat → Option TI} {tab : Nat → Option Spec} {ops : Array Oper} {s : St} {K : St → Prop} (p : Plan) (h1 : planOK' tt tab ops p = true) (h2 : planW tt tab ops K p false s) : drawW tt tab ops s K := ⟨p, h1, h2⟩
end Go.VE
end
section
namespace Go.VE
open Go

abbrev byC (bs : List UInt8) : List (List C) := bs.map fun b => [.v (.int .u8 b.toNat)]
/-- A reader's box. -/
def rdBox (rt : RT) (bv : Value) (bs : List UInt8) (p : Int) : Box := ⟨[[.ex bv (.sl false (byC bs)), .v (.int .i64 p)]], 2, rt.t, false, false⟩

section
variable {P : Program} {tt : Nat → Option TI} {tab : Nat → Option Spec} {rt : RT}

/-- The end of a function that hands back a new reader. -/
theorem reader_exit {sp : Spec} {args : List AV} {fn : Func} {t b : Nat} (hres : fn.results = #[.tmp t]) {w0 w : World} {Av Rd0 : Nat → Prop} {pk : Nat} {β0 : Nat → Option Nat} {cp0 : Nat → Nat} {s : St} {a : Act} {bs : List UInt8} {tf : Bool} (hflat : sp.flat = false)
    (h : Rel ⟨rt, w0, Av, Rd0, entPins [] β0 cp0, [], w0, fun _ => False⟩ s a w) (hg : s.get t = .c (.ptr b 1 0 0)) (hb : s.box b = some ⟨[[.sl tf (byC bs), .v (.int .i64 0)]], 2, rt.t, false, false⟩) (hlen : bs.length ≤ 2000) (hpk : s.pk ≤ pk + sp.cost) (hpost : sp.post args [] (.c .rdr) []) :
    a.defers = [] ∧ ∃ v, (results fn a.tmps).run P w = .ok v w ∧ ∃ v' r bs β cp Rd', Ending.returned v = .returned v' ∧ sp.post args [] r bs ∧ Gives rt sp w0 w Av Rd0 pk [] β0 cp0 v' r bs β cp Rd' := by
  obtain ⟨β, cp, Rd, G⟩ := h
  refine ⟨G.defers, _, results_tmp hres _ P w, ?_⟩
  have hv := G.env t
  rw [hg] at hv
  obtain ⟨g, hβ, hval⟩ := hv.2.at rfl hb rfl
  simp only [Nat.zero_mul, Nat.add_zero] at hval
  have hnew : w0.heap.size ≤ g := by
    rcases G.org b _ g hb hβ with h1 | ⟨q, h1, _⟩
    · exact h1
    · simp [entPins] at h1
  have hmt : ∀ g', avoid Av [] (fun _ => none) (fun g' => Rd0 g' ∨ g' = g) false w0.heap.size g' → Cx.mt ⟨rt, w0, Av, Rd0, entPins [] β0 cp0, [], w0, fun _ => False⟩ s β Rd g' := by
    rintro g' (h1 | ⟨c, bx, h1, _⟩ | h1 | h1)
    · exact .inl h1
    · rw [exp_box] at h1; simp at h1
    · rcases h1 with h1 | rfl
      · exact .inr (.inr (G.rd0 g' h1))
      · exact .inr (.inl ⟨b, _, hb, rfl, hβ⟩)
    · cases h1.1
  have hcell : ∃ bv, RdB rt w g bv 0 ∧ RC w (avoid Av [] (fun _ => none) (fun g' => Rd0 g' ∨ g' = g) false w0.heap.size) bv (.sl false (byC bs)) := by
    rcases (G.boxes b _ hb).two (.inr (by simp)) with ⟨hnone, _⟩ | ⟨g', cur, q1, q2, q4, q5, q6, q7, q9, q8⟩
    · rw [hnone] at hβ; cases hβ
    · rw [q1] at hβ; cases hβ
      have c0 := q8 0 0 _ _ rfl rfl
      have c1 := q8 0 1 _ _ rfl rfl
      simp only [Nat.zero_mul, Nat.zero_add] at c0 c1
      have c1' : cur.getD 1 undef = .int .i64 0 := by
        generalize cur.getD 1 undef = v at c1
        cases c1; rfl
      simp only [List.length_cons, List.length_nil] at q5
      refine ⟨_, ⟨cur, cp b, q2, q4, by omega, q6, rfl, c1'⟩, ?_⟩
      exact (RC.mono (Mt := Cx.mt ⟨rt, w0, Av, Rd0, entPins [] β0 cp0, [], w0, fun _ => False⟩ s β Rd) c0 (fun _ _ _ => rfl) (Nat.le_refl _) fun g' _ hg' => hmt g' hg').weak (fun h => by cases h)
  obtain ⟨bv, hB, hbv⟩ := hcell
  refine ⟨_, .c .rdr, [], fun _ => none, fun _ => 0, fun g' => Rd0 g' ∨ g' = g, rfl, hpost, ?_⟩
  exact {
    keeps := G.keeps.mono fun g' _ hg' => by
      rcases hg' with hg' | ⟨i, q, hq, _⟩
      · exact .inl hg'
      · simp [entPins] at hq
    few := by simp
    long := by simp
    rd := fun _ h => .inl h
    rdge := fun g' h => by
      rcases h with h | rfl
      · exact .inl h
      · exact .inr ⟨hnew, hB.lt⟩
    same := G.rdsame
    rdok := fun g' hg' => by
      rcases hg' with hg' | rfl
      · obtain ⟨k1, bv', p, bs', k2, k3, k4, k5⟩ := G.rdok g' (G.rd0 g' hg')
        exact ⟨k1, bv', p, bs', k2, Nat.le_trans k3 hpk, k4, k5.mono (fun _ _ _ => rfl) (Nat.le_refl _) fun g2 _ h2 => hmt g2 h2⟩
      · exact ⟨hB.lt, bv, 0, bs, hB, Nat.zero_le _, hlen, hbv⟩
    rdnew := fun g' h1 h2 => by
      rcases h1 with h1 | rfl
      · exact absurd h1 h2
      · exact ⟨bv, 0, bs, hB, Nat.zero_le _, hlen, by rw [hflat]; exact hbv⟩
    value := ⟨g, .inr rfl, hval⟩
    boxes := fun b bx hb => by simp at hb
    org := fun b bx g hb => by simp at hb
    inj := fun b b' bx bx' g hb => by simp at hb
    pins := fun i b0 b hb => by simp at hb }

/-- A method of a reader: from its contract over the reader's box. -/
theorem rdr_sat {f : FuncId} {spB spR : Spec} (hsat : Sat P rt f spB) (hfl : spR.flat = spB.flat) (hcost : spB.cost = 0)
    (hpre : ∀ args ins, spR.pre args ins → ins = [] ∧ ∃ rest, args = .c .rdr :: rest ∧ (∀ x ∈ rest, ∃ k n, x = .c (.v (.int k n))) ∧ ∀ bv bs (p : Nat), bs.length ≤ 2000 → p + spR.cost ≤ pickLimit → spB.pre (.c (.ptr 0 1 0 0) :: rest) [rdBox rt bv bs p])
    (hpost : ∀ rest bv bs (p : Nat) r out, spR.pre (.c .rdr :: rest) [] → spB.post (.c (.ptr 0 1 0 0) :: rest) [rdBox rt bv bs p] r out → ∃ p' : Nat, out = [rdBox rt bv bs p'] ∧ p' ≤ p + spR.cost ∧ (∃ k n, r = .c (.v (.int k n))) ∧ spR.post (.c .rdr :: rest) [] r []) : Sat P rt f spR := by
  intro w Av Rd pk args vs ins β0 cp0 T hp hpk
  obtain ⟨rfl, rest, rfl, hints, hB⟩ := hpre args ins hp
  obtain ⟨g, hgR, hgv⟩ := T.args 0 _ rfl
  obtain ⟨hlt, bv, p, bs, ⟨arr, c, hh, hsz, hc1, hc2, ha0, ha1⟩, hple, hbl, hbr⟩ := T.rdok g hgR
  have hno : ∀ g', has (expSt []) β0 g' → False := fun g' ⟨b, bx, h1, _⟩ => by rw [exp_box] at h1; simp at h1
  have hAv : ∀ g', avIn (fun g' => Av g' ∧ g' ≠ g) [rdBox rt bv bs p] (fun _ => some g) g' → avIn Av [] β0 g' := by
    rintro g' (h | ⟨b, bx, h1, h2⟩)
    · exact .inl h.1
    · cases h2; exact .inl (T.rdav g hgR)
  have T' : Takes rt w (fun g' => Av g' ∧ g' ≠ g) (fun g' => Rd g' ∧ g' ≠ g) pk (.c (.ptr 0 1 0 0) :: rest) vs [rdBox rt bv bs p] (fun _ => some g) (fun _ => c) := {
    glob := ⟨T.glob.1, fun g' hg' => ⟨(T.glob.2 g' hg').1, fun hr => (T.glob.2 g' hg').2.1 hr.1, fun ⟨b, bx, _, h2⟩ => by
      cases h2; exact (T.glob.2 _ hg').2.1 hgR⟩⟩
    rdav := fun g' h => ⟨T.rdav g' h.1, h.2⟩
    avlt := fun g' h => T.avlt g' h.1
    pasav := fun g' ⟨b, bx, _, h2⟩ h => by cases h2; exact h.2 rfl
    rdok := fun g' h => by
      obtain ⟨k1, bv', p', bs', k2, k3, k4, k5⟩ := T.rdok g' h.1
      exact ⟨k1, bv', p', bs', k2, k3, k4, k5.mono (fun _ _ _ => rfl) (Nat.le_refl _) fun g2 _ h2 => hAv g2 h2⟩
    size := by have := T.size; simpa using this
    args := fun j x hj => by
      cases j with
      | zero =>
        simp only [List.getElem?_cons_zero, Option.some.injEq] at hj
        subst hj
        refine ⟨by rw [hgv]; rfl, 0, 1, rfl, (exp_keyed _ _).2 (by simp), fun bx hbx => ?_⟩
        rw [exp_box] at hbx
        simp only [List.getElem?_cons_zero, Option.some.injEq] at hbx
        subst hbx
        exact ⟨by simp [rdBox], fun _ => ⟨g, rfl, by rw [hgv]; simp⟩⟩
      | succ j =>
        have h1 := T.args (j + 1) x (by simpa using hj)
        obtain ⟨k, n, rfl⟩ := hints x (List.mem_of_getElem? (by simpa using hj))
        have h2 : RC w (avIn Av [] β0) (vs.getD (j + 1) undef) (.v (.int k n)) := h1
        exact h2.mono (fun _ _ _ => rfl) (Nat.le_refl _) fun g' _ h => hAv g' h
    boxes := fun b bx hb => by
      cases b with
      | succ b => simp at hb
      | zero =>
        simp only [List.getElem?_cons_zero, Option.some.injEq] at hb
        subst hb
        refine ⟨rfl, .inl (.inr ⟨g, arr, rfl, hh, hsz, by simpa [rdBox] using hc1, hc2, by simp [rdBox], fun h => by simp [rdBox] at h, fun i j e cc he hcc => ?_⟩)⟩
        cases i with
        | succ i => simp [rdBox] at he
        | zero =>
          simp only [rdBox, List.getElem?_cons_zero, Option.some.injEq] at he
          subst he
          match j, hcc with
          | 0, hcc =>
            simp only [List.getElem?_cons_zero, Option.some.injEq] at hcc
            subst hcc
            simp only [Nat.zero_mul, Nat.zero_add, Nat.add_zero]
            rw [ha0]
            exact ⟨rfl, hbr.mono (fun _ _ _ => rfl) (Nat.le_refl _) fun g' _ h => hAv g' h⟩
          | 1, hcc =>
            simp only [List.getElem?_cons_succ, List.getElem?_cons_zero, Option.some.injEq] at hcc
            subst hcc
            simp only [Nat.zero_mul, Nat.zero_add]
            rw [ha1]
            exact RC.v _ rfl
          | j + 2, hcc => simp at hcc
    inj := fun b b' bx bx' g' h1 h2 => by
      have e1 := (List.getElem?_eq_some_iff.1 h1).1
      have e2 := (List.getElem?_eq_some_iff.1 h2).1
      simp at e1 e2
      omega }
  have hcall := hsat w _ _ pk _ _ _ _ _ T' (hB bv bs p hbl (by omega)) (by rw [hcost]; omega)
  refine hcall.mono ?_
  rintro e w' ⟨v, r, out, β, cp, Rd1, rfl, hpst, G⟩
  obtain ⟨p', rfl, hp', ⟨k, n, rfl⟩, hpost'⟩ := hpost rest bv bs p r out hp hpst
  obtain ⟨_, hpin⟩ := G.pins 0 _ _ rfl rfl
  obtain ⟨hβ0, _, _⟩ := hpin (by simp [rdBox])
  have hBox := (G.boxes 0 _ rfl).2.two (.inr (by simp [rdBox]))
  rw [hβ0] at hBox
  rcases hBox with ⟨q, _⟩ | ⟨g', cur, q1, q2, q4, q5, q6, q7, q9, q8⟩
  · cases q
  cases q1
  have c0 := q8 0 0 _ _ rfl rfl
  have c1 := q8 0 1 _ _ rfl rfl
  simp only [Nat.zero_mul, Nat.zero_add] at c0 c1
  have c1' : cur.getD 1 undef = .int .i64 p' := by
    generalize cur.getD 1 undef = v at c1
    cases c1; rfl
  have hRdB : RdB rt w' g bv p' := ⟨cur, cp 0, q2, q4, by simpa [rdBox] using q5, q6, c0.1, c1'⟩
  have hav : ∀ g' fl, avoid Av [] (fun _ => none) (fun g' => Rd1 g' ∨ g' = g) fl w.heap.size g' → avoid (fun g' => Av g' ∧ g' ≠ g) [rdBox rt bv bs p'] β Rd1 fl w.heap.size g' := by
    have hg0 : ∀ fl, avoid (fun g' => Av g' ∧ g' ≠ g) [rdBox rt bv bs p'] β Rd1 fl w.heap.size g := fun fl => .inr (.inl ⟨0, _, by rw [exp_box]; rfl, hβ0⟩)
    rintro g' fl (h | ⟨b, bx, h1, _⟩ | h | h)
    · by_cases e : g' = g
      · subst e; exact hg0 fl
      · exact .inl ⟨h, e⟩
    · rw [exp_box] at h1; simp at h1
    · rcases h with h | rfl
      · exact .inr (.inr (.inl h))
      · exact hg0 fl
    · exact .inr (.inr (.inr h))
  have hsub : ∀ g' fl, avoid Av [] (fun _ => none) (fun g' => Rd1 g' ∨ g' = g) false w.heap.size g' → avoid (fun g' => Av g' ∧ g' ≠ g) [rdBox rt bv bs p'] β Rd1 fl w.heap.size g' := fun g' fl h => (hav g' false h).imp id fun h => h.imp id fun h => h.imp id fun h => by cases h.1
  refine ⟨v, _, [], fun _ => none, fun _ => 0, fun g' => Rd1 g' ∨ g' = g, rfl, hpost', ?_⟩
  exact {
    keeps := G.keeps.mono fun g' _ hg' => by
      rcases hg' with hg' | ⟨b, bx, _, h2⟩
      · exact .inl hg'.1
      · cases h2; exact .inl hgR
    few := by simp
    long := by simp
    rd := fun g' h => by
      by_cases e : g' = g
      · exact .inr e
      · exact .inl (G.rd g' ⟨h, e⟩)
    rdge := fun g' h => by
      rcases h with h | rfl
      · exact (G.rdge g' h).imp (·.1) id
      · exact .inl hgR
    same := fun g' h => by
      by_cases e : g' = g
      · subst e; exact ⟨bv, p, p', ⟨arr, c, hh, hsz, hc1, hc2, ha0, ha1⟩, hRdB⟩
      · exact G.same g' ⟨h, e⟩
    rdok := fun g' h => by
      rcases h with h | rfl
      · obtain ⟨k1, bv', p2, bs', k2, k3, k4, k5⟩ := G.rdok g' h
        exact ⟨k1, bv', p2, bs', k2, by rw [hcost] at k3; omega, k4, k5.mono (fun _ _ _ => rfl) (Nat.le_refl _) fun g2 _ h2 => hsub g2 _ h2⟩
      · exact ⟨hRdB.lt, bv, p', bs, hRdB, by omega, hbl, by rw [← c0.1]; exact c0.2.mono (fun _ _ _ => rfl) (Nat.le_refl _) fun g2 _ h2 => hsub g2 _ h2⟩
    rdnew := fun g' h1 h2 => by
      rcases h1 with h1 | rfl
      · obtain ⟨bv', p2, cs, k1, k2, k3, k4⟩ := G.rdnew g' h1 (fun h => h2 h.1)
        exact ⟨bv', p2, cs, k1, by rw [hcost] at k2; omega, k3, k4.mono (fun _ _ _ => rfl) (Nat.le_refl _) fun g2 _ h2 => by rw [← hfl]; exact hav g2 _ h2⟩
      · exact absurd hgR h2
    value := by
      have hv : RC w' (avoid (fun g' => Av g' ∧ g' ≠ g) [rdBox rt bv bs p'] β Rd1 spB.flat w.heap.size) v (.v (.int k n)) := G.value
      exact hv.mono (fun _ _ _ => rfl) (Nat.le_refl _) fun g2 _ h2 => by rw [← hfl]; exact hav g2 _ h2
    boxes := fun b bx hb => by simp at hb
    org := fun b bx g hb => by simp at hb
    inj := fun b b' bx bx' g hb => by simp at hb
    pins := fun i b0 b hb => by simp at hb }
end

end Go.VE
end
