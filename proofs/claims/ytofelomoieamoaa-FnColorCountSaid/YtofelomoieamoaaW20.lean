/- A part of the engine: what operations do to described states, proved sound against the model. No conditions. -/
import Derived.Test.YtofelomoieamoaaW19
set_option linter.unusedSimpArgs false
set_option linter.unusedVariables false
namespace Go.VE
open Go
section
variable (tt : Nat → Option TI) (tab : Nat → Option Spec) (nid : Nat) (d : Option Nat) (t : Nat) (p : String) (af : Array Edge) (g : Option (Nat × Bool)) (s : St)
theorem opS_move (x : Operand) : opS tt tab nid ⟨d, .move x, t, p, af, g⟩ s = Res.mk1 True (s.put d (s.ev x)) := rfl
theorem opS_assign (x : Operand) : opS tt tab nid ⟨d, .assign x, t, p, af, g⟩ s = assignS tt nid (s.ev x) (tt t) s d := rfl
theorem opS_pick (c x y : Operand) : opS tt tab nid ⟨d, .pick c x y, t, p, af, g⟩ s = pickS (s.ev c) (s.ev x) (s.ev y) s d := rfl
theorem opS_alloc (u : Nat) : opS tt tab nid ⟨d, .alloc u, t, p, af, g⟩ s = allocS nid (tt u) u s d := rfl
theorem opS_box (u : Nat) (x : Operand) : opS tt tab nid ⟨d, .box u x, t, p, af, g⟩ s = boxS nid u (cellsOf (s.ev x)) s d := rfl
theorem opS_build (u : Nat) (l : List (Nat × Operand)) : opS tt tab nid ⟨d, .build u ⟨l⟩, t, p, af, g⟩ s = buildS tt u (l.map fun p => (p.1, s.ev p.2)) s d := rfl
theorem opS_buildSlice (u n : Nat) (l : List (Nat × Operand)) : opS tt tab nid ⟨d, .buildSlice u n ⟨l⟩, t, p, af, g⟩ s = buildSliceS tt nid u n (l.map fun p => (p.1, s.ev p.2)) s d := rfl
theorem opS_load (u : Nat) (x : Operand) : opS tt tab nid ⟨d, .load u x, t, p, af, g⟩ s = loadS tt u (s.ev x) s d := rfl
theorem opS_store (u : Nat) (x y : Operand) : opS tt tab nid ⟨d, .store u x y, t, p, af, g⟩ s = storeS tt u (s.ev x) (s.ev y) s d := rfl
theorem opS_nilCheck (x : Operand) : opS tt tab nid ⟨d, .nilCheck x, t, p, af, g⟩ s = nilS (s.ev x) s d := rfl
theorem opS_binOp (op : BinOp) (u : Nat) (x y : Operand) (u' : Nat) : opS tt tab nid ⟨d, .binOp op u x y u', t, p, af, g⟩ s = binS tt op u (s.ev x) (s.ev y) s d := rfl
theorem opS_unOp (op : UnOp) (u : Nat) (x : Operand) : opS tt tab nid ⟨d, .unOp op u x, t, p, af, g⟩ s = unS op (s.ev x) s d := rfl
theorem opS_convert (u u' : Nat) (x : Operand) : opS tt tab nid ⟨d, .convert u u' x, t, p, af, g⟩ s = convertS tt u u' (s.ev x) s d := rfl
theorem opS_makeMap (u : Nat) : opS tt tab nid ⟨d, .makeMap u none, t, p, af, g⟩ s = makeMapS nid u s d := rfl
theorem opS_mapUpdate (u : Nat) (m k x : Operand) : opS tt tab nid ⟨none, .mapUpdate u m k x, t, p, af, g⟩ s = mapUpdS tt u (s.ev m) (s.ev k) (s.ev x) s := rfl
theorem opS_makeSlice (u : Nat) (x y : Operand) : opS tt tab nid ⟨d, .makeSlice u x y, t, p, af, g⟩ s = makeSliceS tt nid u (s.ev x) (s.ev y) s d := rfl
theorem opS_fieldAddr (u : Nat) (x : Operand) (f : Nat) : opS tt tab nid ⟨d, .fieldAddr u x f, t, p, af, g⟩ s = fieldAddrS tt u (s.ev x) f s d := rfl
theorem opS_field (u : Nat) (x : Operand) (f : Nat) : opS tt tab nid ⟨d, .field u x f, t, p, af, g⟩ s = fieldS tt u (s.ev x) f s d := rfl
theorem opS_indexAddr (u : Nat) (x y : Operand) : opS tt tab nid ⟨d, .indexAddr u x y, t, p, af, g⟩ s = indexAddrS tt u (s.ev x) (s.ev y) s d := rfl
theorem opS_index (u : Nat) (x y : Operand) : opS tt tab nid ⟨d, .index u x y, t, p, af, g⟩ s = indexS tt u (s.ev x) (s.ev y) s d := rfl
theorem opS_extract (x : Operand) (j : Nat) : opS tt tab nid ⟨d, .extract x j, t, p, af, g⟩ s = extractS (s.ev x) j s d := rfl
theorem opS_slice (u : Nat) (x : Operand) (lo hi mx : Option Operand) : opS tt tab nid ⟨d, .slice u x lo hi mx, t, p, af, g⟩ s = sliceS tt u (s.ev x) (lo.map s.ev) (hi.map s.ev) (mx.map s.ev) s d := rfl
theorem opS_len (x : Operand) (u : Nat) : opS tt tab nid ⟨d, .call ⟨.builtin .len, ⟨[x]⟩, ⟨[u]⟩⟩, t, p, af, g⟩ s = lenS tt u (s.ev x) s d := rfl
theorem opS_append (x y : Operand) (u u' : Nat) : opS tt tab nid ⟨d, .call ⟨.builtin .append, ⟨[x, y]⟩, ⟨[u, u']⟩⟩, t, p, af, g⟩ s = appendS tt nid u u' (s.ev x) (s.ev y) s d := rfl
theorem opS_min (l : List Operand) (ts : Array Nat) : opS tt tab nid ⟨d, .call ⟨.builtin .min, ⟨l⟩, ts⟩, t, p, af, g⟩ s = minS false (l.map s.ev) s d := rfl
theorem opS_copy (x y : Operand) (u u' : Nat) : opS tt tab nid ⟨d, .call ⟨.builtin .copy, ⟨[x, y]⟩, ⟨[u, u']⟩⟩, t, p, af, g⟩ s = copyS tt u (s.ev x) (s.ev y) s d := rfl
theorem opS_callv (u : Nat) (l : List Operand) (ts : Array Nat) : opS tt tab nid ⟨d, .call ⟨.value (.tmp u), ⟨l⟩, ts⟩, t, p, af, g⟩ s = callV tab nid (s.get u) (l.map s.ev) s d := rfl
theorem opS_makeFunc (f : FuncId) (l : List Operand) : opS tt tab nid ⟨d, .makeFunc (.func f) ⟨[]⟩ ⟨l⟩, t, p, af, g⟩ s = makeFuncS f (l.map s.ev) s d := rfl
theorem opS_max (l : List Operand) (ts : Array Nat) : opS tt tab nid ⟨d, .call ⟨.builtin .max, ⟨l⟩, ts⟩, t, p, af, g⟩ s = minS true (l.map s.ev) s d := rfl
theorem opS_call (f : Nat) (l : List Operand) (ts : Array Nat) : opS tt tab nid ⟨d, .call ⟨.value (.func f), ⟨l⟩, ts⟩, t, p, af, g⟩ s = callS tab nid f (l.map s.ev) s d := rfl
end

def tabOf : List (Nat × Spec) → Nat → Option Spec
  | [], _ => none
  | (k, x) :: r, t => bif k == t then some x else tabOf r t
theorem tabOf_nil {P : Program} {rt : Nat} : TabOK P rt (tabOf []) := fun _ _ h => by cases h
theorem tabOf_cons {P : Program} {rt f : Nat} {sp : Spec} {l : List (Nat × Spec)} (h1 : rowB P f = true) (h2 : Sat P rt f sp) (h3 : TabOK P rt (tabOf l)) : TabOK P rt (tabOf ((f, sp) :: l)) := by
  intro k x h
  simp only [tabOf] at h
  cases hk : f == k with
  | true =>
    rw [hk, cond_true, Option.some.injEq] at h
    subst h
    have := eq_of_beq hk
    subst this
    exact ⟨rowB_ok h1, h2⟩
  | false => rw [hk, cond_false] at h; exact h3 k x h

end Go.VE
namespace Go.VE
/-- A contract, by a family of arguments. -/
def famPre {α : Type} (dec : List AV → Option α) (A : α → List AV) (pre : α → Prop) (args : List AV) : Prop :=
  match dec args with
  | some x => args = A x ∧ pre x
  | none => False
def famPost {α : Type} (dec : List AV → Option α) (post : α → AV → List Box → Prop) (args : List AV) (r : AV) (bs : List Box) : Prop :=
  match dec args with
  | some x => post x r bs
  | none => True
def famSpec {α : Type} (A : α → List AV) (dec : List AV → Option α) (pre : α → Prop) (post : α → AV → List Box → Prop) (cost : Nat) (flat : Bool) : Spec :=
  ⟨fun args ins => ins = [] ∧ famPre dec A pre args, fun args _ r bs => famPost dec post args r bs, cost, flat, [], false⟩
/-- The same, with rows that are handed back read only. -/
def famSpecS {α : Type} (A : α → List AV) (dec : List AV → Option α) (pre : α → Prop) (post : α → AV → List Box → Prop) (cost : Nat) (flat : Bool) : Spec :=
  ⟨fun args ins => ins = [] ∧ famPre dec A pre args, fun args _ r bs => famPost dec post args r bs, cost, flat, [], true⟩
/-- With boxes that are handed over. -/
def famPreM {α : Type} (dec : List AV → List Box → Option α) (A : α → List AV) (B : α → List Box) (pre : α → Prop) (args : List AV) (ins : List Box) : Prop :=
  match dec args ins with
  | some x => args = A x ∧ ins = B x ∧ pre x
  | none => False
def famPostM {α : Type} (dec : List AV → List Box → Option α) (post : α → AV → List Box → Prop) (args : List AV) (ins : List Box) (r : AV) (bs : List Box) : Prop :=
  match dec args ins with
  | some x => post x r bs
  | none => True
def famSpecM {α : Type} (A : α → List AV) (B : α → List Box) (dec : List AV → List Box → Option α) (pre : α → Prop) (post : α → AV → List Box → Prop) (cost : Nat) (flat : Bool) (mt : List Bool) (shut : Bool) : Spec :=
  ⟨fun args ins => famPreM dec A B pre args ins, fun args ins r bs => famPostM dec post args ins r bs, cost, flat, mt, shut⟩
theorem famPre_ex {α : Type} {dec : List AV → Option α} {A : α → List AV} {pre : α → Prop} {args : List AV} (h : famPre dec A pre args) : ∃ x, args = A x ∧ pre x ∧ dec (A x) = some x := by
  unfold famPre at h
  split at h
  · rename_i x hx
    obtain ⟨rfl, h2⟩ := h
    exact ⟨x, rfl, h2, hx⟩
  · exact h.elim
theorem famPreM_ex {α : Type} {dec : List AV → List Box → Option α} {A : α → List AV} {B : α → List Box} {pre : α → Prop} {args : List AV} {ins : List Box} (h : famPreM dec A B pre args ins) : ∃ x, args = A x ∧ ins = B x ∧ pre x ∧ dec (A x) (B x) = some x := by
  unfold famPreM at h
  split at h
  · rename_i x hx
    obtain ⟨rfl, rfl, h2⟩ := h
    exact ⟨x, rfl, rfl, h2, hx⟩
  · exact h.elim
end Go.VE
