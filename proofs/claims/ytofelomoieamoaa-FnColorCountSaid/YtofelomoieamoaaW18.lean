/- A part of the engine: what operations do to described states, proved sound against the model. No conditions. -/
import Derived.Test.YtofelomoieamoaaW17
import Derived.KernelRfl
set_option linter.unusedSimpArgs false
set_option linter.unusedVariables false
namespace Go.VE
open Go

def vB : Value → Value → Bool
  | .int k n, .int k' n' => decide (k = k') && decide (n = n')
  | .bool b, .bool b' => b == b'
  | .string b, .string b' => decide (b.data = b'.data)
  | .slice none 0 0, .slice none 0 0 => true
  | .map none, .map none => true
  | .pointer none, .pointer none => true
  | .nilFunc, .nilFunc => true
  | _, _ => false
theorem vB_eq {a b : Value} (h : vB a b = true) : a = b ∧ a.oneCell' = true := by
  unfold vB at h
  split at h
  · simp only [Bool.and_eq_true, decide_eq_true_eq] at h
    obtain ⟨rfl, rfl⟩ := h
    exact ⟨rfl, rfl⟩
  · rename_i b b'
    have h' := eq_of_beq h
    subst h'
    exact ⟨rfl, rfl⟩
  · rename_i b b'
    have h' : b.data = b'.data := by simpa using h
    cases b; cases b'
    simp only at h'
    subst h'
    exact ⟨rfl, rfl⟩
  · exact ⟨rfl, rfl⟩
  · exact ⟨rfl, rfl⟩
  · exact ⟨rfl, rfl⟩
  · exact ⟨rfl, rfl⟩
  · cases h
def vsB : List Value → List Value → Bool
  | [], [] => true
  | a :: r, b :: r' => vB a b && vsB r r'
  | _, _ => false
theorem vsB_eq : ∀ {l r : List Value}, vsB l r = true → l = r ∧ ∀ v ∈ r, v.oneCell' = true
  | [], [], _ => ⟨rfl, by simp⟩
  | a :: l, b :: r, h => by
    simp only [vsB, Bool.and_eq_true] at h
    obtain ⟨h1, h2⟩ := vB_eq h.1
    obtain ⟨h3, h4⟩ := vsB_eq h.2
    subst h1 h3
    exact ⟨rfl, by simpa using ⟨h2, h4⟩⟩
  | [], _ :: _, h => by cases h
  | _ :: _, [], h => by cases h

def fsB : List (Nat × Nat) → List (Nat × Nat) → Bool
  | [], [] => true
  | a :: r, b :: r' => a.1 == b.1 && a.2 == b.2 && fsB r r'
  | _, _ => false
theorem fsB_eq : ∀ {l r : List (Nat × Nat)}, fsB l r = true → l = r
  | [], [], _ => rfl
  | a :: l, b :: r, h => by
    simp only [fsB, Bool.and_eq_true, beq_iff_eq] at h
    obtain ⟨⟨h1, h2⟩, h3⟩ := h
    rw [fsB_eq h3]
    cases a; cases b
    simp only at h1 h2
    subst h1 h2
    rfl
  | [], _ :: _, h => by cases h
  | _ :: _, [], h => by cases h

def descB (P : Program) : TypeDesc → TK → Bool
  | .int k, .int k' => decide (k = k')
  | .bool, .bool => true
  | .string, .string => true
  | .slice e, .slice e' => e == e'
  | .map k _, .map k' => k == k'
  | .struct fields, .struct fs => fsB (fields.toList.map (fun f => (f.type, f.offset))) (fs.map (fun x => (x.1, x.2.1))) && fs.all fun x => x.2.2 != 0 && match P.info? x.1 with
    | some j => j.size == x.2.2
    | none => false
  | .pointer _, .other => true
  | .func _ _ _, .other => true
  | .map _ _, .other => true
  | .interface _, .other => true
  | _, _ => false
theorem descB_ok {P : Program} {d : TypeDesc} {k : TK} (h : descB P d k = true) : descOK P d k := by
  unfold descB at h
  split at h
  · simpa [descOK] using h
  · trivial
  · trivial
  · simpa [descOK] using h
  · simpa [descOK] using h
  · simp only [Bool.and_eq_true, List.all_eq_true] at h
    refine ⟨fsB_eq h.1, fun x hx => ?_⟩
    obtain ⟨h1, h2⟩ := by simpa using h.2 x hx
    refine ⟨h1, ?_⟩
    split at h2
    · rename_i j hj; exact ⟨j, hj, by simpa using h2⟩
    · cases h2
  · trivial
  · trivial
  · trivial
  · trivial
  · cases h

def tiB (P : Program) (t : Nat) (x : TI) : Bool :=
  (match P.info? t with
  | some i => i.size == x.sz && i.bytes == x.bytes && match i.zero with
    | some z => vsB z.cells.toList x.zv
    | none => false
  | none => false) &&
  (match P.underlying t with
  | some d => descB P d x.kind
  | none => false) && x.zv.length == x.sz && (x.kind.agg || x.sz == 1)

def EqvOK (P : Program) (t n : Nat) : Prop := P.eqGuardType P.depth t = false ∧ ∀ (w : World) (as bs : List Int), as.length = n → bs.length = n →
    (Op.equalIn 10000 t (.agg (as.map (Value.int .i64)).toArray) (.agg (bs.map (Value.int .i64)).toArray)).run P w = .ok (decide (as = bs)) w ∧ (Instr.checkKey false 10000 t (.agg (as.map (Value.int .i64)).toArray)).run P w = .ok () w

theorem tiB_ok {P : Program} {t : Nat} {x : TI} (h : tiB P t x = true) (he : x.eq = true → EqvOK P t x.sz) : TIok P t x := by
  simp only [tiB, Bool.and_eq_true, Bool.or_eq_true, beq_iff_eq] at h
  obtain ⟨⟨⟨h1, h2⟩, h3⟩, h4⟩ := h
  split at h1
  · rename_i i hi
    simp only [Bool.and_eq_true, beq_iff_eq] at h1
    obtain ⟨⟨k1, k2⟩, k3⟩ := h1
    split at k3
    · rename_i z hz
      obtain ⟨q1, q2⟩ := vsB_eq k3
      refine ⟨⟨i, z, hi, k1, k2, hz, q1⟩, ?_, h3, q2, fun hk => h4.resolve_left (by rw [hk]; simp), he⟩
      split at h2
      · rename_i d hd; exact ⟨d, hd, descB_ok h2⟩
      · cases h2
    · cases k3
  · cases h1

def ttOf : List (Nat × TI) → Nat → Option TI
  | [], _ => none
  | (k, x) :: r, t => bif k == t then some x else ttOf r t
theorem ttOf_ok {P : Program} : ∀ (l : List (Nat × TI)), (∀ p ∈ l, TIok P p.1 p.2) → TTok P (ttOf l)
  | [], _, t, x, h => by cases h
  | (k, y) :: r, hl, t, x, h => by
    simp only [ttOf] at h
    cases hk : k == t with
    | true =>
      rw [hk, cond_true, Option.some.injEq] at h
      subst h
      have := eq_of_beq hk
      subst this
      exact hl (k, y) (by simp)
    | false => rw [hk, cond_false] at h; exact ttOf_ok r (fun p hp => hl p (by simp [hp])) t x h
theorem tts_ok {P : Program} {l : List (Nat × TI)} (h : l.all (fun p => tiB P p.1 p.2) = true) (he : ∀ p ∈ l, p.2.eq = true → EqvOK P p.1 p.2.sz) : TTok P (ttOf l) :=
  ttOf_ok l fun p hp => tiB_ok (List.all_eq_true.1 h p hp) (he p hp)

def rowB (P : Program) (f : FuncId) : Bool :=
  match P.funcs[f]? with
  | some fn => !(fn.name == "runtime.NumGoroutine") && !fn.body.isNone
  | none => false
theorem rowB_ok {P : Program} {f : FuncId} (h : rowB P f = true) : FnRow P f := by
  unfold rowB at h
  split at h
  · rename_i fn hfn
    simp only [Bool.and_eq_true, Bool.not_eq_true'] at h
    exact ⟨fn, hfn, h.1, h.2⟩
  · cases h
end Go.VE
