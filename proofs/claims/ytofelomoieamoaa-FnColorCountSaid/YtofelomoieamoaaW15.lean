/- A part of the engine: what operations do to described states, proved sound against the model. No conditions. -/
import Derived.Test.YtofelomoieamoaaW14
set_option linter.unusedSimpArgs false
set_option linter.unusedVariables false
namespace Go.VE
open Go

/-! What a function hands back. -/
def expC0 (s : St) (ids : List Nat) : C → C
  | .rdr => .bot
  | c => renC0 s ids c
def expC (s : St) (ids : List Nat) : C → C
  | .fn f caps => .fn f (caps.map (expC0 s ids))
  | c => expC0 s ids c
def expA1 (s : St) (ids : List Nat) : AV → AV
  | .c x => .c (expC s ids x)
  | .agg cs => .agg (cs.map (expC s ids))
  | .tup _ => .c .bot
  | .mp _ _ => .c .bot
def expA (s : St) (ids : List Nat) : AV → AV
  | .tup vs => .tup (vs.map (expA1 s ids))
  | .c x => expA1 s ids (.c x)
  | .agg cs => expA1 s ids (.agg cs)
  | .mp _ _ => .c .bot
def expB (s : St) (ids : List Nat) (bx : Box) : Box :=
  match bx.row with
  | true => bx
  | false => { bx with es := bx.es.map fun e => e.map (expC s ids) }
def expOk0 (s : St) (ids : List Nat) (c : C) : Prop :=
  match hkey c with
  | some (b, _) => match idxOf b ids 0 with
    | some _ => True
    | none => sealOk s c
  | none => True
def expOk0s (s : St) (ids : List Nat) : List C → Prop
  | [] => True
  | c :: r => expOk0 s ids c ∧ expOk0s s ids r
def expOk (s : St) (ids : List Nat) : C → Prop
  | .fn _ caps => expOk0s s ids caps
  | c => expOk0 s ids c
def expOks (s : St) (ids : List Nat) : List C → Prop
  | [] => True
  | c :: r => expOk s ids c ∧ expOks s ids r
def flatOk0 (s : St) (ids : List Nat) (c : C) : Prop :=
  match hkey c with
  | some (b, _) => match idxOf b ids 0 with
    | some _ => True
    | none => match s.box b with
      | some bx => pureV bx.es
      | none => True
  | none => match c with
    | .sl _ _ => False
    | .rp _ => False
    | .ex _ _ => False
    | _ => True
def flatOk0s (s : St) (ids : List Nat) : List C → Prop
  | [] => True
  | c :: r => flatOk0 s ids c ∧ flatOk0s s ids r
def flatOk (s : St) (ids : List Nat) : C → Prop
  | .fn _ caps => flatOk0s s ids caps
  | c => flatOk0 s ids c
def flatOks (s : St) (ids : List Nat) : List C → Prop
  | [] => True
  | c :: r => flatOk s ids c ∧ flatOks s ids r
def expBs (s : St) (ids : List Nat) (flat : Bool) : List Nat → Prop
  | [] => True
  | b :: r => (match s.box b with
    | some bx => bx.fz = false ∧ (match bx.row with
      | true => flat = true → pureV bx.es
      | false => expOks s ids bx.es.flatten ∧ (flat = true → flatOks s ids bx.es.flatten))
    | none => False) ∧ expBs s ids flat r
def expBoxes (s : St) (ids : List Nat) : List Nat → List Box
  | [] => []
  | b :: r => expB s ids (boxN s b) :: expBoxes s ids r
def catCells : List AV → List C
  | [] => []
  | x :: r => cellsOf x ++ catCells r
def allCells : AV → List C
  | .tup vs => catCells vs
  | .c x => [x]
  | .agg cs => cs
  | .mp _ _ => []
def numsOf : Nat → List Box → List Nat
  | _, [] => []
  | k, _ :: r => k :: numsOf (k + 1) r
def varCells (s : St) : List Nat → List C
  | [] => []
  | b :: r => (match isVar s b, s.box b with
    | true, some bx => bx.es.flatten
    | _, _ => []) ++ varCells s r
def xids (s : St) (ins : List Box) (shut : Bool) (cs : List C) : List Nat :=
  match shut with
  | true => numsOf 0 ins
  | false => numsOf 0 ins ++ (gather s FUEL (numsOf 0 ins) (cs ++ varCells s (numsOf 0 ins))).drop ins.length

/-- A result: in a slot, or in a cell. -/
inductive RV where
  | tmp (t : Nat)
  | cell (a t : Nat)
def RV.var : RV → ResultVar
  | .tmp t => .tmp t
  | .cell a t => .cell a t
def rvS (tt : Nat → Option TI) (s : St) : RV → Prop × AV
  | .tmp t => (True, s.get t)
  | .cell a t => match tt t, s.get a with
    | some ti, .c (.ptr b n i off) => match s.box b with
      | some bx => match nthL bx.es i with
        | some e => (n = bx.es.length ∧ i < n ∧ off + ti.sz ≤ bx.k, mkAV ti.kind.agg (loaded bx.row ((e.drop off).take ti.sz)))
        | none => (False, .c .bot)
      | none => (False, .c .bot)
    | _, _ => (False, .c .bot)
def rvOk (tt : Nat → Option TI) (s : St) : List RV → Prop
  | [] => True
  | r :: l => (rvS tt s r).1 ∧ rvOk tt s l
def resAV (tt : Nat → Option TI) (s : St) : List RV → AV
  | [] => .tup []
  | [r] => (rvS tt s r).2
  | l => .tup (l.map fun r => (rvS tt s r).2)

def retE (sp : Spec) (args : List AV) (ins : List Box) (pk0 : Nat) (s : St) (res : AV) (ids : List Nat) : Prop :=
  expOks s ids (allCells res) ∧ (sp.flat = true → flatOks s ids (allCells res)) ∧ expBs s ids sp.flat ids ∧ distN ids = true ∧ ids.length ≤ ins.length + 8 ∧ s.pk ≤ pk0 + sp.cost ∧
    sp.post args ins (expA s ids res) (expBoxes s ids ids)
/-- What a function's end asks. -/
def retW (tt : Nat → Option TI) (sp : Spec) (args : List AV) (ins : List Box) (ts : List RV) (pk0 : Nat) (s : St) : Prop :=
  rvOk tt s ts ∧ retE sp args ins pk0 s (resAV tt s ts) (xids s ins sp.shut (allCells (resAV tt s ts)))

def retQ (tt : Nat → Option TI) (sp : Spec) (args : List AV) (ins : List Box) (ts : List RV) (pk0 : Nat) : Ex → St → Prop
  | .normal, s => retW tt sp args ins ts pk0 s
  | .ret, s => retW tt sp args ins ts pk0 s
  | .exit _, _ => False

def envOf : Nat → List AV → List (Nat × AV)
  | _, [] => []
  | k, x :: r => (k, x) :: envOf (k + 1) r
def entSt (nt : Nat) (args : List AV) (ins : List Box) (pk : Nat) : St := ⟨nt, ins.length, envOf 0 args, expHp 0 ins, ins.length, pk⟩
def entPins (ins : List Box) (β0 : Nat → Option Nat) (cp0 : Nat → Nat) : List (Box × Option Nat × Nat) := ins.zipIdx.map fun p => (p.1, β0 p.2, cp0 p.2)

theorem entPins_get {ins : List Box} {β0 : Nat → Option Nat} {cp0 : Nat → Nat} {i : Nat} {q : Box × Option Nat × Nat} (h : (entPins ins β0 cp0)[i]? = some q) : ∃ bx, ins[i]? = some bx ∧ q = (bx, β0 i, cp0 i) := by
  simp only [entPins, List.getElem?_map, List.getElem?_zipIdx, Option.map_map, Option.map_eq_some_iff] at h
  obtain ⟨bx, h1, rfl⟩ := h
  exact ⟨bx, h1, by simp⟩
theorem entPins_of {ins : List Box} (β0 : Nat → Option Nat) (cp0 : Nat → Nat) {i : Nat} {bx : Box} (h : ins[i]? = some bx) : (entPins ins β0 cp0)[i]? = some (bx, β0 i, cp0 i) := by
  simp [entPins, List.getElem?_zipIdx, h]

theorem lkE_env : ∀ (l : List AV) (k t : Nat), lkE (envOf k l) t = if k ≤ t then (l[t - k]?).getD (.c .bot) else .c .bot
  | [], k, t => by simp [envOf, lkE]
  | x :: r, k, t => by
    simp only [envOf, lkE]
    by_cases h : k = t
    · subst h; simp
    · have e : (k == t) = false := by simpa using h
      rw [e, cond_false, lkE_env r (k + 1) t]
      by_cases h2 : k ≤ t
      · have : t - k = t - (k + 1) + 1 := by omega
        rw [if_pos (by omega), if_pos h2, this, List.getElem?_cons_succ]
      · rw [if_neg (by omega), if_neg h2]

section
variable {P : Program} {X : Cx} {s : St} {a : Act} {w : World} {β : Nat → Option Nat} {cp : Nat → Nat} {Rd : Nat → Prop}

theorem ent_box (nt : Nat) (args : List AV) (ins : List Box) (pk b : Nat) : (entSt nt args ins pk).box b = ins[b]? := exp_box ins b
theorem ent_keyed (nt : Nat) (args : List AV) (ins : List Box) (pk b : Nat) : (entSt nt args ins pk).keyed b ↔ b < ins.length := exp_keyed ins b

/-- The state at a function's entry. -/
theorem good_entry {rt nt pk : Nat} {Av Rd : Nat → Prop} {args : List AV} {vs : Array Value} {ins : List Box} {β0 : Nat → Option Nat} {cp0 : Nat → Nat} (T : Takes rt w Av Rd pk args vs ins β0 cp0) (hnt : args.length ≤ nt) :
    Good ⟨rt, w, Av, Rd, entPins ins β0 cp0⟩ (entSt nt args ins pk) { tmps := vs ++ Array.replicate (nt - vs.size) undef, defers := [] } w β0 cp0 Rd := by
  have hH : ∀ c v, hOf (expSt ins) β0 cp0 c v → hOf (entSt nt args ins pk) β0 cp0 c v := fun c v h => h
  have hhas : ∀ g, has (entSt nt args ins pk) β0 g → has (expSt ins) β0 g := fun g h => h
  have hmt : ∀ g, Cx.mt ⟨rt, w, Av, Rd, entPins ins β0 cp0⟩ (entSt nt args ins pk) β0 Rd g → avIn Av ins β0 g := by
    rintro g (h | h | h)
    · exact .inl h
    · exact .inr (hhas g h.has)
    · exact .inl (T.rdav g h)
  exact {
    defers := rfl
    size := by
      have := T.size
      simp [entSt]; omega
    keeps := Keeps.refl _ _
    fresh := fun b hb => (ent_keyed nt args ins pk b).1 hb
    org := fun b bx g h1 h2 => .inr ⟨_, entPins_of β0 cp0 (by rw [← ent_box nt args ins pk]; exact h1), h2⟩
    own_rd := fun g hg hr => T.pasav g (hhas g hg) (T.rdav g hr)
    own_av := fun g hg => T.pasav g (hhas g hg)
    rdsame := fun g hg => by
      obtain ⟨_, bv, p, bs, h1, _⟩ := T.rdok g hg
      exact ⟨bv, p, p, h1, h1⟩
    inj := fun b b' bx bx' g h1 h2 => T.inj b b' bx bx' g (by rw [← ent_box nt args ins pk]; exact h1) (by rw [← ent_box nt args ins pk]; exact h2)
    rd0 := fun g h => h
    rdge := fun g h => .inl h
    avlt := fun g h => T.avlt g h
    npin := by simp [entPins, entSt]
    pin := fun i q hq => by
      obtain ⟨bx, h1, rfl⟩ := entPins_get hq
      refine ⟨(ent_keyed nt args ins pk i).2 (List.getElem?_eq_some_iff.1 h1).1, fun bx' hb => ?_⟩
      rw [ent_box, h1] at hb
      cases hb
      exact ⟨Nat.le_refl _, fun _ => ⟨rfl, rfl, rfl⟩⟩
    rdok := T.rdok.mono (fun _ _ _ => rfl) (Nat.le_refl _) (fun g _ hm => hmt g hm) (fun _ _ => rfl) (Nat.le_refl _)
    env := fun t => by
      show MA _ _ _ _ _ (lkE (envOf 0 args) t)
      rw [lkE_env]
      simp only [Nat.zero_le, if_true, Nat.sub_zero]
      cases hx : args[t]? with
      | none => trivial
      | some x =>
        have hlt := (List.getElem?_eq_some_iff.1 hx).1
        have := T.args t x hx
        have hsz := T.size
        have e : (vs ++ Array.replicate (nt - vs.size) undef).getD t undef = vs.getD t undef := by
          simp [Array.getElem?_append, hsz, hlt]
        simp only [Option.getD_some]
        show MA _ _ _ _ ((vs ++ Array.replicate (nt - vs.size) undef).getD t undef) x
        rw [e]
        exact this.mono (K := fun _ => True) (fun _ _ _ => rfl) (Nat.le_refl _) (fun g _ hm => hmt g hm) (fun _ h => h) (avIds_all x) (fun c _ _ _ _ v h => hH c v h)
    boxes := fun b bx h1 => by
      rw [ent_box] at h1
      exact (T.boxes b bx h1).2.mono fun v c hc => hc.mono (K := fun _ => True) (fun _ _ _ => rfl) (Nat.le_refl _) (fun g _ hm => hmt g hm) (fun _ h => h) (cIds_all c) (fun c _ _ _ _ v h => hH c v h) }
end
end Go.VE
