/- A part of the engine: what operations do to described states, proved sound against the model. No conditions. -/
import Derived.WalkKit
set_option linter.unusedSimpArgs false
set_option linter.unusedVariables false
namespace Go.VE
open Go

/-- What one cell holds, as the engine knows it. 'sl': a row that is only read. 'own': the whole of a box, as a slice. 'vw': a part of a box, as a slice. 'ptr': a place in a box. 'ex': this very value. -/
inductive C where
  | v (x : Value)
  | sl (t : Bool) (es : List (List C))
  | own (b n : Nat) (t : Bool)
  | vw (b n lo hi : Nat)
  | ptr (b n i off : Nat)
  | rp (cs : List C)
  | ex (x : Value) (c : C)
  | rdr
  | fn (f : FuncId) (caps : List C)
  | und
  | bot

inductive AV where
  | c (x : C)
  | agg (cs : List C)
  | tup (vs : List AV)
  | mp (b : Nat) (ks : List (List Int))

/-- 'row': the row of a slice: its cells hold no handles. Else: a variable. -/
structure Box where
  es : List (List C)
  k : Nat
  ty : Nat
  row : Bool
  fz : Bool

structure St where
  nt : Nat
  np : Nat
  env : List (Nat × AV)
  hp : List (Nat × Option Box)
  nx : Nat
  pk : Nat

def lkE : List (Nat × AV) → Nat → AV
  | [], _ => .c .bot
  | (k, x) :: r, t => bif k == t then x else lkE r t

def lkB : List (Nat × Option Box) → Nat → Option (Option Box)
  | [], _ => none
  | (k, x) :: r, t => bif k == t then some x else lkB r t

def nthL {α : Type} : List α → Nat → Option α
  | [], _ => none
  | x :: r, i => bif i == 0 then some x else nthL r (i - 1)
theorem nthL_eq {α : Type} : ∀ (l : List α) (i : Nat), nthL l i = l[i]?
  | [], i => by simp [nthL]
  | x :: r, 0 => by simp [nthL]
  | x :: r, i + 1 => by simp [nthL, nthL_eq r i]

def St.get (s : St) (t : Nat) : AV := lkE s.env t
def St.box (s : St) (b : Nat) : Option Box := (lkB s.hp b).getD none
def St.keyed (s : St) (b : Nat) : Prop := (lkB s.hp b).isSome = true
def St.put (s : St) (d : Option Nat) (x : AV) : St :=
  match d with
  | none => s
  | some d => { s with env := (d, x) :: s.env }
def St.setBox (s : St) (b : Nat) (x : Option Box) : St := { s with hp := (b, x) :: s.hp }

/-- What may stand in a row. -/
def okR : C → Bool
  | .v _ => true
  | .sl _ _ => true
  | .rp _ => true
  | _ => false
def pureEs (es : List (List C)) : Prop := ∀ e ∈ es, ∀ c ∈ e, okR c = true
def okV : C → Bool
  | .v _ => true
  | _ => false
def pureV (es : List (List C)) : Prop := ∀ e ∈ es, ∀ c ∈ e, okV c = true

/-- A handle: its box, and the length of the box that it knows. -/
def hkey : C → Option (Nat × Nat)
  | .own b n _ => some (b, n)
  | .vw b n _ _ => some (b, n)
  | .ptr b n _ _ => some (b, n)
  | _ => none
def setId (b : Nat) : C → C
  | .own _ n t => .own b n t
  | .vw _ n lo hi => .vw b n lo hi
  | .ptr _ n i off => .ptr b n i off
  | c => c
def hV (β : Option Nat) (cp k : Nat) : C → Value → Prop
  | .own _ n t, v => (β = none ∧ n = 0 ∧ ∃ a, v = .slice a 0 0) ∨ ∃ g c, β = some g ∧ v = .slice (some ⟨g, 0, none⟩) n c ∧ n ≤ c ∧ c ≤ cp ∧ (t = true → c = n)
  | .vw _ n lo hi, v => lo ≤ hi ∧ hi ≤ n ∧ ∃ a c, v = .slice a (hi - lo) c ∧ hi - lo ≤ c ∧ c ≤ maxLen ∧ (lo < hi → ∃ g, β = some g ∧ a = some ⟨g, lo * k, none⟩)
  | .ptr _ _ i off, v => ∃ g, β = some g ∧ v = .pointer (some ⟨g, i * k + off, none⟩)
  | _, _ => False
theorem hV_one {β : Option Nat} {cp k : Nat} {c : C} {v : Value} (h : hV β cp k c v) : v.oneCell' = true := by
  cases c with
  | own b n t =>
    rcases h with ⟨_, _, a, rfl⟩ | ⟨g, c, _, rfl, _⟩ <;> rfl
  | vw b n lo hi => obtain ⟨_, _, a, c, rfl, _⟩ := h; rfl
  | ptr b n i off => obtain ⟨g, _, rfl⟩ := h; rfl
  | _ => exact h.elim
theorem hV_setId {β : Option Nat} {cp k : Nat} {c : C} {v : Value} (b : Nat) : hV β cp k (setId b c) v ↔ hV β cp k c v := by
  cases c <;> exact Iff.rfl
theorem hkey_setId {c : C} {b n : Nat} (h : hkey c = some (b, n)) (b' : Nat) : hkey (setId b' c) = some (b', n) := by
  cases c <;> simp_all [hkey, setId]

section rel
variable (w : World) (Mt : Nat → Prop)

/-- Reading: a value that the description fits, in memory outside of 'Mt' (the blocks that may be written). -/
inductive RC : Value → C → Prop
  | v (x : Value) (hx : x.oneCell' = true) : RC x (.v x)
  | sl (t : Bool) (es : List (List C)) (k : Nat) (a : Option Addr) (p : Addr) (n cap : Nat) (hn : n = es.length) (ht : t = true → cap = n) (hle : n ≤ cap) (hmax : cap ≤ maxLen)
      (hk : ∀ e ∈ es, e.length = k) (ha : es ≠ [] → a = some p ∧ p.spot = none ∧ ¬ Mt p.block ∧ p.block < w.heap.size) (u : Nat → Nat → Value)
      (hc : ∀ i j e c, es[i]? = some e → e[j]? = some c → w.cell? ⟨p.block, p.off + (i * k + j), none⟩ = some (u i j))
      (hr : ∀ i j e c, es[i]? = some e → e[j]? = some c → RC (u i j) c) : RC (.slice a n cap) (.sl t es)
  | rp (cs : List C) (p : Addr) (hs : p.spot = none) (hm : ¬ Mt p.block) (hlt : p.block < w.heap.size) (u : Nat → Value)
      (hc : ∀ j c, cs[j]? = some c → w.cell? ⟨p.block, p.off + j, none⟩ = some (u j)) (hr : ∀ j c, cs[j]? = some c → RC (u j) c) : RC (.pointer (some p)) (.rp cs)

variable (Rd : Nat → Prop) (H : C → Value → Prop)

def MC0 (v : Value) : C → Prop
  | .own b n t => v.oneCell' = true ∧ H (.own b n t) v
  | .vw b n lo hi => v.oneCell' = true ∧ H (.vw b n lo hi) v
  | .ptr b n i off => v.oneCell' = true ∧ H (.ptr b n i off) v
  | .und => v = undef
  | .bot => True
  | .fn _ _ => False
  | .rdr => ∃ g, Rd g ∧ v = .pointer (some ⟨g, 0, none⟩)
  | .ex x c => v = x ∧ RC w Mt v c
  | c => RC w Mt v c

def MC (v : Value) : C → Prop
  | .fn f caps => ∃ arr : Array Value, v = .func (.func f) #[] arr ∧ arr.size = caps.length ∧ ∀ j c, caps[j]? = some c → MC0 w Mt Rd H (arr.getD j undef) c
  | c => MC0 w Mt Rd H v c

/-- Cells in a row. -/
def MCs (arr : Array Value) (cs : List C) : Prop := arr.size = cs.length ∧ ∀ j c, cs[j]? = some c → MC w Mt Rd H (arr.getD j undef) c

def MA1 (v : Value) : AV → Prop
  | .c x => MC w Mt Rd H v x
  | .agg cs => ∃ arr, v = .agg arr ∧ MCs w Mt Rd H arr cs
  | .tup _ => False
  | .mp _ _ => False

/-- The keys of a map, each a row of whole numbers. -/
def KeysAre (es : Array MapEntry) (ks : List (List Int)) : Prop := es.toList.map (·.key) = ks.map fun k => .agg (k.map fun n => Value.int .i64 n).toArray

def MA (v : Value) : AV → Prop
  | .tup vs => ∃ arr, v = .tuple arr ∧ arr.size = vs.length ∧ ∀ j x, vs[j]? = some x → MA1 w Mt Rd H (arr.getD j undef) x
  | .mp b ks => ∃ g es clk, v = .map (some g) ∧ H (.ptr b 0 0 0) (.pointer (some ⟨g, 0, none⟩)) ∧ ¬ Mt g ∧ g < w.heap.size ∧ w.heap[g]? = some (.map es clk) ∧ KeysAre es ks
  | x => MA1 w Mt Rd H v x
end rel

/-- What was there and may not be written is as it was. -/
structure Keeps (Mt : Nat → Prop) (w w' : World) : Prop where
  os : w'.os = w.os
  tape : w'.tape = w.tape
  output : w'.output = w.output
  size : w.heap.size ≤ w'.heap.size
  block : ∀ g, g < w.heap.size → ¬ Mt g → w'.heap[g]? = w.heap[g]?

theorem Keeps.refl (Mt : Nat → Prop) (w : World) : Keeps Mt w w := ⟨rfl, rfl, rfl, Nat.le_refl _, fun _ _ _ => rfl⟩
theorem Keeps.trans {M1 M2 M : Nat → Prop} {a b c : World} (h : Keeps M1 a b) (k : Keeps M2 b c) (h1 : ∀ g, g < a.heap.size → M1 g → M g) (h2 : ∀ g, g < a.heap.size → M2 g → M g) : Keeps M a c :=
  ⟨k.os.trans h.os, k.tape.trans h.tape, k.output.trans h.output, Nat.le_trans h.size k.size, fun g hg hm => (k.block g (Nat.lt_of_lt_of_le hg h.size) (fun x => hm (h2 g hg x))).trans (h.block g hg (fun x => hm (h1 g hg x)))⟩
theorem Keeps.mono {M1 M : Nat → Prop} {a b : World} (h : Keeps M1 a b) (h1 : ∀ g, g < a.heap.size → M1 g → M g) : Keeps M a b :=
  ⟨h.os, h.tape, h.output, h.size, fun g hg hm => h.block g hg fun x => hm (h1 g hg x)⟩

section mono
variable {w w' : World} {Mt Mt' Rd Rd' : Nat → Prop} {H H' : C → Value → Prop}

theorem RC.mono {v : Value} {c : C} (h : RC w Mt v c) (hk : ∀ g, g < w.heap.size → ¬ Mt g → w'.heap[g]? = w.heap[g]?) (hsz : w.heap.size ≤ w'.heap.size)
    (hM : ∀ g, g < w.heap.size → Mt' g → Mt g) : RC w' Mt' v c := by
  induction h with
  | v x hx => exact .v x hx
  | sl t es k a p n cap hn ht hle hmax hk' ha u hc _ ih =>
    refine .sl t es k a p n cap hn ht hle hmax hk' (fun hne => ?_) u (fun i j e c h1 h2 => ?_) ih
    · obtain ⟨e1, e2, e3, e4⟩ := ha hne
      exact ⟨e1, e2, fun h => e3 (hM _ e4 h), Nat.lt_of_lt_of_le e4 hsz⟩
    · have hne : es ≠ [] := by rintro rfl; simp at h1
      obtain ⟨_, _, e3, e4⟩ := ha hne
      exact (World.cell?_of_block (w := w) (w' := w') (a := ⟨p.block, p.off + (i * k + j), none⟩) (hk p.block e4 e3)).trans (hc i j e c h1 h2)
  | rp cs p hs hm hlt u hc _ ih =>
    refine .rp cs p hs (fun h => hm (hM _ hlt h)) (Nat.lt_of_lt_of_le hlt hsz) u (fun j c h1 => ?_) ih
    exact (World.cell?_of_block (w := w) (w' := w') (a := ⟨p.block, p.off + j, none⟩) (hk p.block hlt hm)).trans (hc j c h1)

theorem RC.okR {v : Value} {c : C} (h : RC w Mt v c) : okR c = true := by cases h <;> rfl
theorem RC.weak {v : Value} {t : Bool} {es : List (List C)} (h : RC w Mt v (.sl t es)) {t' : Bool} (ht' : t' = true → t = true) : RC w Mt v (.sl t' es) := by
  cases h with
  | sl _ _ k a p n cap hn ht hle hmax hk ha u hc hr => exact RC.sl t' es k a p n cap hn (fun h => ht (ht' h)) hle hmax hk ha u hc hr
theorem RC.one {v : Value} {c : C} (h : RC w Mt v c) : v.oneCell' = true := by
  cases h with
  | v _ hx => exact hx
  | _ => rfl

/-- Only what is asked of the handles that are there. -/
def cellIds (c : C) (K : Nat → Prop) : Prop :=
  match hkey c with
  | some (b, _) => K b
  | none => True
def cIds : C → (Nat → Prop) → Prop
  | .fn _ caps, K => ∀ c ∈ caps, cellIds c K
  | c, K => cellIds c K
def csIds (cs : List C) (K : Nat → Prop) : Prop := ∀ c ∈ cs, cIds c K
def avIds1 : AV → (Nat → Prop) → Prop
  | .c x, K => cIds x K
  | .agg cs, K => csIds cs K
  | .tup _, _ => True
  | .mp _ _, _ => True
def avIds : AV → (Nat → Prop) → Prop
  | .tup vs, K => ∀ x ∈ vs, avIds1 x K
  | .mp b _, K => K b
  | x, K => avIds1 x K

theorem MC0.mono {v : Value} {c : C} (h : MC0 w Mt Rd H v c) (hk : ∀ g, g < w.heap.size → ¬ Mt g → w'.heap[g]? = w.heap[g]?) (hsz : w.heap.size ≤ w'.heap.size)
    (hM : ∀ g, g < w.heap.size → Mt' g → Mt g) (hR : ∀ g, Rd g → Rd' g) {K : Nat → Prop} (hi : cellIds c K) (hH : ∀ c b n, hkey c = some (b, n) → K b → ∀ v, H c v → H' c v) :
    MC0 w' Mt' Rd' H' v c := by
  cases c <;> simp only [MC0] at *
  case own b n t => exact ⟨h.1, hH _ b n rfl hi _ h.2⟩
  case vw b n lo hi' => exact ⟨h.1, hH _ b n rfl hi _ h.2⟩
  case ptr b n i off => exact ⟨h.1, hH _ b n rfl hi _ h.2⟩
  case und => exact h
  case rdr => exact h.imp fun g h => ⟨hR g h.1, h.2⟩
  case ex x c => exact ⟨h.1, RC.mono h.2 hk hsz hM⟩
  all_goals exact RC.mono h hk hsz hM

theorem MC.mono {v : Value} {c : C} (h : MC w Mt Rd H v c) (hk : ∀ g, g < w.heap.size → ¬ Mt g → w'.heap[g]? = w.heap[g]?) (hsz : w.heap.size ≤ w'.heap.size)
    (hM : ∀ g, g < w.heap.size → Mt' g → Mt g) (hR : ∀ g, Rd g → Rd' g) {K : Nat → Prop} (hi : cIds c K) (hH : ∀ c b n, hkey c = some (b, n) → K b → ∀ v, H c v → H' c v) :
    MC w' Mt' Rd' H' v c := by
  cases c
  case fn f caps =>
    obtain ⟨arr, e, hs, hr⟩ := h
    exact ⟨arr, e, hs, fun j c hj => MC0.mono (hr j c hj) hk hsz hM hR (hi c (List.mem_of_getElem? hj)) hH⟩
  all_goals (simp only [MC, cIds] at h hi ⊢; exact MC0.mono (K := K) h hk hsz hM hR hi hH)

theorem MCs.mono {arr : Array Value} {cs : List C} (h : MCs w Mt Rd H arr cs) (hk : ∀ g, g < w.heap.size → ¬ Mt g → w'.heap[g]? = w.heap[g]?) (hsz : w.heap.size ≤ w'.heap.size)
    (hM : ∀ g, g < w.heap.size → Mt' g → Mt g) (hR : ∀ g, Rd g → Rd' g) {K : Nat → Prop} (hi : csIds cs K) (hH : ∀ c b n, hkey c = some (b, n) → K b → ∀ v, H c v → H' c v) :
    MCs w' Mt' Rd' H' arr cs :=
  ⟨h.1, fun j c hc => (h.2 j c hc).mono hk hsz hM hR (hi c (List.mem_of_getElem? hc)) hH⟩

theorem MA1.mono {v : Value} {x : AV} (h : MA1 w Mt Rd H v x) (hk : ∀ g, g < w.heap.size → ¬ Mt g → w'.heap[g]? = w.heap[g]?) (hsz : w.heap.size ≤ w'.heap.size)
    (hM : ∀ g, g < w.heap.size → Mt' g → Mt g) (hR : ∀ g, Rd g → Rd' g) {K : Nat → Prop} (hi : avIds1 x K) (hH : ∀ c b n, hkey c = some (b, n) → K b → ∀ v, H c v → H' c v) :
    MA1 w' Mt' Rd' H' v x := by
  cases x with
  | c x => exact MC.mono (K := K) h hk hsz hM hR hi hH
  | agg cs => obtain ⟨arr, e, h⟩ := h; exact ⟨arr, e, h.mono hk hsz hM hR hi hH⟩
  | tup vs => exact h
  | mp b ks => exact h

theorem MA.mono {v : Value} {x : AV} (h : MA w Mt Rd H v x) (hk : ∀ g, g < w.heap.size → ¬ Mt g → w'.heap[g]? = w.heap[g]?) (hsz : w.heap.size ≤ w'.heap.size)
    (hM : ∀ g, g < w.heap.size → Mt' g → Mt g) (hR : ∀ g, Rd g → Rd' g) {K : Nat → Prop} (hi : avIds x K) (hH : ∀ c b n, hkey c = some (b, n) → K b → ∀ v, H c v → H' c v) :
    MA w' Mt' Rd' H' v x := by
  cases x with
  | c x => exact MA1.mono (x := .c x) (K := K) h hk hsz hM hR hi hH
  | agg cs => exact MA1.mono (x := .agg cs) (K := K) h hk hsz hM hR hi hH
  | tup vs =>
    obtain ⟨arr, e, hs, h⟩ := h
    exact ⟨arr, e, hs, fun j x hx => (h j x hx).mono hk hsz hM hR (hi x (List.mem_of_getElem? hx)) hH⟩
  | mp b ks =>
    obtain ⟨g, es, clk, e, h1, h2, h3, h4, h5⟩ := h
    exact ⟨g, es, clk, e, hH _ b 0 rfl hi _ h1, fun x => h2 (hM g h3 x), Nat.lt_of_lt_of_le h3 hsz, (hk g h3 h2).trans h4, h5⟩

theorem cellIds_all (c : C) : cellIds c (fun _ => True) := by unfold cellIds; split <;> trivial
theorem avIds_all (x : AV) : avIds x (fun _ => True) := by
  have h1 : ∀ c : C, cIds c (fun _ => True) := fun c => by cases c <;> first | exact fun c _ => cellIds_all c | trivial
  have h2 : ∀ x : AV, avIds1 x (fun _ => True) := fun x => by cases x <;> first | exact h1 _ | exact fun c _ => h1 c | trivial
  cases x <;> first | exact h2 (.c _) | exact h2 (.agg _) | exact fun x _ => h2 x | trivial
theorem cIds_all (c : C) : cIds c (fun _ => True) := avIds_all (.c c)
theorem csIds_all (cs : List C) : csIds cs (fun _ => True) := fun c _ => cIds_all c

theorem RC.mc {v : Value} {c : C} (h : RC w Mt v c) : MC w Mt Rd H v c := by
  cases h with
  | v _ hx => exact RC.v _ hx
  | sl t es k a p n cap hn ht hle hmax hk ha u hc hr => exact RC.sl t es k a p n cap hn ht hle hmax hk ha u hc hr
  | rp cs p hs hm hlt u hc hr => exact RC.rp cs p hs hm hlt u hc hr
theorem MC.rc {v : Value} {c : C} (h : MC w Mt Rd H v c) (hr : VE.okR c = true) : RC w Mt v c := by
  cases c <;> first | exact h | cases hr
end mono

/-- A box of the engine's: its block and its cells; 'none': a slice without an array. 'cp': how many elements the block holds. -/
def BoxOK0 (w : World) (M : Value → C → Prop) (β : Option Nat) (cp : Nat) (bx : Box) : Prop :=
  (β = none ∧ bx.es = [] ∧ bx.row = true) ∨
  ∃ g cur, β = some g ∧ w.heap[g]? = some (.cells cur bx.ty (0, 0)) ∧ cur.size = cp * bx.k ∧ bx.es.length ≤ cp ∧ cp ≤ maxLen ∧
    (∀ e ∈ bx.es, e.length = bx.k) ∧ (bx.row = true → pureEs bx.es) ∧ ∀ i j e c, bx.es[i]? = some e → e[j]? = some c → M (cur.getD (i * bx.k + j) undef) c

/-- Or a map's. -/
def BoxOK (w : World) (M : Value → C → Prop) (β : Option Nat) (cp : Nat) (bx : Box) : Prop :=
  BoxOK0 w M β cp bx ∨ (bx.es = [] ∧ bx.row = false ∧ cp = 0 ∧ ∃ g es clk, β = some g ∧ w.heap[g]? = some (.map es clk))
theorem BoxOK.two {w : World} {M : Value → C → Prop} {β : Option Nat} {cp : Nat} {bx : Box} (h : BoxOK w M β cp bx) (hn : bx.row = true ∨ bx.es ≠ []) : BoxOK0 w M β cp bx := by
  rcases h with h | ⟨h1, h2, _⟩
  · exact h
  · rcases hn with hn | hn
    · rw [h2] at hn; cases hn
    · exact absurd h1 hn
theorem ne_of_lt {α : Type} {l : List α} {i : Nat} (h : i < l.length) : l ≠ [] := by rintro rfl; exact Nat.not_lt_zero _ h

/-- What a handle is. -/
def hOf (s : St) (β : Nat → Option Nat) (cp : Nat → Nat) (c : C) (v : Value) : Prop :=
  ∃ b n, hkey c = some (b, n) ∧ s.keyed b ∧ ∀ bx, s.box b = some bx → n ≤ bx.es.length ∧ (n = bx.es.length → hV (β b) (cp b) bx.k c v)
def noH (_ : C) (_ : Value) : Prop := False

/-- The blocks that the engine may write. -/
def owns (s : St) (β : Nat → Option Nat) (g : Nat) : Prop := ∃ b bx, s.box b = some bx ∧ bx.fz = false ∧ β b = some g

/-- The blocks of all boxes. -/
def has (s : St) (β : Nat → Option Nat) (g : Nat) : Prop := ∃ b bx, s.box b = some bx ∧ β b = some g
theorem owns.has {s : St} {β : Nat → Option Nat} {g : Nat} (h : owns s β g) : has s β g := let ⟨b, bx, h1, _, h3⟩ := h; ⟨b, bx, h1, h3⟩

/-- What a reader's block holds: the code, and the place. -/
def RdB (rt : Nat) (w : World) (g : Nat) (bv : Value) (p : Int) : Prop :=
  ∃ (arr : Array Value) (c : Nat), w.heap[g]? = some (.cells arr rt (0, 0)) ∧ arr.size = c * 2 ∧ 1 ≤ c ∧ c ≤ maxLen ∧ arr.getD 0 undef = bv ∧ arr.getD 1 undef = .int .i64 p
theorem RdB.lt {rt : Nat} {w : World} {g : Nat} {bv : Value} {p : Int} (h : RdB rt w g bv p) : g < w.heap.size := let ⟨_, _, h1, _⟩ := h; (Array.getElem?_eq_some_iff.1 h1).1
theorem RdB.congr {rt : Nat} {w w' : World} {g : Nat} {bv : Value} {p : Int} (h : RdB rt w g bv p) (he : w'.heap[g]? = w.heap[g]?) : RdB rt w' g bv p := let ⟨a, c, h1, h2⟩ := h; ⟨a, c, he.trans h1, h2⟩
theorem RdB.inj {rt : Nat} {w : World} {g : Nat} {bv bv' : Value} {p p' : Int} (h : RdB rt w g bv p) (k : RdB rt w g bv' p') : bv = bv' ∧ p = p' := by
  obtain ⟨a, _, h1, _, _, _, h2, h3⟩ := h
  obtain ⟨b, _, k1, _, _, _, k2, k3⟩ := k
  rw [h1] at k1
  simp only [Option.some.injEq, Obj.cells.injEq, and_true] at k1
  subst k1
  rw [h2] at k2
  rw [h3] at k3
  exact ⟨k2, by simpa using k3⟩

/-- A reader's block: the code, and the place. -/
def RdOK (rt : Nat) (w : World) (Mt Rd : Nat → Prop) (pk : Nat) : Prop :=
  ∀ g, Rd g → g < w.heap.size ∧ ∃ (bv : Value) (p : Nat) (bs : List UInt8), RdB rt w g bv p ∧ p ≤ pk ∧ bs.length ≤ 2000 ∧
    RC w Mt bv (.sl false (bs.map fun b => [.v (.int .u8 b.toNat)]))

theorem RdOK.mono {rt : Nat} {w w' : World} {Mt Mt' Rd : Nat → Prop} {pk pk' : Nat} (h : RdOK rt w Mt Rd pk) (hk : ∀ g, g < w.heap.size → ¬ Mt g → w'.heap[g]? = w.heap[g]?) (hsz : w.heap.size ≤ w'.heap.size)
    (hM : ∀ g, g < w.heap.size → Mt' g → Mt g) (hrd : ∀ g, Rd g → w'.heap[g]? = w.heap[g]?) (hp : pk ≤ pk') : RdOK rt w' Mt' Rd pk' := by
  intro g hg
  obtain ⟨hlt, bv, p, bs, h1, h2, h3, h4⟩ := h g hg
  exact ⟨Nat.lt_of_lt_of_le hlt hsz, bv, p, bs, h1.congr (hrd g hg), Nat.le_trans h2 hp, h3, h4.mono hk hsz hM⟩

/-- A reader's block, read on. -/
def RdSame (rt : Nat) (w w' : World) (g : Nat) : Prop := ∃ (bv : Value) (p p' : Int), RdB rt w g bv p ∧ RdB rt w' g bv p'
theorem RdSame.trans {rt : Nat} {a b c : World} {g : Nat} (h : RdSame rt a b g) (k : RdSame rt b c g) : RdSame rt a c g := by
  obtain ⟨bv, p, p', h1, h2⟩ := h
  obtain ⟨bv', q, q', k1, k2⟩ := k
  obtain ⟨rfl, _⟩ := h2.inj k1
  exact ⟨bv, p, q', h1, k2⟩

/-- A later world: old blocks that no reader holds are as they were. -/
structure Fr (w : World) (Rd : Nat → Prop) (w' : World) (Rd' : Nat → Prop) : Prop where
  size : w.heap.size ≤ w'.heap.size
  block : ∀ g, g < w.heap.size → ¬ Rd g → w'.heap[g]? = w.heap[g]?
  rd : ∀ g, Rd' g → Rd g ∨ w.heap.size ≤ g
theorem Fr.refl (w : World) (Rd : Nat → Prop) : Fr w Rd w Rd := ⟨Nat.le_refl _, fun _ _ _ => rfl, fun _ h => .inl h⟩
theorem Fr.trans {a b c : World} {R1 R2 R3 : Nat → Prop} (h : Fr a R1 b R2) (k : Fr b R2 c R3) : Fr a R1 c R3 :=
  ⟨Nat.le_trans h.size k.size, fun g hg hr => (k.block g (Nat.lt_of_lt_of_le hg h.size) (fun x => (h.rd g x).elim hr (fun y => by omega))).trans (h.block g hg hr),
    fun g hg => (k.rd g hg).elim (fun x => h.rd g x) fun x => .inr (Nat.le_trans h.size x)⟩

/-- What stays the same through a function's run. 'pins': the boxes that were handed over: as they were, their blocks, their room. -/
structure Cx where
  rt : Nat
  w0 : World
  Av0 : Nat → Prop
  Rd0 : Nat → Prop
  pins : List (Box × Option Nat × Nat)
def Cx.Mt0 (X : Cx) (g : Nat) : Prop := X.Rd0 g ∨ ∃ (i : Nat) (q : Box × Option Nat × Nat), X.pins[i]? = some q ∧ q.2.1 = some g

def Cx.mt (X : Cx) (s : St) (β : Nat → Option Nat) (Rd : Nat → Prop) (g : Nat) : Prop := X.Av0 g ∨ owns s β g ∨ Rd g

def pinP (s : St) (β : Nat → Option Nat) (cp : Nat → Nat) (i : Nat) (q : Box × Option Nat × Nat) : Prop :=
  s.keyed i ∧ ∀ bx, s.box i = some bx → q.1.es.length ≤ bx.es.length ∧ (bx.es.length = q.1.es.length → β i = q.2.1 ∧ cp i = q.2.2 ∧ bx.k = q.1.k)

structure Good (X : Cx) (s : St) (a : Act) (w : World) (β : Nat → Option Nat) (cp : Nat → Nat) (Rd : Nat → Prop) : Prop where
  defers : a.defers = []
  size : a.tmps.size = s.nt
  keeps : Keeps X.Mt0 X.w0 w
  fresh : ∀ b, s.keyed b → b < s.nx
  org : ∀ b bx g, s.box b = some bx → β b = some g → X.w0.heap.size ≤ g ∨ ∃ q : Box × Option Nat × Nat, X.pins[b]? = some q ∧ q.2.1 = some g
  own_rd : ∀ g, has s β g → ¬ Rd g
  own_av : ∀ g, has s β g → ¬ X.Av0 g
  rdsame : ∀ g, X.Rd0 g → RdSame X.rt X.w0 w g
  inj : ∀ b b' bx bx' g, s.box b = some bx → s.box b' = some bx' → β b = some g → β b' = some g → b = b'
  rd0 : ∀ g, X.Rd0 g → Rd g
  rdge : ∀ g, Rd g → X.Rd0 g ∨ X.w0.heap.size ≤ g
  avlt : ∀ g, X.Av0 g → g < X.w0.heap.size
  npin : X.pins.length = s.np
  pin : ∀ (i : Nat) (q : Box × Option Nat × Nat), X.pins[i]? = some q → pinP s β cp i q
  rdok : RdOK X.rt w (X.mt s β Rd) Rd s.pk
  env : ∀ t, MA w (X.mt s β Rd) Rd (hOf s β cp) (a.tmps.getD t undef) (s.get t)
  boxes : ∀ b bx, s.box b = some bx → BoxOK w (MC w (X.mt s β Rd) Rd (hOf s β cp)) (β b) (cp b) bx

def Rel (X : Cx) (s : St) (a : Act) (w : World) : Prop := ∃ β cp Rd, Good X s a w β cp Rd
def RelF (w0 : World) (Rd0 : Nat → Prop) (X : Cx) (s : St) (a : Act) (w : World) : Prop := ∃ β cp Rd, Good X s a w β cp Rd ∧ Fr w0 Rd0 w Rd
theorem RelF.rel {w0 : World} {Rd0 : Nat → Prop} {X : Cx} {s : St} {a : Act} {w : World} (h : RelF w0 Rd0 X s a w) : Rel X s a w := let ⟨β, cp, Rd, h, _⟩ := h; ⟨β, cp, Rd, h⟩

end Go.VE
