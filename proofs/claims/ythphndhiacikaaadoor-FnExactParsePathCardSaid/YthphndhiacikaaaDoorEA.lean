/- A part of the engine: what operations do to described states, proved sound against the model. No conditions. -/
import Derived.WalkKit
import Derived.WalkSpells
import Derived.MapKept
set_option linter.unusedSimpArgs false
set_option linter.unusedVariables false
section
namespace Go.VE
open Go

/-- What one cell holds, as the engine knows it. 'sl': a row that is only read. 'own': the whole of a box, as a slice. 'vw': a part of a box, as a slice. 'ptr': a place in a box. 'ex': this very value. -/
inductive C where
  | v (x : Value)
  | sl (t : Bool) (es : List (List C))
  | own (b n : Nat) (t : Bool)
  | vw (b n lo hi : Nat)
  | ptr (b n i off : Nat)
  | rp (cs : List C)
  | ex (x : Value) (c : C)
  | rdr
  | fn (f : FuncId) (caps : List C)
  | und
  | bot

inductive AV where
  | c (x : C)
  | agg (cs : List C)
  | tup (vs : List AV)
  | mp (b : Nat) (ks : List (List Int))

/-- 'row': the row of a slice: its cells hold no handles. Else: a variable. -/
structure Box where
  es : List (List C)
  k : Nat
  ty : Nat
  row : Bool
  fz : Bool

structure St where
  nt : Nat
  np : Nat
  env : List (Nat × AV)
  hp : List (Nat × Option Box)
  nx : Nat
  pk : Nat

def lkE : List (Nat × AV) → Nat → AV
  | [], _ => .c .bot
  | (k, x) :: r, t => bif k == t then x else lkE r t

def lkB : List (Nat × Option Box) → Nat → Option (Option Box)
  | [], _ => none
  | (k, x) :: r, t => bif k == t then some x else lkB r t

def nthL {α : Type} : List α → Nat → Option α
  | [], _ => none
  | x :: r, i => bif i == 0 then some x else nthL r (i - 1)
theorem nthL_eq {α : Type} : ∀ (l : List α) (i : Nat), nthL l i = l[i]?
  | [], i => by simp [nthL]
  | x :: r, 0 => by simp [nthL]
  | x :: r, i + 1 => by simp [nthL, nthL_eq r i]

def St.get (s : St) (t : Nat) : AV := lkE s.env t
def St.box (s : St) (b : Nat) : Option Box := (lkB s.hp b).getD none
def St.keyed (s : St) (b : Nat) : Prop := (lkB s.hp b).isSome = true
def St.put (s : St) (d : Option Nat) (x : AV) : St :=
  match d with
  | none => s
  | some d => { s with env := (d, x) :: s.env }
def St.setBox (s : St) (b : Nat) (x : Option Box) : St := { s with hp := (b, x) :: s.hp }

/-- What may stand in a row. -/
def okR : C → Bool
  | .v _ => true
  | .sl _ _ => true
  | .rp _ => true
  | _ => false
def pureEs (es : List (List C)) : Prop := ∀ e ∈ es, ∀ c ∈ e, okR c = true
def okV : C → Bool
  | .v _ => true
  | _ => false
def pureV (es : List (List C)) : Prop := ∀ e ∈ es, ∀ c ∈ e, okV c = true

/-- A handle: its box, and the length of the box that it knows. -/
def hkey : C → Option (Nat × Nat)
  | .own b n _ => some (b, n)
  | .vw b n _ _ => some (b, n)
  | .ptr b n _ _ => some (b, n)
  | _ => none
def setId (b : Nat) : C → C
  | .own _ n t => .own b n t
  | .vw _ n lo hi => .vw b n lo hi
  | .ptr _ n i off => .ptr b n i off
  | c => c
def hV (β : Option Nat) (cp k : Nat) : C → Value → Prop
  | .own _ n t, v => (β = none ∧ n = 0 ∧ ∃ a, v = .slice a 0 0) ∨ ∃ g c, β = some g ∧ v = .slice (some ⟨g, 0, none⟩) n c ∧ n ≤ c ∧ c ≤ cp ∧ (t = true → c = n)
  | .vw _ n lo hi, v => lo ≤ hi ∧ hi ≤ n ∧ ∃ a c, v = .slice a (hi - lo) c ∧ hi - lo ≤ c ∧ c ≤ maxLen ∧ (lo < hi → ∃ g, β = some g ∧ a = some ⟨g, lo * k, none⟩)
  | .ptr _ _ i off, v => ∃ g, β = some g ∧ v = .pointer (some ⟨g, i * k + off, none⟩)
  | _, _ => False
theorem hV_one {β : Option Nat} {cp k : Nat} {c : C} {v : Value} (h : hV β cp k c v) : v.oneCell' = true := by
  cases c with
  | own b n t =>
    rcases h with ⟨_, _, a, rfl⟩ | ⟨g, c, _, rfl, _⟩ <;> rfl
  | vw b n lo hi => obtain ⟨_, _, a, c, rfl, _⟩ := h; rfl
  | ptr b n i off => obtain ⟨g, _, rfl⟩ := h; rfl
  | _ => exact h.elim
theorem hV_setId {β : Option Nat} {cp k : Nat} {c : C} {v : Value} (b : Nat) : hV β cp k (setId b c) v ↔ hV β cp k c v := by
  cases c <;> exact Iff.rfl
theorem hkey_setId {c : C} {b n : Nat} (h : hkey c = some (b, n)) (b' : Nat) : hkey (setId b' c) = some (b', n) := by
  cases c <;> simp_all [hkey, setId]

section rel
variable (w : World) (Mt : Nat → Prop)

/-- Reading: a value that the description fits, in memory outside of 'Mt' (the blocks that may be written). -/
inductive RC : Value → C → Prop
  | v (x : Value) (hx : x.oneCell' = true) : RC x (.v x)
  | sl (t : Bool) (es : List (List C)) (k : Nat) (a : Option Addr) (p : Addr) (n cap : Nat) (hn : n = es.length) (ht : t = true → cap = n) (hle : n ≤ cap) (hmax : cap ≤ maxLen)
      (hk : ∀ e ∈ es, e.length = k) (ha : es ≠ [] → a = some p ∧ p.spot = none ∧ ¬ Mt p.block ∧ p.block < w.heap.size) (u : Nat → Nat → Value)
      (hc : ∀ i j e c, es[i]? = some e → e[j]? = some c → w.cell? ⟨p.block, p.off + (i * k + j), none⟩ = some (u i j))
      (hr : ∀ i j e c, es[i]? = some e → e[j]? = some c → RC (u i j) c) : RC (.slice a n cap) (.sl t es)
  | rp (cs : List C) (p : Addr) (hs : p.spot = none) (hm : ¬ Mt p.block) (hlt : p.block < w.heap.size) (u : Nat → Value)
      (hc : ∀ j c, cs[j]? = some c → w.cell? ⟨p.block, p.off + j, none⟩ = some (u j)) (hr : ∀ j c, cs[j]? = some c → RC (u j) c) : RC (.pointer (some p)) (.rp cs)

variable (Rd : Nat → Prop) (H : C → Value → Prop)

def MC0 (v : Value) : C → Prop
  | .own b n t => v.oneCell' = true ∧ H (.own b n t) v
  | .vw b n lo hi => v.oneCell' = true ∧ H (.vw b n lo hi) v
  | .ptr b n i off => v.oneCell' = true ∧ H (.ptr b n i off) v
  | .und => v = undef
  | .bot => True
  | .fn _ _ => False
  | .rdr => ∃ g, Rd g ∧ v = .pointer (some ⟨g, 0, none⟩)
  | .ex x c => v = x ∧ RC w Mt v c
  | c => RC w Mt v c

def MC (v : Value) : C → Prop
  | .fn f caps => ∃ arr : Array Value, v = .func (.func f) #[] arr ∧ arr.size = caps.length ∧ ∀ j c, caps[j]? = some c → MC0 w Mt Rd H (arr.getD j undef) c
  | c => MC0 w Mt Rd H v c

/-- Cells in a row. -/
def MCs (arr : Array Value) (cs : List C) : Prop := arr.size = cs.length ∧ ∀ j c, cs[j]? = some c → MC w Mt Rd H (arr.getD j undef) c

def MA1 (v : Value) : AV → Prop
  | .c x => MC w Mt Rd H v x
  | .agg cs => ∃ arr, v = .agg arr ∧ MCs w Mt Rd H arr cs
  | .tup _ => False
  | .mp _ _ => False

/-- The keys of a map, each a row of whole numbers. -/
def KeysAre (es : Array MapEntry) (ks : List (List Int)) : Prop := es.toList.map (·.key) = ks.map fun k => .agg (k.map fun n => Value.int .i64 n).toArray

def MA (v : Value) : AV → Prop
  | .tup vs => ∃ arr, v = .tuple arr ∧ arr.size = vs.length ∧ ∀ j x, vs[j]? = some x → MA1 w Mt Rd H (arr.getD j undef) x
  | .mp b ks => ∃ g es clk, v = .map (some g) ∧ H (.ptr b 0 0 0) (.pointer (some ⟨g, 0, none⟩)) ∧ ¬ Mt g ∧ g < w.heap.size ∧ w.heap[g]? = some (.map es clk) ∧ KeysAre es ks
  | x => MA1 w Mt Rd H v x
end rel

/-- What was there and may not be written is as it was. -/
structure Keeps (Mt : Nat → Prop) (w w' : World) : Prop where
  os : w'.os = w.os
  tape : w'.tape = w.tape
  output : w'.output = w.output ∧ True
  size : w.heap.size ≤ w'.heap.size
  block : ∀ g, g < w.heap.size → ¬ Mt g → w'.heap[g]? = w.heap[g]?

theorem Keeps.refl (Mt : Nat → Prop) (w : World) : Keeps Mt w w := ⟨rfl, rfl, ⟨rfl, trivial⟩, Nat.le_refl _, fun _ _ _ => rfl⟩
theorem Keeps.trans {M1 M2 M : Nat → Prop} {a b c : World} (h : Keeps M1 a b) (k : Keeps M2 b c) (h1 : ∀ g, g < a.heap.size → M1 g → M g) (h2 : ∀ g, g < a.heap.size → M2 g → M g) : Keeps M a c :=
  ⟨k.os.trans h.os, k.tape.trans h.tape, ⟨k.output.1.trans h.output.1, trivial⟩, Nat.le_trans h.size k.size, fun g hg hm => (k.block g (Nat.lt_of_lt_of_le hg h.size) (fun x => hm (h2 g hg x))).trans (h.block g hg (fun x => hm (h1 g hg x)))⟩
theorem Keeps.mono {M1 M : Nat → Prop} {a b : World} (h : Keeps M1 a b) (h1 : ∀ g, g < a.heap.size → M1 g → M g) : Keeps M a b :=
  ⟨h.os, h.tape, h.output, h.size, fun g hg hm => h.block g hg fun x => hm (h1 g hg x)⟩

section mono
variable {w w' : World} {Mt Mt' Rd Rd' : Nat → Prop} {H H' : C → Value → Prop}

theorem RC.mono {v : Value} {c : C} (h : RC w Mt v c) (hk : ∀ g, g < w.heap.size → ¬ Mt g → w'.heap[g]? = w.heap[g]?) (hsz : w.heap.size ≤ w'.heap.size)
    (hM : ∀ g, g < w.heap.size → Mt' g → Mt g) : RC w' Mt' v c := by
  induction h with
  | v x hx => exact .v x hx
  | sl t es k a p n cap hn ht hle hmax hk' ha u hc _ ih =>
    refine .sl t es k a p n cap hn ht hle hmax hk' (fun hne => ?_) u (fun i j e c h1 h2 => ?_) ih
    · obtain ⟨e1, e2, e3, e4⟩ := ha hne
      exact ⟨e1, e2, fun h => e3 (hM _ e4 h), Nat.lt_of_lt_of_le e4 hsz⟩
    · have hne : es ≠ [] := by rintro rfl; simp at h1
      obtain ⟨_, _, e3, e4⟩ := ha hne
      exact (World.cell?_of_block (w := w) (w' := w') (a := ⟨p.block, p.off + (i * k + j), none⟩) (hk p.block e4 e3)).trans (hc i j e c h1 h2)
  | rp cs p hs hm hlt u hc _ ih =>
    refine .rp cs p hs (fun h => hm (hM _ hlt h)) (Nat.lt_of_lt_of_le hlt hsz) u (fun j c h1 => ?_) ih
    exact (World.cell?_of_block (w := w) (w' := w') (a := ⟨p.block, p.off + j, none⟩) (hk p.block hlt hm)).trans (hc j c h1)

theorem RC.okR {v : Value} {c : C} (h : RC w Mt v c) : okR c = true := by cases h <;> rfl
theorem RC.weak {v : Value} {t : Bool} {es : List (List C)} (h : RC w Mt v (.sl t es)) {t' : Bool} (ht' : t' = true → t = true) : RC w Mt v (.sl t' es) := by
  cases h with
  | sl _ _ k a p n cap hn ht hle hmax hk ha u hc hr => exact RC.sl t' es k a p n cap hn (fun h => ht (ht' h)) hle hmax hk ha u hc hr
theorem RC.one {v : Value} {c : C} (h : RC w Mt v c) : v.oneCell' = true := by
  cases h with
  | v _ hx => exact hx
  | _ => rfl

/-- Only what is asked of the handles that are there. -/
def cellIds (c : C) (K : Nat → Prop) : Prop :=
  match hkey c with
  | some (b, _) => K b
  | none => True
def cIds : C → (Nat → Prop) → Prop
  | .fn _ caps, K => ∀ c ∈ caps, cellIds c K
  | c, K => cellIds c K
def csIds (cs : List C) (K : Nat → Prop) : Prop := ∀ c ∈ cs, cIds c K
def avIds1 : AV → (Nat → Prop) → Prop
  | .c x, K => cIds x K
  | .agg cs, K => csIds cs K
  | .tup _, _ => True
  | .mp _ _, _ => True
def avIds : AV → (Nat → Prop) → Prop
  | .tup vs, K => ∀ x ∈ vs, avIds1 x K
  | .mp b _, K => K b
  | x, K => avIds1 x K

theorem MC0.mono {v : Value} {c : C} (h : MC0 w Mt Rd H v c) (hk : ∀ g, g < w.heap.size → ¬ Mt g → w'.heap[g]? = w.heap[g]?) (hsz : w.heap.size ≤ w'.heap.size)
    (hM : ∀ g, g < w.heap.size → Mt' g → Mt g) (hR : ∀ g, Rd g → Rd' g) {K : Nat → Prop} (hi : cellIds c K) (hH : ∀ c b n, hkey c = some (b, n) → K b → ∀ v, H c v → H' c v) :
    MC0 w' Mt' Rd' H' v c := by
  cases c <;> simp only [MC0] at *
  case own b n t => exact ⟨h.1, hH _ b n rfl hi _ h.2⟩
  case vw b n lo hi' => exact ⟨h.1, hH _ b n rfl hi _ h.2⟩
  case ptr b n i off => exact ⟨h.1, hH _ b n rfl hi _ h.2⟩
  case und => exact h
  case rdr => exact h.imp fun g h => ⟨hR g h.1, h.2⟩
  case ex x c => exact ⟨h.1, RC.mono h.2 hk hsz hM⟩
  all_goals exact RC.mono h hk hsz hM

theorem MC.mono {v : Value} {c : C} (h : MC w Mt Rd H v c) (hk : ∀ g, g < w.heap.size → ¬ Mt g → w'.heap[g]? = w.heap[g]?) (hsz : w.heap.size ≤ w'.heap.size)
    (hM : ∀ g, g < w.heap.size → Mt' g → Mt g) (hR : ∀ g, Rd g → Rd' g) {K : Nat → Prop} (hi : cIds c K) (hH : ∀ c b n, hkey c = some (b, n) → K b → ∀ v, H c v → H' c v) :
    MC w' Mt' Rd' H' v c := by
  cases c
  case fn f caps =>
    obtain ⟨arr, e, hs, hr⟩ := h
    exact ⟨arr, e, hs, fun j c hj => MC0.mono (hr j c hj) hk hsz hM hR (hi c (List.mem_of_getElem? hj)) hH⟩
  all_goals (simp only [MC, cIds] at h hi ⊢; exact MC0.mono (K := K) h hk hsz hM hR hi hH)

theorem MCs.mono {arr : Array Value} {cs : List C} (h : MCs w Mt Rd H arr cs) (hk : ∀ g, g < w.heap.size → ¬ Mt g → w'.heap[g]? = w.heap[g]?) (hsz : w.heap.size ≤ w'.heap.size)
    (hM : ∀ g, g < w.heap.size → Mt' g → Mt g) (hR : ∀ g, Rd g → Rd' g) {K : Nat → Prop} (hi : csIds cs K) (hH : ∀ c b n, hkey c = some (b, n) → K b → ∀ v, H c v → H' c v) :
    MCs w' Mt' Rd' H' arr cs :=
  ⟨h.1, fun j c hc => (h.2 j c hc).mono hk hsz hM hR (hi c (List.mem_of_getElem? hc)) hH⟩

theorem MA1.mono {v : Value} {x : AV} (h : MA1 w Mt Rd H v x) (hk : ∀ g, g < w.heap.size → ¬ Mt g → w'.heap[g]? = w.heap[g]?) (hsz : w.heap.size ≤ w'.heap.size)
    (hM : ∀ g, g < w.heap.size → Mt' g → Mt g) (hR : ∀ g, Rd g → Rd' g) {K : Nat → Prop} (hi : avIds1 x K) (hH : ∀ c b n, hkey c = some (b, n) → K b → ∀ v, H c v → H' c v) :
    MA1 w' Mt' Rd' H' v x := by
  cases x with
  | c x => exact MC.mono (K := K) h hk hsz hM hR hi hH
  | agg cs => obtain ⟨arr, e, h⟩ := h; exact ⟨arr, e, h.mono hk hsz hM hR hi hH⟩
  | tup vs => exact h
  | mp b ks => exact h

theorem MA.mono {v : Value} {x : AV} (h : MA w Mt Rd H v x) (hk : ∀ g, g < w.heap.size → ¬ Mt g → w'.heap[g]? = w.heap[g]?) (hsz : w.heap.size ≤ w'.heap.size)
    (hM : ∀ g, g < w.heap.size → Mt' g → Mt g) (hR : ∀ g, Rd g → Rd' g) {K : Nat → Prop} (hi : avIds x K) (hH : ∀ c b n, hkey c = some (b, n) → K b → ∀ v, H c v → H' c v) :
    MA w' Mt' Rd' H' v x := by
  cases x with
  | c x => exact MA1.mono (x := .c x) (K := K) h hk hsz hM hR hi hH
  | agg cs => exact MA1.mono (x := .agg cs) (K := K) h hk hsz hM hR hi hH
  | tup vs =>
    obtain ⟨arr, e, hs, h⟩ := h
    exact ⟨arr, e, hs, fun j x hx => (h j x hx).mono hk hsz hM hR (hi x (List.mem_of_getElem? hx)) hH⟩
  | mp b ks =>
    obtain ⟨g, es, clk, e, h1, h2, h3, h4, h5⟩ := h
    exact ⟨g, es, clk, e, hH _ b 0 rfl hi _ h1, fun x => h2 (hM g h3 x), Nat.lt_of_lt_of_le h3 hsz, (hk g h3 h2).trans h4, h5⟩

theorem cellIds_all (c : C) : cellIds c (fun _ => True) := by unfold cellIds; split <;> trivial
theorem avIds_all (x : AV) : avIds x (fun _ => True) := by
  have h1 : ∀ c : C, cIds c (fun _ => True) := fun c => by cases c <;> first | exact fun c _ => cellIds_all c | trivial
  have h2 : ∀ x : AV, avIds1 x (fun _ => True) := fun x => by cases x <;> first | exact h1 _ | exact fun c _ => h1 c | trivial
  cases x <;> first | exact h2 (.c _) | exact h2 (.agg _) | exact fun x _ => h2 x | trivial
theorem cIds_all (c : C) : cIds c (fun _ => True) := avIds_all (.c c)
theorem csIds_all (cs : List C) : csIds cs (fun _ => True) := fun c _ => cIds_all c

theorem RC.mc {v : Value} {c : C} (h : RC w Mt v c) : MC w Mt Rd H v c := by
  cases h with
  | v _ hx => exact RC.v _ hx
  | sl t es k a p n cap hn ht hle hmax hk ha u hc hr => exact RC.sl t es k a p n cap hn ht hle hmax hk ha u hc hr
  | rp cs p hs hm hlt u hc hr => exact RC.rp cs p hs hm hlt u hc hr
theorem MC.rc {v : Value} {c : C} (h : MC w Mt Rd H v c) (hr : VE.okR c = true) : RC w Mt v c := by
  cases c <;> first | exact h | cases hr
end mono

/-- A box of the engine's: its block and its cells; 'none': a slice without an array. 'cp': how many elements the block holds. -/
def BoxOK0 (w : World) (M : Value → C → Prop) (β : Option Nat) (cp : Nat) (bx : Box) : Prop :=
  (β = none ∧ bx.es = [] ∧ bx.row = true) ∨
  ∃ g cur, β = some g ∧ w.heap[g]? = some (.cells cur bx.ty (0, 0)) ∧ cur.size = cp * bx.k ∧ bx.es.length ≤ cp ∧ cp ≤ maxLen ∧
    (∀ e ∈ bx.es, e.length = bx.k) ∧ (bx.row = true → pureEs bx.es) ∧ ∀ i j e c, bx.es[i]? = some e → e[j]? = some c → M (cur.getD (i * bx.k + j) undef) c

/-- Or a map's. -/
def BoxOK (w : World) (M : Value → C → Prop) (β : Option Nat) (cp : Nat) (bx : Box) : Prop :=
  BoxOK0 w M β cp bx ∨ (bx.es = [] ∧ bx.row = false ∧ cp = 0 ∧ ∃ g es clk, β = some g ∧ w.heap[g]? = some (.map es clk))
theorem BoxOK.two {w : World} {M : Value → C → Prop} {β : Option Nat} {cp : Nat} {bx : Box} (h : BoxOK w M β cp bx) (hn : bx.row = true ∨ bx.es ≠ []) : BoxOK0 w M β cp bx := by
  rcases h with h | ⟨h1, h2, _⟩
  · exact h
  · rcases hn with hn | hn
    · rw [h2] at hn; cases hn
    · exact absurd h1 hn
theorem ne_of_lt {α : Type} {l : List α} {i : Nat} (h : i < l.length) : l ≠ [] := by rintro rfl; exact Nat.not_lt_zero _ h

/-- What a handle is. -/
def hOf (s : St) (β : Nat → Option Nat) (cp : Nat → Nat) (c : C) (v : Value) : Prop :=
  ∃ b n, hkey c = some (b, n) ∧ s.keyed b ∧ ∀ bx, s.box b = some bx → n ≤ bx.es.length ∧ (n = bx.es.length → hV (β b) (cp b) bx.k c v)
def noH (_ : C) (_ : Value) : Prop := False

/-- The blocks that the engine may write. -/
def owns (s : St) (β : Nat → Option Nat) (g : Nat) : Prop := ∃ b bx, s.box b = some bx ∧ bx.fz = false ∧ β b = some g

/-- The blocks of all boxes. -/
def has (s : St) (β : Nat → Option Nat) (g : Nat) : Prop := ∃ b bx, s.box b = some bx ∧ β b = some g
theorem owns.has {s : St} {β : Nat → Option Nat} {g : Nat} (h : owns s β g) : has s β g := let ⟨b, bx, h1, _, h3⟩ := h; ⟨b, bx, h1, h3⟩

/-- A program's own: the type of readers; blocks of variables of packages, that none writes to, and what is known of them. -/
structure RT where
  t : Nat
  F : List Nat
  ok : World → Prop
  stay : ∀ w w' : World, (∀ g ∈ F, w'.heap[g]? = w.heap[g]?) → ok w → ok w'

/-- What a reader's block holds: the code, and the place. -/
def RdB (rt : RT) (w : World) (g : Nat) (bv : Value) (p : Int) : Prop :=
  ∃ (arr : Array Value) (c : Nat), w.heap[g]? = some (.cells arr rt.t (0, 0)) ∧ arr.size = c * 2 ∧ 1 ≤ c ∧ c ≤ maxLen ∧ arr.getD 0 undef = bv ∧ arr.getD 1 undef = .int .i64 p
theorem RdB.lt {rt : RT} {w : World} {g : Nat} {bv : Value} {p : Int} (h : RdB rt w g bv p) : g < w.heap.size := let ⟨_, _, h1, _⟩ := h; (Array.getElem?_eq_some_iff.1 h1).1
theorem RdB.congr {rt : RT} {w w' : World} {g : Nat} {bv : Value} {p : Int} (h : RdB rt w g bv p) (he : w'.heap[g]? = w.heap[g]?) : RdB rt w' g bv p := let ⟨a, c, h1, h2⟩ := h; ⟨a, c, he.trans h1, h2⟩
theorem RdB.inj {rt : RT} {w : World} {g : Nat} {bv bv' : Value} {p p' : Int} (h : RdB rt w g bv p) (k : RdB rt w g bv' p') : bv = bv' ∧ p = p' := by
  obtain ⟨a, _, h1, _, _, _, h2, h3⟩ := h
  obtain ⟨b, _, k1, _, _, _, k2, k3⟩ := k
  rw [h1] at k1
  simp only [Option.some.injEq, Obj.cells.injEq, and_true] at k1
  subst k1
  rw [h2] at k2
  rw [h3] at k3
  exact ⟨k2, by simpa using k3⟩

/-- A reader's block: the code, and the place. -/
def RdOK (rt : RT) (w : World) (Mt Rd : Nat → Prop) (pk : Nat) : Prop :=
  ∀ g, Rd g → g < w.heap.size ∧ ∃ (bv : Value) (p : Nat) (bs : List UInt8), RdB rt w g bv p ∧ p ≤ pk ∧ bs.length ≤ 2000 ∧
    RC w Mt bv (.sl false (bs.map fun b => [.v (.int .u8 b.toNat)]))

theorem RdOK.mono {rt : RT} {w w' : World} {Mt Mt' Rd : Nat → Prop} {pk pk' : Nat} (h : RdOK rt w Mt Rd pk) (hk : ∀ g, g < w.heap.size → ¬ Mt g → w'.heap[g]? = w.heap[g]?) (hsz : w.heap.size ≤ w'.heap.size)
    (hM : ∀ g, g < w.heap.size → Mt' g → Mt g) (hrd : ∀ g, Rd g → w'.heap[g]? = w.heap[g]?) (hp : pk ≤ pk') : RdOK rt w' Mt' Rd pk' := by
  intro g hg
  obtain ⟨hlt, bv, p, bs, h1, h2, h3, h4⟩ := h g hg
  exact ⟨Nat.lt_of_lt_of_le hlt hsz, bv, p, bs, h1.congr (hrd g hg), Nat.le_trans h2 hp, h3, h4.mono hk hsz hM⟩

/-- A reader's block, read on. -/
def RdSame (rt : RT) (w w' : World) (g : Nat) : Prop := ∃ (bv : Value) (p p' : Int), RdB rt w g bv p ∧ RdB rt w' g bv p'
theorem RdSame.trans {rt : RT} {a b c : World} {g : Nat} (h : RdSame rt a b g) (k : RdSame rt b c g) : RdSame rt a c g := by
  obtain ⟨bv, p, p', h1, h2⟩ := h
  obtain ⟨bv', q, q', k1, k2⟩ := k
  obtain ⟨rfl, _⟩ := h2.inj k1
  exact ⟨bv, p, q', h1, k2⟩

/-- A later world: old blocks that no reader holds are as they were. -/
structure Fr (w : World) (Rd : Nat → Prop) (w' : World) (Rd' : Nat → Prop) : Prop where
  size : w.heap.size ≤ w'.heap.size
  block : ∀ g, g < w.heap.size → ¬ Rd g → w'.heap[g]? = w.heap[g]?
  rd : ∀ g, Rd' g → Rd g ∨ w.heap.size ≤ g
theorem Fr.refl (w : World) (Rd : Nat → Prop) : Fr w Rd w Rd := ⟨Nat.le_refl _, fun _ _ _ => rfl, fun _ h => .inl h⟩
theorem Fr.trans {a b c : World} {R1 R2 R3 : Nat → Prop} (h : Fr a R1 b R2) (k : Fr b R2 c R3) : Fr a R1 c R3 :=
  ⟨Nat.le_trans h.size k.size, fun g hg hr => (k.block g (Nat.lt_of_lt_of_le hg h.size) (fun x => (h.rd g x).elim hr (fun y => by omega))).trans (h.block g hg hr),
    fun g hg => (k.rd g hg).elim (fun x => h.rd g x) fun x => .inr (Nat.le_trans h.size x)⟩

/-- What stays the same through a function's run. 'pins': the boxes that were handed over: as they were, their blocks, their room. -/
structure Cx where
  rt : RT
  w0 : World
  Av0 : Nat → Prop
  Rd0 : Nat → Prop
  pins : List (Box × Option Nat × Nat)
  ds : List Nat
  fw : World
  Fb : Nat → Prop
/-- The mark of a block of deferred calls. -/
def markD (D : Nat) : Deferred := { target := .collected D, args := #[] }
def Cx.Mt0 (X : Cx) (g : Nat) : Prop := X.Rd0 g ∨ ∃ (i : Nat) (q : Box × Option Nat × Nat), X.pins[i]? = some q ∧ q.2.1 = some g

def Cx.globOK (X : Cx) : Prop := X.rt.ok X.w0 ∧ ∀ g ∈ X.rt.F, g < X.w0.heap.size ∧ ¬ X.Mt0 g

def Cx.mt (X : Cx) (s : St) (β : Nat → Option Nat) (Rd : Nat → Prop) (g : Nat) : Prop := X.Av0 g ∨ owns s β g ∨ Rd g

def pinP (s : St) (β : Nat → Option Nat) (cp : Nat → Nat) (i : Nat) (q : Box × Option Nat × Nat) : Prop :=
  s.keyed i ∧ ∀ bx, s.box i = some bx → q.1.es.length ≤ bx.es.length ∧ (bx.es.length = q.1.es.length → β i = q.2.1 ∧ cp i = q.2.2 ∧ bx.k = q.1.k)

/-- A map that the state knows. -/
def mapHas (s : St) (β : Nat → Option Nat) (w : World) (g : Nat) : Prop := ∃ b bx es clk, s.box b = some bx ∧ β b = some g ∧ w.heap[g]? = some (.map es clk)

structure Good (X : Cx) (s : St) (a : Act) (w : World) (β : Nat → Option Nat) (cp : Nat → Nat) (Rd : Nat → Prop) : Prop where
  defers : a.defers = X.ds.map markD
  size : a.tmps.size = s.nt
  keeps : Keeps X.Mt0 X.w0 w
  fresh : ∀ b, s.keyed b → b < s.nx
  org : ∀ b bx g, s.box b = some bx → β b = some g → X.w0.heap.size ≤ g ∨ ∃ q : Box × Option Nat × Nat, X.pins[b]? = some q ∧ q.2.1 = some g
  own_rd : ∀ g, has s β g → ¬ Rd g
  own_av : ∀ g, has s β g → ¬ X.Av0 g
  rdsame : ∀ g, X.Rd0 g → RdSame X.rt X.w0 w g
  inj : ∀ b b' bx bx' g, s.box b = some bx → s.box b' = some bx' → β b = some g → β b' = some g → b = b'
  rd0 : ∀ g, X.Rd0 g → Rd g
  rdge : ∀ g, Rd g → X.Rd0 g ∨ X.w0.heap.size ≤ g
  avlt : ∀ g, X.Av0 g → g < X.w0.heap.size
  npin : X.pins.length = s.np
  pin : ∀ (i : Nat) (q : Box × Option Nat × Nat), X.pins[i]? = some q → pinP s β cp i q
  rdok : RdOK X.rt w (X.mt s β Rd) Rd s.pk
  env : ∀ t, MA w (X.mt s β Rd) Rd (hOf s β cp) (a.tmps.getD t undef) (s.get t)
  boxes : ∀ b bx, s.box b = some bx → BoxOK w (MC w (X.mt s β Rd) Rd (hOf s β cp)) (β b) (cp b) bx
  glob : X.globOK
  kept : ∀ g, X.Fb g → g < w.heap.size ∧ w.heap[g]? = X.fw.heap[g]? ∧ ¬ owns s β g ∧ ¬ Rd g ∧ ¬ mapHas s β w g

def Rel (X : Cx) (s : St) (a : Act) (w : World) : Prop := ∃ β cp Rd, Good X s a w β cp Rd
def RelF (w0 : World) (Rd0 : Nat → Prop) (X : Cx) (s : St) (a : Act) (w : World) : Prop := ∃ β cp Rd, Good X s a w β cp Rd ∧ Fr w0 Rd0 w Rd
theorem RelF.rel {w0 : World} {Rd0 : Nat → Prop} {X : Cx} {s : St} {a : Act} {w : World} (h : RelF w0 Rd0 X s a w) : Rel X s a w := let ⟨β, cp, Rd, h, _⟩ := h; ⟨β, cp, Rd, h⟩

end Go.VE
end
section
namespace Go.VE
open Go

inductive TK where
  | int (k : IntKind)
  | bool
  | string
  | slice (e : Nat)
  | struct (fs : List (Nat × Nat × Nat))
  | map (k : Nat)
  | other
  | iface

structure TI where
  kind : TK
  sz : Nat
  bytes : Nat
  zv : List Value
  eq : Bool

def TK.agg : TK → Bool
  | .struct _ => true
  | _ => false

/-- A contract. Arguments, and the boxes that are handed over (numbered from 0 on); the result, and the boxes behind the call (those that were handed over, then new ones). 'mut': which arguments hand their boxes over. 'flat': what is handed back leads to nothing that was there before. 'shut': rows are handed back read only. -/
structure Spec where
  pre : List AV → List Box → Prop
  post : List AV → List Box → AV → List Box → Prop
  cost : Nat
  flat : Bool
  mt : List Bool
  shut : Bool

def pickLimit : Nat := 1073741824

def InR : IntKind → Int → Prop
  | .i64, n => -9223372036854775808 ≤ n ∧ n ≤ 9223372036854775807
  | .i32, n => -2147483648 ≤ n ∧ n ≤ 2147483647
  | .u8, n => 0 ≤ n ∧ n ≤ 255
  | .u64, n => 0 ≤ n ∧ n ≤ 18446744073709551615
  | _, _ => False

/-- What an operation asks, and the states that it may leave. -/
abbrev Res := Prop × (St → Prop)
def Res.no : Res := (False, fun _ => False)
def Res.mk1 (p : Prop) (s : St) : Res := (p, fun s' => s' = s)
def Res.mkE {α : Type} (p : Prop) (φ : α → Prop) (f : α → St) : Res := (p, fun s' => ∃ e, φ e ∧ s' = f e)
def Res.app (r : Res) (K : St → Prop) : Prop := r.1 ∧ ∀ s', r.2 s' → K s'
theorem Res.app_mk1 (p : Prop) (s : St) (K : St → Prop) : Res.app (Res.mk1 p s) K = (p ∧ K s) := by simp [Res.app, Res.mk1]
/-- Whatever is so: kept shut, so that no step looks into it before it is known. -/
def Hold {α : Type} (φ : α → Prop) (K : α → Prop) : Prop := ∀ e, φ e → K e
@[congr] theorem Hold_congr {α : Type} {φ φ' : α → Prop} {K : α → Prop} (h : ∀ e, φ e = φ' e) : Hold φ K = Hold φ' K := by
  have : φ = φ' := funext h
  rw [this]
theorem Hold_ex {α β : Type} (φ : β → α → Prop) (K : α → Prop) : Hold (fun x => ∃ k, φ k x) K = ∀ k, Hold (φ k) K := by
  simp only [Hold, eq_iff_iff]
  exact ⟨fun h k e he => h e ⟨k, he⟩, fun h e ⟨k, he⟩ => h k e he⟩
theorem Hold_and {α : Type} (p : Prop) (φ : α → Prop) (K : α → Prop) : Hold (fun x => p ∧ φ x) K = (p → Hold φ K) := by
  simp only [Hold, eq_iff_iff]
  exact ⟨fun h hp e he => h e ⟨hp, he⟩, fun h e ⟨hp, he⟩ => h hp e he⟩
theorem Hold_eq {α : Type} (a : α) (K : α → Prop) : Hold (fun x => x = a) K = K a := by simp [Hold]
theorem Hold_eq' {α : Type} (a : α) (K : α → Prop) : Hold (fun x => a = x) K = K a := by simp [Hold]
theorem Hold_or {α : Type} (φ ψ : α → Prop) (K : α → Prop) : Hold (fun x => φ x ∨ ψ x) K = (Hold φ K ∧ Hold ψ K) := by
  simp only [Hold, eq_iff_iff]
  exact ⟨fun h => ⟨fun e he => h e (.inl he), fun e he => h e (.inr he)⟩, fun ⟨h1, h2⟩ e he => he.elim (h1 e) (h2 e)⟩
theorem Hold_pair {α β : Type} (a : α) (b : β) (K : α × β → Prop) : Hold (fun x => x.1 = a ∧ x.2 = b) K = K (a, b) := by
  simp only [Hold, eq_iff_iff]
  exact ⟨fun h => h (a, b) ⟨rfl, rfl⟩, fun h e ⟨h1, h2⟩ => by cases e; simp only at h1 h2; subst h1 h2; exact h⟩
theorem Hold_pair3 {α β : Type} (a : α) (b : β) (p : Prop) (K : α × β → Prop) : Hold (fun x => x.1 = a ∧ x.2 = b ∧ p) K = (p → K (a, b)) := by
  simp only [Hold, eq_iff_iff]
  exact ⟨fun h hp => h (a, b) ⟨rfl, rfl, hp⟩, fun h e ⟨h1, h2, hp⟩ => by cases e; simp only at h1 h2; subst h1 h2; exact h hp⟩
theorem Res.app_mkE {α : Type} (p : Prop) (φ : α → Prop) (f : α → St) (K : St → Prop) : Res.app (Res.mkE p φ f) K = (p ∧ Hold φ fun e => K (f e)) := by
  simp only [Res.app, Res.mkE, Hold, eq_iff_iff, and_congr_right_iff]
  exact fun _ => ⟨fun h e he => h _ ⟨e, he, rfl⟩, fun h s' ⟨e, he, hs⟩ => hs ▸ h e he⟩
theorem Res.app_no (K : St → Prop) : Res.app Res.no K = False := by simp [Res.app, Res.no]

def constC (x : Value) : C := bif x.oneCell' then .v x else .bot
def ofConst : Value → AV
  | .agg cs => .agg (cs.toList.map constC)
  | .tuple _ => .c .bot
  | x => .c (.v x)

def St.ev (s : St) : Operand → AV
  | .tmp t => s.get t
  | .const v => ofConst v
  | .global _ => .c .bot
  | .func f => .c (.fn f [])

def cellsOf : AV → List C
  | .c x => [x]
  | .agg cs => cs
  | .tup _ => []
  | .mp _ _ => []
def mkAV (agg : Bool) (cs : List C) : AV :=
  match agg with
  | true => .agg cs
  | false => match cs with
    | [x] => .c x
    | _ => .c .bot

/-! Sealing: what is read only from here on. -/
/-- The cells of a variable. -/
def hd1 : List (List C) → List C
  | [] => []
  | e :: _ => e
def okR0s : List C → Prop
  | [] => True
  | c :: r => okR c = true ∧ okR0s r
def sealC (s : St) : C → C
  | .own b _ t => match s.box b with
    | some bx => match bx.row with
      | true => .sl t bx.es
      | false => .bot
    | none => .bot
  | .vw b _ lo hi => match s.box b with
    | some bx => match bx.row with
      | true => .sl false ((bx.es.take hi).drop lo)
      | false => .bot
    | none => .bot
  | .v (.slice none 0 0) => .sl true []
  | .ptr b _ i off => match s.box b with
    | some bx => match bx.row with
      | true => .bot
      | false => bif i == 0 && off == 0 then .rp (hd1 bx.es) else .bot
    | none => .bot
  | .fn _ _ => .bot
  | .und => .bot
  | .bot => .bot
  | x => x
def sealOk (s : St) : C → Prop
  | .own b n _ => match s.box b with
    | some bx => n = bx.es.length
    | none => True
  | .vw b n _ _ => match s.box b with
    | some bx => n = bx.es.length
    | none => True
  | .ptr b n _ _ => match s.box b with
    | some bx => match bx.row with
      | true => True
      | false => n = bx.es.length ∧ n = 1 ∧ okR0s (hd1 bx.es)
    | none => True
  | _ => True
def sealOks (s : St) : List C → Prop
  | [] => True
  | c :: r => sealOk s c ∧ sealOks s r
/-- The boxes behind rows. -/
def capIds : List C → List Nat
  | [] => []
  | .own b _ _ :: r => b :: capIds r
  | .vw b _ _ _ :: r => b :: capIds r
  | .ptr b _ _ _ :: r => b :: capIds r
  | _ :: r => capIds r
def rowIds : List C → List Nat
  | [] => []
  | .own b _ _ :: r => b :: rowIds r
  | .vw b _ _ _ :: r => b :: rowIds r
  | .ptr b _ _ _ :: r => b :: rowIds r
  | .fn _ caps :: r => capIds caps ++ rowIds r
  | _ :: r => rowIds r
def rowIdsL : List (List C) → List Nat
  | [] => []
  | x :: r => rowIds x ++ rowIdsL r
def freeze (s : St) : List Nat → St
  | [] => s
  | b :: r => match s.box b with
    | some bx => freeze (s.setBox b (some { bx with fz := true })) r
    | none => freeze s r

section ops
variable (tt : Nat → Option TI) (tab : Nat → Option Spec) (nid : Nat)

def arith (op : BinOp) (k : IntKind) (a b : Int) : Prop × Value :=
  match op with
  | .add => (InR k (a + b), .int k (a + b))
  | .sub => (InR k (a - b), .int k (a - b))
  | .mul => (InR k (a * b), .int k (a * b))
  | .quo => (b ≠ 0 ∧ InR k (a.tdiv b), .int k (a.tdiv b))
  | .rem => (b ≠ 0, .int k (a.tmod b))
  | .eql => (True, .bool (decide (a = b)))
  | .neq => (True, .bool (!decide (a = b)))
  | .lss => (True, .bool (decide (a < b)))
  | .leq => (True, .bool (decide (a ≤ b)))
  | .gtr => (True, .bool (decide (b < a)))
  | .geq => (True, .bool (decide (b ≤ a)))
  | .and => ((k = .u64 ∨ k = .i64) ∧ 0 ≤ a ∧ 0 ≤ b ∧ a ≤ 9223372036854775807 ∧ b ≤ 9223372036854775807, .int k ((a.toNat &&& b.toNat : Nat) : Int))
  | .shr => ((k = .u64 ∨ k = .i64) ∧ 0 ≤ b ∧ b ≤ 63, .int k (a / ((2 ^ b.toNat : Nat) : Int)))
  | .xor => (k = .i64 ∧ 0 ≤ a ∧ 0 ≤ b ∧ a ≤ 9223372036854775807 ∧ b ≤ 9223372036854775807, .int k ((a.toNat ^^^ b.toNat : Nat) : Int))
  | _ => (False, .bool false)

/-- Two rows of integers are the same. -/
def ieq : List C → List C → Bool
  | [], [] => true
  | .v (.int _ a) :: r, .v (.int _ b) :: r' => decide (a = b) && ieq r r'
  | _, _ => false
def ints : List C → Prop
  | [] => True
  | .v (.int .i64 _) :: r => ints r
  | _ => False

/-- Is a slice nil? One that has elements is not. -/
def isNilS (op : BinOp) (t : Nat) (p : Prop) (s : St) (d : Option Nat) : Res :=
  match (tt t).map (fun i => i.kind), op with
  | some (TK.slice _), .eql => Res.mkE True (fun b : Bool => p → b = false) (fun b => s.put d (.c (.v (.bool b))))
  | some (TK.slice _), .neq => Res.mkE True (fun b : Bool => p → b = false) (fun b => s.put d (.c (.v (.bool (!b)))))
  | _, _ => Res.no

/-- A nil of an interface type, as the text has it. -/
def isNilK : Operand → Bool
  | .const .nilIface => true
  | _ => false
def ifaceS (op : BinOp) (t : Nat) (b : Bool) (s : St) (d : Option Nat) : Res :=
  match (tt t).map (fun i => i.kind), op with
  | some TK.iface, .eql => Res.mk1 True (s.put d (.c (.v (.bool b))))
  | some TK.iface, .neq => Res.mk1 True (s.put d (.c (.v (.bool (!b)))))
  | _, _ => Res.no

def binS (op : BinOp) (t : Nat) (k : Bool) (x y : AV) (s : St) (d : Option Nat) : Res :=
  match x, y with
  | .c (.v (.int k a)), .c (.v (.int k' b)) => Res.mk1 (k = k' ∧ (arith op k a b).1) (s.put d (.c (.v (arith op k a b).2)))
  | .c (.v (.bool a)), .c (.v (.bool b)) =>
    match op with
    | .eql => Res.mk1 ((tt t).map (·.kind) = some TK.bool) (s.put d (.c (.v (.bool (a == b)))))
    | .neq => Res.mk1 ((tt t).map (·.kind) = some TK.bool) (s.put d (.c (.v (.bool (!(a == b))))))
    | _ => Res.no
  | .c (.v (.string a)), .c (.v (.string b)) =>
    match op with
    | .eql => Res.mk1 True (s.put d (.c (.v (.bool (decide (a = b))))))
    | .neq => Res.mk1 True (s.put d (.c (.v (.bool (!decide (a = b))))))
    | .add => Res.mk1 (a.size + b.size ≤ 9223372036854775807) (s.put d (.c (.v (.string (a ++ b)))))
    | _ => Res.no
  | .agg cs, .agg ds =>
    match op with
    | .eql => Res.mk1 ((tt t).map (fun i => (i.eq, i.sz)) = some (true, cs.length) ∧ ds.length = cs.length ∧ ints cs ∧ ints ds) (s.put d (.c (.v (.bool (ieq cs ds)))))
    | .neq => Res.mk1 ((tt t).map (fun i => (i.eq, i.sz)) = some (true, cs.length) ∧ ds.length = cs.length ∧ ints cs ∧ ints ds) (s.put d (.c (.v (.bool (!ieq cs ds)))))
    | _ => Res.no
  | .c (.sl _ es), .c (.v (.slice none 0 0)) => isNilS tt op t (es ≠ []) s d
  | .c (.v .nilIface), .c (.v .nilIface) => match k with
    | true => ifaceS tt op t true s d
    | false => Res.no
  | .c (.v (.iface _ _)), .c (.v .nilIface) => ifaceS tt op t false s d
  | _, _ => Res.no

def unS (op : UnOp) (x : AV) (s : St) (d : Option Nat) : Res :=
  match op, x with
  | .not, .c (.v (.bool b)) => Res.mk1 True (s.put d (.c (.v (.bool (!b)))))
  | .neg, .c (.v (.int k a)) => Res.mk1 (InR k (0 - a)) (s.put d (.c (.v (.int k (0 - a)))))
  | _, _ => Res.no

def strip : C → C
  | .ex _ c => c
  | c => c
def loaded (row : Bool) (cs : List C) : List C :=
  match row with
  | true => cs
  | false => cs.map strip
def loadS (t : Nat) (x : AV) (s : St) (d : Option Nat) : Res :=
  match tt t, x with
  | some ti, .c (.rp cs) => Res.mk1 (ti.sz ≤ cs.length) (s.put d (mkAV ti.kind.agg (cs.take ti.sz)))
  | some ti, .c (.ptr b n i off) =>
    match s.box b with
    | some bx => Res.mkE (n = bx.es.length ∧ i < n ∧ off + ti.sz ≤ bx.k) (fun e => bx.es[i]? = some e) fun e => s.put d (mkAV ti.kind.agg (loaded bx.row ((e.drop off).take ti.sz)))
    | none => Res.no
  | _, _ => Res.no

/-- New cells from a place on. -/
def over (e : List C) (off : Nat) (cs : List C) : List C := e.take off ++ (cs ++ e.drop (off + cs.length))

def okC : C → Bool
  | .und => false
  | .bot => false
  | _ => true
def okCs : List C → Prop
  | [] => True
  | c :: r => okC c = true ∧ okCs r
def okRs : List C → Prop
  | [] => True
  | c :: r => okR c = true ∧ okRs r

def storeS (t : Nat) (x y : AV) (s : St) (d : Option Nat) : Res :=
  match tt t, x with
  | some ti, .c (.ptr b n i off) =>
    match s.box b with
    | some bx => match bx.row with
      | true => Res.mkE (n = bx.es.length ∧ i < n ∧ off + ti.sz ≤ bx.k ∧ 0 < ti.sz ∧ (cellsOf y).length = ti.sz ∧ bx.fz = false ∧ sealOks s (cellsOf y) ∧ okRs ((cellsOf y).map (sealC s)) ∧ (rowIds (cellsOf y)).contains b = false)
          (fun e => bx.es[i]? = some e) fun e => ((freeze s (rowIds (cellsOf y))).setBox b (some { bx with es := bx.es.set i (over e off ((cellsOf y).map (sealC s))) })).put d (.c .und)
      | false => Res.mkE (n = bx.es.length ∧ i < n ∧ off + ti.sz ≤ bx.k ∧ 0 < ti.sz ∧ (cellsOf y).length = ti.sz ∧ bx.fz = false ∧ okCs (cellsOf y))
          (fun e => bx.es[i]? = some e) fun e => (s.setBox b (some { bx with es := bx.es.set i (over e off (cellsOf y)) })).put d (.c .und)
    | none => Res.no
  | _, _ => Res.no

def newBox (t : Nat) (cs : List C) (s : St) (d : Option Nat) : Res :=
  Res.mk1 True ((s.setBox nid (some { es := [cs], k := cs.length, ty := t, row := false, fz := false })).put d (.c (.ptr nid 1 0 0)))

def boxS (t : Nat) (cs : List C) (s : St) (d : Option Nat) : Res :=
  Res.mk1 (cs.length ≠ 0 ∧ okCs cs) ((s.setBox nid (some { es := [cs], k := cs.length, ty := t, row := false, fz := false })).put d (.c (.ptr nid 1 0 0)))

/-- Parts laid over a row. -/
def fillC (pl : Nat → Option (Nat × Nat)) (z : List C) : List (Nat × List C) → Option (List C)
  | [] => some z
  | (i, c) :: r =>
    match pl i with
    | none => none
    | some (off, sz) => if c.length = sz ∧ off + sz ≤ z.length then fillC pl (over z off c) r else none

def partsOK : List (Nat × List C) → Prop
  | [] => True
  | p :: r => p.2.length ≠ 0 ∧ okCs p.2 ∧ partsOK r

def buildS (t : Nat) (parts : List (Nat × AV)) (s : St) (d : Option Nat) : Res :=
  match tt t with
  | some ti => match ti.kind with
    | .struct fs => match fillC (fun i => (nthL fs i).map (·.2)) (ti.zv.map .v) (parts.map fun p => (p.1, cellsOf p.2)) with
      | some cs => Res.mk1 (partsOK (parts.map fun p => (p.1, cellsOf p.2))) (s.put d (.agg cs))
      | none => Res.no
    | _ => Res.no
  | none => Res.no

def lensAll (k : Nat) : List (Nat × List C) → Prop
  | [] => True
  | p :: r => p.2.length = k ∧ lensAll k r
def idsAre : Nat → List (Nat × List C) → Bool
  | _, [] => true
  | n, p :: r => (p.1 == n) && idsAre (n + 1) r
def sealPs (s : St) : List (Nat × List C) → Prop
  | [] => True
  | p :: r => sealOks s p.2 ∧ okRs (p.2.map (sealC s)) ∧ sealPs s r

def buildSliceS (t len : Nat) (parts : List (Nat × AV)) (s : St) (d : Option Nat) : Res :=
  match tt t with
  | some ti => match ti.kind with
    | .slice e => match tt e with
      | some te =>
        Res.mk1 (len * te.sz ≤ 16777216 ∧ 0 < te.sz ∧ idsAre 0 (parts.map fun p => (p.1, cellsOf p.2)) = true ∧ parts.length = len ∧ lensAll te.sz (parts.map fun p => (p.1, cellsOf p.2)) ∧ partsOK (parts.map fun p => (p.1, cellsOf p.2)) ∧ sealPs s (parts.map fun p => (p.1, cellsOf p.2)))
            (((freeze s (rowIdsL (parts.map fun p => cellsOf p.2))).setBox nid (some { es := parts.map fun p => (cellsOf p.2).map (sealC s), k := te.sz, ty := e, row := true, fz := false })).put d (.c (.own nid len true)))
      | none => Res.no
    | _ => Res.no
  | none => Res.no

def makeSliceS (t : Nat) (l c : AV) (s : St) (d : Option Nat) : Res :=
  match tt t, l, c with
  | some ti, .c (.v (.int _ n)), .c (.v (.int _ m)) => match ti.kind with
    | .slice e => match tt e with
      | some te => Res.mk1 (0 ≤ n ∧ n ≤ m ∧ te.bytes * m ≤ 281474976710656 ∧ m ≤ 4611686018427387904 ∧ 0 < te.sz)
            ((s.setBox nid (some { es := List.replicate n.toNat (te.zv.map .v), k := te.sz, ty := e, row := true, fz := false })).put d (.c (.own nid n.toNat false)))
      | none => Res.no
    | _ => Res.no
  | _, _, _ => Res.no

def fieldAddrS (t : Nat) (x : AV) (f : Nat) (s : St) (d : Option Nat) : Res :=
  match tt t with
  | some ti => match ti.kind with
    | .struct fs => match nthL fs f, x with
      | some (_, o, _), .c (.rp cs) => Res.mk1 True (s.put d (.c (.rp (cs.drop o))))
      | some (_, o, _), .c (.ptr b n i off) => match s.box b with
        | some bx => Res.mk1 (n = bx.es.length) (s.put d (.c (.ptr b n i (off + o))))
        | none => Res.no
      | _, _ => Res.no
    | _ => Res.no
  | none => Res.no

def fieldS (t : Nat) (x : AV) (f : Nat) (s : St) (d : Option Nat) : Res :=
  match tt t, x with
  | some ti, .agg cs => match ti.kind with
    | .struct fs => match nthL fs f with
      | some (ft, o, sz) => match tt ft with
        | some fi => Res.mk1 (o + sz ≤ cs.length ∧ fi.sz = sz) (s.put d (mkAV fi.kind.agg ((cs.drop o).take sz)))
        | none => Res.no
      | none => Res.no
    | _ => Res.no
  | _, _ => Res.no

def elemSz (t : Nat) : Option Nat :=
  match tt t with
  | some ti => match ti.kind with
    | .slice e => (tt e).map (·.sz)
    | _ => none
  | none => none

def indexAddrS (t : Nat) (x i : AV) (s : St) (d : Option Nat) : Res :=
  match elemSz tt t, x, i with
  | some sz, .c (.sl _ es), .c (.v (.int _ n)) => Res.mkE (0 ≤ n ∧ n < es.length ∧ ∀ e ∈ es, e.length = sz) (fun e => es[n.toNat]? = some e) fun e => s.put d (.c (.rp e))
  | some sz, .c (.own b m _), .c (.v (.int _ n)) =>
    match s.box b with
    | some bx => Res.mk1 (m = bx.es.length ∧ 0 ≤ n ∧ n < m ∧ bx.k = sz) (s.put d (.c (.ptr b m n.toNat 0)))
    | none => Res.no
  | some sz, .c (.vw b m lo hi), .c (.v (.int _ n)) =>
    match s.box b with
    | some bx => Res.mk1 (m = bx.es.length ∧ 0 ≤ n ∧ lo + n < hi ∧ bx.k = sz) (s.put d (.c (.ptr b m (lo + n.toNat) 0)))
    | none => Res.no
  | _, _, _ => Res.no

def indexS (t : Nat) (x i : AV) (s : St) (d : Option Nat) : Res :=
  match (tt t).map (·.kind), x, i with
  | some TK.string, .c (.v (.string b)), .c (.v (.int _ n)) => Res.mkE (0 ≤ n ∧ n < b.size) (fun u : UInt8 => b.data[n.toNat]? = some u) fun u => s.put d (.c (.v (.int .u8 u.toNat)))
  | _, _, _ => Res.no

def boundOf : Option AV → Nat → Option Int
  | none, d => some d
  | some (.c (.v (.int _ n))), _ => some n
  | _, _ => none

/-- A part of a row. -/
def sliceS (t : Nat) (x : AV) (lo hi mx : Option AV) (s : St) (d : Option Nat) : Res :=
  match elemSz tt t, x with
  | some sz, .c (.sl _ es) => match boundOf lo 0, boundOf hi es.length, mx with
    | some l, some h, none => Res.mk1 (0 ≤ l ∧ l ≤ h ∧ h ≤ es.length ∧ ∀ e ∈ es, e.length = sz) (s.put d (.c (.sl false ((es.take h.toNat).drop l.toNat))))
    | some l, some h, some (.c (.v (.int _ m))) => Res.mk1 (0 ≤ l ∧ l ≤ h ∧ h ≤ es.length ∧ m = h ∧ hi.isSome = true ∧ ∀ e ∈ es, e.length = sz) (s.put d (.c (.sl true ((es.take h.toNat).drop l.toNat))))
    | _, _, _ => Res.no
  | some sz, .c (.own b n _) => match s.box b with
    | some bx => match boundOf lo 0, boundOf hi n, mx with
      | some l, some h, none => Res.mk1 (n = bx.es.length ∧ 0 ≤ l ∧ l ≤ h ∧ h ≤ n ∧ bx.k = sz) (s.put d (.c (.vw b n l.toNat h.toNat)))
      | some l, some h, some (.c (.v (.int _ m))) => Res.mk1 (n = bx.es.length ∧ l = 0 ∧ h = n ∧ m = h ∧ hi.isSome = true ∧ bx.k = sz) (s.put d (.c (.own b n true)))
      | _, _, _ => Res.no
    | none => Res.no
  | some sz, .c (.vw b n lo' hi') => match s.box b with
    | some bx => match boundOf lo 0, boundOf hi (hi' - lo'), mx with
      | some l, some h, none => Res.mk1 (n = bx.es.length ∧ 0 ≤ l ∧ l ≤ h ∧ h + lo' ≤ hi' ∧ bx.k = sz) (s.put d (.c (.vw b n (lo' + l.toNat) (lo' + h.toNat))))
      | _, _, _ => Res.no
    | none => Res.no
  | none, .c (.v (.string b)) => match (tt t).map (·.kind), boundOf lo 0, boundOf hi b.size, mx with
    | some TK.string, some l, some h, none => Res.mk1 (0 ≤ l ∧ l ≤ h ∧ h ≤ b.size) (s.put d (.c (.v (.string (b.extract l.toNat h.toNat)))))
    | _, _, _, _ => Res.no
  | _, _ => Res.no

def extractS (x : AV) (j : Nat) (s : St) (d : Option Nat) : Res :=
  match x with
  | .tup vs => match nthL vs j with
    | some v => Res.mk1 True (s.put d v)
    | none => Res.no
  | _ => Res.no

/-- Bytes in a row, as numbers. -/
def b8s : List (List C) → List Int
  | [] => []
  | [.v (.int _ k)] :: r => k :: b8s r
  | _ :: r => 0 :: b8s r
def okB8 : List (List C) → Prop
  | [] => True
  | [.v (.int .u8 _)] :: r => okB8 r
  | _ :: _ => False
def convertS (src dst : Nat) (x : AV) (s : St) (d : Option Nat) : Res :=
  match tt src, tt dst, x with
  | some ts, some td, .c (.own b n _) => match ts.kind, td.kind, s.box b with
    | TK.slice e, TK.string, some bx => match (tt e).map (fun i => i.kind) with
      | some (TK.int .u8) => Res.mk1 (n = bx.es.length ∧ n ≠ 0 ∧ bx.row = true ∧ bx.k = 1 ∧ okB8 bx.es) (s.put d (.c (.v (.string (strOfNums (b8s bx.es))))))
      | _ => Res.no
    | _, _, _ => Res.no
  | some _, some td, .c (.v (.int _ n)) => match td.kind with
    | .int k' => Res.mk1 (InR k' n) (s.put d (.c (.v (.int k' n))))
    | _ => Res.no
  | _, _, _ => Res.no

/-! Calls. -/
def idxOf (b : Nat) : List Nat → Nat → Option Nat
  | [], _ => none
  | x :: r, j => bif x == b then some j else idxOf b r (j + 1)
def memN (b : Nat) : List Nat → Bool
  | [] => false
  | x :: r => (x == b) || memN b r
def unfz (s : St) (b : Nat) : Bool :=
  match s.box b with
  | some bx => !bx.fz
  | none => false
def isVar (s : St) (b : Nat) : Bool :=
  match s.box b with
  | some bx => !bx.row
  | none => false
/-- The boxes that cells lead to, in order: those that may be written. -/
def gather (s : St) : Nat → List Nat → List C → List Nat
  | 0, acc, _ => acc
  | _, acc, [] => acc
  | f + 1, acc, c :: r => match c with
    | .fn _ caps => gather s f (gather s f acc caps) r
    | _ => match hkey c with
      | some (b, _) => match unfz s b && !memN b acc with
        | true => match isVar s b, s.box b with
          | true, some bx => gather s f (gather s f (acc ++ [b]) bx.es.flatten) r
          | _, _ => gather s f (acc ++ [b]) r
        | false => gather s f acc r
      | none => gather s f acc r
def FUEL : Nat := 64
def renC0 (s : St) (ids : List Nat) (c : C) : C :=
  match hkey c with
  | some (b, _) => match idxOf b ids 0 with
    | some j => setId j c
    | none => sealC s c
  | none => sealC s c
def renC (s : St) (ids : List Nat) : C → C
  | .fn f caps => .fn f (caps.map (renC0 s ids))
  | c => renC0 s ids c
def renA1 (s : St) (ids : List Nat) : AV → AV
  | .c x => .c (renC s ids x)
  | .agg cs => .agg (cs.map (renC s ids))
  | .tup _ => .c .bot
  | .mp _ _ => .c .bot
def renA (s : St) (ids : List Nat) : AV → AV
  | .tup vs => .tup (vs.map (renA1 s ids))
  | x => renA1 s ids x
def renB (s : St) (ids : List Nat) (bx : Box) : Box :=
  match bx.row with
  | true => bx
  | false => { bx with es := bx.es.map fun e => e.map (renC s ids) }
def renOk0 (s : St) (lids ids : List Nat) (c : C) : Prop :=
  match hkey c with
  | some (b, _) => match idxOf b ids 0 with
    | some _ => True
    | none => sealOk s c ∧ ((rowIds [c]).all fun b => !unfz s b || memN b lids) = true
  | none => True
def renOk0s (s : St) (lids ids : List Nat) : List C → Prop
  | [] => True
  | c :: r => renOk0 s lids ids c ∧ renOk0s s lids ids r
def renOk (s : St) (lids ids : List Nat) : C → Prop
  | .fn _ caps => renOk0s s lids ids caps
  | c => renOk0 s lids ids c
def renOks (s : St) (lids ids : List Nat) : List C → Prop
  | [] => True
  | c :: r => renOk s lids ids c ∧ renOks s lids ids r

/-- The cells of the arguments that hand their boxes over. -/
def mtCells : List Bool → List AV → List C
  | true :: m, x :: r => cellsOf x ++ mtCells m r
  | false :: m, _ :: r => mtCells m r
  | _, _ => []
/-- The boxes that are lent. -/
def lent : List Bool → List AV → List Nat
  | _, [] => []
  | [], x :: r => rowIds (cellsOf x) ++ lent [] r
  | true :: m, _ :: r => lent m r
  | false :: m, x :: r => rowIds (cellsOf x) ++ lent m r
def passIds (s : St) (m : List Bool) (args : List AV) : List Nat :=
  match m with
  | [] => []
  | _ => gather s FUEL [] (mtCells m args)
def passA (s : St) (ids : List Nat) : List Bool → List AV → List AV
  | _, [] => []
  | [], x :: r => renA1 s [] x :: passA s ids [] r
  | true :: m, x :: r => renA1 s ids x :: passA s ids m r
  | false :: m, x :: r => renA1 s [] x :: passA s ids m r
def passOkA (s : St) (lids ids : List Nat) : List Bool → List AV → Prop
  | _, [] => True
  | [], x :: r => renOks s lids [] (cellsOf x) ∧ passOkA s lids ids [] r
  | true :: m, x :: r => renOks s lids ids (cellsOf x) ∧ passOkA s lids ids m r
  | false :: m, x :: r => renOks s lids [] (cellsOf x) ∧ passOkA s lids ids m r
def boxN (s : St) (b : Nat) : Box := (s.box b).getD ⟨[], 0, 0, true, true⟩
def passBs (s : St) (ids : List Nat) : List Nat → List Box
  | [] => []
  | b :: r => renB s ids (boxN s b) :: passBs s ids r
def passOkB (s : St) (lids ids : List Nat) : List Nat → Prop
  | [] => True
  | b :: r => (match s.box b with
    | some bx => bx.fz = false ∧ (match bx.row with
      | true => True
      | false => renOks s lids ids bx.es.flatten)
    | none => False) ∧ passOkB s lids ids r
def disjN (l r : List Nat) : Bool := l.all fun b => !memN b r
def distN : List Nat → Bool
  | [] => true
  | b :: r => !memN b r && distN r

def mapC0 (φ : Nat → Nat) (c : C) : C :=
  match hkey c with
  | some (b, _) => setId (φ b) c
  | none => c
def mapC (φ : Nat → Nat) : C → C
  | .fn f caps => .fn f (caps.map (mapC0 φ))
  | c => mapC0 φ c
def mapA1 (φ : Nat → Nat) : AV → AV
  | .c x => .c (mapC φ x)
  | .agg cs => .agg (cs.map (mapC φ))
  | .tup vs => .tup vs
  | .mp _ _ => .c .bot
def mapA (φ : Nat → Nat) : AV → AV
  | .tup vs => .tup (vs.map (mapA1 φ))
  | x => mapA1 φ x
def mapB (φ : Nat → Nat) (b : Box) : Box :=
  match b.row with
  | true => b
  | false => { b with es := b.es.map fun e => e.map (mapC φ) }
/-- A number behind a call, as the caller numbers. -/
def backId (ids : List Nat) (nid j : Nat) : Nat :=
  match nthL ids j with
  | some b => b
  | none => nid + (j - ids.length)
def addOut (φ : Nat → Nat) : List Nat → Nat → St → List Box → St
  | _, _, s, [] => s
  | p :: ps, n, s, b :: r => addOut φ ps n (s.setBox p (some (mapB φ b))) r
  | [], n, s, b :: r => addOut φ [] (n + 1) (s.setBox n (some (mapB φ b))) r
def baseS (s : St) (flat : Bool) (lids : List Nat) : St :=
  match flat with
  | true => s
  | false => freeze s lids
def setPk (s : St) (n : Nat) : St := { s with pk := n }
def afterS (s : St) (sp : Spec) (lids ids : List Nat) (outs : List Box) : St :=
  addOut (backId ids nid) ids nid (setPk (baseS s sp.flat lids) (s.pk + sp.cost)) outs

def callS (f : Nat) (args : List AV) (s : St) (d : Option Nat) : Res :=
  match tab f with
  | some sp =>
    Res.mkE (passOkA s (lent sp.mt args) (passIds s sp.mt args) sp.mt args ∧ passOkB s (lent sp.mt args) (passIds s sp.mt args) (passIds s sp.mt args) ∧ disjN (lent sp.mt args) (passIds s sp.mt args) = true ∧ distN (passIds s sp.mt args) = true ∧
        sp.pre (passA s (passIds s sp.mt args) sp.mt args) (passBs s (passIds s sp.mt args) (passIds s sp.mt args)) ∧ s.pk + sp.cost ≤ pickLimit)
      (fun x : AV × List Box => sp.post (passA s (passIds s sp.mt args) sp.mt args) (passBs s (passIds s sp.mt args) (passIds s sp.mt args)) x.1 x.2)
      fun x => (afterS nid s sp (lent sp.mt args) (passIds s sp.mt args) x.2).put d (mapA (backId (passIds s sp.mt args) nid) x.1)
  | none => Res.no

def callV (x : AV) (args : List AV) (s : St) (d : Option Nat) : Res :=
  match x with
  | .c (.fn f caps) => match tab f with
    | some sp => match sp.mt with
      | [] => callS tab nid f (args ++ caps.map .c) s d
      | _ :: _ => Res.no
    | none => Res.no
  | _ => Res.no

def makeFuncS (f : Nat) (caps : List AV) (s : St) (d : Option Nat) : Res :=
  Res.mk1 (okCs (caps.flatMap cellsOf) ∧ (caps.flatMap cellsOf).length = caps.length ∧ (∀ c ∈ caps.flatMap cellsOf, ∀ f l, c ≠ .fn f l) ∧ ∀ x ∈ caps, ∃ c, x = .c c) (s.put d (.c (.fn f (caps.flatMap cellsOf))))

/-! Maps. A map's box holds nothing, and none writes to it but 'mapUpdate'; what a map holds stands in the slots that hold the map. -/
def insK (k : List Int) : List (List Int) → List (List Int)
  | [] => [k]
  | x :: r => bif decide (k = x) then x :: r else x :: insK k r
def intsOf : List C → List Int
  | .v (.int _ n) :: r => n :: intsOf r
  | _ => []
def makeMapS (t : Nat) (s : St) (d : Option Nat) : Res :=
  match d with
  | some d => Res.mk1 True ((s.setBox nid (some { es := [], k := 0, ty := t, row := false, fz := true })).put (some d) (.mp nid []))
  | none => Res.no
def updM (b : Nat) (k : List Int) : AV → AV
  | .mp b' ks => bif b' == b then .mp b (insK k ks) else .c .bot
  | .tup _ => .c .bot
  | x => x
def mapUpdS (t : Nat) (m k v : AV) (s : St) : Res :=
  match (tt t).map (fun i => i.kind), m, k, v with
  | some (TK.map kt), .mp b ks, .agg cs, .c (.v (.bool true)) => match tt kt with
    | some te => Res.mk1 (te.eq = true ∧ te.sz = cs.length ∧ ints cs ∧ s.np ≤ b ∧ s.box b = some { es := [], k := 0, ty := t, row := false, fz := true } ∧ ∀ k ∈ ks, k.length = cs.length) { s with env := s.env.map fun p => (p.1, updM b (intsOf cs) p.2) }
    | none => Res.no
  | _, _, _, _ => Res.no

def lenS (t : Nat) (x : AV) (s : St) (d : Option Nat) : Res :=
  match (tt t).map (·.kind), x with
  | some TK.string, .c (.v (.string b)) => Res.mk1 True (s.put d (.c (.v (.int .i64 b.size))))
  | some (TK.slice _), .c (.v (.slice none 0 0)) => Res.mk1 True (s.put d (.c (.v (.int .i64 0))))
  | some (TK.map _), .mp _ ks => Res.mk1 True (s.put d (.c (.v (.int .i64 ks.length))))
  | some (TK.slice _), .c (.sl _ es) => Res.mk1 True (s.put d (.c (.v (.int .i64 es.length))))
  | some (TK.slice _), .c (.own b n _) => match s.box b with
    | some bx => Res.mk1 (n = bx.es.length) (s.put d (.c (.v (.int .i64 n))))
    | none => Res.no
  | some (TK.slice _), .c (.vw b n lo hi) => match s.box b with
    | some bx => Res.mk1 (n = bx.es.length) (s.put d (.c (.v (.int .i64 ((hi - lo : Nat) : Int)))))
    | none => Res.no
  | _, _ => Res.no

/-- What is appended. -/
def srcOf (s : St) (b : Nat) : AV → Option (Prop × List (List C))
  | .c (.v (.slice none 0 0)) => some (True, [])
  | .c (.sl _ es) => some (True, es)
  | .c (.own b' m _) => match s.box b' with
    | some bx => match bx.row with
      | true => some (m = bx.es.length ∧ b' ≠ b, bx.es)
      | false => none
    | none => none
  | .c (.vw b' m lo hi) => match s.box b' with
    | some bx => match bx.row with
      | true => some (m = bx.es.length ∧ b' ≠ b, (bx.es.take hi).drop lo)
      | false => none
    | none => none
  | _ => none

def appendS (t t' : Nat) (x y : AV) (s : St) (d : Option Nat) : Res :=
  match tt t, x with
  | some ti, .c (.own b n _) => match ti.kind, s.box b, srcOf s b y with
    | .slice e, some bx, some (p, ys) => match tt e with
      | some te => Res.mk1 (t' = t ∧ p ∧ n = bx.es.length ∧ bx.row = true ∧ bx.fz = false ∧ bx.k = te.sz ∧ bx.ty = e ∧ 0 < te.sz ∧ (∀ e ∈ ys, e.length = te.sz) ∧ (n + ys.length) * te.bytes ≤ 140737488355328 ∧ n + ys.length ≤ 4611686018427387904)
          ((s.setBox b (some { bx with es := bx.es ++ ys })).put d (.c (.own b (n + ys.length) false)))
      | none => Res.no
    | _, _, _ => Res.no
  | some ti, .c (.v (.slice none 0 0)) => match ti.kind, srcOf s nid y with
    | .slice e, some (p, ys) => match tt e with
      | some te => Res.mk1 (t' = t ∧ p ∧ 0 < te.sz ∧ (∀ e ∈ ys, e.length = te.sz) ∧ ys.length * te.bytes ≤ 140737488355328 ∧ ys.length ≤ 4611686018427387904)
          ((s.setBox nid (some { es := ys, k := te.sz, ty := e, row := true, fz := false })).put d (.c (.own nid ys.length false)))
      | none => Res.no
    | _, _ => Res.no
  | some ti, .c (.sl true es) => match ti.kind, srcOf s nid y with
    | .slice e, some (p, ys) => match tt e with
      | some te => Res.mk1 (t' = t ∧ p ∧ 0 < te.sz ∧ (∀ e ∈ es, e.length = te.sz) ∧ (∀ e ∈ ys, e.length = te.sz) ∧ (es = [] ∨ ys ≠ []) ∧ (es.length + ys.length) * te.bytes ≤ 140737488355328 ∧ es.length + ys.length ≤ 4611686018427387904)
          ((s.setBox nid (some { es := es ++ ys, k := te.sz, ty := e, row := true, fz := false })).put d (.c (.own nid (es.length + ys.length) false)))
      | none => Res.no
    | _, _ => Res.no
  | _, _ => Res.no

/-- A row's part is written over. -/
def copyE (es : List (List C)) (lo m : Nat) (ys : List (List C)) : List (List C) := es.take lo ++ (ys.take m ++ es.drop (lo + m))
def copyS (t : Nat) (x y : AV) (s : St) (d : Option Nat) : Res :=
  match elemSz tt t, x with
  | some sz, .c (.own b n _) => match s.box b, srcOf s (b + 1) y with
    | some bx, some (_, ys) => Res.mk1 (n = bx.es.length ∧ srcLen s y ∧ bx.row = true ∧ bx.fz = false ∧ bx.k = sz ∧ 0 < sz ∧ ∀ e ∈ ys, e.length = sz)
        ((s.setBox b (some { bx with es := copyE bx.es 0 (min n ys.length) ys })).put d (.c (.v (.int .i64 ((min n ys.length : Nat) : Int)))))
    | _, _ => Res.no
  | some sz, .c (.vw b n lo hi) => match s.box b, srcOf s (b + 1) y with
    | some bx, some (_, ys) => Res.mk1 (n = bx.es.length ∧ srcLen s y ∧ bx.row = true ∧ bx.fz = false ∧ bx.k = sz ∧ 0 < sz ∧ ∀ e ∈ ys, e.length = sz)
        ((s.setBox b (some { bx with es := copyE bx.es lo (min (hi - lo) ys.length) ys })).put d (.c (.v (.int .i64 ((min (hi - lo) ys.length : Nat) : Int)))))
    | _, _ => Res.no
  | _, _ => Res.no
where srcLen (s : St) : AV → Prop
  | .c (.own b m _) => match s.box b with
    | some bx => m = bx.es.length
    | none => False
  | .c (.vw b m _ _) => match s.box b with
    | some bx => m = bx.es.length
    | none => False
  | _ => True

def assignS (x : AV) (ti : Option TI) (s : St) (d : Option Nat) : Res :=
  match x, ti with
  | .c (.v (.slice none 0 0)), some ti => match ti.kind with
    | .slice e => match tt e with
      | some te => Res.mk1 True ((s.setBox nid (some { es := [], k := te.sz, ty := e, row := true, fz := false })).put d (.c (.own nid 0 false)))
      | none => Res.no
    | _ => Res.mk1 True (s.put d x)
  | _, _ => Res.mk1 True (s.put d x)

def pickS (c : AV) (a b : AV) (s : St) (d : Option Nat) : Res :=
  match c with
  | .c (.v (.bool true)) => Res.mk1 True (s.put d a)
  | .c (.v (.bool false)) => Res.mk1 True (s.put d b)
  | _ => Res.no

def allocS (ti : Option TI) (t : Nat) (s : St) (d : Option Nat) : Res :=
  match ti with
  | some ti => newBox nid t (ti.zv.map .v) s d
  | none => Res.no

def nilS (x : AV) (s : St) (d : Option Nat) : Res :=
  match x with
  | .c (.ptr b n i off) => match s.box b with
    | some bx => Res.mk1 (n = bx.es.length) (s.put d (.c (.ptr b n i off)))
    | none => Res.no
  | .c (.rp cs) => Res.mk1 True (s.put d (.c (.rp cs)))
  | .c .rdr => Res.mk1 True (s.put d (.c .rdr))
  | .c (.fn f a) => Res.mk1 True (s.put d (.c (.fn f a)))
  | _ => Res.no

def minS (mx : Bool) (l : List AV) (s : St) (d : Option Nat) : Res :=
  match mx, l with
  | false, [.c (.v (.int k a)), .c (.v (.int _ b))] => Res.mk1 True (s.put d (.c (.v (.int k (min a b)))))
  | true, [.c (.v (.int k a)), .c (.v (.int _ b))] => Res.mk1 True (s.put d (.c (.v (.int k (max a b)))))
  | true, [.c (.v (.int k a)), .c (.v (.int _ b)), .c (.v (.int _ c))] => Res.mk1 True (s.put d (.c (.v (.int k (max (max a b) c)))))
  | _, _ => Res.no

def opS (o : Oper) (s : St) : Res :=
  match o.op with
  | .move x => Res.mk1 True (s.put o.dst (s.ev x))
  | .assign x => assignS tt nid (s.ev x) (tt o.type) s o.dst
  | .pick c a b => pickS (s.ev c) (s.ev a) (s.ev b) s o.dst
  | .alloc t => allocS nid (tt t) t s o.dst
  | .box t x => boxS nid t (cellsOf (s.ev x)) s o.dst
  | .build t parts => buildS tt t (parts.toList.map fun p => (p.1, s.ev p.2)) s o.dst
  | .buildSlice t len parts => buildSliceS tt nid t len (parts.toList.map fun p => (p.1, s.ev p.2)) s o.dst
  | .load t x => loadS tt t (s.ev x) s o.dst
  | .store t x y => storeS tt t (s.ev x) (s.ev y) s o.dst
  | .nilCheck x => nilS (s.ev x) s o.dst
  | .binOp op t x y _ => binS tt op t (isNilK y) (s.ev x) (s.ev y) s o.dst
  | .unOp op _ x => unS op (s.ev x) s o.dst
  | .convert src dst x => convertS tt src dst (s.ev x) s o.dst
  | .makeFunc f first captured => match f, first.toList with
    | .func f, [] => makeFuncS f (captured.toList.map s.ev) s o.dst
    | _, _ => Res.no
  | .makeMap t none => makeMapS nid t s o.dst
  | .mapUpdate t m k x => match o.dst with
    | none => mapUpdS tt t (s.ev m) (s.ev k) (s.ev x) s
    | some _ => Res.no
  | .makeSlice t l c => makeSliceS tt nid t (s.ev l) (s.ev c) s o.dst
  | .fieldAddr t x f => fieldAddrS tt t (s.ev x) f s o.dst
  | .field t x f => fieldS tt t (s.ev x) f s o.dst
  | .indexAddr t x i => indexAddrS tt t (s.ev x) (s.ev i) s o.dst
  | .index t x i => indexS tt t (s.ev x) (s.ev i) s o.dst
  | .extract x j => extractS (s.ev x) j s o.dst
  | .slice t x lo hi mx => sliceS tt t (s.ev x) (lo.map s.ev) (hi.map s.ev) (mx.map s.ev) s o.dst
  | .call c => match c.callee with
    | .builtin .len => match c.args.toList, c.argTypes.toList with
      | [x], [t] => lenS tt t (s.ev x) s o.dst
      | _, _ => Res.no
    | .builtin .append => match c.args.toList, c.argTypes.toList with
      | [x, y], [t, t'] => appendS tt nid t t' (s.ev x) (s.ev y) s o.dst
      | _, _ => Res.no
    | .builtin .copy => match c.args.toList, c.argTypes.toList with
      | [x, y], [t, _] => copyS tt t (s.ev x) (s.ev y) s o.dst
      | _, _ => Res.no
    | .builtin .min => minS false (c.args.toList.map s.ev) s o.dst
    | .builtin .max => minS true (c.args.toList.map s.ev) s o.dst
    | .value (.func f) => callS tab nid f (c.args.toList.map s.ev) s o.dst
    | .value (.tmp t) => callV tab nid (s.get t) (c.args.toList.map s.ev) s o.dst
    | _ => Res.no
  | _ => Res.no

end ops

inductive Ex where
  | normal
  | exit (id : Nat)
  | ret

section run
variable (tt : Nat → Option TI) (tab : Nat → Option Spec)

def dstOK (n : Nat) : Option Nat → Prop
  | none => True
  | some d => d < n

def opW (o : Oper) (s : St) (K : St → Prop) : Prop :=
  dstOK s.nt o.dst ∧ (opS tt tab s.nx o { s with nx := s.nx + 8 }).app K

/-- Both ways, each under its own answer. -/
def ifP (t : Bool) (yes no : Prop) : Prop := (t = true → yes) ∧ (t = false → no)
theorem ifP_true (y n : Prop) : ifP true y n = y := by simp [ifP]
theorem ifP_false (y n : Prop) : ifP false y n = n := by simp [ifP]
theorem ifP_not (t : Bool) (y n : Prop) : ifP (!t) y n = ifP t n y := by cases t <;> simp [ifP]
theorem ifP_decide (p : Prop) [Decidable p] (y n : Prop) : ifP (decide p) y n = ((p → y) ∧ (¬ p → n)) := by simp [ifP]
theorem ifP_beq (a b : Bool) (y n : Prop) : ifP (a == b) y n = ((a = b → y) ∧ (¬ a = b → n)) := by simp [ifP]

def guardB (ops : Array Oper) (j : Nat) (want : Bool) (s : St) (yes no : St → Prop) : Prop :=
  match (nthL ops.toList j).bind (·.dst) with
  | some g => match s.get g with
    | .c (.v (.bool t)) => match want with
      | true => ifP t (yes (s.put (some g) (.c (.v (.bool true))))) (no (s.put (some g) (.c (.v (.bool false)))))
      | false => ifP t (no (s.put (some g) (.c (.v (.bool true))))) (yes (s.put (some g) (.c (.v (.bool false)))))
    | .c .und => no s
    | _ => False
  | none => no s

/-- Whether an operation is carried out. -/
def guardW (ops : Array Oper) (o : Oper) (s : St) (yes no : St → Prop) : Prop :=
  match o.guard with
  | none => yes s
  | some (j, want) => guardB ops j want s yes no

def opsW (ops : Array Oper) : List Oper → St → (St → Prop) → Prop
  | [], s, K => K s
  | o :: r, s, K => guardW ops o s (fun s => opW tt tab o s fun s => opsW ops r s K) (fun s => dstOK s.nt o.dst ∧ opsW ops r (s.put o.dst (.c .und)) K)

def seqK (Q : Ex → St → Prop) (k : St → Prop) : Ex → St → Prop
  | .normal, s => k s
  | .exit i, s => Q (.exit i) s
  | .ret, s => Q .ret s
def blockK (Q : Ex → St → Prop) (id : Nat) : Ex → St → Prop
  | .normal, s => Q .normal s
  | .exit i, s => match decide (i = id) with
    | true => Q .normal s
    | false => Q (.exit i) s
  | .ret, s => Q .ret s
def condW (x : AV) (yes no : Prop) : Prop :=
  match x with
  | .c (.v (.bool t)) => ifP t yes no
  | _ => False

/-- Any state that fits the one fits the other. (The meaning of it is given in Eng13; here it is a parameter.) -/
def runW (Ent : St → St → Prop) (drawW : Nat → Array Oper → St → (St → Prop) → Prop) : Code → St → (Ex → St → Prop) → Prop
  | .skip, s, Q => Q .normal s
  | .region _ ops false, s, Q => opsW tt tab ops ops.toList s (Q .normal)
  | .region id ops true, s, Q => drawW id ops s (Q .normal)
  | .seq a b, s, Q => runW Ent drawW a s (seqK Q fun s' => runW Ent drawW b s' Q)
  | .cond c a b, s, Q => condW (s.ev c) (runW Ent drawW a s Q) (runW Ent drawW b s Q)
  | .block id c, s, Q => runW Ent drawW c s (blockK Q id)
  | .loop c, s, Q => ∃ (α : Type) (F : α → St) (Inv : α → Prop) (m : α → Nat) (x0 : α), Inv x0 ∧ Ent s (F x0) ∧ ∀ x, Inv x → runW Ent drawW c (F x) (seqK Q fun s' => ∃ y, Inv y ∧ m y < m x ∧ Ent s' (F y))
  | .exit id, s, Q => Q (.exit id) s
  | .ret, s, Q => Q .ret s
  | _, _, _ => False

section eqs
variable (nt np : Nat) (env : List (Nat × AV)) (hp : List (Nat × Option Box)) (nx pk : Nat)
theorem opW_lit (o : Oper) (K : St → Prop) : opW tt tab o ⟨nt, np, env, hp, nx, pk⟩ K = (dstOK nt o.dst ∧ (opS tt tab nx o ⟨nt, np, env, hp, nx + 8, pk⟩).app K) := rfl
theorem opsW_nil (ops : Array Oper) (K : St → Prop) : opsW tt tab ops [] ⟨nt, np, env, hp, nx, pk⟩ K = K ⟨nt, np, env, hp, nx, pk⟩ := rfl
theorem opsW_plain (ops : Array Oper) (d : Option Nat) (op : Op) (t : Nat) (pos : String) (af : Array Edge) (r : List Oper) (K : St → Prop) :
    opsW tt tab ops (⟨d, op, t, pos, af, none⟩ :: r) ⟨nt, np, env, hp, nx, pk⟩ K = opW tt tab ⟨d, op, t, pos, af, none⟩ ⟨nt, np, env, hp, nx, pk⟩ fun s => opsW tt tab ops r s K := rfl
theorem opsW_guard (ops : Array Oper) (d : Option Nat) (op : Op) (t : Nat) (pos : String) (af : Array Edge) (j : Nat) (want : Bool) (r : List Oper) (K : St → Prop) :
    opsW tt tab ops (⟨d, op, t, pos, af, some (j, want)⟩ :: r) ⟨nt, np, env, hp, nx, pk⟩ K =
      guardB ops j want ⟨nt, np, env, hp, nx, pk⟩ (fun s => opW tt tab ⟨d, op, t, pos, af, some (j, want)⟩ s fun s => opsW tt tab ops r s K) (fun s => dstOK s.nt d ∧ opsW tt tab ops r (s.put d (.c .und)) K) := rfl
variable (lw : St → St → Prop) (dw : Nat → Array Oper → St → (St → Prop) → Prop) (Q : Ex → St → Prop)
theorem runW_skip : runW tt tab lw dw .skip ⟨nt, np, env, hp, nx, pk⟩ Q = Q .normal ⟨nt, np, env, hp, nx, pk⟩ := rfl
theorem runW_region (id : Nat) (l : List Oper) : runW tt tab lw dw (.region id ⟨l⟩ false) ⟨nt, np, env, hp, nx, pk⟩ Q = opsW tt tab ⟨l⟩ l ⟨nt, np, env, hp, nx, pk⟩ (Q .normal) := rfl
theorem runW_draw (id : Nat) (ops : Array Oper) : runW tt tab lw dw (.region id ops true) ⟨nt, np, env, hp, nx, pk⟩ Q = dw id ops ⟨nt, np, env, hp, nx, pk⟩ (Q .normal) := rfl
theorem runW_seq (a b : Code) : runW tt tab lw dw (.seq a b) ⟨nt, np, env, hp, nx, pk⟩ Q = runW tt tab lw dw a ⟨nt, np, env, hp, nx, pk⟩ (seqK Q fun s' => runW tt tab lw dw b s' Q) := rfl
theorem runW_cond (c : Operand) (a b : Code) : runW tt tab lw dw (.cond c a b) ⟨nt, np, env, hp, nx, pk⟩ Q = condW ((St.mk nt np env hp nx pk).ev c) (runW tt tab lw dw a ⟨nt, np, env, hp, nx, pk⟩ Q) (runW tt tab lw dw b ⟨nt, np, env, hp, nx, pk⟩ Q) := rfl
theorem runW_block (id : Nat) (c : Code) : runW tt tab lw dw (.block id c) ⟨nt, np, env, hp, nx, pk⟩ Q = runW tt tab lw dw c ⟨nt, np, env, hp, nx, pk⟩ (blockK Q id) := rfl
theorem runW_loop (c : Code) : runW tt tab lw dw (.loop c) ⟨nt, np, env, hp, nx, pk⟩ Q = ∃ (α : Type) (F : α → St) (Inv : α → Prop) (m : α → Nat) (x0 : α), Inv x0 ∧ lw ⟨nt, np, env, hp, nx, pk⟩ (F x0) ∧
    ∀ x, Inv x → runW tt tab lw dw c (F x) (seqK Q fun s' => ∃ y, Inv y ∧ m y < m x ∧ lw s' (F y)) := rfl
theorem runW_exit (id : Nat) : runW tt tab lw dw (.exit id) ⟨nt, np, env, hp, nx, pk⟩ Q = Q (.exit id) ⟨nt, np, env, hp, nx, pk⟩ := rfl
theorem runW_ret : runW tt tab lw dw .ret ⟨nt, np, env, hp, nx, pk⟩ Q = Q .ret ⟨nt, np, env, hp, nx, pk⟩ := rfl
end eqs
end run
end Go.VE
end
section
namespace Go.VE
open Go

theorem BoxOK0.mono {w : World} {M M' : Value → C → Prop} {β : Option Nat} {cp : Nat} {bx : Box} (h : BoxOK0 w M β cp bx) (hM : ∀ v c, M v c → M' v c) : BoxOK0 w M' β cp bx := by
  rcases h with h | ⟨g, cur, h1, h2, h4, h5, h6, h7, h9, h8⟩
  · exact .inl h
  · exact .inr ⟨g, cur, h1, h2, h4, h5, h6, h7, h9, fun i j e c he hc => hM _ _ (h8 i j e c he hc)⟩
theorem BoxOK.mono {w : World} {M M' : Value → C → Prop} {β : Option Nat} {cp : Nat} {bx : Box} (h : BoxOK w M β cp bx) (hM : ∀ v c, M v c → M' v c) : BoxOK w M' β cp bx :=
  h.imp (fun h => h.mono hM) id

theorem BoxOK0.heap {w w' : World} {M : Value → C → Prop} {β : Option Nat} {cp : Nat} {bx : Box} (h : BoxOK0 w M β cp bx) (hh : ∀ g, β = some g → w'.heap[g]? = w.heap[g]?) : BoxOK0 w' M β cp bx := by
  rcases h with h | ⟨g, cur, h1, h2, h4, h5, h6, h7, h9, h8⟩
  · exact .inl h
  · exact .inr ⟨g, cur, h1, (hh g h1).trans h2, h4, h5, h6, h7, h9, h8⟩
theorem BoxOK.heap {w w' : World} {M : Value → C → Prop} {β : Option Nat} {cp : Nat} {bx : Box} (h : BoxOK w M β cp bx) (hh : ∀ g, β = some g → w'.heap[g]? = w.heap[g]?) : BoxOK w' M β cp bx :=
  h.imp (fun h => h.heap hh) fun ⟨h1, h2, h0, g, es, clk, h3, h4⟩ => ⟨h1, h2, h0, g, es, clk, h3, (hh g h3).trans h4⟩

theorem BoxOK0.lt {w : World} {M : Value → C → Prop} {β : Option Nat} {cp : Nat} {bx : Box} (h : BoxOK0 w M β cp bx) {g : Nat} (hg : β = some g) : g < w.heap.size := by
  rcases h with ⟨h, _⟩ | ⟨g', cur, h1, h2, _⟩
  · rw [h] at hg; cases hg
  · rw [h1] at hg; cases hg; exact (Array.getElem?_eq_some_iff.1 h2).1
theorem BoxOK.lt {w : World} {M : Value → C → Prop} {β : Option Nat} {cp : Nat} {bx : Box} (h : BoxOK w M β cp bx) {g : Nat} (hg : β = some g) : g < w.heap.size := by
  rcases h with h | ⟨_, _, _, g', es, clk, h1, h2⟩
  · exact h.lt hg
  · rw [h1] at hg; cases hg; exact (Array.getElem?_eq_some_iff.1 h2).1

theorem BoxOK.pure {w : World} {M : Value → C → Prop} {β : Option Nat} {cp : Nat} {bx : Box} (h : BoxOK w M β cp bx) (hr : bx.row = true) : pureEs bx.es := by
  rcases h.two (.inl hr) with ⟨_, h, _⟩ | ⟨g', cur, _, _, _, _, _, _, h, _⟩
  · rw [h]; intro e he; cases he
  · exact h hr

theorem BoxOK.fz {w : World} {M : Value → C → Prop} {β : Option Nat} {cp : Nat} {bx : Box} (h : BoxOK w M β cp bx) (z : Bool) : BoxOK w M β cp { bx with fz := z } := by
  rcases h with (h | ⟨g, cur, h1, h2, h4, h5, h6, h7, h9, h8⟩) | h
  · exact .inl (.inl h)
  · exact .inl (.inr ⟨g, cur, h1, h2, h4, h5, h6, h7, h9, h8⟩)
  · exact .inr h

section
variable {X : Cx} {s : St} {a : Act} {w : World} {β : Nat → Option Nat} {cp : Nat → Nat} {Rd : Nat → Prop}

theorem Good.put (h : Good X s a w β cp Rd) {d : Option Nat} (hd : dstOK s.nt d) {v : Value} {x : AV} (hv : MA w (X.mt s β Rd) Rd (hOf s β cp) v x) : Good X (s.put d x) (a.put d v) w β cp Rd := by
  cases d with
  | none => exact h
  | some d =>
    refine ⟨h.defers, by simpa [Act.put, St.put] using h.size, h.keeps, h.fresh, h.org, h.own_rd, h.own_av, h.rdsame, h.inj, h.rd0, h.rdge, h.avlt, h.npin, h.pin, h.rdok, fun t => ?_, h.boxes, h.glob, h.kept⟩
    have hlt : d < a.tmps.size := by rw [h.size]; exact hd
    show MA w (X.mt s β Rd) Rd (hOf s β cp) ((a.tmps.setIfInBounds d v).getD t undef) (lkE ((d, x) :: s.env) t)
    simp only [lkE]
    by_cases e : d = t
    · subst e
      simpa [Array.getElem?_setIfInBounds, hlt] using hv
    · have e' : (d == t) = false := by simpa using e
      rw [e', cond_false]
      have := h.env t
      simpa [Array.getElem?_setIfInBounds, e, St.get] using this

/-- The number of the next box may grow. -/
theorem Good.bump (h : Good X s a w β cp Rd) (n : Nat) : Good X { s with nx := s.nx + n } a w β cp Rd :=
  ⟨h.defers, h.size, h.keeps, fun b hb => Nat.lt_of_lt_of_le (h.fresh b hb) (Nat.le_add_right _ _), h.org, h.own_rd, h.own_av, h.rdsame, h.inj, h.rd0, h.rdge, h.avlt, h.npin, h.pin, h.rdok, h.env, h.boxes, h.glob, h.kept⟩

theorem constC_ok {Mt Rd : Nat → Prop} {H : C → Value → Prop} (v : Value) : MC w Mt Rd H v (constC v) := by
  unfold constC
  cases h : v.oneCell' with
  | true => exact RC.v v h
  | false => trivial

theorem const_ok {Mt Rd : Nat → Prop} {H : C → Value → Prop} (v : Value) : MA w Mt Rd H v (ofConst v) := by
  cases v
  case agg cs =>
    refine ⟨cs, rfl, by simp, fun j c hc => ?_⟩
    simp only [List.getElem?_map, Option.map_eq_some_iff] at hc
    obtain ⟨x, hx, rfl⟩ := hc
    have : cs.getD j undef = x := by simp only [Array.getElem?_toList] at hx; simp [Array.getD_eq_getD_getElem?, hx]
    rw [this]
    exact constC_ok x
  case tuple vs => trivial
  all_goals exact RC.v _ rfl

theorem Good.ev (h : Good X s a w β cp Rd) (x : Operand) : MA w (X.mt s β Rd) Rd (hOf s β cp) (a.eval x) (s.ev x) := by
  cases x with
  | tmp t => exact h.env t
  | const v => exact const_ok v
  | global g => trivial
  | func f => exact ⟨#[], rfl, rfl, fun j c hj => by simp at hj⟩

theorem Good.lt (h : Good X s a w β cp Rd) {g : Nat} (hg : has s β g) : g < w.heap.size := by
  obtain ⟨b, bx, h1, h2⟩ := hg
  exact (h.boxes b bx h1).lt h2

/-- The state and the world go on. -/
theorem Good.re (h : Good X s a w β cp Rd) {s' : St} {w' : World} {β' : Nat → Option Nat} {cp' : Nat → Nat} {Rd' : Nat → Prop}
    (henv : s'.env = s.env) (hnt : s'.nt = s.nt) (hnp : s'.np = s.np) (hfresh : ∀ b, s'.keyed b → b < s'.nx) (hos : w'.os = w.os) (htape : w'.tape = w.tape) (hout : w'.output = w.output ∧ True) (hsz : w.heap.size ≤ w'.heap.size)
    (hkeep : ∀ g, g < w.heap.size → ¬ owns s β g → ¬ Rd g → w'.heap[g]? = w.heap[g]?) (hrd : ∀ g, Rd g → Rd' g) (hrdge : ∀ g, Rd' g → Rd g ∨ w.heap.size ≤ g)
    (howns : ∀ g, owns s' β' g → owns s β g ∨ w.heap.size ≤ g) (horg : ∀ b bx' g, s'.box b = some bx' → β' b = some g → (∃ bx, s.box b = some bx ∧ β b = some g) ∨ w.heap.size ≤ g) (hownrd : ∀ g, has s' β' g → ¬ Rd' g)
    (hsame : ∀ g, X.Rd0 g → RdSame X.rt w w' g)
    (hinj : ∀ b b' bx bx' g, s'.box b = some bx → s'.box b' = some bx' → β' b = some g → β' b' = some g → b = b')
    (hH : ∀ c v, hOf s β cp c v → hOf s' β' cp' c v)
    (hpin : ∀ i q, pinP s β cp i q → pinP s' β' cp' i q)
    (hrdok : RdOK X.rt w' (X.mt s' β' Rd') Rd' s'.pk)
    (hboxes : ∀ b bx, s'.box b = some bx → BoxOK w' (MC w' (X.mt s' β' Rd') Rd' (hOf s' β' cp')) (β' b) (cp' b) bx) : Good X s' a w' β' cp' Rd' := by
  have h0 : X.w0.heap.size ≤ w.heap.size := h.keeps.size
  have hmt : ∀ g, g < w.heap.size → X.mt s' β' Rd' g → X.mt s β Rd g := by
    rintro g hg (hm | hm | hm)
    · exact .inl hm
    · rcases howns g hm with h1 | h1
      · exact .inr (.inl h1)
      · omega
    · rcases hrdge g hm with h1 | h1
      · exact .inr (.inr h1)
      · omega
  have hhas : ∀ g, has s' β' g → has s β g ∨ w.heap.size ≤ g := fun g ⟨b, bx', h1, h2⟩ => (horg b bx' g h1 h2).imp (fun ⟨bx, h3, h4⟩ => ⟨b, bx, h3, h4⟩) id
  refine ⟨h.defers, by rw [hnt]; exact h.size, ?_, hfresh, ?_, hownrd, ?_, fun g hg => (h.rdsame g hg).trans (hsame g hg), hinj, fun g hg => hrd g (h.rd0 g hg), ?_, h.avlt, h.npin.trans hnp.symm, fun i q hq => hpin i q (h.pin i q hq), hrdok, fun t => ?_, hboxes, h.glob, fun g hg => ?_⟩
  · refine ⟨hos.trans h.keeps.os, htape.trans h.keeps.tape, ⟨hout.1.trans h.keeps.output.1, trivial⟩, Nat.le_trans h0 hsz, fun g hg hm => ?_⟩
    refine (hkeep g (by omega) (fun ho => ?_) (fun hr => ?_)).trans (h.keeps.block g hg hm)
    · obtain ⟨b, bx, h1, _, h2⟩ := ho
      rcases h.org b bx g h1 h2 with h1 | ⟨q, h1, h2⟩
      · omega
      · exact hm (.inr ⟨b, q, h1, h2⟩)
    · rcases h.rdge g hr with h1 | h1
      · exact hm (.inl h1)
      · omega
  · intro b bx' g h1 h2
    rcases horg b bx' g h1 h2 with ⟨bx, h3, h4⟩ | h3
    · exact h.org b bx g h3 h4
    · exact .inl (by omega)
  · intro g hg ha
    rcases hhas g hg with h1 | h1
    · exact h.own_av g h1 ha
    · have := h.avlt g ha; omega
  · intro g hg
    rcases hrdge g hg with h1 | h1
    · exact h.rdge g h1
    · exact .inr (by omega)
  · have := h.env t
    unfold St.get at this ⊢
    rw [henv]
    exact this.mono (K := fun _ => True) (fun g hg hm => hkeep g hg (fun ho => hm (.inr (.inl ho))) (fun hr => hm (.inr (.inr hr)))) hsz hmt hrd (avIds_all _) (fun c b n _ _ v => hH c v)
  · obtain ⟨k1, k2, k3, k4, k5⟩ := h.kept g hg
    have e := hkeep g k1 k3 k4
    refine ⟨by omega, e.trans k2, fun ho => ?_, fun hr => ?_, fun hm => ?_⟩
    · rcases howns g ho with h1 | h1
      · exact k3 h1
      · omega
    · rcases hrdge g hr with h1 | h1
      · exact k4 h1
      · omega
    · obtain ⟨b, bx, es, clk, m1, m2, m3⟩ := hm
      rcases horg b bx g m1 m2 with ⟨bx0, h3, h4⟩ | h3
      · exact k5 ⟨b, bx0, es, clk, h3, h4, e ▸ m3⟩
      · omega

def upd {α : Type} (f : Nat → α) (b : Nat) (x : α) (c : Nat) : α := if c = b then x else f c
theorem upd_same {α : Type} (f : Nat → α) (b : Nat) (x : α) : upd f b x b = x := by simp [upd]
theorem upd_ne {α : Type} (f : Nat → α) {b c : Nat} (x : α) (h : c ≠ b) : upd f b x c = f c := by simp [upd, h]

theorem St.box_set_same (s : St) (b : Nat) (x : Option Box) : (s.setBox b x).box b = x := by simp [St.box, St.setBox, lkB]
theorem St.box_set_ne (s : St) {b c : Nat} (x : Option Box) (h : c ≠ b) : (s.setBox b x).box c = s.box c := by
  have : (b == c) = false := by simp; exact fun e => h e.symm
  simp [St.box, St.setBox, lkB, this]
theorem St.keyed_set (s : St) (b c : Nat) (x : Option Box) : (s.setBox b x).keyed c ↔ c = b ∨ s.keyed c := by
  by_cases h : c = b
  · subst h; simp [St.keyed, St.setBox, lkB]
  · have : (b == c) = false := by simp; exact fun e => h e.symm
    simp [St.keyed, St.setBox, lkB, this, h]
theorem St.keyed_of_box {s : St} {b : Nat} {bx : Box} (h : s.box b = some bx) : s.keyed b := by
  unfold St.box at h
  unfold St.keyed
  cases hl : lkB s.hp b with
  | none => rw [hl] at h; cases h
  | some x => rfl

/-- A handle's meaning goes on. -/
theorem hOf.go {s s' : St} {β β' : Nat → Option Nat} {cp cp' : Nat → Nat} {c : C} {v : Value} (h : hOf s β cp c v) (hkey : ∀ b, s.keyed b → s'.keyed b)
    (hb : ∀ b, s.keyed b → ∀ bx', s'.box b = some bx' → ∃ bx, s.box b = some bx ∧ ((bx'.es.length = bx.es.length ∧ β' b = β b ∧ cp' b = cp b ∧ bx'.k = bx.k) ∨ bx.es.length < bx'.es.length)) : hOf s' β' cp' c v := by
  obtain ⟨b, n, h1, h2, h3⟩ := h
  refine ⟨b, n, h1, hkey b h2, fun bx' hbx' => ?_⟩
  obtain ⟨bx, h4, h5⟩ := hb b h2 bx' hbx'
  obtain ⟨h6, h7⟩ := h3 bx h4
  rcases h5 with ⟨e1, e2, e3, e4⟩ | h5
  · rw [e1, e2, e3, e4]; exact ⟨h6, h7⟩
  · exact ⟨by omega, fun hn => by omega⟩
theorem hOf.at {s : St} {β : Nat → Option Nat} {cp : Nat → Nat} {c : C} {v : Value} {b n : Nat} {bx : Box} (h : hOf s β cp c v) (hk : hkey c = some (b, n)) (hbx : s.box b = some bx) (hn : n = bx.es.length) : hV (β b) (cp b) bx.k c v := by
  obtain ⟨b', n', h1, _, h2⟩ := h
  rw [hk] at h1
  cases h1
  exact (h2 bx hbx).2 hn
theorem hOf.keyed {s : St} {β : Nat → Option Nat} {cp : Nat → Nat} {c : C} {v : Value} {b n : Nat} (h : hOf s β cp c v) (hk : hkey c = some (b, n)) : s.keyed b := by
  obtain ⟨b', n', h1, h3, h2⟩ := h
  rw [hk] at h1
  cases h1
  exact h3
theorem hOf.mk {s : St} {β : Nat → Option Nat} {cp : Nat → Nat} {c : C} {v : Value} {b n : Nat} {bx : Box} (hk : hkey c = some (b, n)) (hbx : s.box b = some bx) (hle : n ≤ bx.es.length) (h : n = bx.es.length → hV (β b) (cp b) bx.k c v) : hOf s β cp c v :=
  ⟨b, n, hk, St.keyed_of_box hbx, fun bx' hb => by rw [hbx] at hb; cases hb; exact ⟨hle, h⟩⟩
theorem pinP.go {s s' : St} {β β' : Nat → Option Nat} {cp cp' : Nat → Nat} {i : Nat} {q : Box × Option Nat × Nat} (h : pinP s β cp i q) (hkey : ∀ b, s.keyed b → s'.keyed b)
    (hb : ∀ b, s.keyed b → ∀ bx', s'.box b = some bx' → ∃ bx, s.box b = some bx ∧ ((bx'.es.length = bx.es.length ∧ β' b = β b ∧ cp' b = cp b ∧ bx'.k = bx.k) ∨ bx.es.length < bx'.es.length)) : pinP s' β' cp' i q := by
  obtain ⟨h2, h3⟩ := h
  refine ⟨hkey i h2, fun bx' hbx' => ?_⟩
  obtain ⟨bx, h4, h5⟩ := hb i h2 bx' hbx'
  obtain ⟨h6, h7⟩ := h3 bx h4
  rcases h5 with ⟨e1, e2, e3, e4⟩ | h5
  · rw [e1, e2, e3, e4]; exact ⟨h6, h7⟩
  · exact ⟨by omega, fun hn => by omega⟩

/-- One box is laid, or turned. -/
theorem Good.updM (h : Good X s a w β cp Rd) {w' : World} (b : Nat) (bx' : Box) (βb : Option Nat) (cpb : Nat) (hnx : b < s.nx)
    (hb : ¬ s.keyed b ∨ ∃ bx, s.box b = some bx ∧ (bx'.fz = false → bx.fz = false) ∧ ((bx'.es.length = bx.es.length ∧ βb = β b ∧ cpb = cp b ∧ bx'.k = bx.k) ∨ bx.es.length < bx'.es.length))
    (hw : Keeps (fun g => ∃ bx, s.box b = some bx ∧ bx.fz = false ∧ β b = some g) w w')
    (hβ : ∀ g, βb = some g → w.heap.size ≤ g ∨ (∃ bx, s.box b = some bx ∧ β b = some g))
    (hbox : BoxOK w' (MC w (X.mt s β Rd) Rd (hOf s β cp)) βb cpb bx') :
    Good X (s.setBox b (some bx')) a w' (VE.upd β b βb) (VE.upd cp b cpb) Rd := by
  have hfz : ∀ bx, s.box b = some bx → bx'.fz = false → bx.fz = false := by
    intro bx hbx hf
    rcases hb with hn | ⟨bx0, h0, h1, _⟩
    · exact absurd (St.keyed_of_box hbx) hn
    · rw [hbx] at h0; cases h0; exact h1 hf
  have hkeep : ∀ g, g < w.heap.size → ¬ owns s β g → ¬ Rd g → w'.heap[g]? = w.heap[g]? := fun g hg ho _ =>
    hw.block g hg fun ⟨bx, h1, h2, h3⟩ => ho ⟨b, bx, h1, h2, h3⟩
  have hown : ∀ g, owns (s.setBox b (some bx')) (VE.upd β b βb) g → owns s β g ∨ w.heap.size ≤ g := by
    rintro g ⟨c, bx, h1, h2, h3⟩
    by_cases e : c = b
    · subst e
      rw [St.box_set_same] at h1
      cases h1
      rw [upd_same] at h3
      rcases hβ g h3 with h4 | ⟨bx, h4, h5⟩
      · exact .inr h4
      · exact .inl ⟨c, bx, h4, hfz bx h4 h2, h5⟩
    · rw [St.box_set_ne _ _ e] at h1
      rw [upd_ne _ _ e] at h3
      exact .inl ⟨c, bx, h1, h2, h3⟩
  have horg : ∀ c bx2 g, (s.setBox b (some bx')).box c = some bx2 → VE.upd β b βb c = some g → (∃ bx, s.box c = some bx ∧ β c = some g) ∨ w.heap.size ≤ g := by
    intro c bx2 g h1 h3
    by_cases e : c = b
    · subst e
      rw [upd_same] at h3
      exact (hβ g h3).elim .inr .inl
    · rw [St.box_set_ne _ _ e] at h1
      rw [upd_ne _ _ e] at h3
      exact .inl ⟨bx2, h1, h3⟩
  have hk1 : ∀ c, s.keyed c → (s.setBox b (some bx')).keyed c := fun c hc => (St.keyed_set s b c _).2 (.inr hc)
  have hk2 : ∀ c, s.keyed c → ∀ bx2, (s.setBox b (some bx')).box c = some bx2 → ∃ bx, s.box c = some bx ∧ ((bx2.es.length = bx.es.length ∧ VE.upd β b βb c = β c ∧ VE.upd cp b cpb c = cp c ∧ bx2.k = bx.k) ∨ bx.es.length < bx2.es.length) := by
    intro c hc bx2 h1
    by_cases e : c = b
    · subst e
      rw [St.box_set_same] at h1
      cases h1
      rw [upd_same, upd_same]
      rcases hb with hn | ⟨bx, h3, _, h4⟩
      · exact absurd hc hn
      · exact ⟨bx, h3, h4⟩
    · rw [St.box_set_ne _ _ e] at h1
      rw [upd_ne _ _ e, upd_ne _ _ e]
      exact ⟨bx2, h1, .inl ⟨rfl, rfl, rfl, rfl⟩⟩
  have hH : ∀ c v, hOf s β cp c v → hOf (s.setBox b (some bx')) (VE.upd β b βb) (VE.upd cp b cpb) c v := fun c v hc => hc.go hk1 hk2
  have hmt : ∀ g, g < w.heap.size → X.mt (s.setBox b (some bx')) (VE.upd β b βb) Rd g → X.mt s β Rd g := by
    rintro g hg (hm | hm | hm)
    · exact .inl hm
    · rcases hown g hm with h1 | h1
      · exact .inr (.inl h1)
      · omega
    · exact .inr (.inr hm)
  have hrdlt : ∀ g, Rd g → g < w.heap.size := fun g hg => (h.rdok g hg).1
  have hM : ∀ v c, MC w (X.mt s β Rd) Rd (hOf s β cp) v c → MC w' (X.mt (s.setBox b (some bx')) (VE.upd β b βb) Rd) Rd (hOf (s.setBox b (some bx')) (VE.upd β b βb) (VE.upd cp b cpb)) v c := fun v c hc =>
    hc.mono (K := fun _ => True) (fun g hg hm => hkeep g hg (fun ho => hm (.inr (.inl ho))) (fun hr => hm (.inr (.inr hr)))) hw.size hmt (fun _ h => h) (cIds_all c) (fun c _ _ _ _ v => hH c v)
  refine h.re rfl rfl rfl (fun c hc => ?_) hw.os hw.tape hw.output hw.size hkeep (fun _ h => h) (fun _ h => .inl h) hown horg ?_ ?_ ?_ hH (fun i q hq => hq.go hk1 hk2) ?_ ?_
  · rcases (St.keyed_set s b c _).1 hc with rfl | h1
    · exact hnx
    · exact h.fresh c h1
  · intro g hg hr
    obtain ⟨c, bx2, h1, h2⟩ := hg
    rcases horg c bx2 g h1 h2 with ⟨bx, h3, h4⟩ | h1
    · exact h.own_rd g ⟨c, bx, h3, h4⟩ hr
    · have := hrdlt g hr; omega
  · intro g hg
    obtain ⟨_, bv, p, bs, h1, _⟩ := h.rdok g (h.rd0 g hg)
    exact ⟨bv, p, p, h1, h1.congr (hw.block g (hrdlt g (h.rd0 g hg)) fun ⟨bx, h1, h2, h3⟩ => h.own_rd g ⟨b, bx, h1, h3⟩ (h.rd0 g hg))⟩
  · intro c c' bx bx2 g h1 h2 h3 h4
    by_cases e : c = b <;> by_cases e' : c' = b
    · rw [e, e']
    · exfalso
      subst e
      rw [upd_same] at h3
      rw [upd_ne _ _ e'] at h4
      rw [St.box_set_ne _ _ e'] at h2
      rcases hβ g h3 with h5 | ⟨bx3, h5, h6⟩
      · have := (h.boxes c' bx2 h2).lt h4; omega
      · exact e' (h.inj c' c bx2 bx3 g h2 h5 h4 h6)
    · exfalso
      subst e'
      rw [upd_same] at h4
      rw [upd_ne _ _ e] at h3
      rw [St.box_set_ne _ _ e] at h1
      rcases hβ g h4 with h5 | ⟨bx3, h5, h6⟩
      · have := (h.boxes c bx h1).lt h3; omega
      · exact e (h.inj c c' bx bx3 g h1 h5 h3 h6)
    · rw [upd_ne _ _ e] at h3
      rw [upd_ne _ _ e'] at h4
      rw [St.box_set_ne _ _ e] at h1
      rw [St.box_set_ne _ _ e'] at h2
      exact h.inj c c' bx bx2 g h1 h2 h3 h4
  · refine h.rdok.mono (fun g hg hm => hkeep g hg (fun ho => hm (.inr (.inl ho))) (fun hr => hm (.inr (.inr hr)))) hw.size hmt (fun g hg => ?_) (Nat.le_refl _)
    exact hw.block g (hrdlt g hg) fun ⟨bx, h1, h2, h3⟩ => h.own_rd g ⟨b, bx, h1, h3⟩ hg
  · intro c bx hbx
    by_cases e : c = b
    · subst e
      rw [St.box_set_same] at hbx
      cases hbx
      rw [upd_same, upd_same]
      exact hbox.mono hM
    · rw [St.box_set_ne _ _ e] at hbx
      rw [upd_ne _ _ e, upd_ne _ _ e]
      refine ((h.boxes c bx hbx).heap fun g hg => ?_).mono hM
      exact hw.block g ((h.boxes c bx hbx).lt hg) fun ⟨bx2, h1, h2, h3⟩ => e (h.inj c b bx bx2 g hbx h1 hg h3)

theorem Good.upd (h : Good X s a w β cp Rd) {w' : World} (b : Nat) (bx' : Box) (βb : Option Nat) (cpb : Nat) (hnx : b < s.nx)
    (hb : ¬ s.keyed b ∨ ∃ bx, s.box b = some bx ∧ (bx'.fz = false → bx.fz = false) ∧ ((bx'.es.length = bx.es.length ∧ βb = β b ∧ cpb = cp b ∧ bx'.k = bx.k) ∨ bx.es.length < bx'.es.length))
    (hw : Keeps (fun g => ∃ bx, s.box b = some bx ∧ bx.fz = false ∧ β b = some g) w w')
    (hβ : ∀ g, βb = some g → w.heap.size ≤ g ∨ (∃ bx, s.box b = some bx ∧ β b = some g))
    (hbox : BoxOK0 w' (MC w (X.mt s β Rd) Rd (hOf s β cp)) βb cpb bx') :
    Good X (s.setBox b (some bx')) a w' (VE.upd β b βb) (VE.upd cp b cpb) Rd := h.updM b bx' βb cpb hnx hb hw hβ (.inl hbox)

theorem upd_id {α : Type} (f : Nat → α) (b : Nat) : upd f b (f b) = f := funext fun c => by by_cases h : c = b <;> simp [upd, h]

theorem Good.freeze1 (h : Good X s a w β cp Rd) {b : Nat} {bx : Box} (hb : s.box b = some bx) : Good X (s.setBox b (some { bx with fz := true })) a w β cp Rd := by
  have := h.updM (w' := w) b { bx with fz := true } (β b) (cp b) (h.fresh b (St.keyed_of_box hb)) (.inr ⟨bx, hb, (fun h => by cases h), .inl ⟨rfl, rfl, rfl, rfl⟩⟩) (Keeps.refl _ w) (fun g hg => .inr ⟨bx, hb, hg⟩) ((h.boxes b bx hb).fz true)
  rwa [upd_id, upd_id] at this

theorem Good.freeze (h : Good X s a w β cp Rd) : ∀ ids, Good X (freeze s ids) a w β cp Rd := by
  intro ids
  induction ids generalizing s with
  | nil => exact h
  | cons b r ih =>
    unfold VE.freeze
    split
    · rename_i bx hbx; exact ih (h.freeze1 hbx)
    · exact ih h

theorem freeze_env (s : St) : ∀ ids, (VE.freeze s ids).env = s.env ∧ (VE.freeze s ids).nt = s.nt ∧ (VE.freeze s ids).np = s.np ∧ (VE.freeze s ids).nx = s.nx ∧ (VE.freeze s ids).pk = s.pk := by
  intro ids
  induction ids generalizing s with
  | nil => exact ⟨rfl, rfl, rfl, rfl, rfl⟩
  | cons b r ih =>
    unfold VE.freeze
    split
    · exact ih _
    · exact ih _

theorem freeze_box (s : St) : ∀ ids c, (VE.freeze s ids).box c = (s.box c).map fun bx => if c ∈ ids then { bx with fz := true } else bx := by
  intro ids
  induction ids generalizing s with
  | nil => intro c; simp [VE.freeze]
  | cons b r ih =>
    intro c
    unfold VE.freeze
    split
    · rename_i bx hbx
      rw [ih]
      by_cases e : c = b
      · subst e
        rw [St.box_set_same, hbx]
        simp
      · rw [St.box_set_ne _ _ e]
        simp [e]
    · rename_i hbx
      rw [ih]
      by_cases e : c = b
      · subst e; rw [hbx]; rfl
      · simp [e]

theorem freeze_keyed (s : St) : ∀ ids c, (VE.freeze s ids).keyed c ↔ s.keyed c := by
  intro ids
  induction ids generalizing s with
  | nil => intro c; exact Iff.rfl
  | cons b r ih =>
    intro c
    unfold VE.freeze
    split
    · rename_i bx hbx
      rw [ih, St.keyed_set]
      exact ⟨fun h => h.elim (fun e => e ▸ St.keyed_of_box hbx) id, .inr⟩
    · exact ih s c
end
end Go.VE
end
section
namespace Go.VE
open Go

def descOK (P : Program) : TypeDesc → TK → Prop
  | .int k, .int k' => k = k'
  | .bool, .bool => True
  | .string, .string => True
  | .slice e, .slice e' => e = e'
  | .map k _, .map k' => k = k'
  | .struct fields, .struct fs => fields.toList.map (fun f => (f.type, f.offset)) = fs.map (fun x => (x.1, x.2.1)) ∧ ∀ x ∈ fs, x.2.2 ≠ 0 ∧ ∃ j, P.info? x.1 = some j ∧ j.size = x.2.2
  | .interface _, .iface => True
  | .struct _, .other => False
  | .array _ _, .other => False
  | _, .other => True
  | _, _ => False

structure TIok (P : Program) (t : Nat) (x : TI) : Prop where
  info : ∃ i z, P.info? t = some i ∧ i.size = x.sz ∧ i.bytes = x.bytes ∧ i.zero = some z ∧ z.cells.toList = x.zv
  und : ∃ d, P.underlying t = some d ∧ descOK P d x.kind
  zlen : x.zv.length = x.sz
  zone : ∀ v ∈ x.zv, v.oneCell' = true
  one : x.kind.agg = false → x.sz = 1
  eqv : x.eq = true → P.eqGuardType P.depth t = false ∧ ∀ (w : World) (as bs : List Int), as.length = x.sz → bs.length = x.sz →
    (Op.equalIn 10000 t (.agg (as.map (Value.int .i64)).toArray) (.agg (bs.map (Value.int .i64)).toArray)).run P w = .ok (decide (as = bs)) w ∧ (Instr.checkKey false 10000 t (.agg (as.map (Value.int .i64)).toArray)).run P w = .ok () w

def TTok (P : Program) (tt : Nat → Option TI) : Prop := ∀ t x, tt t = some x → TIok P t x

section
variable {P : Program} {w : World}

theorem TIok.size {t : Nat} {x : TI} (h : TIok P t x) : ∃ i, P.info? t = some i ∧ i.size = x.sz := by
  obtain ⟨i, z, h1, h2, _⟩ := h.info
  exact ⟨i, h1, h2⟩

theorem TIok.run_sizeOf {t : Nat} {x : TI} (h : TIok P t x) : (sizeOf t).run P w = .ok x.sz w := by
  obtain ⟨i, h1, h2⟩ := h.size
  simp [sizeOf, typeInfo, h1, h2]

theorem TIok.run_isAgg {t : Nat} {x : TI} (h : TIok P t x) : (isAgg t).run P w = .ok x.kind.agg w := by
  obtain ⟨d, h1, h2⟩ := h.und
  unfold isAgg
  rw [Sem.run_bind, run_underlying h1 w]
  generalize x.kind = k at h2
  cases d <;> cases k <;> first | exact h2.elim | rfl

theorem TIok.slice {t e : Nat} {x : TI} (h : TIok P t x) (hk : x.kind = .slice e) : P.underlying t = some (.slice e) := by
  obtain ⟨d, h1, h2⟩ := h.und
  rw [hk] at h2
  cases d <;> first | exact h2.elim | (simp only [descOK] at h2; subst h2; exact h1)

theorem TIok.struct' {t : Nat} {x : TI} {fs : List (Nat × Nat × Nat)} (h : TIok P t x) (hk : x.kind = .struct fs) : ∃ fields : Array Field, P.underlying t = some (.struct fields) ∧
    fields.toList.map (fun f => (f.type, f.offset)) = fs.map (fun x => (x.1, x.2.1)) ∧ ∀ x ∈ fs, x.2.2 ≠ 0 ∧ ∃ j, P.info? x.1 = some j ∧ j.size = x.2.2 := by
  obtain ⟨d, h1, h2⟩ := h.und
  rw [hk] at h2
  cases d <;> first | exact h2.elim | exact ⟨_, h1, h2⟩

theorem TIok.struct {t : Nat} {x : TI} {fs : List (Nat × Nat × Nat)} (h : TIok P t x) (hk : x.kind = .struct fs) : ∃ fields, P.underlying t = some (.struct fields) ∧
    ∀ (i ft o sz : Nat), fs[i]? = some (ft, o, sz) → ∃ f : Field, fields[i]? = some f ∧ f.type = ft ∧ f.offset = o ∧ sz ≠ 0 ∧ ∃ j, P.info? ft = some j ∧ j.size = sz := by
  obtain ⟨fields, h1, h2, h3⟩ := h.struct' hk
  refine ⟨fields, h1, fun i ft o sz hi => ?_⟩
  have h4 : (fs.map (fun x => (x.1, x.2.1)))[i]? = some (ft, o) := by simp [hi]
  rw [← h2] at h4
  simp only [List.getElem?_map, Option.map_eq_some_iff, Prod.mk.injEq, Array.getElem?_toList] at h4
  obtain ⟨f, h5, h6, h7⟩ := h4
  obtain ⟨h8, h9⟩ := h3 _ (List.mem_of_getElem? hi)
  exact ⟨f, h5, h6, h7, h8, h9⟩

theorem addr_add (g o n : Nat) : (⟨g, o, none⟩ : Addr).add n = ⟨g, o + n, none⟩ := by
  unfold Addr.add; split <;> simp_all

theorem addr_add' {p : Addr} (hs : p.spot = none) (n : Nat) : p.add n = ⟨p.block, p.off + n, none⟩ := by
  cases p; simp only at hs; subst hs; exact addr_add _ _ _

theorem loadVar_ok {t : Nat} {x : TI} (h : TIok P t x) (p : Addr) (hs : p.spot = none) (u : Nat → Value) (hc : ∀ j, j < x.sz → w.cell? ⟨p.block, p.off + j, none⟩ = some (u j)) :
    (loadVar t p).run P w = .ok (match x.kind.agg with | true => .agg ((List.range x.sz).map u).toArray | false => u 0) w := by
  unfold loadVar
  rw [Sem.run_bind, h.run_isAgg]
  simp only [Result.andThen_ok]
  cases hk : x.kind.agg with
  | true =>
    simp only [if_true, Sem.run_bind, h.run_sizeOf, Result.andThen_ok]
    rw [run_loadCells w p x.sz u (fun j hj => by rw [addr_add' hs]; exact hc j hj)]
    rfl
  | false =>
    have h1 := h.one hk
    have h2 := hc 0 (by omega)
    have h3 : p = ⟨p.block, p.off + 0, none⟩ := by cases p; simp_all
    simp only [Bool.false_eq_true, if_false]
    rw [run_load, h3, h2]
end

section
variable {P : Program} {tt : Nat → Option TI} {X : Cx} {s : St} {a : Act} {w : World} {β : Nat → Option Nat} {cp : Nat → Nat} {Rd : Nat → Prop}

/-- Cells taken out of a row, as a value of a type. -/
theorem mk_ok {Mt Rd : Nat → Prop} {H : C → Value → Prop} {t : Nat} {x : TI} (h : TIok P t x) (cs : List C) (hl : cs.length = x.sz) (u : Nat → Value)
    (hu : ∀ j c, cs[j]? = some c → MC w Mt Rd H (u j) c) : MA w Mt Rd H (match x.kind.agg with | true => .agg ((List.range x.sz).map u).toArray | false => u 0) (mkAV x.kind.agg cs) := by
  cases hk : x.kind.agg with
  | true =>
    refine ⟨_, rfl, by simp [hl], fun j c hj => ?_⟩
    have hlt : j < x.sz := by rw [← hl]; exact (List.getElem?_eq_some_iff.1 hj).1
    have : (((List.range x.sz).map u).toArray).getD j undef = u j := by simp [hlt]
    rw [this]
    exact hu j c hj
  | false =>
    have h1 := h.one hk
    match cs, hl with
    | [c], _ => exact hu 0 c rfl
    | [], hl => simp at hl; omega
    | _ :: _ :: _, hl => simp at hl; omega

theorem loaded_length (row : Bool) (cs : List C) : (loaded row cs).length = cs.length := by cases row <;> simp [loaded]
theorem loaded_get {row : Bool} {cs : List C} {j : Nat} {c : C} (h : (loaded row cs)[j]? = some c) : ∃ c0, cs[j]? = some c0 ∧ (c = c0 ∨ c = VE.strip c0) := by
  cases row with
  | true => exact ⟨c, h, .inl rfl⟩
  | false =>
    simp only [loaded, List.getElem?_map, Option.map_eq_some_iff] at h
    obtain ⟨c0, h1, rfl⟩ := h
    exact ⟨c0, h1, .inr rfl⟩
theorem MC.strip {Mt Rd : Nat → Prop} {H : C → Value → Prop} {v : Value} {c : C} (h : MC w Mt Rd H v c) : MC w Mt Rd H v (strip c) := by
  cases c <;> first | exact h | exact h.2.mc

theorem load_ok (ht : TTok P tt) (h : Good X s a w β cp Rd) {d : Option Nat} (hd : dstOK s.nt d) {t : Nat} {v : Value} {x : AV} (hx : MA w (X.mt s β Rd) Rd (hOf s β cp) v x)
    (hp : (loadS tt t x s d).1) : ∃ u, (∀ w' Rd', Fr w Rd w' Rd' → (Instr.loadAt t v).run P w' = .ok u w') ∧ ∃ s', (loadS tt t x s d).2 s' ∧ Good X s' (a.put d u) w β cp Rd := by
  unfold loadS at hp ⊢
  split at hp
  · rename_i ti cs hti
    have hT := ht t ti hti
    simp only [Res.mk1] at hp ⊢
    cases hx with
    | rp cs p hs hm hlt u hc hr =>
      have hcell : ∀ w' Rd', Fr w Rd w' Rd' → ∀ j, j < ti.sz → w'.cell? ⟨p.block, p.off + j, none⟩ = some (u j) := fun w' Rd' hfr j hj =>
        (World.cell?_of_block (w := w) (w' := w') (a := ⟨p.block, p.off + j, none⟩) (hfr.block p.block hlt fun hr => hm (.inr (.inr hr)))).trans (hc j _ (List.getElem?_eq_getElem (by omega)))
      refine ⟨_, ?_, _, rfl, h.put hd (mk_ok hT (cs.take ti.sz) (by simp; omega) u fun j c hj => ?_)⟩
      · intro w' Rd' hfr
        simp only [Instr.loadAt, Instr.sureAddr, Sem.run_bind, Sem.run_pure, Result.andThen_ok]
        exact loadVar_ok hT p hs u (hcell w' Rd' hfr)
      · rw [List.getElem?_take] at hj
        split at hj
        · exact (hr j c hj).mc
        · cases hj
  · rename_i ti b n i off hti
    have hT := ht t ti hti
    split at hp
    · rename_i bx hbx
      simp only [Res.mkE] at hp ⊢
      obtain ⟨hn, hi, ho⟩ := hp
      obtain ⟨g, hg, rfl⟩ := hx.2.at rfl hbx hn
      rcases (h.boxes b bx hbx).two (.inr (ne_of_lt (show i < bx.es.length by omega))) with ⟨hnone, _⟩ | ⟨g', cur, h1, h2, h4, h5, h6, h7, h9, h8⟩
      · rw [hnone] at hg; cases hg
      rw [h1] at hg; cases hg
      have hil : i < bx.es.length := by omega
      obtain ⟨e, he⟩ : ∃ e, bx.es[i]? = some e := ⟨_, List.getElem?_eq_getElem hil⟩
      have hel := h7 e (List.mem_of_getElem? he)
      have hspan : i * bx.k + bx.k ≤ cur.size := by
        rw [h4, ← Nat.succ_mul]
        exact Nat.mul_le_mul_right _ (by omega)
      have hcell : ∀ w' Rd', Fr w Rd w' Rd' → ∀ j, j < ti.sz → w'.cell? ⟨g, i * bx.k + off + j, none⟩ = some (cur.getD (i * bx.k + (off + j)) undef) := by
        intro w' Rd' hfr j hj
        have h2' := (hfr.block g (Array.getElem?_eq_some_iff.1 h2).1 (h.own_rd g ⟨b, bx, hbx, h1⟩)).trans h2
        rw [cell_of_row w' g _ cur bx.ty (0, 0) h2']
        have : i * bx.k + off + j < cur.size := by omega
        simp [Nat.add_assoc] at this ⊢
        simp [this]
      refine ⟨_, ?_, _, ⟨e, he, rfl⟩, h.put hd (mk_ok hT (loaded bx.row ((e.drop off).take ti.sz)) (by rw [loaded_length]; simp; omega) (fun j => cur.getD (i * bx.k + (off + j)) undef) fun j c hj => ?_)⟩
      · intro w' Rd' hfr
        simp only [Instr.loadAt, Instr.sureAddr, Sem.run_bind, Sem.run_pure, Result.andThen_ok]
        exact loadVar_ok hT ⟨g, i * bx.k + off, none⟩ rfl _ (hcell w' Rd' hfr)
      · obtain ⟨c0, hj, hcc⟩ := loaded_get hj
        rw [List.getElem?_take] at hj
        split at hj
        · rw [List.getElem?_drop] at hj
          have := h8 i (off + j) e c0 he hj
          rcases hcc with rfl | rfl
          · exact this
          · exact this.strip
        · cases hj
    · exact hp.elim
  · exact hp.elim

theorem fieldAddr_ok (ht : TTok P tt) (h : Good X s a w β cp Rd) {d : Option Nat} (hd : dstOK s.nt d) {t f : Nat} {v : Value} {x : AV} (hx : MA w (X.mt s β Rd) Rd (hOf s β cp) v x)
    (hp : (fieldAddrS tt t x f s d).1) : ∃ u, (∀ w, (Instr.fieldAt t v f).run P w = .ok u w) ∧ ∃ s', (fieldAddrS tt t x f s d).2 s' ∧ Good X s' (a.put d u) w β cp Rd := by
  unfold fieldAddrS at hp ⊢
  split at hp
  · rename_i ti hti
    have hT := ht t ti hti
    split at hp
    · rename_i fs hk
      obtain ⟨fields, hu, hf⟩ := hT.struct hk
      have key : ∀ ft o sz, nthL fs f = some (ft, o, sz) → ∃ F, fields[f]? = some F ∧ F.offset = o ∧ ∀ (w : World) (p : Addr), (fieldPlace p F).run P w = .ok (p.add o) w := by
        intro ft o sz hfs
        rw [nthL_eq] at hfs
        obtain ⟨F, h1, h2, h3, h4, j, h5, h6⟩ := hf f ft o sz hfs
        refine ⟨F, h1, h3, fun w p => ?_⟩
        subst h2
        simp [fieldPlace, sizeOf, typeInfo, h5, h6, h4, h3]
      split at hp
      · rename_i ft o sz cs hfs
        simp only [Res.mk1] at hp ⊢
        obtain ⟨F, h1, h2, h3⟩ := key _ _ _ hfs
        cases hx with
        | rp cs p hs hm hlt u hc hr =>
          refine ⟨.pointer (some (p.add o)), ?_, _, rfl, h.put hd ?_⟩
          · intro w; simp [Instr.fieldAt, run_underlying hu, h1, Instr.sureAddr, h3]
          · rw [addr_add' hs]
            exact RC.rp (cs.drop o) ⟨p.block, p.off + o, none⟩ rfl hm hlt (fun j => u (o + j))
              (fun j c hj => by rw [List.getElem?_drop] at hj; simpa [Nat.add_assoc] using hc (o + j) c hj) (fun j c hj => by rw [List.getElem?_drop] at hj; exact hr (o + j) c hj)
      · rename_i ft o sz b n i off hfs
        simp only [Res.mk1] at hp ⊢
        obtain ⟨F, h1, h2, h3⟩ := key _ _ _ hfs
        split at hp
        · rename_i bx hbx
          simp only [Res.mk1] at hp ⊢
          obtain ⟨g, hg, rfl⟩ := hx.2.at rfl hbx hp
          refine ⟨.pointer (some ⟨g, i * bx.k + (off + o), none⟩), ?_, _, rfl, h.put hd ⟨rfl, hOf.mk rfl hbx (Nat.le_of_eq hp) fun _ => ⟨g, hg, rfl⟩⟩⟩
          intro w; simp [Instr.fieldAt, run_underlying hu, h1, Instr.sureAddr, h3, addr_add, Nat.add_assoc]
        · exact hp.elim
      · exact hp.elim
    · exact hp.elim
  · exact hp.elim

theorem field_ok (ht : TTok P tt) (h : Good X s a w β cp Rd) {d : Option Nat} (hd : dstOK s.nt d) {t f : Nat} {v : Value} {x : AV} (hx : MA w (X.mt s β Rd) Rd (hOf s β cp) v x)
    (hp : (fieldS tt t x f s d).1) : ∃ u, (∀ w, (Instr.field t v f).run P w = .ok u w) ∧ ∃ s', (fieldS tt t x f s d).2 s' ∧ Good X s' (a.put d u) w β cp Rd := by
  unfold fieldS at hp ⊢
  split at hp
  · rename_i ti cs hti
    have hT := ht t ti hti
    split at hp
    · rename_i fs hk
      obtain ⟨fields, hu, hf⟩ := hT.struct hk
      split at hp
      · rename_i ft o sz hfs
        split at hp
        · rename_i fi hfi
          have hF := ht ft fi hfi
          simp only [Res.mk1] at hp ⊢
          rw [nthL_eq] at hfs
          obtain ⟨F, h1, h2, h3, h4, j, h5, h6⟩ := hf f ft o sz hfs
          obtain ⟨hol, hsz⟩ := hp
          obtain ⟨arr, rfl, hlen, hcell⟩ := hx
          have hm := mk_ok (w := w) (Mt := X.mt s β Rd) (Rd := Rd) (H := hOf s β cp) hF ((cs.drop o).take sz) (by simp; omega) (fun j => arr.getD (o + j) undef) (fun j c hj => by
            rw [List.getElem?_take] at hj
            split at hj
            · rw [List.getElem?_drop] at hj; exact hcell (o + j) c hj
            · cases hj)
          refine ⟨_, fun w => ?_, _, rfl, h.put hd hm⟩
          have hpart : (part F.type arr F.offset).run P w = .ok (match fi.kind.agg with | true => .agg ((List.range fi.sz).map fun j => arr.getD (o + j) undef).toArray | false => arr.getD (o + 0) undef) w := by
            subst h2 h3
            unfold part
            rw [Sem.run_bind, hF.run_isAgg]
            simp only [Result.andThen_ok]
            cases hk : fi.kind.agg with
            | true =>
              simp only [if_true, Sem.run_bind, hF.run_sizeOf, Result.andThen_ok, Sem.run_pure]
              congr 2
              apply Array.ext
              · simp; omega
              · intro i hi1 hi2
                simp at hi1 hi2 ⊢
                have : F.offset + i < arr.size := by omega
                simp [this]
            | false =>
              have h1 := hF.one hk
              have : F.offset < arr.size := by omega
              simp [this]
          simp [Instr.field, run_underlying hu, h1, asAgg, hpart]
        · exact hp.elim
      · exact hp.elim
    · exact hp.elim
  · exact hp.elim

theorem indexAddr_ok (ht : TTok P tt) (h : Good X s a w β cp Rd) {d : Option Nat} (hd : dstOK s.nt d) {t : Nat} {v vi : Value} {x i : AV} (hx : MA w (X.mt s β Rd) Rd (hOf s β cp) v x)
    (hi : MA w (X.mt s β Rd) Rd (hOf s β cp) vi i) (hp : (indexAddrS tt t x i s d).1) :
    ∃ u, (∀ w, (Instr.indexAt t v vi).run P w = .ok u w) ∧ ∃ s', (indexAddrS tt t x i s d).2 s' ∧ Good X s' (a.put d u) w β cp Rd := by
  unfold indexAddrS at hp ⊢
  have key : ∀ sz, elemSz tt t = some sz → ∃ e, P.underlying t = some (.slice e) ∧ ∃ ie, P.info? e = some ie ∧ ie.size = sz := by
    intro sz h1
    unfold elemSz at h1
    split at h1
    · rename_i ti hti
      split at h1
      · rename_i e hk
        simp only [Option.map_eq_some_iff] at h1
        obtain ⟨te, hte, rfl⟩ := h1
        exact ⟨e, (ht t ti hti).slice hk, (ht e te hte).size⟩
      · cases h1
    · cases h1
  split at hp
  · rename_i sz t' es k n hsz
    obtain ⟨e, hu, ie, hie, hsz'⟩ := key _ hsz
    simp only [Res.mkE] at hp ⊢
    obtain ⟨h0, hlt, hes⟩ := hp
    cases hi with
    | v _ _ =>
    cases hx with
    | sl t'' es' kk aa p m cap hn htt hle hmax hk ha u hc hr =>
      have hil : n.toNat < es.length := by omega
      obtain ⟨el, hel⟩ : ∃ el, es[n.toNat]? = some el := ⟨_, List.getElem?_eq_getElem hil⟩
      have hne : es ≠ [] := by rintro rfl; simp at hil
      obtain ⟨rfl, hs, hm, hblt⟩ := ha hne
      have hkk : kk = sz := by rw [← hk el (List.mem_of_getElem? hel)]; exact hes el (List.mem_of_getElem? hel)
      subst hkk
      refine ⟨.pointer (some (p.add (n.toNat * kk))), ?_, _, ⟨el, hel, rfl⟩, h.put hd ?_⟩
      · intro w
        have : n < (m : Int) := by omega
        simp [Instr.indexAt, asIntOf, run_underlying hu, h0, this, sizeOf, typeInfo, hie, hsz']
      · rw [addr_add' hs]
        exact RC.rp el ⟨p.block, p.off + n.toNat * kk, none⟩ rfl hm hblt (fun j => u n.toNat j) (fun j c hj => by simpa [Nat.add_assoc] using hc n.toNat j el c hel hj) (fun j c hj => hr n.toNat j el c hel hj)
  · rename_i sz b m t1 k n hsz
    obtain ⟨e, hu, ie, hie, hsz'⟩ := key _ hsz
    split at hp
    · rename_i bx hbx
      simp only [Res.mk1] at hp ⊢
      obtain ⟨hm, h0, hlt, hk⟩ := hp
      cases hi with
      | v _ _ =>
      rcases hx.2.at rfl hbx hm with ⟨_, e1, _⟩ | ⟨g, c, hg, rfl, hc1, hc2, _⟩
      · omega
      refine ⟨.pointer (some ⟨g, n.toNat * bx.k, none⟩), ?_, _, rfl, h.put hd ⟨rfl, hOf.mk rfl hbx (Nat.le_of_eq hm) fun _ => ⟨g, hg, by simp⟩⟩⟩
      intro w
      have : n < (bx.es.length : Int) := by omega
      simp [Instr.indexAt, asIntOf, run_underlying hu, h0, hm, this, sizeOf, typeInfo, hie, hsz', addr_add, hk]
    · exact hp.elim
  · rename_i sz b m lo hh k n hsz
    obtain ⟨e, hu, ie, hie, hsz'⟩ := key _ hsz
    split at hp
    · rename_i bx hbx
      simp only [Res.mk1] at hp ⊢
      obtain ⟨hm, h0, hlt, hk⟩ := hp
      cases hi with
      | v _ _ =>
      obtain ⟨h1, h2, a0, c, rfl, h3, h4, h5⟩ := hx.2.at rfl hbx hm
      obtain ⟨g, hg, rfl⟩ := h5 (by omega)
      refine ⟨.pointer (some ⟨g, (lo + n.toNat) * bx.k, none⟩), ?_, _, rfl, h.put hd ⟨rfl, hOf.mk rfl hbx (Nat.le_of_eq hm) fun _ => ⟨g, hg, by simp⟩⟩⟩
      intro w
      have : n < ((hh - lo : Nat) : Int) := by omega
      simp [Instr.indexAt, asIntOf, run_underlying hu, h0, this, sizeOf, typeInfo, hie, hsz', addr_add, hk, Nat.add_mul]
    · exact hp.elim
  · exact hp.elim

theorem index_ok (ht : TTok P tt) (h : Good X s a w β cp Rd) {d : Option Nat} (hd : dstOK s.nt d) {t : Nat} {v vi : Value} {x i : AV} (hx : MA w (X.mt s β Rd) Rd (hOf s β cp) v x)
    (hi : MA w (X.mt s β Rd) Rd (hOf s β cp) vi i) (hp : (indexS tt t x i s d).1) :
    ∃ u, (∀ w, (Instr.index t v vi).run P w = .ok u w) ∧ ∃ s', (indexS tt t x i s d).2 s' ∧ Good X s' (a.put d u) w β cp Rd := by
  unfold indexS at hp ⊢
  split at hp
  · rename_i b k n hti
    simp only [Option.map_eq_some_iff] at hti
    obtain ⟨ti, hti, hk⟩ := hti
    obtain ⟨dd, hu, hdk⟩ := (ht t ti hti).und
    rw [hk] at hdk
    have hu' : P.underlying t = some .string := by cases dd <;> first | exact hdk.elim | exact hu
    simp only [Res.mkE] at hp ⊢
    obtain ⟨h0, hlt⟩ := hp
    cases hi with
    | v _ _ =>
    cases hx with
    | v _ _ =>
      have hl : n.toNat < b.size := by omega
      have hl' : n.toNat < b.data.size := hl
      have hb : b[n.toNat]? = some (b.data[n.toNat]'hl') := getElem?_pos b n.toNat hl
      refine ⟨.int .u8 (b.data[n.toNat]'hl').toNat, ?_, _, ⟨b.data[n.toNat]'hl', by simp, rfl⟩, h.put hd (RC.v _ rfl)⟩
      intro w; simp [Instr.index, asIntOf, run_underlying hu', h0, hb]
  · exact hp.elim

theorem extract_ok (h : Good X s a w β cp Rd) {d : Option Nat} (hd : dstOK s.nt d) {j : Nat} {v : Value} {x : AV} (hx : MA w (X.mt s β Rd) Rd (hOf s β cp) v x)
    (hp : (extractS x j s d).1) : ∃ u, (∀ w, (Instr.extract v j).run P w = .ok u w) ∧ ∃ s', (extractS x j s d).2 s' ∧ Good X s' (a.put d u) w β cp Rd := by
  unfold extractS at hp ⊢
  split at hp
  · rename_i vs
    split at hp
    · rename_i y hy
      simp only [Res.mk1] at hp ⊢
      rw [nthL_eq] at hy
      obtain ⟨arr, rfl, hs, hc⟩ := hx
      have hlt : j < arr.size := by rw [hs]; exact (List.getElem?_eq_some_iff.1 hy).1
      refine ⟨arr.getD j undef, by intro w; simp [Instr.extract, hlt], _, rfl, h.put hd ?_⟩
      have := hc j y hy
      cases y with
      | tup _ => exact this.elim
      | c _ => exact this
      | agg _ => exact this
      | mp _ _ => exact this.elim
    · exact hp.elim
  · exact hp.elim

theorem elemSz_key (ht : TTok P tt) {t sz : Nat} (h1 : elemSz tt t = some sz) : ∃ e, P.underlying t = some (.slice e) ∧ ∃ ie, P.info? e = some ie ∧ ie.size = sz := by
  unfold elemSz at h1
  split at h1
  · rename_i ti hti
    split at h1
    · rename_i e hk
      simp only [Option.map_eq_some_iff] at h1
      obtain ⟨te, hte, rfl⟩ := h1
      exact ⟨e, (ht t ti hti).slice hk, (ht e te hte).size⟩
    · cases h1
  · cases h1

theorem RC.part {w : World} {Mt : Nat → Prop} {a : Option Addr} {n cap m : Nat} {t0 : Bool} {es : List (List C)} (hx : RC w Mt (.slice a n cap) (.sl t0 es)) {sz l h : Nat} (hlh : l ≤ h) (hh : h ≤ es.length) (hsz : ∀ e ∈ es, e.length = sz) (t1 : Bool) (hm : h ≤ m) (hmc : m ≤ cap) (ht : t1 = true → m = h) :
    RC w Mt (.slice (if m = l then a else a.map (·.add (l * sz))) (h - l) (m - l)) (.sl t1 ((es.take h).drop l)) := by
  cases hx with
  | sl _ _ k _ p _ _ hn ht' hle hmax hk ha u hc hr =>
    have get : ∀ i e, ((es.take h).drop l)[i]? = some e → es[l + i]? = some e ∧ l + i < h := fun i e he => by
      rw [List.getElem?_drop, List.getElem?_take] at he
      split at he
      · exact ⟨he, by assumption⟩
      · cases he
    refine RC.sl t1 _ sz _ ⟨p.block, p.off + l * sz, none⟩ (h - l) (m - l) (by simp; omega) (fun hq => by rw [ht hq]) (by omega) (by omega) (fun e he => hsz e (List.mem_of_mem_take (List.mem_of_mem_drop he))) (fun hne => ?_) (fun i j => u (l + i) j) (fun i j e c he hj => ?_) (fun i j e c he hj => hr (l + i) j e c (get i e he).1 hj)
    · have hlt : l < h := by
        rcases Nat.lt_or_ge l h with h' | h'
        · exact h'
        · exact absurd (List.drop_eq_nil_of_le (by rw [List.length_take]; omega)) hne
      have hne' : es ≠ [] := by rintro rfl; simp at hh; omega
      obtain ⟨rfl, hs, hM, hb⟩ := ha hne'
      rw [if_neg (by omega)]
      exact ⟨by simp [addr_add' hs], rfl, hM, hb⟩
    · obtain ⟨h1, _⟩ := get i e he
      have hkk : k = sz := by rw [← hk e (List.mem_of_getElem? h1)]; exact hsz e (List.mem_of_getElem? h1)
      subst hkk
      have := hc (l + i) j e c h1 hj
      simpa [Nat.add_mul, Nat.add_assoc] using this

/-- A bound of a slice expression. -/
def Bd (o : Option Value) (dflt : Nat) (n : Int) : Prop := (o = none ∧ n = dflt) ∨ ∃ k, o = some (.int k n)

theorem bound_run (w : World) {k : IntKind} {n : Int} {y : Nat} (h0 : 0 ≤ n) (h1 : n ≤ y) (c : BoundsCode) : (Instr.sliceBound (.int k n) y c).run P w = .ok n.toNat w := by
  simp [Instr.sliceBound, asIntOf, h0, h1]

theorem bounds_run (w : World) (isS : Bool) {len cap : Nat} {lo hi mx : Option Value} {l h m : Int} (hlo : Bd lo 0 l) (hhi : (hi = none ∧ mx = none ∧ h = len) ∨ ∃ k, hi = some (.int k h)) (hmx : Bd mx cap m)
    (h0 : 0 ≤ l) (h1 : l ≤ h) (h2 : h ≤ m) (h3 : m ≤ cap) : (Instr.sliceBounds isS len cap lo hi mx).run P w = .ok (l.toNat, h.toNat, m.toNat) w := by
  have f1 : 0 ≤ h := Int.le_trans h0 h1
  have f2 : 0 ≤ m := Int.le_trans f1 h2
  have f3 : h ≤ (m.toNat : Int) := by omega
  have f4 : l ≤ (h.toNat : Int) := by omega
  have f5 : h ≤ (cap : Int) := by omega
  rcases hmx with ⟨rfl, rfl⟩ | ⟨k3, rfl⟩
  · rcases hhi with ⟨rfl, _, rfl⟩ | ⟨k2, rfl⟩ <;> rcases hlo with ⟨rfl, rfl⟩ | ⟨k1, rfl⟩
    · simp [Instr.sliceBounds]
    · simp [Instr.sliceBounds, bound_run w h0 h1]
    · simp [Instr.sliceBounds, bound_run w f1 f5]
    · simp [Instr.sliceBounds, bound_run w f1 f5, bound_run w h0 f4]
  · rcases hhi with ⟨_, h', _⟩ | ⟨k2, rfl⟩
    · cases h'
    · rcases hlo with ⟨rfl, rfl⟩ | ⟨k1, rfl⟩
      · simp [Instr.sliceBounds, bound_run w f2 h3, bound_run w f1 f3]
      · simp [Instr.sliceBounds, bound_run w f2 h3, bound_run w f1 f3, bound_run w h0 f4]

theorem slice_run (w : World) {t e : Nat} {ie : TypeInfo} {sz : Nat} (hu : P.underlying t = some (.slice e)) (hie : P.info? e = some ie) (hsz : ie.size = sz) {aa : Option Addr} {n cap : Nat} {lo hi mx : Option Value} {l h m : Int}
    (hlo : Bd lo 0 l) (hhi : (hi = none ∧ mx = none ∧ h = n) ∨ ∃ k, hi = some (.int k h)) (hmx : Bd mx cap m) (h0 : 0 ≤ l) (h1 : l ≤ h) (h2 : h ≤ m) (h3 : m ≤ cap) :
    (Instr.sliceAt t (.slice aa n cap) lo hi mx).run P w = .ok (.slice (if m.toNat = l.toNat then aa else aa.map (·.add (l.toNat * sz))) (h.toNat - l.toNat) (m.toNat - l.toNat)) w := by
  simp only [Instr.sliceAt, Instr.slice, Sem.run_bind, run_underlying hu w, Result.andThen_ok, bounds_run w true hlo hhi hmx h0 h1 h2 h3]
  simp [sizeOf, typeInfo, hie, hsz]

theorem slice_run_string (w : World) {t : Nat} (hu : P.underlying t = some .string) {b : ByteArray} {lo hi : Option Value} {l h : Int}
    (hlo : Bd lo 0 l) (hhi : Bd hi b.size h) (h0 : 0 ≤ l) (h1 : l ≤ h) (h2 : h ≤ b.size) :
    (Instr.sliceAt t (.string b) lo hi none).run P w = .ok (.string (b.extract l.toNat h.toNat)) w := by
  have hb := bounds_run (P := P) w false hlo (hhi.imp (fun h => ⟨h.1, rfl, h.2⟩) id) (.inl ⟨rfl, rfl⟩ : Bd none b.size b.size) h0 h1 h2 (Int.le_refl _)
  simp [Instr.sliceAt, Instr.slice, run_underlying hu w, hb]

theorem slice_ok (ht : TTok P tt) (h : Good X s a w β cp Rd) {d : Option Nat} (hd : dstOK s.nt d) {t : Nat} {x : Operand} {lo hi mx : Option Operand}
    (hp : (sliceS tt t (s.ev x) (lo.map s.ev) (hi.map s.ev) (mx.map s.ev) s d).1) :
    ∃ u, (∀ w, (Instr.sliceAt t (a.eval x) (lo.map a.eval) (hi.map a.eval) (mx.map a.eval)).run P w = .ok u w) ∧ ∃ s', (sliceS tt t (s.ev x) (lo.map s.ev) (hi.map s.ev) (mx.map s.ev) s d).2 s' ∧ Good X s' (a.put d u) w β cp Rd := by
  have hx := h.ev x
  have bnd : ∀ (o : Option Operand) (dflt : Nat) (n : Int), boundOf (o.map s.ev) dflt = some n → Bd (o.map a.eval) dflt n := by
    intro o dflt n hb
    cases o with
    | none => simp only [Option.map_none, boundOf, Option.some.injEq] at hb; exact .inl ⟨rfl, hb.symm⟩
    | some y =>
      have hy := h.ev y
      simp only [Option.map_some] at hb ⊢
      unfold boundOf at hb
      split at hb
      · rename_i he; cases he
      · rename_i k n' _ he
        simp only [Option.some.injEq] at he hb
        subst hb
        rw [he] at hy
        generalize a.eval y = v at hy
        cases hy
        exact .inr ⟨_, rfl⟩
      · cases hb
  have noN : ∀ o : Option Operand, o.map s.ev = none → o.map a.eval = none := by
    intro o ho; cases o <;> first | rfl | cases ho
  have smI : ∀ (o : Option Operand) (k : IntKind) (m : Int), o.map s.ev = some (.c (.v (.int k m))) → ∃ k', o.map a.eval = some (.int k' m) := by
    intro o k m ho
    rcases bnd o 0 m (by rw [ho]; rfl) with ⟨e1, _⟩ | hq
    · cases o <;> first | cases ho | cases e1
    · exact hq
  have smB : ∀ (o : Option Operand) (dflt : Nat) (n : Int), (o.map s.ev).isSome = true → boundOf (o.map s.ev) dflt = some n → ∃ k, o.map a.eval = some (.int k n) := by
    intro o dflt n h1 h2
    rcases bnd o dflt n h2 with ⟨e1, _⟩ | hq
    · cases o with
      | none => cases h1
      | some y => cases e1
    · exact hq
  unfold sliceS at hp ⊢
  split at hp
  · rename_i sz t0 es hsz hxe
    obtain ⟨e, hu, ie, hie, hsz'⟩ := elemSz_key ht hsz
    rw [hxe] at hx
    generalize hv : a.eval x = v at hx ⊢
    split at hp
    · rename_i l hh hl hhi hm
      simp only [Res.mk1] at hp ⊢
      obtain ⟨h0, h1, h2, h3⟩ := hp
      cases hx with
      | sl _ _ k aa p n cap hn ht' hle hmax hk ha u hc hr =>
        have hx' : RC w (X.mt s β Rd) (.slice aa n cap) (.sl t0 es) := RC.sl t0 es k aa p n cap hn ht' hle hmax hk ha u hc hr
        have hpart := RC.part (m := cap) hx' (sz := sz) (l := l.toNat) (h := hh.toNat) (by omega) (by omega) h3 false (by omega) (Nat.le_refl _) (fun h => by cases h)
        rw [noN _ hm]
        subst hn
        exact ⟨_, fun w => slice_run w hu hie hsz' (bnd lo 0 l hl) ((bnd hi _ hh hhi).imp (fun q => ⟨q.1, rfl, q.2⟩) id) (.inl ⟨rfl, rfl⟩) h0 h1 (by omega) (Int.le_refl _), _, rfl, h.put hd (x := .c _) (RC.mc (Rd := Rd) (H := hOf s β cp) hpart)⟩
    · rename_i l hh k m hl hhi hm
      simp only [Res.mk1] at hp ⊢
      obtain ⟨h0, h1, h2, rfl, hsome, h3⟩ := hp
      cases hx with
      | sl _ _ k aa p n cap hn ht' hle hmax hk ha u hc hr =>
        have hx' : RC w (X.mt s β Rd) (.slice aa n cap) (.sl t0 es) := RC.sl t0 es k aa p n cap hn ht' hle hmax hk ha u hc hr
        have hpart := RC.part (m := m.toNat) hx' (sz := sz) (l := l.toNat) (h := m.toNat) (by omega) (by omega) h3 true (Nat.le_refl _) (by omega) (fun _ => rfl)
        exact ⟨_, fun w => slice_run w hu hie hsz' (bnd lo 0 l hl) (.inr (smB hi _ m hsome hhi)) (.inr (smI mx _ m hm)) h0 h1 (Int.le_refl _) (by omega), _, rfl, h.put hd (x := .c _) (RC.mc (Rd := Rd) (H := hOf s β cp) hpart)⟩
    · exact hp.elim
  · rename_i sz b n t0 hsz hxe
    obtain ⟨e, hu, ie, hie, hsz'⟩ := elemSz_key ht hsz
    rw [hxe] at hx
    generalize hv : a.eval x = v at hx ⊢
    split at hp
    · rename_i bx hbx
      split at hp
      · rename_i l hh hl hhi hm
        simp only [Res.mk1] at hp ⊢
        obtain ⟨hn, h0, h1, h2, h3⟩ := hp
        rw [noN _ hm]
        have hV := hx.2.at rfl hbx hn
        have hB := h.boxes b bx hbx
        have run1 : ∀ aa c, n ≤ c → v = .slice aa n c → ∀ w, (Instr.sliceAt t v (lo.map a.eval) (hi.map a.eval) none).run P w = .ok (.slice (if c = l.toNat then aa else aa.map (·.add (l.toNat * sz))) (hh.toNat - l.toNat) (c - l.toNat)) w := by
          rintro aa c hc rfl w
          exact slice_run w hu hie hsz' (bnd lo 0 l hl) ((bnd hi _ hh hhi).imp (fun q => ⟨q.1, rfl, q.2⟩) id) (.inl ⟨rfl, rfl⟩) h0 h1 (by omega) (Int.le_refl _)
        rcases hV with ⟨hβ, rfl, aa, rfl⟩ | ⟨g, c, hg, rfl, hc1, hc2, _⟩
        · exact ⟨_, run1 aa 0 (Nat.le_refl _) rfl, _, rfl, h.put hd (x := .c _) ⟨rfl, hOf.mk rfl hbx (Nat.le_of_eq hn) fun _ => ⟨by omega, by omega, _, _, rfl, by omega, by simp [maxLen], by omega⟩⟩⟩
        · rcases hB with (⟨q1, _⟩ | ⟨g', cur, q1, q2, q3, q4, q5, q6, q7, q8⟩) | ⟨q1, q2, q3, _⟩
          · rw [q1] at hg; cases hg
          · refine ⟨_, run1 _ c hc1 rfl, _, rfl, h.put hd (x := .c _) ⟨rfl, hOf.mk rfl hbx (Nat.le_of_eq hn) fun _ => ⟨by omega, by omega, _, _, rfl, by omega, by omega, fun hlt => ⟨g, hg, ?_⟩⟩⟩⟩
            rw [if_neg (by omega)]
            simp [addr_add, h3]
          · have hn0 : n = 0 := by rw [hn, q1]; rfl
            subst hn0
            exact ⟨_, run1 _ c hc1 rfl, _, rfl, h.put hd (x := .c _) ⟨rfl, hOf.mk rfl hbx (Nat.le_of_eq hn) fun _ => ⟨by omega, by omega, _, _, rfl, by omega, by simp [maxLen]; omega, fun hlt => by omega⟩⟩⟩
      · rename_i l hh k m hl hhi hm
        simp only [Res.mk1] at hp ⊢
        obtain ⟨hn, rfl, rfl, rfl, hsome, h3⟩ := hp
        have run1 : ∀ aa c, n ≤ c → v = .slice aa n c → ∀ w, (Instr.sliceAt t v (lo.map a.eval) (hi.map a.eval) (mx.map a.eval)).run P w = .ok (.slice aa n n) w := by
          rintro aa c hc rfl w
          rw [slice_run w hu hie hsz' (bnd lo 0 0 hl) (.inr (smB hi _ _ hsome hhi)) (.inr (smI mx _ _ hm)) (Int.le_refl _) (by omega) (Int.le_refl _) (by omega)]
          congr 2
          split
          · rfl
          · cases aa <;> simp
            rename_i ad
            cases ad
            simp [Addr.add]
        rcases hx.2.at rfl hbx hn with ⟨hβ, rfl, aa, rfl⟩ | ⟨g, c, hg, rfl, hc1, hc2, _⟩
        · exact ⟨_, run1 aa 0 (Nat.le_refl _) rfl, _, rfl, h.put hd (x := .c _) ⟨rfl, hOf.mk rfl hbx (Nat.le_of_eq hn) fun _ => .inl ⟨hβ, rfl, _, rfl⟩⟩⟩
        · exact ⟨_, run1 _ c hc1 rfl, _, rfl, h.put hd (x := .c _) ⟨rfl, hOf.mk rfl hbx (Nat.le_of_eq hn) fun _ => .inr ⟨g, n, hg, rfl, Nat.le_refl _, by omega, fun _ => rfl⟩⟩⟩
      · exact hp.elim
    · exact hp.elim
  · rename_i sz b n lo' hi' hsz hxe
    obtain ⟨e, hu, ie, hie, hsz'⟩ := elemSz_key ht hsz
    rw [hxe] at hx
    generalize hv : a.eval x = v at hx ⊢
    split at hp
    · rename_i bx hbx
      split at hp
      · rename_i l hh hl hhi hm
        simp only [Res.mk1] at hp ⊢
        obtain ⟨hn, h0, h1, h2, h3⟩ := hp
        rw [noN _ hm]
        obtain ⟨v1, v2, aa, c, rfl, v3, v4, v5⟩ := hx.2.at rfl hbx hn
        have hlc : hh ≤ (c : Int) := by omega
        refine ⟨_, fun w => slice_run w hu hie hsz' (bnd lo 0 l hl) ((bnd hi _ hh hhi).imp (fun q => ⟨q.1, rfl, q.2⟩) id) (.inl ⟨rfl, rfl⟩) h0 h1 hlc (Int.le_refl _), _, rfl, h.put hd (x := .c _) ⟨rfl, hOf.mk rfl hbx (Nat.le_of_eq hn) fun _ => ⟨by omega, by omega, (if (c : Int).toNat = l.toNat then aa else aa.map (·.add (l.toNat * sz))), c - l.toNat, ?_, by omega, by omega, fun hlt => ?_⟩⟩⟩
        · rw [show lo' + hh.toNat - (lo' + l.toNat) = hh.toNat - l.toNat by omega]
          rfl
        · obtain ⟨g, hg, rfl⟩ := v5 (by omega)
          refine ⟨g, hg, ?_⟩
          rw [if_neg (by simp; omega)]
          simp [addr_add, h3, Nat.add_mul]
      · exact hp.elim
    · exact hp.elim
  · rename_i b hsz hxe
    rw [hxe] at hx
    generalize hv : a.eval x = v at hx ⊢
    split at hp
    · rename_i l hh hk hl hhi hm
      simp only [Option.map_eq_some_iff] at hk
      obtain ⟨ti, hti, hk⟩ := hk
      obtain ⟨dd, hu, hdk⟩ := (ht t ti hti).und
      rw [hk] at hdk
      have hu' : P.underlying t = some .string := by cases dd <;> first | exact hdk.elim | exact hu
      simp only [Res.mk1] at hp ⊢
      obtain ⟨h0, h1, h2⟩ := hp
      rw [noN _ hm]
      cases hx with
      | v _ _ => exact ⟨_, fun w => slice_run_string w hu' (bnd lo 0 l hl) (bnd hi _ hh hhi) h0 h1 h2, _, rfl, h.put hd (x := .c _) (RC.v _ rfl)⟩
    · exact hp.elim
  · exact hp.elim
end
end Go.VE
end
section
namespace Go.VE
open Go

theorem wrap_in {k : IntKind} {n : Int} (h : InR k n) : k.wrap n = n := by
  cases k <;> first | exact h.elim | exact IntWalk.i64_in n h | exact IntWalk.i32_in n h | exact IntWalk.u8_in n h | exact IntWalk.u64_in n h

theorem toList_beq (b c : ByteArray) : (b.toList == c.toList) = decide (b = c) := by
  rw [ByteArray.toList_eq, ByteArray.toList_eq]
  by_cases h : b = c
  · subst h; simp
  · have : ¬ b.data.toList = c.data.toList := fun e => h (by cases b; cases c; simp only [ByteArray.mk.injEq]; exact Array.ext' e)
    rw [decide_eq_false h]
    exact beq_eq_false_iff_ne.2 this

theorem ints_map : ∀ cs : List C, ints cs → ∃ as : List Int, cs = as.map fun a => .v (.int .i64 a)
  | [], _ => ⟨[], rfl⟩
  | .v (.int .i64 a) :: r, h => by
    obtain ⟨as, rfl⟩ := ints_map r h
    exact ⟨a :: as, rfl⟩

theorem ieq_map : ∀ as bs : List Int, as.length = bs.length → ieq (as.map fun a => .v (.int .i64 a)) (bs.map fun a => .v (.int .i64 a)) = decide (as = bs)
  | [], [], _ => rfl
  | a :: as, b :: bs, h => by
    simp only [List.map_cons, ieq, ieq_map as bs (by simpa using h), List.cons.injEq, Bool.decide_and]
  | [], _ :: _, h => by simp at h
  | _ :: _, [], h => by simp at h

section
variable {P : Program} {tt : Nat → Option TI} {X : Cx} {s : St} {a : Act} {w : World} {β : Nat → Option Nat} {cp : Nat → Nat} {Rd : Nat → Prop}

theorem MCs.ints {Mt Rd : Nat → Prop} {H : C → Value → Prop} {arr : Array Value} {as : List Int}
    (h : MCs w Mt Rd H arr (as.map fun a => .v (.int .i64 a))) : arr = (as.map (Value.int .i64)).toArray := by
  apply Array.ext
  · simpa using h.1
  · intro i h1 h2
    have hi : i < as.length := by simpa using h2
    have := h.2 i (.v (.int .i64 as[i])) (by simp [hi])
    have e : arr.getD i undef = arr[i] := by simp [h1]
    rw [e] at this
    cases hx : arr[i] <;> rw [hx] at this <;> cases this
    simp

theorem xor_ok (w : World) (a b : Int) (ha : 0 ≤ a) (hb : 0 ≤ b) (ha2 : a ≤ 9223372036854775807) (hb2 : b ≤ 9223372036854775807) : (Op.intBits .xor .i64 a b).run P w = .ok (.int .i64 ((a.toNat ^^^ b.toNat : Nat) : Int)) w := by
  obtain ⟨m, rfl⟩ := Int.eq_ofNat_of_zero_le ha
  obtain ⟨n, rfl⟩ := Int.eq_ofNat_of_zero_le hb
  have hm : m < 2 ^ 63 := by omega
  have hn : n < 2 ^ 63 := by omega
  have hx : m ^^^ n < 2 ^ 63 := Nat.xor_lt_two_pow hm hn
  have e : (BitVec.ofInt 64 (m : Int) ^^^ BitVec.ofInt 64 (n : Int)).toNat = m ^^^ n := by
    rw [BitVec.toNat_xor]
    have h1 : (BitVec.ofInt 64 (m : Int)).toNat = m := by
      rw [BitVec.toNat_ofInt]; omega
    have h2 : (BitVec.ofInt 64 (n : Int)).toNat = n := by
      rw [BitVec.toNat_ofInt]; omega
    rw [h1, h2]
  unfold Op.intBits
  simp only [Int.toNat_natCast]
  show Sem.run P (pure (Value.int .i64 (IntKind.i64.wrap ((BitVec.ofInt 64 (m : Int) ^^^ BitVec.ofInt 64 (n : Int)).toNat : Int)))) w = _
  rw [e, wrap_in (k := .i64) ⟨by omega, by omega⟩]
  rfl

theorem and_ok (w : World) (k : IntKind) (hk : k = .u64 ∨ k = .i64) (a b : Int) (ha : 0 ≤ a) (hb : 0 ≤ b) (ha2 : a ≤ 9223372036854775807) (hb2 : b ≤ 9223372036854775807) : (Op.intBits .and k a b).run P w = .ok (.int k ((a.toNat &&& b.toNat : Nat) : Int)) w := by
  obtain ⟨m, rfl⟩ := Int.eq_ofNat_of_zero_le ha
  obtain ⟨n, rfl⟩ := Int.eq_ofNat_of_zero_le hb
  have hm : m < 2 ^ 63 := by omega
  have hn : n < 2 ^ 63 := by omega
  have hx : m &&& n < 2 ^ 63 := Nat.lt_of_le_of_lt Nat.and_le_left hm
  have e : (BitVec.ofInt 64 (m : Int) &&& BitVec.ofInt 64 (n : Int)).toNat = m &&& n := by
    rw [BitVec.toNat_and]
    have h1 : (BitVec.ofInt 64 (m : Int)).toNat = m := by
      rw [BitVec.toNat_ofInt]; omega
    have h2 : (BitVec.ofInt 64 (n : Int)).toNat = n := by
      rw [BitVec.toNat_ofInt]; omega
    rw [h1, h2]
  rcases hk with rfl | rfl
  · unfold Op.intBits
    simp only [Int.toNat_natCast]
    show Sem.run P (pure (Value.int .u64 (IntKind.u64.wrap ((BitVec.ofInt 64 (m : Int) &&& BitVec.ofInt 64 (n : Int)).toNat : Int)))) w = _
    rw [e, wrap_in (k := .u64) ⟨by omega, by omega⟩]
    rfl
  · unfold Op.intBits
    simp only [Int.toNat_natCast]
    show Sem.run P (pure (Value.int .i64 (IntKind.i64.wrap ((BitVec.ofInt 64 (m : Int) &&& BitVec.ofInt 64 (n : Int)).toNat : Int)))) w = _
    rw [e, wrap_in (k := .i64) ⟨by omega, by omega⟩]
    rfl
theorem shr_ok (w : World) (k : IntKind) (hk : k = .u64 ∨ k = .i64) (a b : Int) (hb : 0 ≤ b) (hb2 : b ≤ 63) : (Op.shift .shr k a k b).run P w = .ok (.int k (a / ((2 ^ b.toNat : Nat) : Int))) w := by
  have h1 : min b.toNat k.bits = b.toNat := by
    have : k.bits = 64 := by rcases hk with rfl | rfl <;> rfl
    omega
  unfold Op.shift
  rw [if_neg (by omega), h1]
  show Sem.run P (pure (Value.int k (a.fdiv (2 ^ b.toNat)))) w = _
  have h2 : a.fdiv (2 ^ b.toNat) = a / ((2 ^ b.toNat : Nat) : Int) := by
    rw [Int.fdiv_eq_ediv_of_nonneg _ (Int.pow_nonneg (by omega))]
    simp
  rw [h2]
  rfl

theorem arith_ok (w : World) (op : BinOp) (t : Nat) (x y : Operand) (k : IntKind) (m n : Int) (hp : (arith op k m n).1) :
    (do eqGuard op t x y (.int k m) (.int k n); binOp op t (.int k m) (.int k n) : Sem Value).run P w = .ok (arith op k m n).2 w := by
  rw [eqGuard_at_int]
  cases op <;> simp only [arith] at hp ⊢ <;> simp only [binOp, Sem.run_bind, Sem.run_pure, Result.andThen_ok]
  case add => simp [Op.intArith, wrap_in hp]
  case sub => simp [Op.intArith, wrap_in hp]
  case mul => simp [Op.intArith, wrap_in hp]
  case quo => simp [Op.intDiv, hp.1, wrap_in hp.2]
  case rem => simp [Op.intDiv, hp]
  case eql => simp [Op.intCmp]; rfl
  case neq => simp [Op.intCmp]; rfl
  case lss => simp [Op.intCmp]
  case leq => simp [Op.intCmp]
  case gtr => simp [Op.intCmp]
  case geq => simp [Op.intCmp]
  case xor =>
    obtain ⟨rfl, h1, h2, h3, h4⟩ := hp
    exact xor_ok w m n h1 h2 h3 h4
  case and =>
    obtain ⟨h0, h1, h2, h3, h4⟩ := hp
    rw [if_neg (by simp)]
    exact and_ok w k h0 m n h1 h2 h3 h4
  case shr =>
    obtain ⟨h0, h1, h2⟩ := hp
    exact shr_ok w k h0 m n h1 h2
  all_goals exact hp.elim

theorem isNil_ok (ht : TTok P tt) (h : Good X s a w β cp Rd) {d : Option Nat} (hd : dstOK s.nt d) {op : BinOp} {t : Nat} {ox oy : Operand} {aa : Option Addr} {n c : Nat} {p : Prop} (hpa : p → aa ≠ none) (hp : (isNilS tt op t p s d).1) :
    ∃ u, (∀ w, (do eqGuard op t ox oy (.slice aa n c) (.slice none 0 0); binOp op t (.slice aa n c) (.slice none 0 0) : Sem Value).run P w = .ok u w) ∧ ∃ s', (isNilS tt op t p s d).2 s' ∧ Good X s' (a.put d u) w β cp Rd := by
  unfold isNilS at hp ⊢
  have key : p → aa.isNone = false := fun hh => by
    cases aa with
    | none => exact absurd rfl (hpa hh)
    | some x => rfl
  split at hp
  · rename_i e hk
    simp only [Option.map_eq_some_iff] at hk
    obtain ⟨ti, hti, hk⟩ := hk
    refine ⟨_, fun w => ?_, _, ⟨aa.isNone, key, rfl⟩, h.put hd (RC.v _ rfl)⟩
    rw [eqGuard_at_slice]
    exact Lib.run_eql_slice_nil w t e aa n c 0 0 ((ht t ti hti).slice hk)
  · rename_i e hk
    simp only [Option.map_eq_some_iff] at hk
    obtain ⟨ti, hti, hk⟩ := hk
    refine ⟨_, fun w => ?_, _, ⟨aa.isNone, key, rfl⟩, h.put hd (RC.v _ rfl)⟩
    rw [eqGuard_at_slice]
    exact run_neq_slice_nil_any w t e aa n c 0 0 ((ht t ti hti).slice hk)
  · exact hp.elim

theorem iface_ok (ht : TTok P tt) (h : Good X s a w β cp Rd) {d : Option Nat} (hd : dstOK s.nt d) {op : BinOp} {t : Nat} {ox oy : Operand} {v : Value} {b : Bool} (hv : b = true ∧ v = .nilIface ∧ isNilK oy = true ∨ b = false ∧ ∃ tp u, v = .iface tp u) (hp : (ifaceS tt op t b s d).1) :
    ∃ u, (∀ w, (do eqGuard op t ox oy v .nilIface; binOp op t v .nilIface : Sem Value).run P w = .ok u w) ∧ ∃ s', (ifaceS tt op t b s d).2 s' ∧ Good X s' (a.put d u) w β cp Rd := by
  have hg : eqGuard op t ox oy v .nilIface = pure () := by
    rcases hv with ⟨_, rfl, hk⟩ | ⟨_, tp, u, rfl⟩
    · cases oy with
      | const c => cases op <;> cases ox <;> rfl
      | _ => cases hk
    · cases op <;> rfl
  unfold ifaceS at hp ⊢
  have key : ∀ ti, tt t = some ti → ti.kind = TK.iface → ∀ (w : World) (n : Nat), (Op.equalIn (n + 1) t v .nilIface).run P w = .ok b w := by
    intro ti hti hk w n
    obtain ⟨dd, hu, hdk⟩ := (ht t ti hti).und
    rw [hk] at hdk
    cases dd <;> first | exact hdk.elim | skip
    rcases hv with ⟨rfl, rfl, _⟩ | ⟨rfl, tp, u, rfl⟩ <;> simp [Op.equalIn, run_underlying hu]
  split at hp
  · rename_i hk
    simp only [Option.map_eq_some_iff] at hk
    obtain ⟨ti, hti, hk⟩ := hk
    refine ⟨.bool b, fun w => ?_, _, rfl, h.put hd (RC.v _ rfl)⟩
    rw [hg]
    have := key ti hti hk w 9999
    rcases hv with ⟨rfl, rfl, _⟩ | ⟨rfl, tp, u, rfl⟩ <;> (simp only [binOp]; simp [Op.equal, Op.maxDepth, this])
  · rename_i hk
    simp only [Option.map_eq_some_iff] at hk
    obtain ⟨ti, hti, hk⟩ := hk
    refine ⟨.bool (!b), fun w => ?_, _, rfl, h.put hd (RC.v _ rfl)⟩
    rw [hg]
    have := key ti hti hk w 9999
    rcases hv with ⟨rfl, rfl, _⟩ | ⟨rfl, tp, u, rfl⟩ <;> (simp only [binOp]; simp [Op.equal, Op.maxDepth, this])
  · exact hp.elim

theorem bin_ok (ht : TTok P tt) (h : Good X s a w β cp Rd) {d : Option Nat} (hd : dstOK s.nt d) {op : BinOp} {t : Nat} {ox oy : Operand} {v v' : Value} {x y : AV} (hx : MA w (X.mt s β Rd) Rd (hOf s β cp) v x)
    (hy : MA w (X.mt s β Rd) Rd (hOf s β cp) v' y) (hp : (binS tt op t (isNilK oy) x y s d).1) :
    ∃ u, (∀ w, (do eqGuard op t ox oy v v'; binOp op t v v' : Sem Value).run P w = .ok u w) ∧ ∃ s', (binS tt op t (isNilK oy) x y s d).2 s' ∧ Good X s' (a.put d u) w β cp Rd := by
  unfold binS at hp ⊢
  split at hp
  · simp only [Res.mk1] at hp ⊢
    obtain ⟨rfl, hp⟩ := hp
    cases hx with
    | v _ _ => cases hy with
      | v _ _ =>
        refine ⟨_, fun w => arith_ok w op t ox oy _ _ _ hp, _, rfl, h.put hd (RC.v _ ?_)⟩
        cases op <;> rfl
  · rename_i b c
    have hb : ∀ ti, tt t = some ti → ti.kind = .bool → P.underlying t = some .bool := by
      intro ti hti hk
      obtain ⟨dd, hu, hdk⟩ := (ht t ti hti).und
      rw [hk] at hdk
      cases dd <;> first | exact hdk.elim | exact hu
    cases hx with
    | v _ _ => cases hy with
      | v _ _ =>
        cases op <;> simp only at hp ⊢ <;> (try exact hp.elim)
        · simp only [Res.mk1, Option.map_eq_some_iff] at hp ⊢
          obtain ⟨ti, h1, h2⟩ := hp
          exact ⟨_, by intro w; rw [eqGuard_at_bool]; simp [run_eql_bool w t b c (hb ti h1 h2)], _, rfl, h.put hd (RC.v _ rfl)⟩
        · simp only [Res.mk1, Option.map_eq_some_iff] at hp ⊢
          obtain ⟨ti, h1, h2⟩ := hp
          exact ⟨_, by intro w; rw [eqGuard_at_bool]; simp [run_neq_bool w t b c (hb ti h1 h2)], _, rfl, h.put hd (RC.v _ rfl)⟩
  · rename_i b c
    cases hx with
    | v _ _ => cases hy with
      | v _ _ =>
        cases op <;> simp only at hp ⊢ <;> (try exact hp.elim)
        · simp only [Res.mk1] at hp ⊢
          exact ⟨_, by intro w; rw [eqGuard_at_string]; simp only [binOp, Sem.run_bind, Sem.run_pure, Result.andThen_ok]; exact run_string_add_sum w b c (by omega), _, rfl, h.put hd (RC.v _ rfl)⟩
        · simp only [Res.mk1] at hp ⊢
          refine ⟨.bool (decide (b = c)), ?_, _, rfl, h.put hd (RC.v _ rfl)⟩
          intro w
          rw [eqGuard_at_string]
          simp only [binOp, Sem.run_bind, Sem.run_pure, Result.andThen_ok]
          simp [Op.stringOp, toList_beq]
        · simp only [Res.mk1] at hp ⊢
          refine ⟨.bool (!decide (b = c)), ?_, _, rfl, h.put hd (RC.v _ rfl)⟩
          intro w
          rw [eqGuard_at_string]
          simp only [binOp, Sem.run_bind, Sem.run_pure, Result.andThen_ok]
          simp [Op.stringOp, toList_beq]
  · rename_i cs ds
    have key : (tt t).map (fun i => (i.eq, i.sz)) = some (true, cs.length) ∧ ds.length = cs.length ∧ ints cs ∧ ints ds →
        (∀ w, (eqGuard op t ox oy v v').run P w = .ok () w ∧ (Op.equalIn 10000 t v v').run P w = .ok (ieq cs ds) w) ∧ ∃ xs ys, v = .agg xs ∧ v' = .agg ys := by
      rintro ⟨h1, h2, h3, h4⟩
      simp only [Option.map_eq_some_iff, Prod.mk.injEq] at h1
      obtain ⟨ti, hti, he, hs⟩ := h1
      obtain ⟨as, rfl⟩ := ints_map cs h3
      obtain ⟨bs, rfl⟩ := ints_map ds h4
      obtain ⟨xs, rfl, hxs⟩ := hx
      obtain ⟨ys, rfl, hys⟩ := hy
      obtain ⟨g1, g2⟩ := (ht t ti hti).eqv he
      simp only [List.length_map] at h2 hs
      rw [hxs.ints, hys.ints, ieq_map as bs h2.symm]
      exact ⟨fun w => ⟨run_eqGuard_agg w op t ox oy _ _ g1, (g2 w as bs hs.symm (h2.trans hs.symm)).1⟩, _, _, rfl, rfl⟩
    cases op <;> simp only at hp ⊢ <;> (try exact hp.elim)
    · simp only [Res.mk1] at hp ⊢
      obtain ⟨k12, xs, ys, rfl, rfl⟩ := key hp
      exact ⟨_, by intro w; obtain ⟨k1, k2⟩ := k12 w; rw [Sem.run_bind, k1, Result.andThen_ok, run_eql_struct w t xs ys, k2]; rfl, _, rfl, h.put hd (RC.v _ rfl)⟩
    · simp only [Res.mk1] at hp ⊢
      obtain ⟨k12, xs, ys, rfl, rfl⟩ := key hp
      exact ⟨_, by intro w; obtain ⟨k1, k2⟩ := k12 w; rw [Sem.run_bind, k1, Result.andThen_ok, run_neq_struct w t xs ys, k2]; rfl, _, rfl, h.put hd (RC.v _ rfl)⟩
  · cases hy with
    | v _ _ => cases hx with
      | sl _ _ k _ p _ _ hn ht' hle hmax hk ha u hc hr =>
        exact isNil_ok ht h hd (fun hne => by rw [(ha hne).1]; simp) hp
  · cases hx with
    | v _ _ => cases hy with
      | v _ _ =>
        split at hp
        · rename_i hk
          exact iface_ok ht h hd (.inl ⟨rfl, rfl, hk⟩) hp
        · exact hp.elim
  · cases hx with
    | v _ _ => cases hy with
      | v _ _ => exact iface_ok ht h hd (.inr ⟨rfl, _, _, rfl⟩) hp
  · exact hp.elim

theorem un_ok (h : Good X s a w β cp Rd) {d : Option Nat} (hd : dstOK s.nt d) {op : UnOp} {v : Value} {x : AV} (hx : MA w (X.mt s β Rd) Rd (hOf s β cp) v x)
    (hp : (unS op x s d).1) : ∃ u, (∀ w, (Op.unary op v).run P w = .ok u w) ∧ ∃ s', (unS op x s d).2 s' ∧ Good X s' (a.put d u) w β cp Rd := by
  unfold unS at hp ⊢
  split at hp
  · cases hx with
    | v _ _ => exact ⟨_, by intro w; simp [Op.unary], _, rfl, h.put hd (RC.v _ rfl)⟩
  · cases hx with
    | v _ _ => exact ⟨_, by intro w; simp only [Res.mk1] at hp; simp only [Op.unary, Op.intArith]; rw [wrap_in hp]; rfl, _, rfl, h.put hd (RC.v _ rfl)⟩
  · exact hp.elim

theorem convert_ok (ht : TTok P tt) (h : Good X s a w β cp Rd) {d : Option Nat} (hd : dstOK s.nt d) {src dst : Nat} {v : Value} {x : AV} (hx : MA w (X.mt s β Rd) Rd (hOf s β cp) v x)
    (hp : (convertS tt src dst x s d).1) : ∃ u, (∀ w' Rd', Fr w Rd w' Rd' → (convert src dst v).run P w' = .ok u w') ∧ ∃ s', (convertS tt src dst x s d).2 s' ∧ Good X s' (a.put d u) w β cp Rd := by
  unfold convertS at hp ⊢
  split at hp
  · rename_i ts td b n tg h1 h2
    split at hp
    · rename_i e bx k1 k2 hbx
      split at hp
      · rename_i hk
        simp only [Option.map_eq_some_iff] at hk
        obtain ⟨te, hte, hk⟩ := hk
        simp only [Res.mk1] at hp ⊢
        obtain ⟨hn, hn0, hrow, hbk, hok⟩ := hp
        refine ⟨_, ?_, _, rfl, h.put hd (RC.v _ rfl)⟩
        obtain ⟨dd, hud, hdk⟩ := (ht dst td h2).und
        rw [k2] at hdk
        have hud' : P.underlying dst = some .string := by cases dd <;> first | exact hdk.elim | exact hud
        have hus : P.underlying src = some (.slice e) := (ht src ts h1).slice k1
        obtain ⟨de, hue, hdk⟩ := (ht e te hte).und
        rw [hk] at hdk
        have hue' : P.underlying e = some (.int .u8) := by cases de <;> first | exact hdk.elim | (simp only [descOK] at hdk; subst hdk; exact hue)
        obtain ⟨hone, b', n', hkk, hkey, hB⟩ := hx
        cases hkk
        obtain ⟨q1, q2⟩ := hB bx hbx
        obtain ⟨_, q3⟩ | ⟨g, c, hg, rfl, q4, q5, _⟩ := q2 hn
        · omega
        have hbo := (h.boxes b bx hbx).two (.inl hrow)
        rcases hbo with ⟨e1, _⟩ | ⟨g', cur, e1, e2, e3, e4, e5, e6, e7, e8⟩
        · rw [e1] at hg; cases hg
        rw [hg] at e1
        cases e1
        have hlen : ∀ l : List (List C), okB8 l → (b8s l).length = l.length ∧ ∀ i, i < l.length → l[i]? = some [.v (.int .u8 ((b8s l).getD i 0))] := by
          intro l
          induction l with
          | nil => intro _; exact ⟨rfl, fun i hi => by simp at hi⟩
          | cons x l ih =>
            intro hl
            match x, hl with
            | [.v (.int .u8 k)], hl =>
              obtain ⟨i1, i2⟩ := ih hl
              refine ⟨by simp [b8s, i1], fun i hi => ?_⟩
              cases i with
              | zero => simp [b8s]
              | succ i => simpa [b8s] using i2 i (by simpa using hi)
        obtain ⟨l1, l2⟩ := hlen bx.es hok
        intro w' Rd' hf
        have hnr : ¬ Rd g := h.own_rd g ⟨b, bx, hbx, hg⟩
        have hlt : g < w.heap.size := (Array.getElem?_eq_some_iff.1 e2).1
        refine run_convert_bytes_arg w' src e hus hue' g 0 n c (b8s bx.es) (by rw [l1, hn]) (fun i hi => ?_) dst hud'
        have hi' : i < bx.es.length := by omega
        have hcl := e8 i 0 _ _ (l2 i hi') rfl
        rw [hbk, Nat.mul_one, Nat.add_zero] at hcl
        have hci : cur.getD i undef = .int .u8 ((b8s bx.es).getD i 0) := by
          generalize cur.getD i undef = z at hcl
          cases hcl; rfl
        have hsz : i < cur.size := by rw [e3, hbk]; omega
        rw [World.cell?, show w'.heap[g]? = _ from (hf.block g hlt hnr).trans e2]
        simp only [Nat.zero_add]
        rw [Array.getD_eq_getD_getElem?, Array.getElem?_eq_getElem hsz] at hci
        simp only [Option.getD_some] at hci
        rw [Array.getElem?_eq_getElem hsz, hci]
        rfl
      · exact hp.elim
    · exact hp.elim
  · rename_i ts td k n h1 h2
    split at hp
    · rename_i k' hk
      simp only [Res.mk1] at hp ⊢
      obtain ⟨ds, hus, _⟩ := (ht src ts h1).und
      obtain ⟨dd, hud, hdk⟩ := (ht dst td h2).und
      rw [hk] at hdk
      have hu' : P.underlying dst = some (.int k') := by cases dd <;> first | exact hdk.elim | (simp only [descOK] at hdk; subst hdk; exact hud)
      cases hx with
      | v _ _ =>
        refine ⟨.int k' n, ?_, _, rfl, h.put hd (RC.v _ rfl)⟩
        intro w _ _
        unfold convert
        rw [Sem.run_bind, run_underlying hus w, Result.andThen_ok, Sem.run_bind, run_underlying hu' w, Result.andThen_ok]
        simp [Conv.intToInt, wrap_in hp]
    · exact hp.elim
  · exact hp.elim

theorem nil_ok (h : Good X s a w β cp Rd) {d : Option Nat} (hd : dstOK s.nt d) {o : Oper} {x : Operand} (ho : o.op = .nilCheck x) (hp : (nilS (s.ev x) s d).1) :
    ∃ u, (∀ w, (execOp a.eval o).run P w = .ok (.value u) w) ∧ ∃ s', (nilS (s.ev x) s d).2 s' ∧ Good X s' (a.put d u) w β cp Rd := by
  have hx := h.ev x
  generalize hv : a.eval x = v at hx
  unfold nilS at hp ⊢
  unfold execOp
  simp only [ho, hv]
  split at hp
  · rename_i b n i off he
    rw [he] at hx
    split at hp
    · rename_i bx hbx
      simp only [Res.mk1] at hp ⊢
      obtain ⟨g, hg, rfl⟩ := hx.2.at rfl hbx hp
      exact ⟨_, fun _ => rfl, _, rfl, h.put hd hx⟩
    · exact hp.elim
  · rename_i cs he
    rw [he] at hx
    cases hx with
    | rp cs p hs hm hlt u hc hr => exact ⟨_, fun _ => rfl, _, rfl, h.put hd (RC.rp cs p hs hm hlt u hc hr)⟩
  · rename_i he
    rw [he] at hx
    obtain ⟨g, hg, rfl⟩ := hx
    exact ⟨_, fun _ => rfl, _, rfl, h.put hd ⟨g, hg, rfl⟩⟩
  · rename_i f caps he
    rw [he] at hx
    obtain ⟨arr, rfl, hx⟩ := hx
    exact ⟨_, fun _ => rfl, _, rfl, h.put hd ⟨arr, rfl, hx⟩⟩
  · exact hp.elim

theorem pick_ok (h : Good X s a w β cp Rd) {d : Option Nat} (hd : dstOK s.nt d) {c x y : Operand} (hp : (pickS (s.ev c) (s.ev x) (s.ev y) s d).1) :
    ∃ u, (∀ w, (do pure (Next.value (if ← asBool (a.eval c) then a.eval x else a.eval y)) : Sem Next).run P w = .ok (.value u) w) ∧ ∃ s', (pickS (s.ev c) (s.ev x) (s.ev y) s d).2 s' ∧ Good X s' (a.put d u) w β cp Rd := by
  have hc := h.ev c
  generalize hv : a.eval c = v at hc
  unfold pickS at hp ⊢
  split at hp
  · rename_i he
    rw [he] at hc
    cases hc with
    | v _ _ => exact ⟨_, by intro w; simp [asBool], _, rfl, h.put hd (h.ev x)⟩
  · rename_i he
    rw [he] at hc
    cases hc with
    | v _ _ => exact ⟨_, by intro w; simp [asBool], _, rfl, h.put hd (h.ev y)⟩
  · exact hp.elim
end
end Go.VE
end
section
namespace Go.VE
open Go

section
variable {P : Program} {tt : Nat → Option TI} {X : Cx} {s : St} {a : Act} {w : World} {β : Nat → Option Nat} {cp : Nat → Nat} {Rd : Nat → Prop}
variable {Mt : Nat → Prop} {H : C → Value → Prop}

theorem Keeps.alloc (M : Nat → Prop) (w : World) (o : Obj) : Keeps M w (w.alloc o) :=
  ⟨rfl, rfl, ⟨rfl, trivial⟩, by simp, fun g hg _ => heap_alloc_old w o hg⟩

/-- The cells of a value. -/
theorem cells_ok {v : Value} {x : AV} (h : MA w Mt Rd H v x) (hx : cellsOf x ≠ []) : MCs w Mt Rd H v.cells (cellsOf x) ∨ ∃ c, x = .c c ∧ ¬ v.oneCell' = true := by
  cases x with
  | c c =>
    by_cases h1 : v.oneCell' = true
    · refine .inl ⟨?_, fun j c' hj => ?_⟩
      · cases v <;> first | rfl | cases h1
      · simp only [cellsOf] at hj
        match j, hj with
        | 0, hj =>
          simp at hj
          subst hj
          have : v.cells.getD 0 undef = v := by cases v <;> first | rfl | cases h1
          rw [this]; exact h
        | j + 1, hj => simp at hj
    · exact .inr ⟨c, rfl, h1⟩
  | agg cs => obtain ⟨arr, rfl, h⟩ := h; exact .inl h
  | tup vs => simp [cellsOf] at hx
  | mp b ks => simp [cellsOf] at hx

theorem okC_one {c : C} (h : okC c = true) {v : Value} (hm : MC w Mt Rd H v c) : v.oneCell' = true := by
  cases c with
  | und => cases h
  | bot => cases h
  | own b n t => exact hm.1
  | vw b n lo hi => exact hm.1
  | ptr b n i off => exact hm.1
  | fn f caps => obtain ⟨arr, rfl, _⟩ := hm; rfl
  | v x => cases hm with | v _ hx => exact hx
  | sl t es => cases hm; rfl
  | rp cs => cases hm; rfl
  | rdr => obtain ⟨g, _, rfl⟩ := hm; rfl
  | ex x c => exact hm.2.one

theorem okCs_get : ∀ {cs : List C} {j : Nat} {c : C}, okCs cs → cs[j]? = some c → okC c = true
  | [], _, _, _, h => by simp at h
  | c :: r, 0, x, h, hj => by simp at hj; subst hj; exact h.1
  | c :: r, j + 1, x, h, hj => okCs_get h.2 (by simpa using hj)
theorem okRs_get : ∀ {cs : List C} {j : Nat} {c : C}, okRs cs → cs[j]? = some c → okR c = true
  | [], _, _, _, h => by simp at h
  | c :: r, 0, x, h, hj => by simp at hj; subst hj; exact h.1
  | c :: r, j + 1, x, h, hj => okRs_get h.2 (by simpa using hj)

theorem Fr.alloc (w : World) (Rd : Nat → Prop) (o : Obj) : Fr w Rd (w.alloc o) Rd :=
  ⟨(Keeps.alloc (fun _ => False) w o).size, fun g hg _ => (Keeps.alloc (fun _ => False) w o).block g hg id, fun _ h => .inl h⟩

/-- A new box over new cells. -/
theorem Good.newRow (h : Good X s a w β cp Rd) {nid : Nat} (hf : ¬ s.keyed nid) (hnx : nid < s.nx) {es : List (List C)} {k ty cap : Nat} {cur : Array Value} {row : Bool}
    (hcs : cur.size = cap * k) (hle : es.length ≤ cap) (hmax : cap ≤ maxLen) (hk : ∀ e ∈ es, e.length = k) (hr : row = true → pureEs es)
    (hc : ∀ i j e c, es[i]? = some e → e[j]? = some c → MC w (X.mt s β Rd) Rd (hOf s β cp) (cur.getD (i * k + j) undef) c) :
    Good X (s.setBox nid (some ⟨es, k, ty, row, false⟩)) a (w.alloc (.cells cur ty)) (VE.upd β nid (some w.heap.size)) (VE.upd cp nid cap) Rd :=
  h.upd nid ⟨es, k, ty, row, false⟩ _ _ hnx (.inl hf) (Keeps.alloc _ w _) (fun g hg => by cases hg; exact .inl (Nat.le_refl _))
    (.inr ⟨w.heap.size, cur, rfl, heap_alloc_new w _, hcs, hle, hmax, hk, hr, hc⟩)

theorem newBox_ok (h : Good X s a w β cp Rd) {d : Option Nat} (hd : dstOK s.nt d) {nid : Nat} (hf : ¬ s.keyed nid) (hnx : nid < s.nx) {t : Nat} {cs : List C} {arr : Array Value}
    (hm : MCs w (X.mt s β Rd) Rd (hOf s β cp) arr cs) : ∃ s', (newBox nid t cs s d).2 s' ∧ RelF w Rd X s' (a.put d (.pointer (some ⟨w.heap.size, 0, none⟩))) (w.alloc (.cells arr t)) := by
  have h1 := h.newRow hf hnx (es := [cs]) (k := cs.length) (ty := t) (cap := 1) (cur := arr) (row := false) (by simpa using hm.1) (by simp) (by simp [maxLen]) (by simp) (fun h => by cases h) (fun i j e c he hc => by
    match i, he with
    | 0, he => simp at he; subst he; simpa using hm.2 j c hc
    | i + 1, he => simp at he)
  exact ⟨_, rfl, _, _, _, h1.put (by simpa [St.setBox] using hd) ⟨rfl, hOf.mk rfl (St.box_set_same _ _ _) (by simp) fun _ => ⟨w.heap.size, upd_same _ _ _, by simp⟩⟩, Fr.alloc _ _ _⟩

theorem zv_mcs {t : Nat} {ti : TI} (hT : TIok P t ti) {z : Value} (hz : z.cells.toList = ti.zv) : MCs w Mt Rd H z.cells (ti.zv.map .v) := by
  refine ⟨by rw [← hz]; simp, fun j c hj => ?_⟩
  simp only [List.getElem?_map, Option.map_eq_some_iff] at hj
  obtain ⟨x, hx, rfl⟩ := hj
  have h1 : z.cells[j]? = some x := by rw [← hz] at hx; simpa using hx
  have h2 : z.cells.getD j undef = x := by simp [Array.getD_eq_getD_getElem?, h1]
  rw [h2]
  exact RC.v x (hT.zone x (List.mem_of_getElem? hx))

theorem alloc_ok (ht : TTok P tt) (h : Good X s a w β cp Rd) {d : Option Nat} (hd : dstOK s.nt d) {nid : Nat} (hf : ¬ s.keyed nid) (hnx : nid < s.nx) {t : Nat} (hp : (allocS nid (tt t) t s d).1) :
    ∃ u w', (Instr.alloc t true (.tuple #[])).run P w = .ok u w' ∧ ∃ s', (allocS nid (tt t) t s d).2 s' ∧ RelF w Rd X s' (a.put d u) w' := by
  unfold allocS at hp ⊢
  split at hp
  · rename_i ti hti
    have hT := ht t ti hti
    obtain ⟨i, z, h1, h2, h3, h4, h5⟩ := hT.info
    obtain ⟨s', h6, h7⟩ := newBox_ok h hd hf hnx (t := t) (zv_mcs (w := w) (Mt := X.mt s β Rd) (Rd := Rd) (H := hOf s β cp) hT h5)
    refine ⟨_, _, ?_, s', h6, h7⟩
    simp [Instr.alloc, zeroValue, typeInfo, h1, h4, newVar, newRow]
  · exact hp.elim

theorem box_ok (h : Good X s a w β cp Rd) {d : Option Nat} (hd : dstOK s.nt d) {nid : Nat} (hf : ¬ s.keyed nid) (hnx : nid < s.nx) {t : Nat} {v : Value} {x : AV} (hx : MA w (X.mt s β Rd) Rd (hOf s β cp) v x)
    (hp : (boxS nid t (cellsOf x) s d).1) : ∃ u w', (Instr.box t v).run P w = .ok u w' ∧ ∃ s', (boxS nid t (cellsOf x) s d).2 s' ∧ RelF w Rd X s' (a.put d u) w' := by
  obtain ⟨hne, hno⟩ := hp
  rcases cells_ok hx (fun e => hne (by rw [e]; rfl)) with hm | ⟨c, rfl, h1⟩
  · obtain ⟨s', h6, h7⟩ := newBox_ok h hd hf hnx (t := t) hm
    exact ⟨_, _, by simp [Instr.box, newVar, newRow], s', h6, h7⟩
  · exact absurd (okC_one hno.1 hx) h1

/-- A slice variable that begins as nil. -/
theorem assign_ok (h : Good X s a w β cp Rd) {d : Option Nat} (hd : dstOK s.nt d) {nid : Nat} (hf : ¬ s.keyed nid) (hnx : nid < s.nx) {t : Nat} {v : Value} {x : AV} (hx : MA w (X.mt s β Rd) Rd (hOf s β cp) v x)
    (hp : (assignS tt nid x (tt t) s d).1) : ∃ s', (assignS tt nid x (tt t) s d).2 s' ∧ RelF w Rd X s' (a.put d v) w := by
  unfold assignS at hp ⊢
  split at hp
  · rename_i ti hti
    split at hp
    · rename_i e hk
      split at hp
      · rename_i te hte
        simp only [Res.mk1] at hp ⊢
        cases hx with
        | v _ _ =>
          have h1 := h.upd (w' := w) nid ⟨[], te.sz, e, true, false⟩ none 0 hnx (.inl hf) (Keeps.refl _ w) (fun g hg => by cases hg) (.inl ⟨rfl, rfl, rfl⟩)
          exact ⟨_, rfl, _, _, _, h1.put (by simpa [St.setBox] using hd) ⟨rfl, hOf.mk rfl (St.box_set_same _ _ _) (Nat.le_refl _) fun _ => .inl ⟨upd_same _ _ _, rfl, _, rfl⟩⟩, Fr.refl _ _⟩
      · exact hp.elim
    · exact ⟨_, rfl, _, _, _, h.put hd hx, Fr.refl _ _⟩
  · exact ⟨_, rfl, _, _, _, h.put hd hx, Fr.refl _ _⟩

theorem len_ok (ht : TTok P tt) (h : Good X s a w β cp Rd) {d : Option Nat} (hd : dstOK s.nt d) {ty t : Nat} {v : Value} {x : AV} (hx : MA w (X.mt s β Rd) Rd (hOf s β cp) v x)
    (hp : (lenS tt t x s d).1) : ∃ u, (∀ w' Rd', Fr w Rd w' Rd' → (Builtin.len_ #[t] ty #[v]).run P w' = .ok u w') ∧ ∃ s', (lenS tt t x s d).2 s' ∧ Good X s' (a.put d u) w β cp Rd := by
  have hs : ∀ e, (tt t).map (·.kind) = some (TK.slice e) → P.underlying t = some (.slice e) := by
    intro e he
    simp only [Option.map_eq_some_iff] at he
    obtain ⟨ti, h1, h2⟩ := he
    exact (ht t ti h1).slice h2
  unfold lenS at hp ⊢
  split at hp
  · rename_i b hk
    simp only [Option.map_eq_some_iff] at hk
    obtain ⟨ti, h1, h2⟩ := hk
    obtain ⟨dd, hu, hdk⟩ := (ht t ti h1).und
    rw [h2] at hdk
    have hu' : P.underlying t = some .string := by cases dd <;> first | exact hdk.elim | exact hu
    cases hx with
    | v _ _ => exact ⟨_, by intro w' Rd' _; simp [Builtin.len_, run_underlying hu', goInt], _, rfl, h.put hd (RC.v _ rfl)⟩
  · rename_i e hk
    cases hx with
    | v _ _ => exact ⟨_, by intro w' Rd' _; simp [Builtin.len_, run_underlying (hs e hk), goInt], _, rfl, h.put hd (RC.v _ rfl)⟩
  · rename_i k b ks hk
    obtain ⟨g, es, clk, rfl, q1, q2, q3, q4, q5⟩ := hx
    simp only [Option.map_eq_some_iff] at hk
    obtain ⟨ti, h1, h2⟩ := hk
    obtain ⟨dd, hu, hdk⟩ := (ht t ti h1).und
    rw [h2] at hdk
    obtain ⟨ke, hu'⟩ : ∃ ke, P.underlying t = some (.map k ke) := by cases dd <;> first | exact hdk.elim | (simp only [descOK] at hdk; subst hdk; exact ⟨_, hu⟩)
    have hl : es.size = ks.length := by
      have := congrArg List.length q5
      simpa using this
    refine ⟨.int .i64 ks.length, fun w' Rd' hfr => ?_, _, rfl, h.put hd (RC.v _ rfl)⟩
    have hb := (hfr.block g q3 fun hr => q2 (.inr (.inr hr))).trans q4
    simp [Builtin.len_, run_underlying hu', goInt, MapKept.run_getObj_map hb, Result.andThen, hl]
  · rename_i e t' es hk
    cases hx with
    | sl _ _ k aa p n cap hn _ _ _ _ _ _ _ _ => subst hn; exact ⟨_, by intro w' Rd' _; simp [Builtin.len_, run_underlying (hs e hk), goInt], _, rfl, h.put hd (RC.v _ rfl)⟩
  · rename_i e b n t0 hk
    split at hp
    · rename_i bx hbx
      simp only [Res.mk1] at hp ⊢
      rcases hx.2.at rfl hbx hp with ⟨_, rfl, aa, rfl⟩ | ⟨g, c, hg, rfl, _⟩
      · exact ⟨_, by intro w' Rd' _; simp [Builtin.len_, run_underlying (hs e hk), goInt], _, rfl, h.put hd (RC.v _ rfl)⟩
      · exact ⟨_, by intro w' Rd' _; simp [Builtin.len_, run_underlying (hs e hk), goInt], _, rfl, h.put hd (RC.v _ rfl)⟩
    · exact hp.elim
  · rename_i e b n lo hi hk
    split at hp
    · rename_i bx hbx
      simp only [Res.mk1] at hp ⊢
      obtain ⟨_, _, aa, c, rfl, _⟩ := hx.2.at rfl hbx hp
      exact ⟨_, by intro w' Rd' _; simp [Builtin.len_, run_underlying (hs e hk), goInt], _, rfl, h.put hd (RC.v _ rfl)⟩
    · exact hp.elim
  · exact hp.elim

theorem min_ok (mx : Bool) (h : Good X s a w β cp Rd) {d : Option Nat} (hd : dstOK s.nt d) {ty : Nat} {ts : Array Nat} {l : List Operand} (hp : (minS mx (l.map s.ev) s d).1) :
    ∃ u, (∀ w, (match mx with | false => Builtin.min_ ts ty (l.map a.eval).toArray | true => Builtin.max_ ts ty (l.map a.eval).toArray).run P w = .ok u w) ∧ ∃ s', (minS mx (l.map s.ev) s d).2 s' ∧ Good X s' (a.put d u) w β cp Rd := by
  have key : ∀ o k n, s.ev o = .c (.v (.int k n)) → a.eval o = .int k n := by
    intro o k n he
    have := h.ev o
    rw [he] at this
    generalize a.eval o = v at this
    cases this; rfl
  unfold minS at hp ⊢
  split at hp
  · rename_i k m k' n he
    cases l with
    | nil => simp at he
    | cons o1 l => cases l with
    | nil => simp at he
    | cons o2 l => cases l with
    | cons o3 l => simp at he
    | nil =>
      simp only [List.map_cons, List.map_nil, List.cons.injEq, and_true] at he
      refine ⟨.int k (min m n), ?_, _, rfl, h.put hd (RC.v _ rfl)⟩
      intro w
      simp only [List.map_cons, List.map_nil, key _ _ _ he.1, key _ _ _ he.2, run_min_int2]
      congr 2
      omega
  · rename_i k m k' n he
    cases l with
    | nil => simp at he
    | cons o1 l => cases l with
    | nil => simp at he
    | cons o2 l => cases l with
    | cons o3 l => simp at he
    | nil =>
      simp only [List.map_cons, List.map_nil, List.cons.injEq, and_true] at he
      refine ⟨.int k (max m n), ?_, _, rfl, h.put hd (RC.v _ rfl)⟩
      intro w
      simp only [List.map_cons, List.map_nil, key _ _ _ he.1, key _ _ _ he.2, run_max_int2]
      congr 2
      omega
  · rename_i k m k' n k'' q he
    cases l with
    | nil => simp at he
    | cons o1 l => cases l with
    | nil => simp at he
    | cons o2 l => cases l with
    | nil => simp at he
    | cons o3 l => cases l with
    | cons o4 l => simp at he
    | nil =>
      simp only [List.map_cons, List.map_nil, List.cons.injEq, and_true] at he
      refine ⟨.int k (max (max m n) q), ?_, _, rfl, h.put hd (RC.v _ rfl)⟩
      intro w
      simp only [List.map_cons, List.map_nil, key _ _ _ he.1, key _ _ _ he.2.1, key _ _ _ he.2.2]
      simp [Builtin.max_, Builtin.max2]
      omega
  · exact hp.elim
end
end Go.VE
end
section
namespace Go.VE
open Go

/-- The type of a block's cells. -/
def tyAt (w : World) (g : Nat) : Option Nat := match w.heap[g]? with
  | some (.cells _ t _) => some t
  | _ => none
/-- As 'Fr', but blocks of some types may change. -/
structure FrT (E : Nat → Bool) (w : World) (Rd : Nat → Prop) (w' : World) (Rd' : Nat → Prop) : Prop where
  size : w.heap.size ≤ w'.heap.size
  block : ∀ g, g < w.heap.size → ¬ Rd g → (∀ t, tyAt w g = some t → E t = false) → w'.heap[g]? = w.heap[g]?
  rd : ∀ g, Rd' g → Rd g ∨ w.heap.size ≤ g
theorem FrT.refl {E : Nat → Bool} (w : World) (Rd : Nat → Prop) : FrT E w Rd w Rd := ⟨Nat.le_refl _, fun _ _ _ _ => rfl, fun _ h => .inl h⟩
theorem Fr.toT {E : Nat → Bool} {w w' : World} {Rd Rd' : Nat → Prop} (h : Fr w Rd w' Rd') : FrT E w Rd w' Rd' := ⟨h.size, fun g h1 h2 _ => h.block g h1 h2, h.rd⟩
theorem FrT.trans {E : Nat → Bool} {a b c : World} {R1 R2 R3 : Nat → Prop} (h : FrT E a R1 b R2) (k : FrT E b R2 c R3) : FrT E a R1 c R3 :=
  ⟨Nat.le_trans h.size k.size, fun g hg hr ht => by
      have e := h.block g hg hr ht
      have e2 : tyAt b g = tyAt a g := by unfold tyAt; rw [e]
      exact (k.block g (Nat.lt_of_lt_of_le hg h.size) (fun x => (h.rd g x).elim hr (fun y => by omega)) (by rw [e2]; exact ht)).trans e,
    fun g hg => (k.rd g hg).elim (fun x => h.rd g x) fun x => .inr (Nat.le_trans h.size x)⟩
theorem FrT.fr {w w' : World} {Rd Rd' : Nat → Prop} (h : FrT (fun _ => false) w Rd w' Rd') : Fr w Rd w' Rd' := ⟨h.size, fun g h1 h2 => h.block g h1 h2 fun _ _ => rfl, h.rd⟩
theorem FrT.mono {E E' : Nat → Bool} {w w' : World} {Rd Rd' : Nat → Prop} (h : FrT E w Rd w' Rd') (hE : ∀ t, E t = true → E' t = true) : FrT E' w Rd w' Rd' :=
  ⟨h.size, fun g h1 h2 h3 => h.block g h1 h2 fun t ht => (by
    have := h3 t ht
    cases he : E t with
    | false => rfl
    | true => rw [hE t he] at this; cases this), h.rd⟩
theorem frT_keeps {E : Nat → Bool} {w w' : World} {Rd : Nat → Prop} (h : Keeps (fun _ => False) w w') : FrT E w Rd w' Rd := ⟨h.size, fun g hg _ _ => h.block g hg fun x => x, fun _ h => .inl h⟩
theorem frT_row {e : Nat} {w w' : World} {Rd : Nat → Prop} {b : Option Nat} (h : Keeps (fun x => b = some x) w w') (hb : ∀ g, b = some g → ∃ cur, w.heap[g]? = some (.cells cur e (0, 0))) : FrT (fun x => x == e) w Rd w' Rd :=
  ⟨h.size, fun g hg _ ht => h.block g hg fun hx => (by
    obtain ⟨cur, hc⟩ := hb g hx
    have := ht e (by unfold tyAt; rw [hc])
    simp at this), fun _ h => .inl h⟩
def RelA (tt : Nat → Option TI) (t : Nat) (w0 : World) (Rd0 : Nat → Prop) (X : Cx) (s : St) (a : Act) (w : World) : Prop := ∃ β cp Rd, Good X s a w β cp Rd ∧ ∀ ti e, tt t = some ti → ti.kind = .slice e → FrT (fun x => x == e) w0 Rd0 w Rd

section
variable {P : Program} {tt : Nat → Option TI} {X : Cx} {s : St} {a : Act} {w : World} {β : Nat → Option Nat} {cp : Nat → Nat} {Rd : Nat → Prop}

theorem div_mod_row {q sz m : Nat} (hsz : 0 < sz) (hq : q < m * sz) : q / sz < m ∧ q % sz < sz ∧ q / sz * sz + q % sz = q :=
  ⟨Nat.div_lt_of_lt_mul (by rwa [Nat.mul_comm] at hq), Nat.mod_lt _ hsz, by rw [Nat.mul_comm]; exact Nat.div_add_mod q sz⟩

theorem row_lt {i j sz m : Nat} (hi : i < m) (hj : j < sz) : i * sz + j < m * sz := by
  have : (i + 1) * sz ≤ m * sz := Nat.mul_le_mul_right _ hi
  rw [Nat.succ_mul] at this
  omega

theorem row_div {i j sz : Nat} (hj : j < sz) : (i * sz + j) / sz = i ∧ (i * sz + j) % sz = j := by
  have hsz : 0 < sz := by omega
  refine ⟨?_, ?_⟩
  · rw [Nat.mul_comm, Nat.mul_add_div hsz, Nat.div_eq_of_lt hj, Nat.add_zero]
  · rw [Nat.mul_comm, Nat.mul_add_mod, Nat.mod_eq_of_lt hj]

/-- What is appended, in memory. -/
theorem src_ok (h : Good X s a w β cp Rd) {b : Nat} {v : Value} {y : AV} (hy : MA w (X.mt s β Rd) Rd (hOf s β cp) v y) {p : Prop} {ys : List (List C)} (hs : srcOf s b y = some (p, ys)) (hp : copyS.srcLen s y)
    {sz : Nat} (hsz : 0 < sz) (hys : ∀ e ∈ ys, e.length = sz) :
    pureEs ys ∧ ((∃ x c, v = .slice x 0 c ∧ ys = []) ∨ ∃ (ad : Addr) (c : Nat) (news : List Value), v = .slice (some ad) ys.length c ∧ news.length = ys.length * sz ∧ (∀ j u, news[j]? = some u → w.cell? (ad.add j) = some u) ∧
      (∀ u ∈ news, u.oneCell' = true) ∧ ∀ i j e c, ys[i]? = some e → e[j]? = some c → MC w (X.mt s β Rd) Rd (hOf s β cp) (news.getD (i * sz + j) undef) c) := by
  have mk : ∀ (ad : Addr) (c : Nat) (f : Nat → Value), (∀ i j e c, ys[i]? = some e → e[j]? = some c → w.cell? (ad.add (i * sz + j)) = some (f (i * sz + j)) ∧ RC w (X.mt s β Rd) (f (i * sz + j)) c) →
      ∃ (ad' : Addr) (c' : Nat) (news : List Value), Value.slice (some ad) ys.length c = .slice (some ad') ys.length c' ∧ news.length = ys.length * sz ∧ (∀ j u, news[j]? = some u → w.cell? (ad'.add j) = some u) ∧
      (∀ u ∈ news, u.oneCell' = true) ∧ ∀ i j e c, ys[i]? = some e → e[j]? = some c → MC w (X.mt s β Rd) Rd (hOf s β cp) (news.getD (i * sz + j) undef) c := by
    intro ad c f hf
    have get : ∀ q, q < ys.length * sz → ∃ i j e c, i * sz + j = q ∧ ys[i]? = some e ∧ e[j]? = some c := by
      intro q hq
      obtain ⟨h1, h2, h3⟩ := div_mod_row hsz hq
      have hel := hys ys[q / sz] (List.getElem_mem h1)
      exact ⟨q / sz, q % sz, ys[q / sz], ys[q / sz][q % sz]'(by omega), h3, List.getElem?_eq_getElem h1, List.getElem?_eq_getElem (by omega)⟩
    refine ⟨ad, c, (List.range (ys.length * sz)).map f, rfl, by simp, fun j u hj => ?_, fun u hu => ?_, fun i j e c he hc => ?_⟩
    · simp only [List.getElem?_map, Option.map_eq_some_iff] at hj
      obtain ⟨q, hq, rfl⟩ := hj
      have hql : j < ys.length * sz := by
        have := (List.getElem?_eq_some_iff.1 hq).1; simpa using this
      have hqj : q = j := by rw [List.getElem?_range hql] at hq; simpa using hq.symm
      subst hqj
      obtain ⟨i, j, e, c, rfl, he, hc⟩ := get _ hql
      exact (hf i j e c he hc).1
    · simp only [List.mem_map, List.mem_range] at hu
      obtain ⟨q, hq, rfl⟩ := hu
      obtain ⟨i, j, e, c, rfl, he, hc⟩ := get _ hq
      exact (hf i j e c he hc).2.one
    · have hil := (List.getElem?_eq_some_iff.1 he).1
      have hjl := (List.getElem?_eq_some_iff.1 hc).1
      rw [hys e (List.mem_of_getElem? he)] at hjl
      have hlt := row_lt (m := ys.length) hil hjl
      have : ((List.range (ys.length * sz)).map f).getD (i * sz + j) undef = f (i * sz + j) := by simp [hlt]
      rw [this]
      exact (hf i j e c he hc).2.mc
  -- a row of one's own, from a place on
  have own : ∀ (b' : Nat) (bx : Box) (lo : Nat), s.box b' = some bx → bx.row = true → (∀ i e, ys[i]? = some e → bx.es[lo + i]? = some e) → ∀ ad c, v = .slice (some ad) ys.length c → (ys ≠ [] → ∃ g, β b' = some g ∧ ad = ⟨g, lo * bx.k, none⟩) →
      pureEs ys ∧ ∃ (ad : Addr) (c : Nat) (news : List Value), v = .slice (some ad) ys.length c ∧ news.length = ys.length * sz ∧ (∀ j u, news[j]? = some u → w.cell? (ad.add j) = some u) ∧
      (∀ u ∈ news, u.oneCell' = true) ∧ ∀ i j e c, ys[i]? = some e → e[j]? = some c → MC w (X.mt s β Rd) Rd (hOf s β cp) (news.getD (i * sz + j) undef) c := by
    intro b' bx lo hbx hrow hget ad c hv had
    have hp : pureEs ys := fun e he cc hc => by
      obtain ⟨i, hi, rfl⟩ := List.getElem_of_mem he
      exact (h.boxes b' bx hbx).pure hrow _ (List.mem_of_getElem? (hget i _ (List.getElem?_eq_getElem hi))) cc hc
    refine ⟨hp, ?_⟩
    rcases (h.boxes b' bx hbx).two (.inl hrow) with ⟨q1, q2, q3⟩ | ⟨g, cur, h1, h2, h4, h5, h6, h7, h9, h8⟩
    · have : ys = [] := by
        cases ys with
        | nil => rfl
        | cons e r => have := hget 0 e rfl; rw [q2] at this; simp at this
      subst this
      rw [hv]
      exact ⟨ad, c, [], rfl, by simp, by simp, by simp, by simp⟩
    · rw [hv]
      refine mk ad c (fun q => cur.getD (lo * sz + q) undef) fun i j e cc he hcc => ?_
      have hne : ys ≠ [] := by rintro rfl; simp at he
      obtain ⟨g', hg', rfl⟩ := had hne
      rw [h1] at hg'; cases hg'
      have he' := hget i e he
      have hil := (List.getElem?_eq_some_iff.1 he').1
      have hjl := (List.getElem?_eq_some_iff.1 hcc).1
      have hk' : bx.k = sz := by rw [← h7 e (List.mem_of_getElem? he')]; exact hys e (List.mem_of_getElem? he)
      rw [hys e (List.mem_of_getElem? he)] at hjl
      have e1 : lo * sz + (i * sz + j) = (lo + i) * sz + j := by rw [Nat.add_mul]; omega
      refine ⟨?_, ?_⟩
      · rw [addr_add, cell_of_row w g _ cur bx.ty (0, 0) h2, hk', e1]
        have hlt := row_lt (m := bx.es.length) hil hjl
        have : bx.es.length * sz ≤ cp b' * sz := Nat.mul_le_mul_right _ h5
        have hlt2 : (lo + i) * sz + j < cur.size := by rw [h4, hk']; omega
        simp [hlt2]
      · have := h8 (lo + i) j e cc he' hcc
        rw [hk'] at this
        rw [e1]
        exact this.rc (hp e (List.mem_of_getElem? he) cc (List.mem_of_getElem? hcc))
  unfold srcOf at hs
  split at hs
  · simp only [Option.some.injEq, Prod.mk.injEq] at hs
    obtain ⟨_, rfl⟩ := hs
    cases hy with
    | v _ _ => exact ⟨fun e he => by simp at he, .inl ⟨none, 0, rfl, rfl⟩⟩
  · rename_i t0 ys
    simp only [Option.some.injEq, Prod.mk.injEq] at hs
    obtain ⟨_, rfl⟩ := hs
    cases hy with
    | sl t es k aa pp n cap hn ht hle hmax hk ha u hc hr =>
      have hpure : pureEs ys := fun e he cc hcc => by
        obtain ⟨i, hi, rfl⟩ := List.getElem_of_mem he
        obtain ⟨j, hj, rfl⟩ := List.getElem_of_mem hcc
        exact (hr i j _ _ (List.getElem?_eq_getElem hi) (List.getElem?_eq_getElem hj)).okR
      refine ⟨hpure, ?_⟩
      subst hn
      cases aa with
      | none =>
        have : ys = [] := by
          cases ys with
          | nil => rfl
          | cons e r => have := (ha (by simp)).1; cases this
        subst this
        exact .inl ⟨none, cap, rfl, rfl⟩
      | some ad =>
        refine .inr (mk ad cap (fun q => u (q / sz) (q % sz)) fun i j e c he hcc => ?_)
        have hne : ys ≠ [] := by rintro rfl; simp at he
        obtain ⟨e1, e2, _, _⟩ := ha hne
        cases e1
        have hjl := (List.getElem?_eq_some_iff.1 hcc).1
        rw [hys e (List.mem_of_getElem? he)] at hjl
        have hk' : k = sz := by rw [← hk e (List.mem_of_getElem? he)]; exact hys e (List.mem_of_getElem? he)
        subst hk'
        obtain ⟨d1, d2⟩ := row_div (i := i) hjl
        simp only [d1, d2]
        rw [addr_add' e2]
        exact ⟨hc i j e c he hcc, hr i j e c he hcc⟩
  · rename_i b' m t0
    split at hs
    · rename_i bx hbx
      split at hs
      · rename_i hrow
        simp only [Option.some.injEq, Prod.mk.injEq] at hs
        obtain ⟨hs1, rfl⟩ := hs
        simp only [copyS.srcLen, hbx] at hp
        rcases hy.2.at rfl hbx hp with ⟨hβ, hm0, aa, rfl⟩ | ⟨g, c, hg, rfl, _⟩
        · have he : bx.es = [] := List.eq_nil_of_length_eq_zero (by omega)
          exact ⟨by rw [he]; intro e h; simp at h, .inl ⟨aa, 0, rfl, he⟩⟩
        · obtain ⟨q1, q2⟩ := own b' bx 0 hbx hrow (fun i e he => by simpa using he) ⟨g, 0, none⟩ c (by rw [hp]) (fun _ => ⟨g, hg, by simp⟩)
          exact ⟨q1, .inr q2⟩
      · cases hs
    · cases hs
  · rename_i b' m lo hi
    split at hs
    · rename_i bx hbx
      split at hs
      · rename_i hrow
        simp only [Option.some.injEq, Prod.mk.injEq] at hs
        obtain ⟨hs1, rfl⟩ := hs
        simp only [copyS.srcLen, hbx] at hp
        obtain ⟨v1, v2, aa, c, rfl, v3, v4, v5⟩ := hy.2.at rfl hbx hp
        have hl : ((bx.es.take hi).drop lo).length = hi - lo := by simp; omega
        have hget : ∀ i e, ((bx.es.take hi).drop lo)[i]? = some e → bx.es[lo + i]? = some e := fun i e he => by
          rw [List.getElem?_drop, List.getElem?_take] at he
          split at he
          · exact he
          · cases he
        have hpure : pureEs ((bx.es.take hi).drop lo) := fun e he cc hc => (h.boxes b' bx hbx).pure hrow e (List.mem_of_mem_take (List.mem_of_mem_drop he)) cc hc
        by_cases hlt : lo < hi
        · obtain ⟨g, hg, rfl⟩ := v5 hlt
          obtain ⟨q1, q2⟩ := own b' bx lo hbx hrow hget ⟨g, lo * bx.k, none⟩ c (by rw [hl]) (fun _ => ⟨g, hg, rfl⟩)
          exact ⟨q1, .inr q2⟩
        · have e0 : hi - lo = 0 := by omega
          exact ⟨hpure, .inl ⟨aa, c, by rw [e0], List.eq_nil_of_length_eq_zero (by omega)⟩⟩
      · cases hs
    · cases hs
  · cases hs

theorem append_zero {t ty e : Nat} {i : TypeInfo} (ht : P.underlying t = some (.slice e)) (hi : P.info? e = some i) (b : Option Addr) (n cap : Nat) (hle : n ≤ cap) (x : Option Addr) (c : Nat) :
    (Builtin.append_ #[t, t] ty #[.slice b n cap, .slice x 0 c]).run P w = .ok (.slice b n cap) w := by
  cases x <;> cases b <;> simp [Builtin.append_, run_underlying ht, sizeOf, typeInfo, hi, Builtin.lenOf, Builtin.firstCells, hle, storeCells, loadCells, loadCellsFrom]

/-- An append that makes a new block. -/
theorem append_grow {t ty e : Nat} {te : TI} (hte : TIok P e te) (ht : P.underlying t = some (.slice e)) {n m cap : Nat} {A : Option Addr} {olds : List Value}
    (hA : (A = none ∧ n = 0 ∧ cap = 0) ∨ ∃ ad, A = some ad ∧ ∀ j u, olds[j]? = some u → w.cell? (ad.add j) = some u) (ho : olds.length = n * te.sz) (hn : n ≤ cap) (hcap : cap < n + m)
    {ad : Addr} {c : Nat} {news : List Value} (hl : news.length = m * te.sz) (hnews : ∀ j u, news[j]? = some u → w.cell? (ad.add j) = some u) (hm : 0 < m)
    (hb : (n + m) * te.bytes ≤ 140737488355328) (h63 : n + m ≤ 4611686018427387904) :
    ∃ w' cap' cur', (Builtin.append_ #[t, t] ty #[.slice A n cap, .slice (some ad) m c]).run P w = .ok (.slice (some ⟨w.heap.size, 0, none⟩) (n + m) cap') w' ∧
      Keeps (fun _ => False) w w' ∧ w'.heap[w.heap.size]? = some (.cells cur' e (0, 0)) ∧ cur'.size = cap' * te.sz ∧ n + m ≤ cap' ∧ cap' ≤ maxLen ∧
      (∀ q, q < n * te.sz → cur'.getD q undef = olds.getD q undef) ∧ ∀ q, q < m * te.sz → cur'.getD (n * te.sz + q) undef = news.getD q undef := by
  obtain ⟨i, z, hi, hs, hby, hz, hzl⟩ := hte.info
  have hzs : z.cells.size = te.sz := by rw [← hte.zlen, ← hzl]; simp
  have hmax : n + m ≤ maxLen := by simp only [maxLen]; omega
  have grown : ∀ (old : Nat) (w1 : World), w1 = w.drew.alloc (.cells (olds.toArray ++ news.toArray ++ Builtin.zeroCells z.cells (grownCap w (n + m) old e - (n + m))) e) →
      Keeps (fun _ => False) w w1 ∧ w1.heap[w.heap.size]? = some (.cells (olds.toArray ++ news.toArray ++ Builtin.zeroCells z.cells (grownCap w (n + m) old e - (n + m))) e (0, 0)) ∧
      (olds.toArray ++ news.toArray ++ Builtin.zeroCells z.cells (grownCap w (n + m) old e - (n + m))).size = grownCap w (n + m) old e * te.sz ∧ n + m ≤ grownCap w (n + m) old e ∧ grownCap w (n + m) old e ≤ maxLen ∧
      (∀ q, q < n * te.sz → (olds.toArray ++ news.toArray ++ Builtin.zeroCells z.cells (grownCap w (n + m) old e - (n + m))).getD q undef = olds.getD q undef) ∧
      ∀ q, q < m * te.sz → (olds.toArray ++ news.toArray ++ Builtin.zeroCells z.cells (grownCap w (n + m) old e - (n + m))).getD (n * te.sz + q) undef = news.getD q undef := by
    rintro old w1 rfl
    have hge := grownCap_ge w (n + m) old e
    have hcm : grownCap w (n + m) old e ≤ maxLen := grownCap_le_maxLen w (n + m) old e hmax
    refine ⟨⟨rfl, rfl, ⟨rfl, trivial⟩, by simp, fun x hx _ => heap_alloc_old w.drew _ hx⟩, heap_alloc_new w.drew _, ?_, hge, hcm, fun q hq => ?_, fun q hq => ?_⟩
    · simp only [Array.size_append, List.size_toArray, size_zeroCells, hzs, ho, hl, ← Nat.add_mul]
      congr 1
      omega
    · have h2 : q < olds.length := by omega
      simp only [Array.getD_eq_getD_getElem?, List.getD_eq_getElem?_getD, Array.getElem?_append, Array.size_append, List.size_toArray]
      rw [if_pos (by omega), if_pos h2]
      simp
    · have h2 : q < news.length := by omega
      simp only [Array.getD_eq_getD_getElem?, List.getD_eq_getElem?_getD, Array.getElem?_append, Array.size_append, List.size_toArray]
      rw [if_pos (by omega), if_neg (by omega), ho, Nat.add_sub_cancel_left]
      simp
  rcases hA with ⟨rfl, rfl, rfl⟩ | ⟨ad', rfl, holds⟩
  · have hol : olds = [] := List.eq_nil_of_length_eq_zero (by omega)
    subst hol
    have hr := run_append_nil (P := P) w t ty e i z ht hi hz ad m c news (by rw [hs]; exact hl) hnews hm (by omega) (by rw [hby]; simp only [Nat.zero_add] at hb; omega)
    obtain ⟨g1, g2, g3, g4, g5, g6, g7⟩ := grown 0 _ rfl
    have e1 : ([] : List Value).toArray ++ news.toArray = news.toArray := by simp
    rw [e1] at g1 g2 g3 g6 g7
    refine ⟨_, _, _, ?_, g1, g2, g3, g4, g5, g6, g7⟩
    simp only [Nat.zero_add]
    exact hr
  · have hr := run_append_grow (P := P) w t ty e i z ht hi hz ad' n cap olds (by rw [hs]; exact ho) holds ad m c news (by rw [hs]; exact hl) hnews (by omega) (by omega) (growslice_fits (by omega) (by rw [hby]; exact hb))
    obtain ⟨g1, g2, g3, g4, g5, g6, g7⟩ := grown cap _ rfl
    exact ⟨_, _, _, hr, g1, g2, g3, g4, g5, g6, g7⟩

/-- Behind an append onto a row of one's own. -/
theorem append_core {t ty e : Nat} {te : TI} (hte : TIok P e te) (ht : P.underlying t = some (.slice e)) {n m c0 cp0 : Nat} {A : Option Addr} {g : Option Nat} {cur : Array Value}
    (hbase : (g = none ∧ n = 0 ∧ c0 = 0) ∨ ∃ g', g = some g' ∧ A = some ⟨g', 0, none⟩ ∧ w.heap[g']? = some (.cells cur e (0, 0)) ∧ cur.size = cp0 * te.sz) (hn : n ≤ c0) (hc0 : c0 ≤ cp0) (hcp : cp0 ≤ maxLen)
    {ad : Addr} {c : Nat} {news : List Value} (hl : news.length = m * te.sz) (hnews : ∀ j u, news[j]? = some u → w.cell? (ad.add j) = some u) (h1 : ∀ u ∈ news, u.oneCell' = true) (hm : 0 < m)
    (hb : (n + m) * te.bytes ≤ 140737488355328) (h63 : n + m ≤ 4611686018427387904) :
    ∃ w' g' c' cp' cur', (Builtin.append_ #[t, t] ty #[.slice A n c0, .slice (some ad) m c]).run P w = .ok (.slice (some ⟨g', 0, none⟩) (n + m) c') w' ∧
      Keeps (fun x => g = some x) w w' ∧ (w.heap.size ≤ g' ∨ g = some g') ∧ w'.heap[g']? = some (.cells cur' e (0, 0)) ∧ cur'.size = cp' * te.sz ∧ n + m ≤ c' ∧ c' ≤ cp' ∧ cp' ≤ maxLen ∧
      (∀ q, q < n * te.sz → cur'.getD q undef = cur.getD q undef) ∧ ∀ q, q < m * te.sz → cur'.getD (n * te.sz + q) undef = news.getD q undef := by
  obtain ⟨i, z, hi, hs, hby, hz, hzl⟩ := hte.info
  rcases hbase with ⟨rfl, rfl, rfl⟩ | ⟨g', rfl, rfl, hg, hcs⟩
  · have hA : (A = none ∧ 0 = 0 ∧ 0 = 0) ∨ ∃ ad, A = some ad ∧ ∀ j u, ([] : List Value)[j]? = some u → w.cell? (ad.add j) = some u := by
      cases A with
      | none => exact .inl ⟨rfl, rfl, rfl⟩
      | some x => exact .inr ⟨x, rfl, by simp⟩
    obtain ⟨w', cap', cur', r1, r2, r3, r4, r5, r6, r7, r8⟩ := append_grow (ty := ty) hte ht hA (by simp) (Nat.le_refl _) (by omega) hl hnews hm hb h63
    exact ⟨w', _, cap', cap', cur', r1, r2.mono (fun _ _ h => h.elim), .inl (Nat.le_refl _), r3, r4, r5, Nat.le_refl _, r6, fun q hq => by omega, r8⟩
  · have hlen : cur.toList.length = cp0 * te.sz := by simpa using hcs
    have hnc : n * te.sz ≤ cp0 * te.sz := Nat.mul_le_mul_right _ (by omega)
    by_cases hroom : n + m ≤ c0
    · have hfit : n * i.size + news.length ≤ cur.size := by rw [hs, hl, hcs, ← Nat.add_mul]; exact Nat.mul_le_mul_right _ (by omega)
      have hr := run_append_room (P := P) w t ty e i ht hi g' n c0 cur hg ad m c news (by rw [hs]; exact hl) hnews h1 hroom hfit
      rw [hs] at hr hfit
      refine ⟨_, g', c0, cp0, _, hr, ⟨rfl, rfl, ⟨rfl, trivial⟩, by simp, fun x _ hx => setRow_other w g' x _ (fun e => hx (by rw [e]))⟩, .inr rfl, setRow_heap w g' cur _ e _ hg, ?_, hroom, hc0, hcp, fun q hq => ?_, fun q hq => ?_⟩
      · simp only [List.size_toArray, List.length_append, List.length_take, List.length_drop, hlen]
        omega
      · simp only [Array.getD_eq_getD_getElem?, List.getElem?_toArray, List.getElem?_append, List.length_append, List.length_take, hlen]
        rw [if_pos (by omega), if_pos (by omega), List.getElem?_take, if_pos hq]
        simp
      · simp only [Array.getD_eq_getD_getElem?, List.getD_eq_getElem?_getD, List.getElem?_toArray, List.getElem?_append, List.length_append, List.length_take, hlen]
        rw [if_pos (by omega), if_neg (by omega)]
        congr 2
        omega
    · have holds : ∀ j u, (cur.toList.take (n * te.sz))[j]? = some u → w.cell? ((⟨g', 0, none⟩ : Addr).add j) = some u := by
        intro j u hj
        rw [List.getElem?_take] at hj
        split at hj
        · rw [addr_add, cell_of_row w g' _ cur e (0, 0) hg]
          simpa using hj
        · cases hj
      have hol : (cur.toList.take (n * te.sz)).length = n * te.sz := by rw [List.length_take, hlen]; omega
      obtain ⟨w', cap', cur', r1, r2, r3, r4, r5, r6, r7, r8⟩ := append_grow (ty := ty) hte ht (.inr ⟨_, rfl, holds⟩) hol hn (by omega) hl hnews hm hb h63
      refine ⟨w', _, cap', cap', cur', r1, r2.mono (fun _ _ h => h.elim), .inl (Nat.le_refl _), r3, r4, r5, Nat.le_refl _, r6, fun q hq => ?_, r8⟩
      rw [r7 q hq]
      simp only [Array.getD_eq_getD_getElem?, List.getD_eq_getElem?_getD, List.getElem?_take, if_pos hq]; simp

theorem srcLen_of {b : Nat} {y : AV} {p : Prop} {ys : List (List C)} (hs : srcOf s b y = some (p, ys)) (hp : p) : copyS.srcLen s y := by
  unfold srcOf at hs
  split at hs
  · trivial
  · trivial
  · rename_i b' m t0
    split at hs
    · rename_i bx hbx
      split at hs
      · simp only [Option.some.injEq, Prod.mk.injEq] at hs
        rw [← hs.1] at hp
        simp only [copyS.srcLen, hbx]; exact hp.1
      · cases hs
    · cases hs
  · rename_i b' m lo hi
    split at hs
    · rename_i bx hbx
      split at hs
      · simp only [Option.some.injEq, Prod.mk.injEq] at hs
        rw [← hs.1] at hp
        simp only [copyS.srcLen, hbx]; exact hp.1
      · cases hs
    · cases hs
  · cases hs

theorem append_zero' {t ty e : Nat} {i : TypeInfo} (ht : P.underlying t = some (.slice e)) (hi : P.info? e = some i) (b : Option Addr) (n cap : Nat) (hle : n ≤ cap) {v' : Value} {x : Option Addr} {c : Nat} (hv : v' = .slice x 0 c) :
    (Builtin.append_ #[t, t] ty #[.slice b n cap, v']).run P w = .ok (.slice b n cap) w := by rw [hv]; exact append_zero ht hi b n cap hle x c

theorem append_ok (ht : TTok P tt) (h : Good X s a w β cp Rd) {d : Option Nat} (hd : dstOK s.nt d) {nid : Nat} (hf : ¬ s.keyed nid) (hnx : nid < s.nx) {t t' ty : Nat} {v v' : Value} {x y : AV} (hx : MA w (X.mt s β Rd) Rd (hOf s β cp) v x)
    (hy : MA w (X.mt s β Rd) Rd (hOf s β cp) v' y) (hp : (appendS tt nid t t' x y s d).1) :
    ∃ u w', (Builtin.append_ #[t, t'] ty #[v, v']).run P w = .ok u w' ∧ ∃ s', (appendS tt nid t t' x y s d).2 s' ∧ RelA tt t w Rd X s' (a.put d u) w' := by
  -- a new row that begins with 'es'
  have fresh : ∀ (te : TI) (e : Nat) (es ys : List (List C)) (n : Nat), TIok P e te → n = es.length → pureEs es → pureEs ys → (∀ e ∈ es, e.length = te.sz) → (∀ e ∈ ys, e.length = te.sz) → ∀ (olds news : List Value) (w' : World) (cap' : Nat) (cur' : Array Value),
      Keeps (fun _ => False) w w' → w'.heap[w.heap.size]? = some (.cells cur' e (0, 0)) → cur'.size = cap' * te.sz → n + ys.length ≤ cap' → cap' ≤ maxLen →
      (∀ q, q < n * te.sz → cur'.getD q undef = olds.getD q undef) → (∀ q, q < ys.length * te.sz → cur'.getD (n * te.sz + q) undef = news.getD q undef) →
      (∀ i j e c, es[i]? = some e → e[j]? = some c → MC w (X.mt s β Rd) Rd (hOf s β cp) (olds.getD (i * te.sz + j) undef) c) →
      (∀ i j e c, ys[i]? = some e → e[j]? = some c → MC w (X.mt s β Rd) Rd (hOf s β cp) (news.getD (i * te.sz + j) undef) c) →
      RelA tt t w Rd X ((s.setBox nid (some { es := es ++ ys, k := te.sz, ty := e, row := true, fz := false })).put d (.c (.own nid (n + ys.length) false))) (a.put d (.slice (some ⟨w.heap.size, 0, none⟩) (n + ys.length) cap')) w' := by
    rintro te e es ys n hT rfl hpe hpy hes hys olds news w' cap' cur' r2 r3 r4 r5 r6 r7 r8 ho hm
    refine ⟨_, _, _, (h.upd (w' := w') nid ⟨es ++ ys, te.sz, e, true, false⟩ (some w.heap.size) cap' hnx (.inl hf) (r2.mono fun _ _ h => h.elim) (fun x hx => by cases hx; exact .inl (Nat.le_refl _))
      (.inr ⟨_, cur', rfl, r3, r4, by simp; omega, r6, ?_, fun _ => ?_, ?_⟩)).put (by simpa [St.setBox] using hd) ⟨rfl, hOf.mk rfl (St.box_set_same _ _ _) (by simp) fun _ => .inr ⟨_, cap', upd_same _ _ _, rfl, r5, by rw [upd_same]; exact Nat.le_refl _, fun h => by cases h⟩⟩, fun _ _ _ _ => frT_keeps r2⟩
    · intro el hel
      rcases List.mem_append.1 hel with h1 | h1
      · exact hes el h1
      · exact hys el h1
    · intro el hel
      rcases List.mem_append.1 hel with h1 | h1
      · exact hpe el h1
      · exact hpy el h1
    · intro i j el cc he hc
      simp only [List.getElem?_append] at he
      split at he
      · rename_i hlt
        have hjl := (List.getElem?_eq_some_iff.1 hc).1
        rw [hes el (List.mem_of_getElem? he)] at hjl
        rw [r7 _ (row_lt hlt hjl)]
        exact ho i j el cc he hc
      · rename_i hlt
        have hil := (List.getElem?_eq_some_iff.1 he).1
        have hjl := (List.getElem?_eq_some_iff.1 hc).1
        rw [hys el (List.mem_of_getElem? he)] at hjl
        have hq := row_lt hil hjl
        have e1 : i * te.sz + j = es.length * te.sz + ((i - es.length) * te.sz + j) := by
          rw [← Nat.add_assoc, ← Nat.add_mul]; congr 2; omega
        rw [e1, r8 _ hq]
        exact hm _ j el cc he hc
  -- a new row without an array
  have empty : ∀ (te : TI) (e : Nat) (A : Option Addr), RelA tt t w Rd X ((s.setBox nid (some { es := [], k := te.sz, ty := e, row := true, fz := false })).put d (.c (.own nid 0 false))) (a.put d (.slice A 0 0)) w := fun te e A =>
    ⟨_, _, _, (h.upd (w' := w) nid ⟨[], te.sz, e, true, false⟩ none 0 hnx (.inl hf) (Keeps.refl _ w) (fun g hg => by cases hg) (.inl ⟨rfl, rfl, rfl⟩)).put
      (by simpa [St.setBox] using hd) ⟨rfl, hOf.mk rfl (St.box_set_same _ _ _) (Nat.le_refl _) fun _ => .inl ⟨upd_same _ _ _, rfl, _, rfl⟩⟩, fun _ _ _ _ => FrT.refl _ _⟩
  unfold appendS at hp ⊢
  split at hp
  · rename_i ti b n t0 hti
    split at hp
    · rename_i e bx p ys hk hbx hsrc
      split at hp
      · rename_i te hte
        simp only [Res.mk1] at hp ⊢
        obtain ⟨rfl, hpp, hn, hrow, hfz, hbk, hbt, hsz, hys, hbytes, h63⟩ := hp
        have hu := (ht t' ti hti).slice hk
        have hT := ht e te hte
        obtain ⟨i, z, hi, _⟩ := hT.info
        have hbl : b < s.nx := h.fresh b (hx.2.keyed rfl)
        have old' := h.boxes b bx hbx
        have old := old'.two (.inl hrow)
        have hV := hx.2.at rfl hbx hn
        have hple : ∃ A c0, v = .slice A n c0 ∧ n ≤ c0 := by
          rcases hV with ⟨_, rfl, aa, rfl⟩ | ⟨g, c, _, rfl, q, _⟩
          · exact ⟨aa, 0, rfl, Nat.le_refl _⟩
          · exact ⟨_, c, rfl, q⟩
        have same : ys = [] → ∀ x c, v' = .slice x 0 c → ∃ u w', (Builtin.append_ #[t', t'] ty #[v, v']).run P w = .ok u w' ∧ ∃ s', s' = (s.setBox b (some { bx with es := bx.es ++ ys })).put d (.c (.own b (n + ys.length) false)) ∧ RelA tt t' w Rd X s' (a.put d u) w' := by
          rintro rfl x c hvv
          obtain ⟨A, c0, rfl, hle⟩ := hple
          have hG := h.updM (w' := w) b { bx with es := bx.es ++ [] } (β b) (cp b) hbl (.inr ⟨bx, hbx, fun _ => hfz, .inl ⟨by simp, rfl, rfl, rfl⟩⟩) (Keeps.refl _ w) (fun g hg => .inr ⟨bx, hbx, hg⟩) (by simpa using old')
          refine ⟨_, w, append_zero' hu hi _ _ _ hle hvv, _, rfl, _, _, _, hG.put (x := .c (.own b (n + ([] : List (List C)).length) false)) (by simpa [St.setBox] using hd) ⟨rfl, hOf.mk rfl (St.box_set_same _ _ _) (by simp [hn]) fun _ => ?_⟩, fun _ _ _ _ => FrT.refl _ _⟩
          rw [upd_same, upd_same]
          rcases hV with ⟨q1, q2, aa, q3⟩ | ⟨g, c, q1, q2, q3, q4, _⟩
          · exact .inl ⟨q1, by simp [q2], aa, q2 ▸ q3⟩
          · exact .inr ⟨g, c, q1, by simpa using q2, by simpa using q3, q4, fun h => by cases h⟩
        obtain ⟨hpy, hsrc2⟩ := src_ok h hy hsrc (srcLen_of hsrc hpp) hsz hys
        rcases hsrc2 with ⟨x, c, rfl, hnil⟩ | ⟨ad, c, news, rfl, hl, hnews, hone, hmc⟩
        · exact same hnil x c rfl
        by_cases hm : ys.length = 0
        · exact same (List.eq_nil_of_length_eq_zero hm) _ c (by rw [hm])
        have hrest : ∀ (A : Option Addr) (c0 : Nat) (cur : Array Value), v = .slice A n c0 → ((β b = none ∧ n = 0 ∧ c0 = 0) ∨ ∃ g', β b = some g' ∧ A = some ⟨g', 0, none⟩ ∧ w.heap[g']? = some (.cells cur e (0, 0)) ∧ cur.size = cp b * te.sz ∧ c0 ≤ cp b ∧ cp b ≤ maxLen) → n ≤ c0 →
            (∀ e ∈ bx.es, e.length = te.sz) → (∀ i j e c, bx.es[i]? = some e → e[j]? = some c → MC w (X.mt s β Rd) Rd (hOf s β cp) (cur.getD (i * te.sz + j) undef) c) →
            ∃ u w', (Builtin.append_ #[t', t'] ty #[v, .slice (some ad) ys.length c]).run P w = .ok u w' ∧ ∃ s', s' = (s.setBox b (some { bx with es := bx.es ++ ys })).put d (.c (.own b (n + ys.length) false)) ∧ RelA tt t' w Rd X s' (a.put d u) w' := by
          intro A c0 cur hvv hbase hnc hes hcells
          have hb2 : ∃ cp0, ((β b = none ∧ n = 0 ∧ c0 = 0) ∨ ∃ g', β b = some g' ∧ A = some ⟨g', 0, none⟩ ∧ w.heap[g']? = some (.cells cur e (0, 0)) ∧ cur.size = cp0 * te.sz) ∧ c0 ≤ cp0 ∧ cp0 ≤ maxLen := by
            rcases hbase with ⟨q1, q2, q3⟩ | ⟨g', q1, q2, q3, q4, q5, q6⟩
            · exact ⟨c0, .inl ⟨q1, q2, q3⟩, Nat.le_refl _, by rw [q3]; simp [maxLen]⟩
            · exact ⟨cp b, .inr ⟨g', q1, q2, q3, q4⟩, q5, q6⟩
          obtain ⟨cp0, hb3, hc0, hcpm⟩ := hb2
          obtain ⟨w', g', c', cp', cur', r1, r2, r3, r4, r5, r6, r7, r10, r8, r9⟩ := append_core (ty := ty) hT hu hb3 hnc hc0 hcpm hl hnews hone (Nat.pos_of_ne_zero hm) hbytes h63
          refine ⟨_, w', by rw [hvv]; exact r1, _, rfl, _, _, _, (h.upd (w' := w') b _ (some g') cp' hbl (.inr ⟨bx, hbx, fun _ => hfz, .inr (by simp; omega)⟩)
            (r2.mono fun x _ hx => ⟨bx, hbx, hfz, hx⟩) (fun x hx => ?_) (.inr ⟨g', cur', rfl, by rw [hbt]; exact r4, by rw [hbk]; exact r5, ?_, r10, ?_, ?_, ?_⟩)).put (by simpa [St.setBox] using hd)
              ⟨rfl, hOf.mk rfl (St.box_set_same _ _ _) (by simp [hn]) fun _ => .inr ⟨g', c', upd_same _ _ _, rfl, r6, by rw [upd_same]; exact r7, fun h => by cases h⟩⟩, fun ti' e' q1 q2 => by
                rw [hti] at q1; cases q1; rw [hk] at q2; cases q2
                refine frT_row r2 fun g0 hg0 => ?_
                rcases hb3 with ⟨q3, _⟩ | ⟨g1, q3, _, q4, _⟩
                · rw [q3] at hg0; cases hg0
                · rw [q3] at hg0; cases hg0; exact ⟨_, q4⟩⟩
          · cases hx
            rcases r3 with h1 | h1
            · exact .inl h1
            · exact .inr ⟨bx, hbx, h1⟩
          · simp; omega
          · intro el hel
            rcases List.mem_append.1 hel with h1 | h1
            · rw [hes el h1]; exact hbk.symm
            · rw [hys el h1]; exact hbk.symm
          · intro _ el hel
            rcases List.mem_append.1 hel with h1 | h1
            · exact old'.pure hrow el h1
            · exact hpy el h1
          · intro i j el cc he hc
            simp only [List.getElem?_append] at he
            simp only [hbk]
            split at he
            · rename_i hlt
              have hjl := (List.getElem?_eq_some_iff.1 hc).1
              rw [hes el (List.mem_of_getElem? he)] at hjl
              rw [r8 _ (by rw [hn]; exact row_lt hlt hjl)]
              exact hcells i j el cc he hc
            · rename_i hlt
              have hil := (List.getElem?_eq_some_iff.1 he).1
              have hjl := (List.getElem?_eq_some_iff.1 hc).1
              rw [hys el (List.mem_of_getElem? he)] at hjl
              have hq := row_lt hil hjl
              have e1 : i * te.sz + j = n * te.sz + ((i - bx.es.length) * te.sz + j) := by
                rw [← Nat.add_assoc, ← Nat.add_mul]; congr 2; omega
              rw [e1, r9 _ hq]
              exact hmc _ j el cc he hc
        rcases old with ⟨h1, h2, h3⟩ | ⟨g, cur, h1, h2, h4, h5, h6, h7, h9, h8⟩
        · rcases hV with ⟨_, q2, aa, q3⟩ | ⟨g, c, q1, _⟩
          · exact hrest aa 0 #[] (q2 ▸ q3) (.inl ⟨h1, q2, rfl⟩) (by omega) (by simp [h2]) (by simp [h2])
          · rw [h1] at q1; cases q1
        · rcases hV with ⟨q1, _⟩ | ⟨g', c, q1, q2, q3, q4, _⟩
          · rw [q1] at h1; cases h1
          · rw [h1] at q1; cases q1
            exact hrest _ c cur q2 (.inr ⟨g, h1, rfl, by rw [← hbt]; exact h2, by rw [← hbk]; exact h4, q4, h6⟩) q3 (by rw [← hbk]; exact h7) (by rw [← hbk]; exact h8)
      · exact hp.elim
    · exact hp.elim
  · rename_i ti hti
    split at hp
    · rename_i e p ys hk hsrc
      split at hp
      · rename_i te hte
        simp only [Res.mk1] at hp ⊢
        obtain ⟨rfl, hpp, hsz, hys, hbytes, h63⟩ := hp
        have hu := (ht t' ti hti).slice hk
        have hT := ht e te hte
        obtain ⟨i, z, hi, _⟩ := hT.info
        cases hx with
        | v _ _ =>
        obtain ⟨hpy, hsrc2⟩ := src_ok h hy hsrc (srcLen_of hsrc hpp) hsz hys
        rcases hsrc2 with ⟨x, c, rfl, hnil⟩ | ⟨ad, c, news, rfl, hl, hnews, hone, hmc⟩
        · subst hnil
          exact ⟨_, w, append_zero hu hi _ _ _ (Nat.le_refl _) _ _, _, rfl, empty te e none⟩
        by_cases hm : ys.length = 0
        · have := List.eq_nil_of_length_eq_zero hm
          subst this
          exact ⟨_, w, append_zero hu hi _ _ _ (Nat.le_refl _) _ _, _, rfl, empty te e none⟩
        obtain ⟨w', cap', cur', r1, r2, r3, r4, r5, r6, r7, r8⟩ := append_grow (ty := ty) (A := none) (n := 0) (cap := 0) (olds := []) hT hu (.inl ⟨rfl, rfl, rfl⟩) (by simp) (Nat.le_refl _) (by omega) hl hnews (Nat.pos_of_ne_zero hm) (by simpa using hbytes) (by simpa using h63)
        refine ⟨_, w', r1, _, rfl, ?_⟩
        have := fresh te e [] ys 0 hT rfl (fun _ h => by simp at h) hpy (by simp) hys [] news w' cap' cur' r2 r3 r4 r5 r6 r7 r8 (by simp) hmc
        simpa using this
      · exact hp.elim
    · exact hp.elim
  · rename_i ti es hti
    split at hp
    · rename_i e p ys hk hsrc
      split at hp
      · rename_i te hte
        simp only [Res.mk1] at hp ⊢
        obtain ⟨rfl, hpp, hsz, hes, hys, hcase, hbytes, h63⟩ := hp
        have hu := (ht t' ti hti).slice hk
        have hT := ht e te hte
        obtain ⟨i, z, hi, _⟩ := hT.info
        obtain ⟨hpy, hsrc2⟩ := src_ok h hy hsrc (srcLen_of hsrc hpp) hsz hys
        have hxs : srcOf s nid (.c (.sl true es)) = some (True, es) := rfl
        obtain ⟨hpe, hold⟩ := src_ok h hx hxs trivial hsz hes
        have hcap : ∃ A, v = .slice A es.length es.length := by
          cases hx with
          | sl _ _ k aa p n cap hn ht' hle hmax hk ha u hc hr => subst hn; rw [ht' rfl]; exact ⟨aa, rfl⟩
        obtain ⟨A, rfl⟩ := hcap
        have zero : ys = [] → ∀ x c, v' = .slice x 0 c → ∃ u w', (Builtin.append_ #[t', t'] ty #[.slice A es.length es.length, v']).run P w = .ok u w' ∧ ∃ s', s' = (s.setBox nid (some { es := es ++ ys, k := te.sz, ty := e, row := true, fz := false })).put d (.c (.own nid (es.length + ys.length) false)) ∧ RelA tt t' w Rd X s' (a.put d u) w' := by
          rintro rfl x c rfl
          have he : es = [] := hcase.resolve_right (fun h => h rfl)
          subst he
          exact ⟨_, w, append_zero hu hi _ _ _ (Nat.le_refl _) _ _, _, rfl, empty te e A⟩
        rcases hsrc2 with ⟨x, c, rfl, hnil⟩ | ⟨ad, c, news, rfl, hl, hnews, hone, hmc⟩
        · exact zero hnil x c rfl
        by_cases hm : ys.length = 0
        · exact zero (List.eq_nil_of_length_eq_zero hm) _ c (by rw [hm])
        have hold2 : ∃ olds : List Value, ((A = none ∧ es.length = 0 ∧ es.length = 0) ∨ ∃ ad, A = some ad ∧ ∀ j u, olds[j]? = some u → w.cell? (ad.add j) = some u) ∧ olds.length = es.length * te.sz ∧
            ∀ i j e c, es[i]? = some e → e[j]? = some c → MC w (X.mt s β Rd) Rd (hOf s β cp) (olds.getD (i * te.sz + j) undef) c := by
          rcases hold with ⟨x, c', q1, q2⟩ | ⟨ad', c', olds, q1, q2, q3, q4, q5⟩
          · subst q2
            cases A with
            | none => exact ⟨[], .inl ⟨rfl, rfl, rfl⟩, by simp, by simp⟩
            | some x => exact ⟨[], .inr ⟨x, rfl, by simp⟩, by simp, by simp⟩
          · cases q1
            exact ⟨olds, .inr ⟨ad', rfl, q3⟩, q2, q5⟩
        obtain ⟨olds, hA, hol, hom⟩ := hold2
        obtain ⟨w', cap', cur', r1, r2, r3, r4, r5, r6, r7, r8⟩ := append_grow (ty := ty) hT hu hA hol (Nat.le_refl _) (by omega) hl hnews (Nat.pos_of_ne_zero hm) hbytes h63
        exact ⟨_, w', r1, _, rfl, fresh te e es ys _ hT rfl hpe hpy hes hys olds news w' cap' cur' r2 r3 r4 r5 r6 r7 r8 hom hmc⟩
      · exact hp.elim
    · exact hp.elim
  · exact hp.elim
end
end Go.VE
end
section
namespace Go.VE
open Go

theorem over_length {e : List C} {off : Nat} {cs : List C} (h : off + cs.length ≤ e.length) : (over e off cs).length = e.length := by
  simp only [over, List.length_append, List.length_take, List.length_drop]; omega

theorem over_get {e : List C} {off : Nat} {cs : List C} (h : off + cs.length ≤ e.length) (j : Nat) :
    (over e off cs)[j]? = if off ≤ j ∧ j < off + cs.length then cs[j - off]? else e[j]? := by
  simp only [over, List.getElem?_append, List.length_take, List.getElem?_take, List.getElem?_drop]
  have h1 : min off e.length = off := by omega
  rw [h1]
  by_cases a1 : j < off
  · rw [if_pos a1, if_pos a1, if_neg (by omega)]
  · rw [if_neg a1]
    by_cases a2 : j - off < cs.length
    · rw [if_pos a2, if_pos (by omega)]
    · rw [if_neg a2, if_neg (by omega)]
      congr 1; omega

section
variable {P : Program} {tt : Nat → Option TI} {X : Cx} {s : St} {a : Act} {w : World} {β : Nat → Option Nat} {cp : Nat → Nat} {Rd : Nat → Prop}
variable {Mt : Nat → Prop} {H : C → Value → Prop}

theorem cells_ok' {v : Value} {x : AV} (h : MA w Mt Rd H v x) (hn : (cellsOf x).length ≠ 0) (hno : okCs (cellsOf x)) : MCs w Mt Rd H v.cells (cellsOf x) := by
  rcases cells_ok h (fun e => hn (by rw [e]; rfl)) with hm | ⟨c, rfl, h1⟩
  · exact hm
  · exact absurd (okC_one hno.1 h) h1

/-- A row of one's own, read only. -/
theorem row_rc (h : Good X s a w β cp Rd) {Mt' : Nat → Prop} {b : Nat} {bx : Box} (hbx : s.box b = some bx) (hM : ∀ v c, (∃ e ∈ bx.es, c ∈ e) → RC w (X.mt s β Rd) v c → RC w Mt' v c) (hrow : bx.row = true) (hav : ∀ g, β b = some g → ¬ Mt' g)
    {lo hi : Nat} (hlo : lo ≤ hi) (hhi : hi ≤ bx.es.length) {aa : Option Addr} {c : Nat} {t : Bool} (hc : hi - lo ≤ c) (hcm : c ≤ maxLen) (ht : t = true → c = hi - lo) (ha : lo < hi → ∃ g, β b = some g ∧ aa = some ⟨g, lo * bx.k, none⟩) :
    RC w Mt' (.slice aa (hi - lo) c) (.sl t ((bx.es.take hi).drop lo)) := by
  have hl : ((bx.es.take hi).drop lo).length = hi - lo := by simp; omega
  have get : ∀ i e, ((bx.es.take hi).drop lo)[i]? = some e → bx.es[lo + i]? = some e ∧ lo + i < hi := fun i e he => by
    rw [List.getElem?_drop, List.getElem?_take] at he
    split at he
    · exact ⟨he, by assumption⟩
    · cases he
  rcases Nat.lt_or_ge lo hi with hlt | hge
  · obtain ⟨g, hg, rfl⟩ := ha hlt
    rcases (h.boxes b bx hbx).two (.inl hrow) with ⟨q1, _⟩ | ⟨g', cur, h1, h2, h4, h5, h6, h7, h9, h8⟩
    · rw [q1] at hg; cases hg
    rw [h1] at hg; cases hg
    refine RC.sl t _ bx.k _ ⟨g, lo * bx.k, none⟩ (hi - lo) c hl.symm ht hc hcm (fun e he => h7 e (List.mem_of_mem_take (List.mem_of_mem_drop he))) (fun _ => ⟨rfl, rfl, hav g h1, (Array.getElem?_eq_some_iff.1 h2).1⟩)
      (fun i j => cur.getD ((lo + i) * bx.k + j) undef) (fun i j e cc he hcc => ?_) (fun i j e cc he hcc => ?_)
    · obtain ⟨he', hlt'⟩ := get i e he
      have hjl := (List.getElem?_eq_some_iff.1 hcc).1
      rw [h7 e (List.mem_of_getElem? he')] at hjl
      have hr := row_lt (m := cp b) (sz := bx.k) (i := lo + i) (j := j) (by omega) hjl
      rw [cell_of_row w g _ cur bx.ty (0, 0) h2]
      have e1 : lo * bx.k + (i * bx.k + j) = (lo + i) * bx.k + j := by rw [Nat.add_mul]; omega
      have : (lo + i) * bx.k + j < cur.size := by rw [h4]; omega
      dsimp only
      rw [e1]
      simp [this]
    · obtain ⟨he', _⟩ := get i e he
      exact hM _ _ ⟨e, List.mem_of_getElem? he', List.mem_of_getElem? hcc⟩ ((h8 (lo + i) j e cc he' hcc).rc (h9 hrow e (List.mem_of_getElem? he') cc (List.mem_of_getElem? hcc)))
  · have e0 : (bx.es.take hi).drop lo = [] := List.eq_nil_of_length_eq_zero (by omega)
    rw [e0]
    exact RC.sl t [] 0 aa ⟨0, 0, none⟩ (hi - lo) c (by simp; omega) ht hc hcm (by simp) (fun h => absurd rfl h) (fun _ _ => undef) (by simp) (by simp)

/-- Sealed cells. -/
theorem seal_okC (h : Good X s a w β cp Rd) {Mt' Rd' : Nat → Prop} {H' : C → Value → Prop} (hR : ∀ g, Rd g → Rd' g) {ids : List Nat} (hav : ∀ b ∈ ids, ∀ bx g, s.box b = some bx → β b = some g → ¬ Mt' g)
    {v : Value} {c : C} (hM : ∀ v c', (c' = c ∨ (∃ x, c = .ex x c') ∨ ∃ b bx, b ∈ rowIds [c] ∧ s.box b = some bx ∧ ∃ e ∈ bx.es, c' ∈ e) → RC w (X.mt s β Rd) v c' → RC w Mt' v c') (hm : MC w (X.mt s β Rd) Rd (hOf s β cp) v c) (ho : sealOk s c) (hid : ∀ b ∈ rowIds [c], b ∈ ids) : MC w Mt' Rd' H' v (sealC s c) := by
  cases c with
  | own b n t =>
    simp only [sealC]
    split
    · rename_i bx hbx
      split
      · rename_i hrow
        simp only [sealOk, hbx] at ho
        have hv := hm.2.at rfl hbx ho
        have hb : b ∈ ids := hid b (by simp [rowIds])
        have key : ∀ aa c, n ≤ c → c ≤ maxLen → (t = true → c = n) → (0 < n → ∃ g, β b = some g ∧ aa = some ⟨g, 0, none⟩) → v = .slice aa n c → RC w Mt' v (.sl t bx.es) := by
          rintro aa c h1 h2 h3 h4 rfl
          have := row_rc h hbx (fun v c hc => hM v c (.inr (.inr ⟨b, bx, by simp [rowIds], hbx, hc⟩))) hrow (fun g hg => hav b hb bx g hbx hg) (lo := 0) (hi := n) (Nat.zero_le _) (by omega) (aa := aa) (c := c) (t := t) h1 h2 h3 (fun hlt => by simpa using h4 hlt)
          rw [ho] at this ⊢
          simpa using this
        rcases hv with ⟨q1, q2, aa, q3⟩ | ⟨g, c, q1, q2, q3, q4, q5⟩
        · exact (key aa 0 (by omega) (by simp [maxLen]) (fun _ => q2.symm) (by omega) (by rw [q3, q2])).mc
        · have hcm : c ≤ maxLen := by
            rcases (h.boxes b bx hbx).two (.inl hrow) with ⟨p1, _⟩ | ⟨g', cur, p1, p2, p4, p5, p6, _⟩
            · rw [p1] at q1; cases q1
            · omega
          exact (key _ c q3 hcm q5 (fun _ => ⟨g, q1, rfl⟩) q2).mc
      · trivial
    · trivial
  | vw b n lo hi =>
    simp only [sealC]
    split
    · rename_i bx hbx
      split
      · rename_i hrow
        simp only [sealOk, hbx] at ho
        obtain ⟨v1, v2, aa, c, rfl, v3, v4, v5⟩ := hm.2.at rfl hbx ho
        exact (row_rc h hbx (fun v c hc => hM v c (.inr (.inr ⟨b, bx, by simp [rowIds], hbx, hc⟩))) hrow (fun g hg => hav b (hid b (by simp [rowIds])) bx g hbx hg) v1 (by omega) v3 v4 (fun h => by cases h) v5).mc
      · trivial
    · trivial
  | v x =>
    have hm' : RC w (X.mt s β Rd) v (.v x) := hm
    unfold sealC
    split
    · rename_i he; cases he
    · rename_i he; cases he
    · rename_i he
      cases he
      cases hm' with
      | v _ _ => exact RC.sl true [] 0 none ⟨0, 0, none⟩ 0 0 rfl (fun _ => rfl) (Nat.le_refl _) (by simp [maxLen]) (by simp) (fun h => absurd rfl h) (fun _ _ => undef) (by simp) (by simp)
    · rename_i he; cases he
    · rename_i he; cases he
    · rename_i he; cases he
    · rename_i he; cases he
    · exact (hM _ _ (.inl rfl) hm').mc
  | sl t es => exact (hM _ (.sl t es) (.inl rfl) hm).mc
  | rp cs => exact (hM _ (.rp cs) (.inl rfl) hm).mc
  | rdr => obtain ⟨g, h1, h2⟩ := hm; exact ⟨g, hR g h1, h2⟩
  | ex x c => exact ⟨hm.1, hM _ _ (.inr (.inl ⟨x, rfl⟩)) hm.2⟩
  | ptr b n i off =>
    simp only [sealC]
    split
    · rename_i bx hbx
      split
      · trivial
      · rename_i hrow
        cases hz : (i == 0 && off == 0) with
        | false => trivial
        | true =>
          simp only [cond_true]
          simp only [sealOk, hbx, hrow] at ho
          obtain ⟨ho1, ho2, ho3⟩ := ho
          simp only [Bool.and_eq_true, beq_iff_eq] at hz
          obtain ⟨rfl, rfl⟩ := hz
          obtain ⟨g, hg, rfl⟩ := hm.2.at rfl hbx ho1
          have hne : bx.es ≠ [] := by rintro e; rw [e] at ho1; simp at ho1; omega
          obtain ⟨e, r, he⟩ := List.exists_cons_of_ne_nil hne
          have hh : hd1 bx.es = e := by rw [he]; rfl
          have he0 : bx.es[0]? = some e := by rw [he]; rfl
          rw [hh] at ho3 ⊢
          have hok : ∀ (l : List C) (j : Nat) (c : C), okR0s l → l[j]? = some c → okR c = true := by
            intro l
            induction l with
            | nil => intro j c _ h; simp at h
            | cons x l ih =>
              intro j c h hj
              cases j with
              | zero => simp at hj; subst hj; exact h.1
              | succ j => exact ih j c h.2 (by simpa using hj)
          rcases (h.boxes b bx hbx).two (.inr hne) with ⟨_, q1, _⟩ | ⟨g', cur, h1, h2, h4, h5, h6, h7, h9, h8⟩
          · exact absurd q1 hne
          · rw [h1] at hg; cases hg
            refine (RC.rp e _ rfl (hav b (hid b (by simp [rowIds])) bx g hbx h1) (Array.getElem?_eq_some_iff.1 h2).1 (fun j => cur.getD j undef) (fun j c hc => ?_) (fun j c hc => ?_)).mc
            · have hjl := (List.getElem?_eq_some_iff.1 hc).1
              rw [h7 e (List.mem_of_getElem? he0)] at hjl
              rw [cell_of_row w g _ cur bx.ty (0, 0) h2]
              have hl : 1 ≤ cp b := by omega
              have hsz : bx.k ≤ cp b * bx.k := Nat.le_mul_of_pos_left _ hl
              have : j < cur.size := by omega
              dsimp only
              simp [this]
            · have := h8 0 j e c he0 hc
              rw [Nat.zero_mul, Nat.zero_add] at this
              exact hM _ _ (.inr (.inr ⟨b, bx, by simp [rowIds], hbx, e, List.mem_of_getElem? he0, List.mem_of_getElem? hc⟩)) (this.rc (hok e j c ho3 hc))
    · trivial
  | fn f caps => trivial
  | und => trivial
  | bot => trivial

theorem seal_ok (h : Good X s a w β cp Rd) {Mt' Rd' : Nat → Prop} {H' : C → Value → Prop} (hM : ∀ g, g < w.heap.size → Mt' g → X.mt s β Rd g) (hR : ∀ g, Rd g → Rd' g) {ids : List Nat} (hav : ∀ b ∈ ids, ∀ bx g, s.box b = some bx → β b = some g → ¬ Mt' g)
    {v : Value} {c : C} (hm : MC w (X.mt s β Rd) Rd (hOf s β cp) v c) (ho : sealOk s c) (hid : ∀ b ∈ rowIds [c], b ∈ ids) : MC w Mt' Rd' H' v (sealC s c) :=
  seal_okC h hR hav (fun _ _ _ hc => hc.mono (fun _ _ _ => rfl) (Nat.le_refl _) hM) hm ho hid

theorem seal_oks (h : Good X s a w β cp Rd) {Mt' Rd' : Nat → Prop} {H' : C → Value → Prop} (hM : ∀ g, g < w.heap.size → Mt' g → X.mt s β Rd g) (hR : ∀ g, Rd g → Rd' g) {ids : List Nat} (hav : ∀ b ∈ ids, ∀ bx g, s.box b = some bx → β b = some g → ¬ Mt' g) :
    ∀ (cs : List C) (f : Nat → Value), (∀ j c, cs[j]? = some c → MC w (X.mt s β Rd) Rd (hOf s β cp) (f j) c) → sealOks s cs → (∀ b ∈ rowIds cs, b ∈ ids) → ∀ j c, (cs.map (sealC s))[j]? = some c → MC w Mt' Rd' H' (f j) c
  | [], _, _, _, _, j, c, hj => by simp at hj
  | x :: r, f, hm, ho, hid, 0, c, hj => by
    simp only [List.map_cons, List.getElem?_cons_zero, Option.some.injEq] at hj
    subst hj
    exact seal_ok h hM hR hav (hm 0 x rfl) ho.1 (fun b hb => hid b (by cases x <;> simp_all [rowIds]))
  | x :: r, f, hm, ho, hid, j + 1, c, hj => by
    refine seal_oks h hM hR hav r (fun j => f (j + 1)) (fun j c hj => hm (j + 1) c (by simpa using hj)) ho.2 (fun b hb => hid b (by cases x <;> simp_all [rowIds])) j c (by simpa using hj)

/-- What is frozen is not written. -/
theorem freeze_av (h : Good X s a w β cp Rd) (ids : List Nat) : ∀ b ∈ ids, ∀ bx g, s.box b = some bx → β b = some g → ¬ X.mt (freeze s ids) β Rd g := by
  rintro b hb bx g hbx hg (h1 | ⟨b', bx', h1, h2, h3⟩ | h1)
  · exact h.own_av g ⟨b, bx, hbx, hg⟩ h1
  · rw [freeze_box] at h1
    simp only [Option.map_eq_some_iff] at h1
    obtain ⟨bx2, h4, h5⟩ := h1
    have := h.inj b b' bx bx2 g hbx h4 hg h3
    subst this
    rw [if_pos hb] at h5
    subst h5
    cases h2
  · exact h.own_rd g ⟨b, bx, hbx, hg⟩ h1
theorem freeze_mt (ids : List Nat) (g : Nat) (h : X.mt (freeze s ids) β Rd g) : X.mt s β Rd g := by
  rcases h with h | ⟨b, bx, h1, h2, h3⟩ | h
  · exact .inl h
  · rw [freeze_box] at h1
    simp only [Option.map_eq_some_iff] at h1
    obtain ⟨bx2, h4, h5⟩ := h1
    refine .inr (.inl ⟨b, bx2, h4, ?_, h3⟩)
    by_cases hb : b ∈ ids
    · rw [if_pos hb] at h5; subst h5; cases h2
    · rw [if_neg hb] at h5; subst h5; exact h2
  · exact .inr (.inr h)

theorem store_core (ht : TTok P tt) (h : Good X s a w β cp Rd) {d : Option Nat} (hd : dstOK s.nt d) {t : Nat} {ti : TI} (hti : tt t = some ti) {b n i off : Nat} {bx : Box} (hbx : s.box b = some bx) {v v' : Value} (hv : hV (β b) (cp b) bx.k (.ptr b n i off) v)
    (hn : n = bx.es.length) (hi : i < n) (ho : off + ti.sz ≤ bx.k) (hsz : 0 < ti.sz) {cs : List C} (hlen : cs.length = ti.sz) (hfz : bx.fz = false) (hm : MCs w (X.mt s β Rd) Rd (hOf s β cp) v'.cells cs) (hone : ∀ u ∈ v'.cells, u.oneCell' = true) (hrow : bx.row = true → okRs cs)
    {e : List C} (he : bx.es[i]? = some e) :
    ∃ w', (Instr.storeAt t v v').run P w = .ok () w' ∧ Rel X ((s.setBox b (some { bx with es := bx.es.set i (over e off cs) })).put d (.c .und)) (a.put d undef) w' := by
  have hT := ht t ti hti
  obtain ⟨g, hg, rfl⟩ := hv
  have hB := (h.boxes b bx hbx).two (.inr (ne_of_lt (show i < bx.es.length by omega)))
  rcases hB with ⟨hnone, _⟩ | ⟨g', cur, h1, h2, h4, h5, h6, h7, h9, h8⟩
  · rw [hnone] at hg; cases hg
  rw [h1] at hg; cases hg
  have hil : i < bx.es.length := by omega
  have hel := h7 e (List.mem_of_getElem? he)
  have hspan : i * bx.k + bx.k ≤ cur.size := by
    rw [h4, ← Nat.succ_mul]
    exact Nat.mul_le_mul_right _ (by omega)
  have hcl : v'.cells.toList.length = ti.sz := by rw [Array.length_toList, hm.1, hlen]
  have hst := run_storeCells_at P g (i * bx.k + off) bx.ty v'.cells.toList 0 cur w h2 (by rw [hcl]; omega) (fun u hu => hone u (by simpa using hu))
  simp only [Nat.add_zero] at hst
  refine ⟨_, ?_, _, _, _, (h.upd (w' := w.setRow g (cur.toList.take (i * bx.k + off) ++ v'.cells.toList ++ cur.toList.drop (i * bx.k + off + v'.cells.toList.length)).toArray) b
    { bx with es := bx.es.set i (over e off cs) } (β b) (cp b) (h.fresh b (St.keyed_of_box hbx)) (.inr ⟨bx, hbx, fun _ => hfz, .inl ⟨by simp, rfl, rfl, rfl⟩⟩)
    ⟨rfl, rfl, ⟨rfl, trivial⟩, by simp, fun q _ hq => setRow_other w g q _ (fun e => hq ⟨bx, hbx, hfz, by rw [h1, e]⟩)⟩ (fun q hq => .inr ⟨bx, hbx, hq⟩)
    (.inr ⟨g, _, h1, setRow_heap w g cur _ bx.ty _ h2, ?_, by simpa using h5, h6, ?_, ?_, ?_⟩)).put (by simpa [St.setBox] using hd) rfl⟩
  · simp only [Instr.storeAt, Instr.sureAddr, Sem.run_bind, Sem.run_pure, Result.andThen_ok, storeVar, hT.run_sizeOf]
    rw [if_neg (by rw [hm.1, hlen]; simp)]
    exact hst
  · simp only [List.size_toArray, List.length_append, List.length_take, List.length_drop, hcl, Array.length_toList]
    omega
  · intro el hel'
    rcases List.mem_or_eq_of_mem_set hel' with h9 | rfl
    · exact h7 el h9
    · rw [over_length (by omega)]; exact hel
  · intro hr el hel' c hc
    rcases List.mem_or_eq_of_mem_set hel' with h10 | rfl
    · exact h9 hr el h10 c hc
    · simp only [over, List.mem_append] at hc
      rcases hc with hc | hc | hc
      · exact h9 hr e (List.mem_of_getElem? he) c (List.mem_of_mem_take hc)
      · obtain ⟨j, hj, rfl⟩ := List.getElem_of_mem hc
        exact okRs_get (hrow hr) (List.getElem?_eq_getElem hj)
      · exact h9 hr e (List.mem_of_getElem? he) c (List.mem_of_mem_drop hc)
  · intro i' j' el c he' hc
    dsimp only at he' ⊢
    rw [List.getElem?_set] at he'
    have hcur : ∀ q, q < cur.size → (cur.toList.take (i * bx.k + off) ++ v'.cells.toList ++ cur.toList.drop (i * bx.k + off + v'.cells.toList.length)).toArray.getD q undef =
        if i * bx.k + off ≤ q ∧ q < i * bx.k + off + ti.sz then v'.cells.getD (q - (i * bx.k + off)) undef else cur.getD q undef := by
      intro q hq
      simp only [Array.getD_eq_getD_getElem?, List.getElem?_toArray, List.getElem?_append, List.length_append, List.length_take, hcl, Array.length_toList, List.getElem?_take, List.getElem?_drop, Array.getElem?_toList]
      have hmin : min (i * bx.k + off) cur.size = i * bx.k + off := by omega
      rw [hmin]
      by_cases a1 : q < i * bx.k + off
      · rw [if_pos (by omega), if_pos a1, if_pos a1, if_neg (by omega)]
      · by_cases a2 : q < i * bx.k + off + ti.sz
        · rw [if_pos a2, if_neg a1, if_pos (by omega)]
        · rw [if_neg a2, if_neg (by omega)]
          congr 2; omega
    by_cases hii : i = i'
    · subst hii
      rw [if_pos rfl] at he'
      simp only [hil, if_true, Option.some.injEq] at he'
      subst he'
      have hjl := (List.getElem?_eq_some_iff.1 hc).1
      rw [over_length (by omega), hel] at hjl
      rw [over_get (by omega)] at hc
      rw [hcur _ (by omega)]
      by_cases hin : off ≤ j' ∧ j' < off + cs.length
      · rw [if_pos hin] at hc
        rw [if_pos (by omega)]
        have : i * bx.k + j' - (i * bx.k + off) = j' - off := by omega
        rw [this]
        exact hm.2 _ c hc
      · rw [if_neg hin] at hc
        rw [if_neg (by omega)]
        exact h8 i j' e c he hc
    · rw [if_neg hii] at he'
      have hil' := (List.getElem?_eq_some_iff.1 he').1
      have hjl := (List.getElem?_eq_some_iff.1 hc).1
      rw [h7 el (List.mem_of_getElem? he')] at hjl
      have hlt := row_lt (m := cp b) (sz := bx.k) (i := i') (j := j') (by omega) hjl
      rw [hcur _ (by omega), if_neg]
      · exact h8 i' j' el c he' hc
      · rintro ⟨q1, q2⟩
        rcases Nat.lt_or_gt_of_ne hii with q3 | q3
        · have : (i + 1) * bx.k ≤ i' * bx.k := Nat.mul_le_mul_right _ q3
          rw [Nat.succ_mul] at this
          omega
        · have : (i' + 1) * bx.k ≤ i * bx.k := Nat.mul_le_mul_right _ q3
          rw [Nat.succ_mul] at this
          omega

/-- Cells of a value, each of one cell. -/
theorem cells_seal (h : Good X s a w β cp Rd) {v : Value} {x : AV} (hx : MA w (X.mt s β Rd) Rd (hOf s β cp) v x) (hn : (cellsOf x).length ≠ 0) (ho : sealOks s (cellsOf x)) (hr : okRs ((cellsOf x).map (sealC s))) {ids : List Nat} (hid : ∀ b ∈ rowIds (cellsOf x), b ∈ ids) :
    MCs w (X.mt (freeze s ids) β Rd) Rd (hOf (freeze s ids) β cp) v.cells ((cellsOf x).map (sealC s)) ∧ (∀ u ∈ v.cells, u.oneCell' = true) := by
  have hok : okCs (cellsOf x) := by
    have : ∀ cs : List C, okRs (cs.map (sealC s)) → okCs cs := by
      intro cs
      induction cs with
      | nil => intro _; trivial
      | cons c r ih =>
        rintro ⟨h1, h2⟩
        refine ⟨?_, ih h2⟩
        cases c <;> first | rfl | cases h1
    exact this _ hr
  have hm := cells_ok' hx hn hok
  refine ⟨⟨by rw [hm.1]; simp, fun j c hj => ?_⟩, fun u hu => ?_⟩
  · exact seal_oks h (fun g _ hg => freeze_mt ids g hg) (fun _ h => h) (freeze_av h ids) (cellsOf x) (fun j => v.cells.getD j undef) hm.2 ho hid j c hj
  · obtain ⟨j, hj, rfl⟩ := Array.getElem_of_mem hu
    have hl : j < (cellsOf x).length := by rw [← hm.1]; exact hj
    have := hm.2 j _ (List.getElem?_eq_getElem hl)
    have e : v.cells.getD j undef = v.cells[j] := by simp [hj]
    rw [e] at this
    exact okC_one (okCs_get hok (List.getElem?_eq_getElem hl)) this

theorem store_ok (ht : TTok P tt) (h : Good X s a w β cp Rd) {d : Option Nat} (hd : dstOK s.nt d) {t : Nat} {v v' : Value} {x y : AV} (hx : MA w (X.mt s β Rd) Rd (hOf s β cp) v x)
    (hy : MA w (X.mt s β Rd) Rd (hOf s β cp) v' y) (hp : (storeS tt t x y s d).1) :
    ∃ w', (Instr.storeAt t v v').run P w = .ok () w' ∧ ∃ s', (storeS tt t x y s d).2 s' ∧ Rel X s' (a.put d undef) w' := by
  unfold storeS at hp ⊢
  split at hp
  · rename_i ti b n i off hti
    split at hp
    · rename_i bx hbx
      split at hp
      · rename_i hrow
        simp only [Res.mkE] at hp ⊢
        obtain ⟨hn, hi, ho, hsz, hlen, hfz, hso, hro, hb⟩ := hp
        have hnb : b ∉ rowIds (cellsOf y) := fun hm => by
          have := List.contains_iff_mem.2 hm
          rw [hb] at this; cases this
        obtain ⟨hm, hone⟩ := cells_seal h hy (by omega) hso hro (ids := rowIds (cellsOf y)) (fun b hb => hb)
        have hG := h.freeze (rowIds (cellsOf y))
        have hbx' : (freeze s (rowIds (cellsOf y))).box b = some bx := by rw [freeze_box, hbx, Option.map_some, if_neg hnb]
        obtain ⟨e, he⟩ : ∃ e, bx.es[i]? = some e := ⟨_, List.getElem?_eq_getElem (by omega)⟩
        obtain ⟨w', h1, h2⟩ := store_core ht hG (d := d) (by rw [(freeze_env s _).2.1]; exact hd) hti hbx' (hx.2.at rfl hbx hn) hn hi ho hsz (cs := (cellsOf y).map (sealC s)) (by simpa using hlen) hfz hm hone (fun _ => hro) he
        exact ⟨w', h1, _, ⟨e, he, rfl⟩, h2⟩
      · rename_i hrow
        simp only [Res.mkE] at hp ⊢
        obtain ⟨hn, hi, ho, hsz, hlen, hfz, hno⟩ := hp
        have hm := cells_ok' hy (by omega) hno
        obtain ⟨e, he⟩ : ∃ e, bx.es[i]? = some e := ⟨_, List.getElem?_eq_getElem (by omega)⟩
        have hone : ∀ u ∈ v'.cells, u.oneCell' = true := fun u hu => by
          obtain ⟨j, hj, rfl⟩ := Array.getElem_of_mem hu
          have hl : j < (cellsOf y).length := by rw [← hm.1]; exact hj
          have := hm.2 j _ (List.getElem?_eq_getElem hl)
          have e : v'.cells.getD j undef = v'.cells[j] := by simp [hj]
          rw [e] at this
          exact okC_one (okCs_get hno (List.getElem?_eq_getElem hl)) this
        obtain ⟨w', h1, h2⟩ := store_core ht h hd hti hbx (hx.2.at rfl hbx hn) hn hi ho hsz hlen hfz hm hone (fun hr => by rw [hrow] at hr; cases hr) he
        exact ⟨w', h1, _, ⟨e, he, rfl⟩, h2⟩
    · exact hp.elim
  · exact hp.elim

theorem makeSlice_ok (ht : TTok P tt) (h : Good X s a w β cp Rd) {d : Option Nat} (hd : dstOK s.nt d) {nid : Nat} (hf : ¬ s.keyed nid) (hnx : nid < s.nx) {t : Nat} {v v' : Value} {x y : AV} (hx : MA w (X.mt s β Rd) Rd (hOf s β cp) v x)
    (hy : MA w (X.mt s β Rd) Rd (hOf s β cp) v' y) (hp : (makeSliceS tt nid t x y s d).1) :
    ∃ u w', (Instr.makeSlice t v v').run P w = .ok u w' ∧ ∃ s', (makeSliceS tt nid t x y s d).2 s' ∧ RelF w Rd X s' (a.put d u) w' := by
  unfold makeSliceS at hp ⊢
  split at hp
  · rename_i ti k n k' m hti
    split at hp
    · rename_i e hk
      split at hp
      · rename_i te hte
        simp only [Res.mk1] at hp ⊢
        obtain ⟨h0, hnm, hby, h63, hsz⟩ := hp
        cases hx with
        | v _ _ => cases hy with
          | v _ _ =>
            obtain ⟨i, z, hi, hs, hb, hz, hzl⟩ := (ht e te hte).info
            have hr := run_make (P := P) w t e i z ((ht t ti hti).slice hk) hi hz k k' n m h0 hnm (by rw [hb]; exact hby) (by omega)
            have hzm := zv_mcs (w := w) (Mt := X.mt s β Rd) (Rd := Rd) (H := hOf s β cp) (ht e te hte) hzl
            have hzs : z.cells.size = te.sz := by rw [← (ht e te hte).zlen, ← hzl]; simp
            have hG := h.newRow hf hnx (es := List.replicate n.toNat (te.zv.map .v)) (k := te.sz) (ty := e) (row := true) (cap := m.toNat) (cur := madeCells z.cells (m.toNat * i.size)) (by rw [size_madeCells, hs]) (by simp; omega) (by simp only [maxLen]; omega)
              (fun el hel => by rw [List.eq_of_mem_replicate hel]; simp [(ht e te hte).zlen])
              (fun _ el hel c hc => by
                rw [List.eq_of_mem_replicate hel] at hc
                obtain ⟨x, _, rfl⟩ := List.mem_map.1 hc
                rfl)
              (fun i' j el c he hc => by
                have hil := (List.getElem?_eq_some_iff.1 he).1
                have hel : el = te.zv.map .v := List.eq_of_mem_replicate (List.mem_of_getElem? he)
                subst hel
                have hjl := (List.getElem?_eq_some_iff.1 hc).1
                simp only [List.length_map, (ht e te hte).zlen] at hjl
                simp only [List.length_replicate] at hil
                have hlt := row_lt (m := m.toNat) (sz := te.sz) (i := i') (j := j) (by omega) hjl
                have : (madeCells z.cells (m.toNat * i.size)).getD (i' * te.sz + j) undef = z.cells.getD j undef := by
                  have h9 : (i' * te.sz + j) % z.cells.size = j := by rw [hzs]; exact (row_div hjl).2
                  have h10 : j < z.cells.size := by rw [hzs]; exact hjl
                  simp [madeCells, hs, hlt, h9, h10]
                rw [this]
                exact hzm.2 j c hc)
            exact ⟨_, _, hr, _, rfl, _, _, _, hG.put (v := .slice (some ⟨w.heap.size, 0, none⟩) n.toNat m.toNat) (x := .c (.own nid n.toNat false)) (by simpa [St.setBox] using hd)
              ⟨rfl, hOf.mk rfl (St.box_set_same _ _ _) (by simp) fun _ => .inr ⟨_, m.toNat, upd_same _ _ _, rfl, by omega, by rw [upd_same]; exact Nat.le_refl _, fun h => by cases h⟩⟩, Fr.alloc _ _ _⟩
      · exact hp.elim
    · exact hp.elim
  · exact hp.elim
end
end Go.VE
end
section
namespace Go.VE
open Go

theorem foldl_set (off : Nat) : ∀ (l : List Value) (n : Nat) (arr : Array Value), ((l.zipIdx n).foldl (fun cs (p : Value × Nat) => cs.setIfInBounds (off + p.2) p.1) arr).size = arr.size ∧
    ∀ q, q < arr.size → ((l.zipIdx n).foldl (fun cs (p : Value × Nat) => cs.setIfInBounds (off + p.2) p.1) arr).getD q undef = if off + n ≤ q ∧ q < off + n + l.length then l.getD (q - (off + n)) undef else arr.getD q undef
  | [], n, arr => by
    refine ⟨rfl, fun q _ => ?_⟩
    rw [if_neg (by simp only [List.length_nil]; omega)]
    rfl
  | v :: l, n, arr => by
    simp only [List.zipIdx_cons, List.foldl_cons]
    obtain ⟨h1, h2⟩ := foldl_set off l (n + 1) (arr.setIfInBounds (off + n) v)
    refine ⟨by simpa using h1, fun q hq => ?_⟩
    rw [h2 q (by simpa using hq)]
    by_cases a1 : q = off + n
    · subst a1
      rw [if_neg (by omega), if_pos (by simp)]
      simp [hq]
    · by_cases a2 : off + (n + 1) ≤ q ∧ q < off + (n + 1) + l.length
      · rw [if_pos a2, if_pos (by simp; omega)]
        have : q - (off + n) = q - (off + (n + 1)) + 1 := by omega
        rw [this]; simp
      · rw [if_neg a2, if_neg (by simp; omega)]
        have : off + n ≠ q := fun e => a1 e.symm
        simp [this]

section
variable {P : Program} {tt : Nat → Option TI} {X : Cx} {s : St} {a : Act} {w : World} {β : Nat → Option Nat} {cp : Nat → Nat} {Rd : Nat → Prop}
variable {Mt : Nat → Prop} {H : C → Value → Prop}

theorem MCs.over {arr vs : Array Value} {z cs : List C} (h : MCs w Mt Rd H arr z) (hv : MCs w Mt Rd H vs cs) {off : Nat} (hle : off + cs.length ≤ z.length) :
    MCs w Mt Rd H (vs.zipIdx.foldl (fun cs (c, j) => cs.setIfInBounds (off + j) c) arr) (over z off cs) := by
  have e : vs.zipIdx.foldl (fun cs (c, j) => cs.setIfInBounds (off + j) c) arr = (vs.toList.zipIdx 0).foldl (fun cs (p : Value × Nat) => cs.setIfInBounds (off + p.2) p.1) arr := by
    rw [← Array.foldl_toList, Array.toList_zipIdx]
  rw [e]
  obtain ⟨h1, h2⟩ := foldl_set off vs.toList 0 arr
  refine ⟨by rw [h1, over_length hle]; exact h.1, fun j c hj => ?_⟩
  have hjl := (List.getElem?_eq_some_iff.1 hj).1
  rw [over_length hle, ← h.1] at hjl
  rw [h2 j hjl]
  rw [over_get hle] at hj
  simp only [Nat.add_zero, Array.length_toList, hv.1]
  by_cases a1 : off ≤ j ∧ j < off + cs.length
  · rw [if_pos a1] at hj ⊢
    have := hv.2 _ c hj
    simpa [List.getD_eq_getElem?_getD, Array.getD_eq_getD_getElem?] using this
  · rw [if_neg a1] at hj ⊢
    exact h.2 j c hj

theorem fill_ok (pl place : Nat → Option (Nat × Nat)) (hpl : ∀ i o z, pl i = some (o, z) → place i = some (o, z)) (F : Nat × Operand → List C) : ∀ (l : List (Nat × Operand)) (arr : Array Value) (z cs : List C),
    MCs w Mt Rd H arr z → (∀ p ∈ l, MCs w Mt Rd H (a.eval p.2).cells (F p)) → fillC pl z (l.map fun p => (p.1, F p)) = some cs →
    ∃ arr', Instr.fill place arr (l.map fun p => (p.1, a.eval p.2)) = some arr' ∧ MCs w Mt Rd H arr' cs
  | [], arr, z, cs, hz, _, hf => by
    simp only [List.map_nil, fillC, Option.some.injEq] at hf
    subst hf
    exact ⟨arr, rfl, hz⟩
  | p :: l, arr, z, cs, hz, hp, hf => by
    simp only [List.map_cons, fillC] at hf ⊢
    cases hpi : pl p.1 with
    | none => simp [hpi] at hf
    | some o =>
      obtain ⟨off, sz⟩ := o
      simp only [hpi] at hf
      split at hf
      · rename_i hc
        have hm := hp p (by simp)
        have hle : off + (F p).length ≤ z.length := by omega
        obtain ⟨arr', h1, h2⟩ := fill_ok pl place hpl F l _ _ cs (hz.over hm hle) (fun q hq => hp q (by simp [hq])) hf
        refine ⟨arr', ?_, h2⟩
        simp only [Instr.fill, hpl _ _ _ hpi]
        have e1 : (a.eval p.2).cells.size = sz := by rw [hm.1]; exact hc.1
        rw [if_neg (by simp [e1]; rw [hz.1]; omega)]
        exact h1
      · cases hf

theorem parts_mcs (h : Good X s a w β cp Rd) : ∀ (l : List (Nat × Operand)), partsOK (l.map fun p => (p.1, cellsOf (s.ev p.2))) → ∀ p ∈ l, MCs w (X.mt s β Rd) Rd (hOf s β cp) (a.eval p.2).cells (cellsOf (s.ev p.2))
  | [], _, p, hp => by simp at hp
  | q :: l, hq, p, hp => by
    obtain ⟨h1, h2, h3⟩ := hq
    rcases List.mem_cons.1 hp with rfl | hp
    · exact cells_ok' (h.ev _) h1 h2
    · exact parts_mcs h l h3 p hp

theorem parts_seal (h : Good X s a w β cp Rd) (ids : List Nat) : ∀ (l : List (Nat × Operand)), partsOK (l.map fun p => (p.1, cellsOf (s.ev p.2))) → sealPs s (l.map fun p => (p.1, cellsOf (s.ev p.2))) → (∀ b ∈ rowIdsL (l.map fun p => cellsOf (s.ev p.2)), b ∈ ids) →
    ∀ p ∈ l, MCs w (X.mt (freeze s ids) β Rd) Rd (hOf (freeze s ids) β cp) (a.eval p.2).cells ((cellsOf (s.ev p.2)).map (sealC s)) ∧ okRs ((cellsOf (s.ev p.2)).map (sealC s))
  | [], _, _, _, p, hp => by simp at hp
  | q :: l, hq, hs, hid, p, hp => by
    obtain ⟨h1, h2, h3⟩ := hq
    obtain ⟨s1, s2, s3⟩ := hs
    simp only [List.map_cons, rowIdsL, List.mem_append] at hid
    rcases List.mem_cons.1 hp with rfl | hp
    · exact ⟨(cells_seal h (h.ev _) h1 s1 s2 (fun b hb => hid b (.inl hb))).1, s2⟩
    · exact parts_seal h ids l h3 s3 (fun b hb => hid b (.inr hb)) p hp

theorem build_ok (ht : TTok P tt) (h : Good X s a w β cp Rd) {d : Option Nat} (hd : dstOK s.nt d) {t : Nat} {parts : Array (Nat × Operand)} (hp : (buildS tt t (parts.toList.map fun p => (p.1, s.ev p.2)) s d).1) :
    ∃ u, (∀ w, (Instr.build t (parts.map fun (i, x) => (i, a.eval x))).run P w = .ok u w) ∧ ∃ s', (buildS tt t (parts.toList.map fun p => (p.1, s.ev p.2)) s d).2 s' ∧ Good X s' (a.put d u) w β cp Rd := by
  unfold buildS at hp ⊢
  split at hp
  · rename_i ti hti
    have hT := ht t ti hti
    split at hp
    · rename_i fs hk
      split at hp
      · rename_i cs hcs
        simp only [Res.mk1, List.map_map] at hp hcs ⊢
        obtain ⟨fields, hu, hf1, hf2⟩ := hT.struct' hk
        obtain ⟨i, z, hi, hs, hb, hz, hzl⟩ := hT.info
        have hplaces : fields.toList.mapM (fun f => (P.info? f.type).map fun i => (f.offset, i.size)) = some (fs.map (·.2)) := by
          have : ∀ (l : List Field) (fs : List (Nat × Nat × Nat)), l.map (fun f => (f.type, f.offset)) = fs.map (fun x => (x.1, x.2.1)) → (∀ x ∈ fs, x.2.2 ≠ 0 ∧ ∃ j, P.info? x.1 = some j ∧ j.size = x.2.2) →
              l.mapM (fun f => (P.info? f.type).map fun i => (f.offset, i.size)) = some (fs.map (·.2)) := by
            intro l
            induction l with
            | nil => intro fs he _; cases fs with | nil => rfl | cons _ _ => simp at he
            | cons f l ih =>
              intro fs he hx
              cases fs with
              | nil => simp at he
              | cons x fs =>
                simp only [List.map_cons, List.cons.injEq, Prod.mk.injEq] at he
                obtain ⟨⟨e1, e2⟩, e3⟩ := he
                obtain ⟨_, j, g1, g2⟩ := hx x (by simp)
                simp [List.mapM_cons, e1, g1, ih fs e3 fun y hy => hx y (by simp [hy]), e2, g2]
          exact this _ _ hf1 hf2
        obtain ⟨arr', h1, h2⟩ := fill_ok _ (fun i => (fs.map (·.2)).toArray[i]?) (fun i o z hi => by simpa [nthL_eq] using hi) (fun p => cellsOf (s.ev p.2)) parts.toList z.cells _ cs (zv_mcs hT hzl) (parts_mcs h _ hp) hcs
        refine ⟨.agg arr', fun w => run_build w t _ arr' ?_, _, rfl, h.put hd ⟨arr', rfl, h2⟩⟩
        simp only [Program.built, hi, hu, hz, hplaces]
        have : (parts.map fun (i, x) => (i, a.eval x)).toList = parts.toList.map fun p => (p.1, a.eval p.2) := by simp
        rw [this]
        exact h1
      · exact hp.elim
    · exact hp.elim
  · exact hp.elim

theorem fillSeq {sz : Nat} : ∀ (l : List (Nat × List C)) (m : Nat) (z : List C), idsAre m l = true → lensAll sz l → (m + l.length) * sz ≤ z.length →
    ∃ z', fillC (fun i => some (i * sz, sz)) z l = some z' ∧ z'.length = z.length ∧ (∀ q, q < m * sz → z'[q]? = z[q]?) ∧ ∀ i p, l[i]? = some p → ∀ j, j < sz → z'[(m + i) * sz + j]? = p.2[j]?
  | [], m, z, _, _, _ => ⟨z, rfl, rfl, fun _ _ => rfl, fun i p h => by simp at h⟩
  | p :: l, m, z, hi, hl, hz => by
    simp only [idsAre, Bool.and_eq_true, beq_iff_eq] at hi
    obtain ⟨h1, h2⟩ := hl
    have hz' : (m + 1 + l.length) * sz ≤ z.length := by
      have : m + 1 + l.length = m + (p :: l).length := by simp; omega
      rw [this]; exact hz
    have hle : m * sz + p.2.length ≤ z.length := by
      have : (m + 1) * sz ≤ (m + 1 + l.length) * sz := Nat.mul_le_mul_right _ (by omega)
      rw [Nat.succ_mul] at this
      omega
    obtain ⟨z', e1, e2, e3, e4⟩ := fillSeq l (m + 1) (over z (m * sz) p.2) hi.2 h2 (by rw [over_length hle]; exact hz')
    refine ⟨z', ?_, by rw [e2, over_length hle], fun q hq => ?_, fun i q hq j hj => ?_⟩
    · simp only [fillC, hi.1]
      rw [if_pos ⟨h1, by omega⟩]
      exact e1
    · rw [e3 q (by rw [Nat.succ_mul]; omega), over_get hle, if_neg (by omega)]
    · cases i with
      | zero =>
        simp only [List.getElem?_cons_zero, Option.some.injEq] at hq
        subst hq
        rw [Nat.add_zero, e3 _ (by rw [Nat.succ_mul]; omega), over_get hle, if_pos (by omega)]
        congr 1; omega
      | succ i =>
        simp only [List.getElem?_cons_succ] at hq
        have := e4 i q hq j hj
        rw [show m + 1 + i = m + (i + 1) by omega] at this
        exact this

theorem lensAll_of {sz : Nat} : ∀ (l : List (Nat × List C)), lensAll sz l → ∀ p ∈ l, p.2.length = sz
  | [], _, p, hp => by simp at hp
  | q :: l, hl, p, hp => by
    rcases List.mem_cons.1 hp with rfl | hp
    · exact hl.1
    · exact lensAll_of l hl.2 p hp
theorem lensAll_map {sz : Nat} (f : C → C) : ∀ (l : List (Nat × List C)), lensAll sz l → lensAll sz (l.map fun p => (p.1, p.2.map f))
  | [], _ => trivial
  | q :: l, hl => ⟨by simpa using hl.1, lensAll_map f l hl.2⟩
theorem idsAre_map (f : C → C) : ∀ (n : Nat) (l : List (Nat × List C)), idsAre n l = true → idsAre n (l.map fun p => (p.1, p.2.map f)) = true
  | _, [], _ => rfl
  | n, q :: l, h => by
    simp only [idsAre, Bool.and_eq_true, List.map_cons] at h ⊢
    exact ⟨h.1, idsAre_map f (n + 1) l h.2⟩

theorem buildSlice_ok (ht : TTok P tt) (h : Good X s a w β cp Rd) {d : Option Nat} (hd : dstOK s.nt d) {nid : Nat} (hf : ¬ s.keyed nid) (hnx : nid < s.nx) {t len : Nat} {parts : Array (Nat × Operand)}
    (hp : (buildSliceS tt nid t len (parts.toList.map fun p => (p.1, s.ev p.2)) s d).1) :
    ∃ u w', (Instr.buildSlice t len (parts.map fun (i, x) => (i, a.eval x))).run P w = .ok u w' ∧ ∃ s', (buildSliceS tt nid t len (parts.toList.map fun p => (p.1, s.ev p.2)) s d).2 s' ∧ RelF w Rd X s' (a.put d u) w' := by
  unfold buildSliceS at hp ⊢
  split at hp
  · rename_i ti hti
    split at hp
    · rename_i e hk
      split at hp
      · rename_i te hte
        simp only [Res.mk1, List.map_map, List.length_map] at hp ⊢
        obtain ⟨hsmall, hsz, hids, hlen, hlens, hpo, hso⟩ := hp
        have hT := ht e te hte
        obtain ⟨i, z, hi, hs, hb, hz, hzl⟩ := hT.info
        have hpm := parts_seal h (rowIdsL (parts.toList.map fun p => cellsOf (s.ev p.2))) parts.toList hpo hso (fun b hb => hb)
        have hG0 := h.freeze (rowIdsL (parts.toList.map fun p => cellsOf (s.ev p.2)))
        have hids' : idsAre 0 (parts.toList.map fun p => (p.1, (cellsOf (s.ev p.2)).map (sealC s))) = true := by
          have := idsAre_map (sealC s) 0 _ hids
          rw [List.map_map] at this
          exact this
        have hlens' : lensAll te.sz (parts.toList.map fun p => (p.1, (cellsOf (s.ev p.2)).map (sealC s))) := by
          have := lensAll_map (sealC s) _ hlens
          rw [List.map_map] at this
          exact this
        obtain ⟨z', f1, f2, f3, f4⟩ := fillSeq (sz := te.sz) _ 0 (List.replicate (len * te.sz) .bot) hids' hlens' (by simp [hlen])
        generalize hs1 : freeze s (rowIdsL (parts.toList.map fun p => cellsOf (s.ev p.2))) = s1 at hpm hG0
        have e0 : ((rowIdsL (List.map ((fun p => cellsOf p.2) ∘ fun p => (p.1, s.ev p.2)) parts.toList))) = rowIdsL (parts.toList.map fun p => cellsOf (s.ev p.2)) := rfl
        rw [e0, hs1]
        have hbot : ∀ arr : Array Value, arr.size = len * te.sz → MCs w (X.mt s1 β Rd) Rd (hOf s1 β cp) arr (List.replicate (len * te.sz) .bot) := fun arr ha => ⟨by simp [ha], fun j c hj => by
          rw [List.eq_of_mem_replicate (List.mem_of_getElem? hj)]; trivial⟩
        generalize hzc : (if len * te.sz = 0 then #[] else z.cells : Array Value) = zc
        obtain ⟨arr', g1, g2⟩ := fill_ok _ (fun i => some (i * te.sz, te.sz)) (fun i o z hi => hi) (fun p => (cellsOf (s.ev p.2)).map (sealC s)) parts.toList ((Array.range (len * te.sz)).map (zc[· % zc.size]!)) _ z' (hbot _ (by simp)) (fun p hp => (hpm p hp).1) f1
        have hkey : ∀ c, s1.keyed c ↔ s.keyed c := fun c => by rw [← hs1]; exact freeze_keyed s _ c
        have henv := freeze_env s (rowIdsL (parts.toList.map fun p => cellsOf (s.ev p.2)))
        rw [hs1] at henv
        have hG := hG0.newRow (nid := nid) (fun hk => hf ((hkey nid).1 hk)) (by rw [henv.2.2.2.1]; exact hnx) (es := parts.toList.map fun p => (cellsOf (s.ev p.2)).map (sealC s)) (k := te.sz) (ty := e) (row := true) (cap := len) (cur := arr') (by rw [g2.1, f2]; simp) (by simp [hlen]) (by
            have : len * 1 ≤ len * te.sz := Nat.mul_le_mul_left _ hsz
            simp only [maxLen]; omega)
          (fun el hel => by
            simp only [List.mem_map] at hel
            obtain ⟨p, hp, rfl⟩ := hel
            exact lensAll_of _ hlens' (p.1, (cellsOf (s.ev p.2)).map (sealC s)) (by simp only [List.mem_map]; exact ⟨p, hp, rfl⟩))
          (fun _ el hel c hc => by
            simp only [List.mem_map] at hel
            obtain ⟨p, hp, rfl⟩ := hel
            obtain ⟨j, hj, rfl⟩ := List.getElem_of_mem hc
            exact okRs_get (hpm p hp).2 (List.getElem?_eq_getElem hj))
          (fun i' j el c he hc => by
            simp only [List.getElem?_map, Option.map_eq_some_iff] at he
            obtain ⟨p, hp, rfl⟩ := he
            have hjl := (List.getElem?_eq_some_iff.1 hc).1
            have hpl := lensAll_of _ hlens' (p.1, (cellsOf (s.ev p.2)).map (sealC s)) (by simp only [List.mem_map]; exact ⟨p, List.mem_of_getElem? hp, rfl⟩)
            simp only at hpl
            have h9 := f4 i' (p.1, (cellsOf (s.ev p.2)).map (sealC s)) (by simp [hp]) j (by omega)
            simp only [Nat.zero_add] at h9
            exact g2.2 _ c (h9.trans hc))
        have hl2 : (parts.toList.map fun p => (cellsOf (s.ev p.2)).map (sealC s)).length = len := by simp [hlen]
        refine ⟨.slice (some ⟨w.heap.size, 0, none⟩) len len, w.alloc (.cells arr' e), ?_, _, rfl, _, _, _, hG.put (by simpa [St.setBox, henv.2.1] using hd) ⟨rfl, hOf.mk rfl (St.box_set_same _ _ _) (by simp [hlen]) fun _ => .inr ⟨_, len, upd_same _ _ _, rfl, Nat.le_refl _, by rw [upd_same]; exact Nat.le_refl _, fun _ => rfl⟩⟩, Fr.alloc _ _ _⟩
        have hsm : ¬ (len * te.sz > 2 ^ 24) := by omega
        have hmap : (parts.map fun (i, x) => (i, a.eval x)).toList = parts.toList.map fun p => (p.1, a.eval p.2) := by simp
        unfold Instr.buildSlice
        rw [Sem.run_bind, run_underlying ((ht t ti hti).slice hk) w]
        simp only [Result.andThen_ok, Sem.run_bind, hT.run_sizeOf]
        rw [if_neg hsm]
        have hzv : (zeroValue e).run P w = .ok z w := by simp [zeroValue, typeInfo, hi, hz]
        by_cases h0 : len * te.sz = 0
        · rw [if_pos h0] at hzc ⊢
          subst hzc
          simp only [Sem.run_bind, Sem.run_pure, Result.andThen_ok, hmap]
          rw [g1]
          simp [newRow]
        · rw [if_neg h0] at hzc ⊢
          subst hzc
          simp only [Sem.run_bind, Sem.run_pure, Result.andThen_ok, hmap, hzv]
          rw [g1]
          simp [newRow]
      · exact hp.elim
    · exact hp.elim
  · exact hp.elim

theorem makeFunc_ok (h : Good X s a w β cp Rd) {d : Option Nat} (hd : dstOK s.nt d) {f : Nat} {captured : Array Operand} (hp : (makeFuncS f (captured.toList.map s.ev) s d).1) :
    ∃ u, (∀ w, (Instr.makeFunc (.func f) #[] (captured.map a.eval)).run P w = .ok u w) ∧ ∃ s', (makeFuncS f (captured.toList.map s.ev) s d).2 s' ∧ Good X s' (a.put d u) w β cp Rd := by
  unfold makeFuncS at hp ⊢
  simp only [Res.mk1] at hp ⊢
  obtain ⟨h1, h2, h3, h4⟩ := hp
  refine ⟨_, fun w => rfl, _, rfl, h.put hd ⟨_, rfl, by rw [h2]; simp, fun j c hj => ?_⟩⟩
  have key : ∀ (l : List Operand), (∀ x ∈ l.map s.ev, ∃ c, x = .c c) → ∀ (j : Nat) c, ((l.map s.ev).flatMap cellsOf)[j]? = some c → ∃ o, l[j]? = some o ∧ s.ev o = .c c := by
    intro l
    induction l with
    | nil => intro _ j c hj; simp at hj
    | cons o r ih =>
      intro hl j c hj
      obtain ⟨c0, hc0⟩ := hl (s.ev o) (by simp)
      simp only [List.map_cons, List.flatMap_cons, hc0, cellsOf] at hj
      cases j with
      | zero => simp at hj; subst hj; exact ⟨o, rfl, hc0⟩
      | succ j =>
        obtain ⟨o', q1, q2⟩ := ih (fun x hx => hl x (List.mem_cons_of_mem _ hx)) j c (by simpa using hj)
        exact ⟨o', by simpa using q1, q2⟩
  obtain ⟨o, q1, q2⟩ := key captured.toList h4 j c hj
  have hv := h.ev o
  rw [q2] at hv
  have e : (captured.map a.eval).getD j undef = a.eval o := by
    rw [Array.getElem?_toList] at q1
    simp [Array.getD_eq_getD_getElem?, q1]
  rw [e]
  have hnf := h3 c (List.mem_of_getElem? hj)
  cases c with
  | fn f l => exact absurd rfl (hnf f l)
  | _ => exact hv
end
end Go.VE
end
section
namespace Go.VE
open Go

theorem copyE_length {es : List (List C)} {lo m : Nat} {ys : List (List C)} (h : lo + m ≤ es.length) (hm : m ≤ ys.length) : (copyE es lo m ys).length = es.length := by
  simp only [copyE, List.length_append, List.length_take, List.length_drop]; omega

theorem copyE_get {es : List (List C)} {lo m : Nat} {ys : List (List C)} (h : lo + m ≤ es.length) (hm : m ≤ ys.length) (i : Nat) :
    (copyE es lo m ys)[i]? = if lo ≤ i ∧ i < lo + m then ys[i - lo]? else es[i]? := by
  simp only [copyE, List.getElem?_append, List.length_take, List.getElem?_take, List.getElem?_drop]
  have h1 : min lo es.length = lo := by omega
  have h2 : min m ys.length = m := by omega
  rw [h1, h2]
  by_cases a1 : i < lo
  · rw [if_pos a1, if_pos a1, if_neg (by omega)]
  · rw [if_neg a1]
    by_cases a2 : i - lo < m
    · rw [if_pos a2, if_pos a2, if_pos (by omega)]
    · rw [if_neg a2, if_neg (by omega)]
      congr 1; omega

section
variable {P : Program} {tt : Nat → Option TI} {X : Cx} {s : St} {a : Act} {w : World} {β : Nat → Option Nat} {cp : Nat → Nat} {Rd : Nat → Prop}

theorem run_copy_gen (w : World) (dT sT ty elem : TypeId) (g o dLen dCap : Nat) (ad : Addr) (sLen sCap sz : Nat) (cur : Array Value) (t : TypeId) (cs : List Value)
    (hu : P.underlying dT = some (.slice elem)) {i : TypeInfo} (hi : P.info? elem = some i) (hs : i.size = sz)
    (hg : w.heap[g]? = some (.cells cur t (0, 0))) (hn : cs.length = Nat.min sLen dLen * sz)
    (hsrc : ∀ j v, cs[j]? = some v → w.cell? (ad.add j) = some v) (hfit : o + cs.length ≤ cur.size) (h1 : ∀ v ∈ cs, v.oneCell' = true) :
    (Builtin.copy_ #[dT, sT] ty #[.slice (some ⟨g, o, none⟩) dLen dCap, .slice (some ad) sLen sCap]).run P w =
      .ok (goInt (Nat.min sLen dLen)) (w.setRow g (cur.toList.take o ++ cs ++ cur.toList.drop (o + cs.length)).toArray) := by
  have hl := run_loadCells_list (P := P) w ad cs hsrc
  have hst := run_storeCells_at P g o t cs 0 cur w hg (by simpa using hfit) h1
  simp [Builtin.copy_, run_underlying hu, Builtin.lenOf, Builtin.firstCells, sizeOf, typeInfo, hi, hs, ← hn, hl, hst]

theorem run_copy_zero (w : World) (dT sT ty elem : TypeId) (da sa : Option Addr) (dLen dCap sLen sCap : Nat) (hu : P.underlying dT = some (.slice elem)) {i : TypeInfo} (hi : P.info? elem = some i) (hn : Nat.min sLen dLen = 0) :
    (Builtin.copy_ #[dT, sT] ty #[.slice da dLen dCap, .slice sa sLen sCap]).run P w = .ok (goInt 0) w := by
  cases da <;> cases sa <;> simp [Builtin.copy_, run_underlying hu, Builtin.lenOf, Builtin.firstCells, sizeOf, typeInfo, hi, hn, storeCells, loadCells, loadCellsFrom]

/-- Onto a part of a row of one's own. -/
theorem copy_core (h : Good X s a w β cp Rd) {d : Option Nat} (hd : dstOK s.nt d) {t t2 ty e : Nat} {ie : TypeInfo} {sz : Nat} (hu : P.underlying t = some (.slice e)) (hie : P.info? e = some ie) (hs : ie.size = sz) {b : Nat} {bx : Box} (hbx : s.box b = some bx)
    (hrow : bx.row = true) (hfz : bx.fz = false) (hk : bx.k = sz) (hsz : 0 < sz) {lo hi : Nat} (hlo : lo ≤ hi) (hhi : hi ≤ bx.es.length) {aa : Option Addr} {c : Nat} (haa : lo < hi → ∃ g, β b = some g ∧ aa = some ⟨g, lo * bx.k, none⟩)
    {v' : Value} {y : AV} (hy : MA w (X.mt s β Rd) Rd (hOf s β cp) v' y) {p : Prop} {ys : List (List C)} (hsrc : srcOf s (b + 1) y = some (p, ys)) (hl : copyS.srcLen s y) (hys : ∀ e ∈ ys, e.length = sz) :
    ∃ w', (Builtin.copy_ #[t, t2] ty #[.slice aa (hi - lo) c, v']).run P w = .ok (.int .i64 ((min (hi - lo) ys.length : Nat) : Int)) w' ∧
      Rel X ((s.setBox b (some { bx with es := copyE bx.es lo (min (hi - lo) ys.length) ys })).put d (.c (.v (.int .i64 ((min (hi - lo) ys.length : Nat) : Int))))) (a.put d (.int .i64 ((min (hi - lo) ys.length : Nat) : Int))) w' := by
  obtain ⟨hpy, hsrc2⟩ := src_ok h hy hsrc hl hsz hys
  have hB := h.boxes b bx hbx
  have zero : min (hi - lo) ys.length = 0 → ∀ x c', v' = .slice x ys.length c' → ∃ w', (Builtin.copy_ #[t, t2] ty #[.slice aa (hi - lo) c, v']).run P w = .ok (.int .i64 ((min (hi - lo) ys.length : Nat) : Int)) w' ∧
      Rel X ((s.setBox b (some { bx with es := copyE bx.es lo (min (hi - lo) ys.length) ys })).put d (.c (.v (.int .i64 ((min (hi - lo) ys.length : Nat) : Int))))) (a.put d (.int .i64 ((min (hi - lo) ys.length : Nat) : Int))) w' := by
    rintro h0 x c' rfl
    refine ⟨w, ?_, ?_⟩
    · rw [run_copy_zero w t t2 ty e aa x _ c _ c' hu hie (by rw [← h0]; exact Nat.min_comm _ _), h0]; rfl
    · rw [h0]
      have e0 : copyE bx.es lo 0 ys = bx.es := by simp [copyE]
      rw [e0]
      have hG := h.updM (w' := w) b bx (β b) (cp b) (h.fresh b (St.keyed_of_box hbx)) (.inr ⟨bx, hbx, id, .inl ⟨rfl, rfl, rfl, rfl⟩⟩) (Keeps.refl _ w) (fun g hg => .inr ⟨bx, hbx, hg⟩) hB
      exact ⟨_, _, _, hG.put (by simpa [St.setBox] using hd) (RC.v _ rfl)⟩
  rcases hsrc2 with ⟨x, c', rfl, hnil⟩ | ⟨ad, c', news, rfl, hnl, hnews, hone, hmc⟩
  · exact zero (by rw [hnil]; simp) x c' (by rw [hnil]; rfl)
  by_cases h0 : min (hi - lo) ys.length = 0
  · exact zero h0 _ c' rfl
  have hlt : lo < hi := by omega
  obtain ⟨g, hg, rfl⟩ := haa hlt
  rcases hB.two (.inl hrow) with ⟨q1, _⟩ | ⟨g', cur, h1, h2, h4, h5, h6, h7, h9, h8⟩
  · rw [q1] at hg; cases hg
  rw [h1] at hg; cases hg
  generalize hm : min (hi - lo) ys.length = m at *
  have hm1 : m ≤ hi - lo := by omega
  have hm2 : m ≤ ys.length := by omega
  have hlen : (news.take (m * sz)).length = m * sz := by
    rw [List.length_take, hnl]
    have := Nat.mul_le_mul_right sz hm2
    omega
  have hspan : lo * sz + m * sz ≤ cur.size := by
    rw [← Nat.add_mul, h4, hk]
    exact Nat.mul_le_mul_right _ (by omega)
  have hr := run_copy_gen (P := P) w t t2 ty e g (lo * bx.k) (hi - lo) c ad ys.length c' sz cur bx.ty (news.take (m * sz)) hu hie hs h2 (by rw [hlen]; congr 1; rw [← hm]; exact Nat.min_comm _ _)
    (fun j v hj => hnews j v (by rw [List.getElem?_take] at hj; split at hj; exact hj; cases hj)) (by rw [hlen, hk]; exact hspan) (fun u hu => hone u (List.mem_of_mem_take hu))
  have hmm : Nat.min ys.length (hi - lo) = m := by rw [← hm]; exact Nat.min_comm _ _
  rw [hmm] at hr
  refine ⟨_, hr, _, _, _, (h.upd (w' := w.setRow g (cur.toList.take (lo * bx.k) ++ news.take (m * sz) ++ cur.toList.drop (lo * bx.k + (news.take (m * sz)).length)).toArray) b
    { bx with es := copyE bx.es lo m ys } (β b) (cp b) (h.fresh b (St.keyed_of_box hbx)) (.inr ⟨bx, hbx, fun _ => hfz, .inl ⟨copyE_length (by omega) hm2, rfl, rfl, rfl⟩⟩)
    ⟨rfl, rfl, ⟨rfl, trivial⟩, by simp, fun q _ hq => setRow_other w g q _ (fun e => hq ⟨bx, hbx, hfz, by rw [h1, e]⟩)⟩ (fun q hq => .inr ⟨bx, hbx, hq⟩)
    (.inr ⟨g, _, h1, setRow_heap w g cur _ bx.ty _ h2, ?_, ?_, h6, ?_, ?_, ?_⟩)).put (by simpa [St.setBox] using hd) (RC.v _ rfl)⟩
  · simp only [List.size_toArray, List.length_append, List.length_take, List.length_drop, Array.length_toList, hlen, hk] at hlen ⊢
    rw [hk] at h4
    omega
  · rw [copyE_length (by omega) hm2]; exact h5
  · intro el hel
    obtain ⟨i, hi', rfl⟩ := List.getElem_of_mem hel
    have := List.getElem?_eq_getElem hi'
    rw [copyE_get (by omega) hm2] at this
    split at this
    · dsimp only; rw [hk]; exact hys _ (List.mem_of_getElem? this)
    · exact h7 _ (List.mem_of_getElem? this)
  · intro hr' el hel
    obtain ⟨i, hi', rfl⟩ := List.getElem_of_mem hel
    have := List.getElem?_eq_getElem hi'
    rw [copyE_get (by omega) hm2] at this
    split at this
    · exact hpy _ (List.mem_of_getElem? this)
    · exact h9 hr' _ (List.mem_of_getElem? this)
  · intro i j el cc he hc
    dsimp only at he ⊢
    rw [copyE_get (by omega) hm2] at he
    have hcur : ∀ q, q < cur.size → (cur.toList.take (lo * bx.k) ++ news.take (m * sz) ++ cur.toList.drop (lo * bx.k + (news.take (m * sz)).length)).toArray.getD q undef =
        if lo * sz ≤ q ∧ q < lo * sz + m * sz then news.getD (q - lo * sz) undef else cur.getD q undef := by
      intro q hq
      simp only [Array.getD_eq_getD_getElem?, List.getD_eq_getElem?_getD, List.getElem?_toArray, List.getElem?_append, List.length_append, hlen, Array.length_toList, List.getElem?_take, List.getElem?_drop, Array.getElem?_toList, hk]
      rw [List.length_take, Array.length_toList]
      have hmin : min (lo * sz) cur.size = lo * sz := by omega
      rw [hmin]
      by_cases a1 : q < lo * sz
      · rw [if_pos (by omega), if_pos a1, if_pos a1, if_neg (by omega)]
      · by_cases a2 : q < lo * sz + m * sz
        · rw [if_pos (by omega), if_neg a1, if_pos (by omega), if_pos (by omega)]
        · rw [if_neg (by omega), if_neg (by omega)]
          congr 2; omega
    split at he
    · rename_i hin
      have hil := (List.getElem?_eq_some_iff.1 he).1
      have hjl := (List.getElem?_eq_some_iff.1 hc).1
      rw [hys el (List.mem_of_getElem? he)] at hjl
      have hq := row_lt (m := m) (sz := sz) (i := i - lo) (j := j) (by omega) hjl
      have e1 : i * bx.k + j = lo * sz + ((i - lo) * sz + j) := by
        rw [hk, ← Nat.add_assoc, ← Nat.add_mul]; congr 2; omega
      rw [e1, hcur _ (by omega), if_pos (by omega), Nat.add_sub_cancel_left]
      exact hmc _ j el cc he hc
    · rename_i hin
      have hil := (List.getElem?_eq_some_iff.1 he).1
      have hjl := (List.getElem?_eq_some_iff.1 hc).1
      rw [h7 el (List.mem_of_getElem? he)] at hjl
      have hlt2 := row_lt (m := cp b) (sz := bx.k) (i := i) (j := j) (by omega) hjl
      rw [hcur _ (by omega), if_neg]
      · exact h8 i j el cc he hc
      · rintro ⟨q1, q2⟩
        rw [← Nat.add_mul] at q2
        rw [hk] at q1 q2 hjl
        rcases Nat.lt_or_ge i lo with q3 | q3
        · have : (i + 1) * sz ≤ lo * sz := Nat.mul_le_mul_right _ q3
          rw [Nat.succ_mul] at this
          omega
        · have : (lo + m) * sz ≤ i * sz := Nat.mul_le_mul_right _ (by omega)
          omega

theorem copy_ok (ht : TTok P tt) (h : Good X s a w β cp Rd) {d : Option Nat} (hd : dstOK s.nt d) {t t2 ty : Nat} {v v' : Value} {x y : AV} (hx : MA w (X.mt s β Rd) Rd (hOf s β cp) v x)
    (hy : MA w (X.mt s β Rd) Rd (hOf s β cp) v' y) (hp : (copyS tt t x y s d).1) :
    ∃ u w', (Builtin.copy_ #[t, t2] ty #[v, v']).run P w = .ok u w' ∧ ∃ s', (copyS tt t x y s d).2 s' ∧ Rel X s' (a.put d u) w' := by
  unfold copyS at hp ⊢
  split at hp
  · rename_i sz b n t0 hsz
    obtain ⟨e, hu, ie, hie, hsz'⟩ := elemSz_key ht hsz
    split at hp
    · rename_i bx p ys hbx hsrc
      simp only [Res.mk1] at hp ⊢
      obtain ⟨hn, hl, hrow, hfz, hk, hs, hys⟩ := hp
      have hV := hx.2.at rfl hbx hn
      have hv : ∃ aa c, v = .slice aa (n - 0) c ∧ (0 < n → ∃ g, β b = some g ∧ aa = some ⟨g, 0 * bx.k, none⟩) := by
        rcases hV with ⟨_, q, aa, rfl⟩ | ⟨g, c, q1, rfl, _⟩
        · exact ⟨aa, 0, by rw [q], by omega⟩
        · exact ⟨_, c, rfl, fun _ => ⟨g, q1, by simp⟩⟩
      obtain ⟨aa, c, rfl, haa⟩ := hv
      obtain ⟨w', h1, h2⟩ := copy_core (t2 := t2) (ty := ty) h hd hu hie hsz' hbx hrow hfz hk hs (Nat.zero_le n) (by omega) (c := c) haa hy hsrc hl hys
      exact ⟨_, w', h1, _, rfl, by simpa using h2⟩
    · exact hp.elim
  · rename_i sz b n lo hi hsz
    obtain ⟨e, hu, ie, hie, hsz'⟩ := elemSz_key ht hsz
    split at hp
    · rename_i bx p ys hbx hsrc
      simp only [Res.mk1] at hp ⊢
      obtain ⟨hn, hl, hrow, hfz, hk, hs, hys⟩ := hp
      obtain ⟨v1, v2, aa, c, rfl, v3, v4, v5⟩ := hx.2.at rfl hbx hn
      obtain ⟨w', h1, h2⟩ := copy_core (t2 := t2) (ty := ty) h hd hu hie hsz' hbx hrow hfz hk hs v1 (by omega) (c := c) v5 hy hsrc hl hys
      exact ⟨_, w', h1, _, rfl, h2⟩
    · exact hp.elim
  · exact hp.elim
end
end Go.VE
end
section
namespace Go.VE
open Go

section
variable {P : Program} {tt : Nat → Option TI} {X : Cx} {s : St} {a : Act} {w : World} {β : Nat → Option Nat} {cp : Nat → Nat} {Rd : Nat → Prop}

theorem makeMap_ok (h : Good X s a w β cp Rd) {d : Option Nat} (hd : dstOK s.nt d) {nid : Nat} (hf : ¬ s.keyed nid) (hnx : nid < s.nx) {t : Nat} (hp : (makeMapS nid t s d).1) :
    ∃ u w', (Instr.makeMap t none).run P w = .ok u w' ∧ ∃ s', (makeMapS nid t s d).2 s' ∧ RelF w Rd X s' (a.put d u) w' := by
  cases d with
  | none => exact hp.elim
  | some d =>
    have hG := h.updM (w' := w.alloc (.map #[] 0)) nid ⟨[], 0, t, false, true⟩ (some w.heap.size) 0 hnx (.inl hf) (Keeps.alloc _ w _) (fun g hg => .inl (by cases hg; exact Nat.le_refl _))
      (.inr ⟨rfl, rfl, rfl, w.heap.size, #[], 0, rfl, heap_alloc_new w _⟩)
    have hmt : ¬ X.mt (s.setBox nid (some ⟨[], 0, t, false, true⟩)) (VE.upd β nid (some w.heap.size)) Rd w.heap.size := by
      rintro (h1 | ⟨b, bx, h1, h2, h3⟩ | h1)
      · have := h.avlt _ h1
        have := h.keeps.size
        omega
      · by_cases e : b = nid
        · subst e
          rw [St.box_set_same] at h1
          cases h1
          cases h2
        · rw [St.box_set_ne _ _ e] at h1
          rw [upd_ne _ _ e] at h3
          exact Nat.lt_irrefl _ ((h.boxes b bx h1).lt h3)
      · exact Nat.lt_irrefl _ (h.rdok _ h1).1
    refine ⟨.map (some w.heap.size), w.alloc (.map #[] 0), rfl, _, rfl, _, _, Rd, hG.put (x := .mp nid []) (by simpa [St.setBox] using hd) ⟨w.heap.size, #[], 0, rfl, hOf.mk rfl (St.box_set_same _ _ _) (Nat.zero_le _) (fun _ => ⟨w.heap.size, by rw [upd_same], by simp⟩), hmt, by simp, heap_alloc_new w _, rfl⟩, Fr.alloc w Rd _⟩

theorem cell_of_map {g o : Nat} {es : Array MapEntry} {clk : Nat} (hb : w.heap[g]? = some (.map es clk)) : w.cell? ⟨g, o, none⟩ = none := by
  simp [World.cell?, hb]

theorem RC.setMap {w' : World} {Mt : Nat → Prop} {g : Nat} {es : Array MapEntry} {clk : Nat} (hb : w.heap[g]? = some (.map es clk)) (hk : ∀ q, q ≠ g → w'.heap[q]? = w.heap[q]?) (hsz : w'.heap.size = w.heap.size) {v : Value} {c : C} (h : RC w Mt v c) : RC w' Mt v c := by
  have cell : ∀ q o u, w.cell? ⟨q, o, none⟩ = some u → w'.cell? ⟨q, o, none⟩ = some u := by
    intro q o u hc
    have hq : q ≠ g := by
      rintro rfl
      rw [cell_of_map hb] at hc
      cases hc
    exact (World.cell?_of_block (w := w) (w' := w') (a := ⟨q, o, none⟩) (hk q hq)).trans hc
  induction h with
  | v x hx => exact .v x hx
  | sl t es k a p n cap hn ht hle hmax hk' ha u hc _ ih =>
    exact .sl t es k a p n cap hn ht hle hmax hk' (fun hne => by rw [hsz]; exact ha hne) u (fun i j e c h1 h2 => cell _ _ _ (hc i j e c h1 h2)) ih
  | rp cs p hs hm hlt u hc _ ih => exact .rp cs p hs hm (by rw [hsz]; exact hlt) u (fun j c h1 => cell _ _ _ (hc j c h1)) ih

theorem MC.setMap {w' : World} {Mt Rd : Nat → Prop} {H : C → Value → Prop} {g : Nat} {es : Array MapEntry} {clk : Nat} (hb : w.heap[g]? = some (.map es clk)) (hk : ∀ q, q ≠ g → w'.heap[q]? = w.heap[q]?) (hsz : w'.heap.size = w.heap.size) {v : Value} {c : C} (h : MC w Mt Rd H v c) : MC w' Mt Rd H v c := by
  have h0 : ∀ v c, MC0 w Mt Rd H v c → MC0 w' Mt Rd H v c := by
    intro v c h
    cases c <;> simp only [MC0] at h ⊢ <;> first | exact h | exact RC.setMap hb hk hsz h | exact ⟨h.1, RC.setMap hb hk hsz h.2⟩
  cases c
  case fn f caps =>
    obtain ⟨arr, e, hs, hr⟩ := h
    exact ⟨arr, e, hs, fun j c hj => h0 _ _ (hr j c hj)⟩
  all_goals (simp only [MC] at h ⊢; exact h0 _ _ h)

theorem sameBits_ints (as : List Int) : Instr.sameBits 10000 (.agg (as.map (Value.int .i64)).toArray) (.agg (as.map (Value.int .i64)).toArray) = true := by
  show Instr.sameBits (9999 + 1) _ _ = true
  simp only [Instr.sameBits, beq_self_eq_true, Bool.true_and, List.all_eq_true]
  intro p hp
  obtain ⟨i, hi, e⟩ := List.getElem_of_mem hp
  rw [List.getElem_zip] at e
  rw [← e]
  simp [Instr.sameBits]

theorem asking_ok {kt : Nat} (as : List Int) (w : World) (heq : ∀ bs : List Int, bs.length = as.length → (Op.equalIn 10000 kt (.agg (as.map (Value.int .i64)).toArray) (.agg (bs.map (Value.int .i64)).toArray)).run P w = .ok (decide (as = bs)) w) :
    ∀ (es : List MapEntry) (ks : List (List Int)) (i : Nat), es.map (·.key) = ks.map (fun k => .agg (k.map fun n => Value.int .i64 n).toArray) → (∀ k ∈ ks, k.length = as.length) →
      ((Instr.findAsking kt (.agg (as.map (Value.int .i64)).toArray) es i).run P w = .ok none w ∧ insK as ks = ks ++ [as]) ∨
      ∃ j e, (Instr.findAsking kt (.agg (as.map (Value.int .i64)).toArray) es i).run P w = .ok (some (i + j, e.val)) w ∧ es[j]? = some e ∧ e.key = .agg (as.map (Value.int .i64)).toArray ∧ insK as ks = ks
  | [], [], i, _, _ => .inl ⟨by simp [Instr.findAsking], rfl⟩
  | [], _ :: _, _, h, _ => by cases h
  | _ :: _, [], _, h, _ => by cases h
  | e :: es, k :: ks, i, h, hl => by
    simp only [List.map_cons, List.cons.injEq] at h
    have hr := heq k (hl k (by simp))
    have hr' : (Op.equal kt (.agg (as.map (Value.int .i64)).toArray) e.key).run P w = .ok (decide (as = k)) w := by
      rw [h.1]; exact hr
    by_cases e0 : as = k
    · subst e0
      refine .inr ⟨0, e, ?_, rfl, h.1, by simp [insK]⟩
      simp [Instr.findAsking, hr']
    · rcases asking_ok as w heq es ks (i + 1) h.2 (fun k hk => hl k (by simp [hk])) with ⟨h1, h2⟩ | ⟨j, e', h1, h2, h3, h4⟩
      · exact .inl ⟨by simp [Instr.findAsking, hr', e0, h1], by simp [insK, e0, h2]⟩
      · exact .inr ⟨j + 1, e', by simp [Instr.findAsking, hr', e0, h1, Nat.add_assoc, Nat.add_comm 1 j], by simpa using h2, h3, by simp [insK, e0, h4]⟩

theorem findKey_ok {kt : Nat} {kd : TypeDesc} (hu : P.underlying kt = some kd) (as : List Int) (w : World) (es : List MapEntry) (ks : List (List Int)) (hk : es.map (·.key) = ks.map (fun k => .agg (k.map fun n => Value.int .i64 n).toArray)) :
    (Instr.findKey kt (.agg (as.map (Value.int .i64)).toArray) es).run P w = (Instr.findAsking kt (.agg (as.map (Value.int .i64)).toArray) es 0).run P w := by
  unfold Instr.findKey
  rw [Sem.run_bind, run_underlying hu w, Result.andThen_ok]
  cases es with
  | nil => simp [Instr.findNow, Instr.findAsking]
  | cons e es =>
    have : Instr.findNow kd (.agg (as.map (Value.int .i64)).toArray) (e :: es) 0 = none := by
      cases kd <;> simp [Instr.findNow, Instr.sameNow]
    rw [this]

theorem lkE_map (f : AV → AV) (hf : f (.c .bot) = .c .bot) : ∀ (env : List (Nat × AV)) (t : Nat), lkE (env.map fun p => (p.1, f p.2)) t = f (lkE env t)
  | [], t => hf.symm
  | (k, x) :: r, t => by
    simp only [List.map_cons, lkE]
    cases k == t with
    | true => rfl
    | false => exact lkE_map f hf r t

theorem mapUpd_ok (htt : TTok P tt) (h : Good X s a w β cp Rd) {t : Nat} {vm vk vx : Value} {m k x : AV} (hm : MA w (X.mt s β Rd) Rd (hOf s β cp) vm m) (hk : MA w (X.mt s β Rd) Rd (hOf s β cp) vk k) (hx : MA w (X.mt s β Rd) Rd (hOf s β cp) vx x) (hp : (mapUpdS tt t m k x s).1) :
    ∃ w', (Instr.mapUpdate t vm vk vx).run P w = .ok () w' ∧ ∃ s', (mapUpdS tt t m k x s).2 s' ∧ Rel X s' a w' := by
  unfold mapUpdS at hp ⊢
  split at hp
  · rename_i kt b ks cs hti
    split at hp
    · rename_i te hte
      simp only [Res.mk1] at hp ⊢
      obtain ⟨he, hsz, hint, hnp, hbox, hks⟩ := hp
      simp only [Option.map_eq_some_iff] at hti
      obtain ⟨ti, h1, h2⟩ := hti
      obtain ⟨dd, hu, hdk⟩ := (htt t ti h1).und
      rw [h2] at hdk
      obtain ⟨ke, hu'⟩ : ∃ ke, P.underlying t = some (.map kt ke) := by cases dd <;> first | exact hdk.elim | (simp only [descOK] at hdk; subst hdk; exact ⟨_, hu⟩)
      obtain ⟨g, es, clk, rfl, q1, q2, q3, q4, q5⟩ := hm
      obtain ⟨as, rfl⟩ := ints_map cs hint
      obtain ⟨arr, rfl, harr⟩ := hk
      have ha : arr = (as.map (Value.int .i64)).toArray := harr.ints
      subst ha
      have hvx : vx = .bool true := by cases hx; rfl
      subst hvx
      have hio : intsOf (as.map fun a => C.v (.int .i64 a)) = as := by
        clear hsz hint harr hks
        induction as with
        | nil => rfl
        | cons a r ih => simp [intsOf, ih]
      simp only [List.length_map] at hsz hks
      obtain ⟨g1, g2⟩ := (htt kt te hte).eqv he
      obtain ⟨kd, hku, _⟩ := (htt kt te hte).und
      have hβ : β b = some g := by
        obtain ⟨g', e1, e2⟩ := q1.at rfl hbox rfl
        cases e2; exact e1
      have hg0 : X.w0.heap.size ≤ g := by
        rcases h.org b _ g hbox hβ with h3 | ⟨q, h3, _⟩
        · exact h3
        · have := (List.getElem?_eq_some_iff.1 h3).1
          rw [h.npin] at this
          omega
      have hck := (g2 w as as hsz.symm hsz.symm).2
      have hask := asking_ok as w (fun bs hb => (g2 w as bs hsz.symm (hb.trans hsz.symm)).1) es.toList ks 0 q5 hks
      rw [← findKey_ok hku as w es.toList ks q5] at hask
      -- the new world
      have done : ∀ es' clk', KeysAre es' (insK as ks) → (Instr.mapUpdate t (.map (some g)) (.agg (as.map (Value.int .i64)).toArray) (.bool true)).run P w = .ok () { w with heap := w.heap.setIfInBounds g (.map es' clk') } →
          ∃ w', (Instr.mapUpdate t (.map (some g)) (.agg (as.map (Value.int .i64)).toArray) (.bool true)).run P w = .ok () w' ∧ ∃ s', s' = { s with env := s.env.map fun p => (p.1, updM b (intsOf (as.map fun a => C.v (.int .i64 a))) p.2) } ∧ Rel X s' a w' := by
        intro es' clk' hkeys hrun
        rw [hio]
        refine ⟨_, hrun, _, rfl, β, cp, Rd, ?_⟩
        generalize hw' : ({ w with heap := w.heap.setIfInBounds g (.map es' clk') } : World) = w'
        have hsz' : w'.heap.size = w.heap.size := by rw [← hw']; simp
        have hoth : ∀ q, q ≠ g → w'.heap[q]? = w.heap[q]? := fun q hq => by
          rw [← hw']
          exact Array.getElem?_setIfInBounds_ne (fun e => hq e.symm)
        have hself : w'.heap[g]? = some (.map es' clk') := by
          rw [← hw']
          show (w.heap.setIfInBounds g _)[g]? = _
          rw [Array.getElem?_setIfInBounds_self_of_lt q3]
        have hne : ∀ q bv p, RdB X.rt w q bv p → q ≠ g := by
          rintro q bv p ⟨arr, c, e1, _⟩ rfl
          rw [q4] at e1
          cases e1
        have hrd : ∀ q, Rd q → w'.heap[q]? = w.heap[q]? := fun q hq => by
          obtain ⟨_, bv, p, bs, e1, _⟩ := h.rdok q hq
          exact hoth q (hne q _ _ e1)
        have hMC : ∀ v c, MC w (X.mt s β Rd) Rd (hOf s β cp) v c → MC w' (X.mt s β Rd) Rd (hOf s β cp) v c := fun v c hc => hc.setMap q4 hoth hsz'
        have hA1 : ∀ v x, MA1 w (X.mt s β Rd) Rd (hOf s β cp) v x → MA1 w' (X.mt s β Rd) Rd (hOf s β cp) v x := by
          intro v x hv
          cases x with
          | c c => exact hMC _ _ hv
          | agg cs => obtain ⟨arr, e, e1, e2⟩ := hv; exact ⟨arr, e, e1, fun j c hj => hMC _ _ (e2 j c hj)⟩
          | tup _ => exact hv.elim
          | mp _ _ => exact hv.elim
        have hk0 : w'.os = w.os ∧ w'.tape = w.tape ∧ w'.output = w.output ∧ True := by rw [← hw']; exact ⟨rfl, rfl, rfl, trivial⟩
        exact {
          defers := h.defers
          size := h.size
          keeps := ⟨hk0.1.trans h.keeps.os, hk0.2.1.trans h.keeps.tape, ⟨hk0.2.2.1.trans h.keeps.output.1, trivial⟩, by rw [hsz']; exact h.keeps.size, fun q hq hmq => (hoth q (by omega)).trans (h.keeps.block q hq hmq)⟩
          fresh := h.fresh
          org := h.org
          own_rd := h.own_rd
          own_av := h.own_av
          rdsame := fun q hq => by
            obtain ⟨bv, p, p', e1, e2⟩ := h.rdsame q hq
            exact ⟨bv, p, p', e1, e2.congr (hrd q (h.rd0 q hq))⟩
          inj := h.inj
          rd0 := h.rd0
          rdge := h.rdge
          avlt := h.avlt
          npin := h.npin
          pin := h.pin
          rdok := fun q hq => by
            obtain ⟨e0, bv, p, bs, e1, e2, e3, e4⟩ := h.rdok q hq
            exact ⟨by rw [hsz']; exact e0, bv, p, bs, e1.congr (hrd q hq), e2, e3, e4.setMap q4 hoth hsz'⟩
          env := fun t => by
            have e1 : ({ s with env := s.env.map fun p => (p.1, updM b as p.2) } : St).get t = updM b as (s.get t) := lkE_map (updM b as) rfl s.env t
            rw [e1]
            have e2 := h.env t
            show MA w' (X.mt s β Rd) Rd (hOf s β cp) (a.tmps.getD t undef) (updM b as (s.get t))
            generalize s.get t = x at e2 ⊢
            cases x with
            | c c => exact hMC _ _ e2
            | agg cs => exact hA1 _ (.agg cs) e2
            | tup vs => trivial
            | mp b' ks' =>
              simp only [updM]
              cases hbb : b' == b with
              | false => trivial
              | true =>
                have := eq_of_beq hbb
                subst this
                obtain ⟨g', es2, clk2, r1, r2, r3, r4, r5, r6⟩ := e2
                obtain ⟨g3, r7, r8⟩ := r2.at rfl hbox rfl
                rw [hβ] at r7
                cases r7
                cases r8
                rw [q4] at r5
                cases r5
                have hks' : ks' = ks := by
                  unfold KeysAre at q5 r6
                  rw [q5] at r6
                  have hinj : ∀ (l l' : List (List Int)), l.map (fun k => Value.agg (k.map fun n => Value.int .i64 n).toArray) = l'.map (fun k => Value.agg (k.map fun n => Value.int .i64 n).toArray) → l = l' := by
                    intro l l' hll
                    refine (List.map_inj_right ?_).1 hll
                    intro x y hxy
                    simp only [Value.agg.injEq] at hxy
                    have := congrArg Array.toList hxy
                    simp only at this
                    exact (List.map_inj_right (fun p q hpq => by cases hpq; rfl)).1 this
                  exact (hinj _ _ r6).symm
                subst hks'
                exact ⟨g, es', clk', r1, r2, r3, by rw [hsz']; exact r4, hself, hkeys⟩
          boxes := fun b2 bx2 hb2 => by
            have old := h.boxes b2 bx2 hb2
            by_cases e : β b2 = some g
            · rcases old with (⟨e1, _⟩ | ⟨g', cur, e1, e2, _⟩) | ⟨e1, e2, e3, g', es3, clk3, e4, e5⟩
              · rw [e1] at e; cases e
              · rw [e1] at e; cases e
                rw [q4] at e2; cases e2
              · rw [e4] at e; cases e
                exact .inr ⟨e1, e2, e3, g, es', clk', e4, hself⟩
            · exact (old.heap (w' := w') fun q hq => hoth q (by rintro rfl; exact e hq)).mono hMC
          glob := h.glob
          kept := fun q hq => by
            obtain ⟨k1, k2, k3, k4, k5⟩ := h.kept q hq
            have hqg : q ≠ g := by rintro rfl; exact k5 ⟨b, _, es, clk, hbox, hβ, q4⟩
            exact ⟨by rw [hsz']; exact k1, (hoth q hqg).trans k2, k3, k4, fun ⟨b', bx', es', clk', m1, m2, m3⟩ => k5 ⟨b', bx', es', clk', m1, m2, (hoth q hqg) ▸ m3⟩⟩ }
      rcases hask with ⟨r1, r2⟩ | ⟨j, e, r1, r2, r3, r4⟩
      · refine done (es.push ⟨.agg (as.map (Value.int .i64)).toArray, .bool true, clk⟩) (clk + 1) ?_ ?_
        · unfold KeysAre at q5 ⊢
          rw [r2]
          simp [q5]
        · simp [Instr.mapUpdate, run_underlying hu', MapKept.run_getObj_map q4, hck, r1, MapKept.run_setObj_map _ q4, Result.andThen]
      · refine done (es.modify j fun e => { e with key := .agg (as.map (Value.int .i64)).toArray, val := .bool true }) clk ?_ ?_
        · unfold KeysAre at q5 ⊢
          rw [r4, ← q5, Array.toList_modify]
          apply List.ext_getElem?
          intro i
          rw [List.getElem?_map, List.getElem?_map, List.getElem?_modify]
          by_cases hij : j = i
          · subst hij
            rw [r2]
            simp [r3]
          · simp [hij]
        · have r2' : es[j]? = some e := by rw [← Array.getElem?_toList]; exact r2
          rw [Nat.zero_add] at r1
          simp [Instr.mapUpdate, run_underlying hu', MapKept.run_getObj_map q4, hck, r1, r2', r3, Instr.keyThatStays, sameBits_ints, MapKept.run_setObj_map _ q4, Result.andThen]
    · exact hp.elim
  · exact hp.elim
end
end Go.VE
end
