/- A part of the engine: what operations do to described states, proved sound against the model. No conditions. -/
import Derived.Test.YtofelomoieamoaaW1
set_option linter.unusedSimpArgs false
set_option linter.unusedVariables false
namespace Go.VE
open Go

inductive TK where
  | int (k : IntKind)
  | bool
  | string
  | slice (e : Nat)
  | struct (fs : List (Nat × Nat × Nat))
  | map (k : Nat)
  | other

structure TI where
  kind : TK
  sz : Nat
  bytes : Nat
  zv : List Value
  eq : Bool

def TK.agg : TK → Bool
  | .struct _ => true
  | _ => false

/-- A contract. Arguments, and the boxes that are handed over (numbered from 0 on); the result, and the boxes behind the call (those that were handed over, then new ones). 'mut': which arguments hand their boxes over. 'flat': what is handed back leads to nothing that was there before. 'shut': rows are handed back read only. -/
structure Spec where
  pre : List AV → List Box → Prop
  post : List AV → List Box → AV → List Box → Prop
  cost : Nat
  flat : Bool
  mt : List Bool
  shut : Bool

def pickLimit : Nat := 1073741824

def InR : IntKind → Int → Prop
  | .i64, n => -9223372036854775808 ≤ n ∧ n ≤ 9223372036854775807
  | .i32, n => -2147483648 ≤ n ∧ n ≤ 2147483647
  | .u8, n => 0 ≤ n ∧ n ≤ 255
  | .u64, n => 0 ≤ n ∧ n ≤ 18446744073709551615
  | _, _ => False

/-- What an operation asks, and the states that it may leave. -/
abbrev Res := Prop × (St → Prop)
def Res.no : Res := (False, fun _ => False)
def Res.mk1 (p : Prop) (s : St) : Res := (p, fun s' => s' = s)
def Res.mkE {α : Type} (p : Prop) (φ : α → Prop) (f : α → St) : Res := (p, fun s' => ∃ e, φ e ∧ s' = f e)
def Res.app (r : Res) (K : St → Prop) : Prop := r.1 ∧ ∀ s', r.2 s' → K s'
theorem Res.app_mk1 (p : Prop) (s : St) (K : St → Prop) : Res.app (Res.mk1 p s) K = (p ∧ K s) := by simp [Res.app, Res.mk1]
/-- Whatever is so: kept shut, so that no step looks into it before it is known. -/
def Hold {α : Type} (φ : α → Prop) (K : α → Prop) : Prop := ∀ e, φ e → K e
@[congr] theorem Hold_congr {α : Type} {φ φ' : α → Prop} {K : α → Prop} (h : ∀ e, φ e = φ' e) : Hold φ K = Hold φ' K := by
  have : φ = φ' := funext h
  rw [this]
theorem Hold_ex {α β : Type} (φ : β → α → Prop) (K : α → Prop) : Hold (fun x => ∃ k, φ k x) K = ∀ k, Hold (φ k) K := by
  simp only [Hold, eq_iff_iff]
  exact ⟨fun h k e he => h e ⟨k, he⟩, fun h e ⟨k, he⟩ => h k e he⟩
theorem Hold_and {α : Type} (p : Prop) (φ : α → Prop) (K : α → Prop) : Hold (fun x => p ∧ φ x) K = (p → Hold φ K) := by
  simp only [Hold, eq_iff_iff]
  exact ⟨fun h hp e he => h e ⟨hp, he⟩, fun h e ⟨hp, he⟩ => h hp e he⟩
theorem Hold_eq {α : Type} (a : α) (K : α → Prop) : Hold (fun x => x = a) K = K a := by simp [Hold]
theorem Hold_eq' {α : Type} (a : α) (K : α → Prop) : Hold (fun x => a = x) K = K a := by simp [Hold]
theorem Hold_or {α : Type} (φ ψ : α → Prop) (K : α → Prop) : Hold (fun x => φ x ∨ ψ x) K = (Hold φ K ∧ Hold ψ K) := by
  simp only [Hold, eq_iff_iff]
  exact ⟨fun h => ⟨fun e he => h e (.inl he), fun e he => h e (.inr he)⟩, fun ⟨h1, h2⟩ e he => he.elim (h1 e) (h2 e)⟩
theorem Hold_pair {α β : Type} (a : α) (b : β) (K : α × β → Prop) : Hold (fun x => x.1 = a ∧ x.2 = b) K = K (a, b) := by
  simp only [Hold, eq_iff_iff]
  exact ⟨fun h => h (a, b) ⟨rfl, rfl⟩, fun h e ⟨h1, h2⟩ => by cases e; simp only at h1 h2; subst h1 h2; exact h⟩
theorem Hold_pair3 {α β : Type} (a : α) (b : β) (p : Prop) (K : α × β → Prop) : Hold (fun x => x.1 = a ∧ x.2 = b ∧ p) K = (p → K (a, b)) := by
  simp only [Hold, eq_iff_iff]
  exact ⟨fun h hp => h (a, b) ⟨rfl, rfl, hp⟩, fun h e ⟨h1, h2, hp⟩ => by cases e; simp only at h1 h2; subst h1 h2; exact h hp⟩
theorem Res.app_mkE {α : Type} (p : Prop) (φ : α → Prop) (f : α → St) (K : St → Prop) : Res.app (Res.mkE p φ f) K = (p ∧ Hold φ fun e => K (f e)) := by
  simp only [Res.app, Res.mkE, Hold, eq_iff_iff, and_congr_right_iff]
  exact fun _ => ⟨fun h e he => h _ ⟨e, he, rfl⟩, fun h s' ⟨e, he, hs⟩ => hs ▸ h e he⟩
theorem Res.app_no (K : St → Prop) : Res.app Res.no K = False := by simp [Res.app, Res.no]

def constC (x : Value) : C := bif x.oneCell' then .v x else .bot
def ofConst : Value → AV
  | .agg cs => .agg (cs.toList.map constC)
  | .tuple _ => .c .bot
  | x => .c (.v x)

def St.ev (s : St) : Operand → AV
  | .tmp t => s.get t
  | .const v => ofConst v
  | .global _ => .c .bot
  | .func f => .c (.fn f [])

def cellsOf : AV → List C
  | .c x => [x]
  | .agg cs => cs
  | .tup _ => []
  | .mp _ _ => []
def mkAV (agg : Bool) (cs : List C) : AV :=
  match agg with
  | true => .agg cs
  | false => match cs with
    | [x] => .c x
    | _ => .c .bot

/-! Sealing: what is read only from here on. -/
def sealC (s : St) : C → C
  | .own b _ t => match s.box b with
    | some bx => match bx.row with
      | true => .sl t bx.es
      | false => .bot
    | none => .bot
  | .vw b _ lo hi => match s.box b with
    | some bx => match bx.row with
      | true => .sl false ((bx.es.take hi).drop lo)
      | false => .bot
    | none => .bot
  | .v (.slice none 0 0) => .sl true []
  | .ptr _ _ _ _ => .bot
  | .fn _ _ => .bot
  | .und => .bot
  | .bot => .bot
  | x => x
def sealOk (s : St) : C → Prop
  | .own b n _ => match s.box b with
    | some bx => n = bx.es.length
    | none => True
  | .vw b n _ _ => match s.box b with
    | some bx => n = bx.es.length
    | none => True
  | _ => True
def sealOks (s : St) : List C → Prop
  | [] => True
  | c :: r => sealOk s c ∧ sealOks s r
/-- The boxes behind rows. -/
def rowIds : List C → List Nat
  | [] => []
  | .own b _ _ :: r => b :: rowIds r
  | .vw b _ _ _ :: r => b :: rowIds r
  | _ :: r => rowIds r
def rowIdsL : List (List C) → List Nat
  | [] => []
  | x :: r => rowIds x ++ rowIdsL r
def freeze (s : St) : List Nat → St
  | [] => s
  | b :: r => match s.box b with
    | some bx => freeze (s.setBox b (some { bx with fz := true })) r
    | none => freeze s r

section ops
variable (tt : Nat → Option TI) (tab : Nat → Option Spec) (nid : Nat)

def arith (op : BinOp) (k : IntKind) (a b : Int) : Prop × Value :=
  match op with
  | .add => (InR k (a + b), .int k (a + b))
  | .sub => (InR k (a - b), .int k (a - b))
  | .mul => (InR k (a * b), .int k (a * b))
  | .quo => (b ≠ 0 ∧ InR k (a.tdiv b), .int k (a.tdiv b))
  | .rem => (b ≠ 0, .int k (a.tmod b))
  | .eql => (True, .bool (decide (a = b)))
  | .neq => (True, .bool (!decide (a = b)))
  | .lss => (True, .bool (decide (a < b)))
  | .leq => (True, .bool (decide (a ≤ b)))
  | .gtr => (True, .bool (decide (b < a)))
  | .geq => (True, .bool (decide (b ≤ a)))
  | .and => ((k = .u64 ∨ k = .i64) ∧ 0 ≤ a ∧ 0 ≤ b ∧ a ≤ 9223372036854775807 ∧ b ≤ 9223372036854775807, .int k ((a.toNat &&& b.toNat : Nat) : Int))
  | .shr => ((k = .u64 ∨ k = .i64) ∧ 0 ≤ b ∧ b ≤ 63, .int k (a / ((2 ^ b.toNat : Nat) : Int)))
  | .xor => (k = .i64 ∧ 0 ≤ a ∧ 0 ≤ b ∧ a ≤ 9223372036854775807 ∧ b ≤ 9223372036854775807, .int k ((a.toNat ^^^ b.toNat : Nat) : Int))
  | _ => (False, .bool false)

/-- Two rows of integers are the same. -/
def ieq : List C → List C → Bool
  | [], [] => true
  | .v (.int _ a) :: r, .v (.int _ b) :: r' => decide (a = b) && ieq r r'
  | _, _ => false
def ints : List C → Prop
  | [] => True
  | .v (.int .i64 _) :: r => ints r
  | _ => False

/-- Is a slice nil? One that has elements is not. -/
def isNilS (op : BinOp) (t : Nat) (p : Prop) (s : St) (d : Option Nat) : Res :=
  match (tt t).map (fun i => i.kind), op with
  | some (TK.slice _), .eql => Res.mkE True (fun b : Bool => p → b = false) (fun b => s.put d (.c (.v (.bool b))))
  | some (TK.slice _), .neq => Res.mkE True (fun b : Bool => p → b = false) (fun b => s.put d (.c (.v (.bool (!b)))))
  | _, _ => Res.no

def binS (op : BinOp) (t : Nat) (x y : AV) (s : St) (d : Option Nat) : Res :=
  match x, y with
  | .c (.v (.int k a)), .c (.v (.int k' b)) => Res.mk1 (k = k' ∧ (arith op k a b).1) (s.put d (.c (.v (arith op k a b).2)))
  | .c (.v (.bool a)), .c (.v (.bool b)) =>
    match op with
    | .eql => Res.mk1 ((tt t).map (·.kind) = some TK.bool) (s.put d (.c (.v (.bool (a == b)))))
    | .neq => Res.mk1 ((tt t).map (·.kind) = some TK.bool) (s.put d (.c (.v (.bool (!(a == b))))))
    | _ => Res.no
  | .c (.v (.string a)), .c (.v (.string b)) =>
    match op with
    | .eql => Res.mk1 True (s.put d (.c (.v (.bool (decide (a = b))))))
    | .neq => Res.mk1 True (s.put d (.c (.v (.bool (!decide (a = b))))))
    | .add => Res.mk1 (a.size + b.size ≤ 9223372036854775807) (s.put d (.c (.v (.string (a ++ b)))))
    | _ => Res.no
  | .agg cs, .agg ds =>
    match op with
    | .eql => Res.mk1 ((tt t).map (fun i => (i.eq, i.sz)) = some (true, cs.length) ∧ ds.length = cs.length ∧ ints cs ∧ ints ds) (s.put d (.c (.v (.bool (ieq cs ds)))))
    | .neq => Res.mk1 ((tt t).map (fun i => (i.eq, i.sz)) = some (true, cs.length) ∧ ds.length = cs.length ∧ ints cs ∧ ints ds) (s.put d (.c (.v (.bool (!ieq cs ds)))))
    | _ => Res.no
  | .c (.sl _ es), .c (.v (.slice none 0 0)) => isNilS tt op t (es ≠ []) s d
  | _, _ => Res.no

def unS (op : UnOp) (x : AV) (s : St) (d : Option Nat) : Res :=
  match op, x with
  | .not, .c (.v (.bool b)) => Res.mk1 True (s.put d (.c (.v (.bool (!b)))))
  | .neg, .c (.v (.int k a)) => Res.mk1 (InR k (0 - a)) (s.put d (.c (.v (.int k (0 - a)))))
  | _, _ => Res.no

def strip : C → C
  | .ex _ c => c
  | c => c
def loaded (row : Bool) (cs : List C) : List C :=
  match row with
  | true => cs
  | false => cs.map strip
def loadS (t : Nat) (x : AV) (s : St) (d : Option Nat) : Res :=
  match tt t, x with
  | some ti, .c (.rp cs) => Res.mk1 (ti.sz ≤ cs.length) (s.put d (mkAV ti.kind.agg (cs.take ti.sz)))
  | some ti, .c (.ptr b n i off) =>
    match s.box b with
    | some bx => Res.mkE (n = bx.es.length ∧ i < n ∧ off + ti.sz ≤ bx.k) (fun e => bx.es[i]? = some e) fun e => s.put d (mkAV ti.kind.agg (loaded bx.row ((e.drop off).take ti.sz)))
    | none => Res.no
  | _, _ => Res.no

/-- New cells from a place on. -/
def over (e : List C) (off : Nat) (cs : List C) : List C := e.take off ++ (cs ++ e.drop (off + cs.length))

def okC : C → Bool
  | .und => false
  | .bot => false
  | _ => true
def okCs : List C → Prop
  | [] => True
  | c :: r => okC c = true ∧ okCs r
def okRs : List C → Prop
  | [] => True
  | c :: r => okR c = true ∧ okRs r

def storeS (t : Nat) (x y : AV) (s : St) (d : Option Nat) : Res :=
  match tt t, x with
  | some ti, .c (.ptr b n i off) =>
    match s.box b with
    | some bx => match bx.row with
      | true => Res.mkE (n = bx.es.length ∧ i < n ∧ off + ti.sz ≤ bx.k ∧ 0 < ti.sz ∧ (cellsOf y).length = ti.sz ∧ bx.fz = false ∧ sealOks s (cellsOf y) ∧ okRs ((cellsOf y).map (sealC s)) ∧ (rowIds (cellsOf y)).contains b = false)
          (fun e => bx.es[i]? = some e) fun e => ((freeze s (rowIds (cellsOf y))).setBox b (some { bx with es := bx.es.set i (over e off ((cellsOf y).map (sealC s))) })).put d (.c .und)
      | false => Res.mkE (n = bx.es.length ∧ i < n ∧ off + ti.sz ≤ bx.k ∧ 0 < ti.sz ∧ (cellsOf y).length = ti.sz ∧ bx.fz = false ∧ okCs (cellsOf y))
          (fun e => bx.es[i]? = some e) fun e => (s.setBox b (some { bx with es := bx.es.set i (over e off (cellsOf y)) })).put d (.c .und)
    | none => Res.no
  | _, _ => Res.no

def newBox (t : Nat) (cs : List C) (s : St) (d : Option Nat) : Res :=
  Res.mk1 True ((s.setBox nid (some { es := [cs], k := cs.length, ty := t, row := false, fz := false })).put d (.c (.ptr nid 1 0 0)))

def boxS (t : Nat) (cs : List C) (s : St) (d : Option Nat) : Res :=
  Res.mk1 (cs.length ≠ 0 ∧ okCs cs) ((s.setBox nid (some { es := [cs], k := cs.length, ty := t, row := false, fz := false })).put d (.c (.ptr nid 1 0 0)))

/-- Parts laid over a row. -/
def fillC (pl : Nat → Option (Nat × Nat)) (z : List C) : List (Nat × List C) → Option (List C)
  | [] => some z
  | (i, c) :: r =>
    match pl i with
    | none => none
    | some (off, sz) => if c.length = sz ∧ off + sz ≤ z.length then fillC pl (over z off c) r else none

def partsOK : List (Nat × List C) → Prop
  | [] => True
  | p :: r => p.2.length ≠ 0 ∧ okCs p.2 ∧ partsOK r

def buildS (t : Nat) (parts : List (Nat × AV)) (s : St) (d : Option Nat) : Res :=
  match tt t with
  | some ti => match ti.kind with
    | .struct fs => match fillC (fun i => (nthL fs i).map (·.2)) (ti.zv.map .v) (parts.map fun p => (p.1, cellsOf p.2)) with
      | some cs => Res.mk1 (partsOK (parts.map fun p => (p.1, cellsOf p.2))) (s.put d (.agg cs))
      | none => Res.no
    | _ => Res.no
  | none => Res.no

def lensAll (k : Nat) : List (Nat × List C) → Prop
  | [] => True
  | p :: r => p.2.length = k ∧ lensAll k r
def idsAre : Nat → List (Nat × List C) → Bool
  | _, [] => true
  | n, p :: r => (p.1 == n) && idsAre (n + 1) r
def sealPs (s : St) : List (Nat × List C) → Prop
  | [] => True
  | p :: r => sealOks s p.2 ∧ okRs (p.2.map (sealC s)) ∧ sealPs s r

def buildSliceS (t len : Nat) (parts : List (Nat × AV)) (s : St) (d : Option Nat) : Res :=
  match tt t with
  | some ti => match ti.kind with
    | .slice e => match tt e with
      | some te =>
        Res.mk1 (len * te.sz ≤ 16777216 ∧ 0 < te.sz ∧ idsAre 0 (parts.map fun p => (p.1, cellsOf p.2)) = true ∧ parts.length = len ∧ lensAll te.sz (parts.map fun p => (p.1, cellsOf p.2)) ∧ partsOK (parts.map fun p => (p.1, cellsOf p.2)) ∧ sealPs s (parts.map fun p => (p.1, cellsOf p.2)))
            (((freeze s (rowIdsL (parts.map fun p => cellsOf p.2))).setBox nid (some { es := parts.map fun p => (cellsOf p.2).map (sealC s), k := te.sz, ty := e, row := true, fz := false })).put d (.c (.own nid len true)))
      | none => Res.no
    | _ => Res.no
  | none => Res.no

def makeSliceS (t : Nat) (l c : AV) (s : St) (d : Option Nat) : Res :=
  match tt t, l, c with
  | some ti, .c (.v (.int _ n)), .c (.v (.int _ m)) => match ti.kind with
    | .slice e => match tt e with
      | some te => Res.mk1 (0 ≤ n ∧ n ≤ m ∧ te.bytes * m ≤ 281474976710656 ∧ m ≤ 4611686018427387904 ∧ 0 < te.sz)
            ((s.setBox nid (some { es := List.replicate n.toNat (te.zv.map .v), k := te.sz, ty := e, row := true, fz := false })).put d (.c (.own nid n.toNat false)))
      | none => Res.no
    | _ => Res.no
  | _, _, _ => Res.no

def fieldAddrS (t : Nat) (x : AV) (f : Nat) (s : St) (d : Option Nat) : Res :=
  match tt t with
  | some ti => match ti.kind with
    | .struct fs => match nthL fs f, x with
      | some (_, o, _), .c (.rp cs) => Res.mk1 True (s.put d (.c (.rp (cs.drop o))))
      | some (_, o, _), .c (.ptr b n i off) => match s.box b with
        | some bx => Res.mk1 (n = bx.es.length) (s.put d (.c (.ptr b n i (off + o))))
        | none => Res.no
      | _, _ => Res.no
    | _ => Res.no
  | none => Res.no

def fieldS (t : Nat) (x : AV) (f : Nat) (s : St) (d : Option Nat) : Res :=
  match tt t, x with
  | some ti, .agg cs => match ti.kind with
    | .struct fs => match nthL fs f with
      | some (ft, o, sz) => match tt ft with
        | some fi => Res.mk1 (o + sz ≤ cs.length ∧ fi.sz = sz) (s.put d (mkAV fi.kind.agg ((cs.drop o).take sz)))
        | none => Res.no
      | none => Res.no
    | _ => Res.no
  | _, _ => Res.no

def elemSz (t : Nat) : Option Nat :=
  match tt t with
  | some ti => match ti.kind with
    | .slice e => (tt e).map (·.sz)
    | _ => none
  | none => none

def indexAddrS (t : Nat) (x i : AV) (s : St) (d : Option Nat) : Res :=
  match elemSz tt t, x, i with
  | some sz, .c (.sl _ es), .c (.v (.int _ n)) => Res.mkE (0 ≤ n ∧ n < es.length ∧ ∀ e ∈ es, e.length = sz) (fun e => es[n.toNat]? = some e) fun e => s.put d (.c (.rp e))
  | some sz, .c (.own b m _), .c (.v (.int _ n)) =>
    match s.box b with
    | some bx => Res.mk1 (m = bx.es.length ∧ 0 ≤ n ∧ n < m ∧ bx.k = sz) (s.put d (.c (.ptr b m n.toNat 0)))
    | none => Res.no
  | some sz, .c (.vw b m lo hi), .c (.v (.int _ n)) =>
    match s.box b with
    | some bx => Res.mk1 (m = bx.es.length ∧ 0 ≤ n ∧ lo + n < hi ∧ bx.k = sz) (s.put d (.c (.ptr b m (lo + n.toNat) 0)))
    | none => Res.no
  | _, _, _ => Res.no

def indexS (t : Nat) (x i : AV) (s : St) (d : Option Nat) : Res :=
  match (tt t).map (·.kind), x, i with
  | some TK.string, .c (.v (.string b)), .c (.v (.int _ n)) => Res.mkE (0 ≤ n ∧ n < b.size) (fun u : UInt8 => b.data[n.toNat]? = some u) fun u => s.put d (.c (.v (.int .u8 u.toNat)))
  | _, _, _ => Res.no

def boundOf : Option AV → Nat → Option Int
  | none, d => some d
  | some (.c (.v (.int _ n))), _ => some n
  | _, _ => none

/-- A part of a row. -/
def sliceS (t : Nat) (x : AV) (lo hi mx : Option AV) (s : St) (d : Option Nat) : Res :=
  match elemSz tt t, x with
  | some sz, .c (.sl _ es) => match boundOf lo 0, boundOf hi es.length, mx with
    | some l, some h, none => Res.mk1 (0 ≤ l ∧ l ≤ h ∧ h ≤ es.length ∧ ∀ e ∈ es, e.length = sz) (s.put d (.c (.sl false ((es.take h.toNat).drop l.toNat))))
    | some l, some h, some (.c (.v (.int _ m))) => Res.mk1 (0 ≤ l ∧ l ≤ h ∧ h ≤ es.length ∧ m = h ∧ hi.isSome = true ∧ ∀ e ∈ es, e.length = sz) (s.put d (.c (.sl true ((es.take h.toNat).drop l.toNat))))
    | _, _, _ => Res.no
  | some sz, .c (.own b n _) => match s.box b with
    | some bx => match boundOf lo 0, boundOf hi n, mx with
      | some l, some h, none => Res.mk1 (n = bx.es.length ∧ 0 ≤ l ∧ l ≤ h ∧ h ≤ n ∧ bx.k = sz) (s.put d (.c (.vw b n l.toNat h.toNat)))
      | some l, some h, some (.c (.v (.int _ m))) => Res.mk1 (n = bx.es.length ∧ l = 0 ∧ h = n ∧ m = h ∧ hi.isSome = true ∧ bx.k = sz) (s.put d (.c (.own b n true)))
      | _, _, _ => Res.no
    | none => Res.no
  | some sz, .c (.vw b n lo' hi') => match s.box b with
    | some bx => match boundOf lo 0, boundOf hi (hi' - lo'), mx with
      | some l, some h, none => Res.mk1 (n = bx.es.length ∧ 0 ≤ l ∧ l ≤ h ∧ h + lo' ≤ hi' ∧ bx.k = sz) (s.put d (.c (.vw b n (lo' + l.toNat) (lo' + h.toNat))))
      | _, _, _ => Res.no
    | none => Res.no
  | none, .c (.v (.string b)) => match (tt t).map (·.kind), boundOf lo 0, boundOf hi b.size, mx with
    | some TK.string, some l, some h, none => Res.mk1 (0 ≤ l ∧ l ≤ h ∧ h ≤ b.size) (s.put d (.c (.v (.string (b.extract l.toNat h.toNat)))))
    | _, _, _, _ => Res.no
  | _, _ => Res.no

def extractS (x : AV) (j : Nat) (s : St) (d : Option Nat) : Res :=
  match x with
  | .tup vs => match nthL vs j with
    | some v => Res.mk1 True (s.put d v)
    | none => Res.no
  | _ => Res.no

def convertS (src dst : Nat) (x : AV) (s : St) (d : Option Nat) : Res :=
  match tt src, tt dst, x with
  | some _, some td, .c (.v (.int _ n)) => match td.kind with
    | .int k' => Res.mk1 (InR k' n) (s.put d (.c (.v (.int k' n))))
    | _ => Res.no
  | _, _, _ => Res.no

/-! Calls. -/
def idxOf (b : Nat) : List Nat → Nat → Option Nat
  | [], _ => none
  | x :: r, j => bif x == b then some j else idxOf b r (j + 1)
def memN (b : Nat) : List Nat → Bool
  | [] => false
  | x :: r => (x == b) || memN b r
def unfz (s : St) (b : Nat) : Bool :=
  match s.box b with
  | some bx => !bx.fz
  | none => false
def isVar (s : St) (b : Nat) : Bool :=
  match s.box b with
  | some bx => !bx.row
  | none => false
/-- The boxes that cells lead to, in order: those that may be written. -/
def gather (s : St) : Nat → List Nat → List C → List Nat
  | 0, acc, _ => acc
  | _, acc, [] => acc
  | f + 1, acc, c :: r => match c with
    | .fn _ caps => gather s f (gather s f acc caps) r
    | _ => match hkey c with
      | some (b, _) => match unfz s b && !memN b acc with
        | true => match isVar s b, s.box b with
          | true, some bx => gather s f (gather s f (acc ++ [b]) bx.es.flatten) r
          | _, _ => gather s f (acc ++ [b]) r
        | false => gather s f acc r
      | none => gather s f acc r
def FUEL : Nat := 64
def renC0 (s : St) (ids : List Nat) (c : C) : C :=
  match hkey c with
  | some (b, _) => match idxOf b ids 0 with
    | some j => setId j c
    | none => sealC s c
  | none => sealC s c
def renC (s : St) (ids : List Nat) : C → C
  | .fn f caps => .fn f (caps.map (renC0 s ids))
  | c => renC0 s ids c
def renA1 (s : St) (ids : List Nat) : AV → AV
  | .c x => .c (renC s ids x)
  | .agg cs => .agg (cs.map (renC s ids))
  | .tup _ => .c .bot
  | .mp _ _ => .c .bot
def renA (s : St) (ids : List Nat) : AV → AV
  | .tup vs => .tup (vs.map (renA1 s ids))
  | x => renA1 s ids x
def renB (s : St) (ids : List Nat) (bx : Box) : Box :=
  match bx.row with
  | true => bx
  | false => { bx with es := bx.es.map fun e => e.map (renC s ids) }
def renOk0 (s : St) (lids ids : List Nat) (c : C) : Prop :=
  match hkey c with
  | some (b, _) => match idxOf b ids 0 with
    | some _ => True
    | none => sealOk s c ∧ ((rowIds [c]).all fun b => !unfz s b || memN b lids) = true
  | none => True
def renOk0s (s : St) (lids ids : List Nat) : List C → Prop
  | [] => True
  | c :: r => renOk0 s lids ids c ∧ renOk0s s lids ids r
def renOk (s : St) (lids ids : List Nat) : C → Prop
  | .fn _ caps => renOk0s s lids ids caps
  | c => renOk0 s lids ids c
def renOks (s : St) (lids ids : List Nat) : List C → Prop
  | [] => True
  | c :: r => renOk s lids ids c ∧ renOks s lids ids r

/-- The cells of the arguments that hand their boxes over. -/
def mtCells : List Bool → List AV → List C
  | true :: m, x :: r => cellsOf x ++ mtCells m r
  | false :: m, _ :: r => mtCells m r
  | _, _ => []
/-- The boxes that are lent. -/
def lent : List Bool → List AV → List Nat
  | _, [] => []
  | [], x :: r => rowIds (cellsOf x) ++ lent [] r
  | true :: m, _ :: r => lent m r
  | false :: m, x :: r => rowIds (cellsOf x) ++ lent m r
def passIds (s : St) (m : List Bool) (args : List AV) : List Nat :=
  match m with
  | [] => []
  | _ => gather s FUEL [] (mtCells m args)
def passA (s : St) (ids : List Nat) : List Bool → List AV → List AV
  | _, [] => []
  | [], x :: r => renA1 s [] x :: passA s ids [] r
  | true :: m, x :: r => renA1 s ids x :: passA s ids m r
  | false :: m, x :: r => renA1 s [] x :: passA s ids m r
def passOkA (s : St) (lids ids : List Nat) : List Bool → List AV → Prop
  | _, [] => True
  | [], x :: r => renOks s lids [] (cellsOf x) ∧ passOkA s lids ids [] r
  | true :: m, x :: r => renOks s lids ids (cellsOf x) ∧ passOkA s lids ids m r
  | false :: m, x :: r => renOks s lids [] (cellsOf x) ∧ passOkA s lids ids m r
def boxN (s : St) (b : Nat) : Box := (s.box b).getD ⟨[], 0, 0, true, true⟩
def passBs (s : St) (ids : List Nat) : List Nat → List Box
  | [] => []
  | b :: r => renB s ids (boxN s b) :: passBs s ids r
def passOkB (s : St) (lids ids : List Nat) : List Nat → Prop
  | [] => True
  | b :: r => (match s.box b with
    | some bx => bx.fz = false ∧ (match bx.row with
      | true => True
      | false => renOks s lids ids bx.es.flatten)
    | none => False) ∧ passOkB s lids ids r
def disjN (l r : List Nat) : Bool := l.all fun b => !memN b r
def distN : List Nat → Bool
  | [] => true
  | b :: r => !memN b r && distN r

def mapC0 (φ : Nat → Nat) (c : C) : C :=
  match hkey c with
  | some (b, _) => setId (φ b) c
  | none => c
def mapC (φ : Nat → Nat) : C → C
  | .fn f caps => .fn f (caps.map (mapC0 φ))
  | c => mapC0 φ c
def mapA1 (φ : Nat → Nat) : AV → AV
  | .c x => .c (mapC φ x)
  | .agg cs => .agg (cs.map (mapC φ))
  | .tup vs => .tup vs
  | .mp _ _ => .c .bot
def mapA (φ : Nat → Nat) : AV → AV
  | .tup vs => .tup (vs.map (mapA1 φ))
  | x => mapA1 φ x
def mapB (φ : Nat → Nat) (b : Box) : Box :=
  match b.row with
  | true => b
  | false => { b with es := b.es.map fun e => e.map (mapC φ) }
/-- A number behind a call, as the caller numbers. -/
def backId (ids : List Nat) (nid j : Nat) : Nat :=
  match nthL ids j with
  | some b => b
  | none => nid + (j - ids.length)
def addOut (φ : Nat → Nat) : List Nat → Nat → St → List Box → St
  | _, _, s, [] => s
  | p :: ps, n, s, b :: r => addOut φ ps n (s.setBox p (some (mapB φ b))) r
  | [], n, s, b :: r => addOut φ [] (n + 1) (s.setBox n (some (mapB φ b))) r
def baseS (s : St) (flat : Bool) (lids : List Nat) : St :=
  match flat with
  | true => s
  | false => freeze s lids
def setPk (s : St) (n : Nat) : St := { s with pk := n }
def afterS (s : St) (sp : Spec) (lids ids : List Nat) (outs : List Box) : St :=
  addOut (backId ids nid) ids nid (setPk (baseS s sp.flat lids) (s.pk + sp.cost)) outs

def callS (f : Nat) (args : List AV) (s : St) (d : Option Nat) : Res :=
  match tab f with
  | some sp =>
    Res.mkE (passOkA s (lent sp.mt args) (passIds s sp.mt args) sp.mt args ∧ passOkB s (lent sp.mt args) (passIds s sp.mt args) (passIds s sp.mt args) ∧ disjN (lent sp.mt args) (passIds s sp.mt args) = true ∧ distN (passIds s sp.mt args) = true ∧
        sp.pre (passA s (passIds s sp.mt args) sp.mt args) (passBs s (passIds s sp.mt args) (passIds s sp.mt args)) ∧ s.pk + sp.cost ≤ pickLimit)
      (fun x : AV × List Box => sp.post (passA s (passIds s sp.mt args) sp.mt args) (passBs s (passIds s sp.mt args) (passIds s sp.mt args)) x.1 x.2)
      fun x => (afterS nid s sp (lent sp.mt args) (passIds s sp.mt args) x.2).put d (mapA (backId (passIds s sp.mt args) nid) x.1)
  | none => Res.no

def callV (x : AV) (args : List AV) (s : St) (d : Option Nat) : Res :=
  match x with
  | .c (.fn f caps) => callS tab nid f (args ++ caps.map .c) s d
  | _ => Res.no

def makeFuncS (f : Nat) (caps : List AV) (s : St) (d : Option Nat) : Res :=
  Res.mk1 (okCs (caps.flatMap cellsOf) ∧ (caps.flatMap cellsOf).length = caps.length ∧ (∀ c ∈ caps.flatMap cellsOf, ∀ f l, c ≠ .fn f l) ∧ ∀ x ∈ caps, ∃ c, x = .c c) (s.put d (.c (.fn f (caps.flatMap cellsOf))))

/-! Maps. A map's box holds nothing, and none writes to it but 'mapUpdate'; what a map holds stands in the slots that hold the map. -/
def insK (k : List Int) : List (List Int) → List (List Int)
  | [] => [k]
  | x :: r => bif decide (k = x) then x :: r else x :: insK k r
def intsOf : List C → List Int
  | .v (.int _ n) :: r => n :: intsOf r
  | _ => []
def makeMapS (t : Nat) (s : St) (d : Option Nat) : Res :=
  match d with
  | some d => Res.mk1 True ((s.setBox nid (some { es := [], k := 0, ty := t, row := false, fz := true })).put (some d) (.mp nid []))
  | none => Res.no
def updM (b : Nat) (k : List Int) : AV → AV
  | .mp b' ks => bif b' == b then .mp b (insK k ks) else .c .bot
  | .tup _ => .c .bot
  | x => x
def mapUpdS (t : Nat) (m k v : AV) (s : St) : Res :=
  match (tt t).map (fun i => i.kind), m, k, v with
  | some (TK.map kt), .mp b ks, .agg cs, .c (.v (.bool true)) => match tt kt with
    | some te => Res.mk1 (te.eq = true ∧ te.sz = cs.length ∧ ints cs ∧ s.np ≤ b ∧ s.box b = some { es := [], k := 0, ty := t, row := false, fz := true } ∧ ∀ k ∈ ks, k.length = cs.length) { s with env := s.env.map fun p => (p.1, updM b (intsOf cs) p.2) }
    | none => Res.no
  | _, _, _, _ => Res.no

def lenS (t : Nat) (x : AV) (s : St) (d : Option Nat) : Res :=
  match (tt t).map (·.kind), x with
  | some TK.string, .c (.v (.string b)) => Res.mk1 True (s.put d (.c (.v (.int .i64 b.size))))
  | some (TK.slice _), .c (.v (.slice none 0 0)) => Res.mk1 True (s.put d (.c (.v (.int .i64 0))))
  | some (TK.map _), .mp _ ks => Res.mk1 True (s.put d (.c (.v (.int .i64 ks.length))))
  | some (TK.slice _), .c (.sl _ es) => Res.mk1 True (s.put d (.c (.v (.int .i64 es.length))))
  | some (TK.slice _), .c (.own b n _) => match s.box b with
    | some bx => Res.mk1 (n = bx.es.length) (s.put d (.c (.v (.int .i64 n))))
    | none => Res.no
  | some (TK.slice _), .c (.vw b n lo hi) => match s.box b with
    | some bx => Res.mk1 (n = bx.es.length) (s.put d (.c (.v (.int .i64 ((hi - lo : Nat) : Int)))))
    | none => Res.no
  | _, _ => Res.no

/-- What is appended. -/
def srcOf (s : St) (b : Nat) : AV → Option (Prop × List (List C))
  | .c (.v (.slice none 0 0)) => some (True, [])
  | .c (.sl _ es) => some (True, es)
  | .c (.own b' m _) => match s.box b' with
    | some bx => match bx.row with
      | true => some (m = bx.es.length ∧ b' ≠ b, bx.es)
      | false => none
    | none => none
  | .c (.vw b' m lo hi) => match s.box b' with
    | some bx => match bx.row with
      | true => some (m = bx.es.length ∧ b' ≠ b, (bx.es.take hi).drop lo)
      | false => none
    | none => none
  | _ => none

def appendS (t t' : Nat) (x y : AV) (s : St) (d : Option Nat) : Res :=
  match tt t, x with
  | some ti, .c (.own b n _) => match ti.kind, s.box b, srcOf s b y with
    | .slice e, some bx, some (p, ys) => match tt e with
      | some te => Res.mk1 (t' = t ∧ p ∧ n = bx.es.length ∧ bx.row = true ∧ bx.fz = false ∧ bx.k = te.sz ∧ bx.ty = e ∧ 0 < te.sz ∧ (∀ e ∈ ys, e.length = te.sz) ∧ (n + ys.length) * te.bytes ≤ 140737488355328 ∧ n + ys.length ≤ 4611686018427387904)
          ((s.setBox b (some { bx with es := bx.es ++ ys })).put d (.c (.own b (n + ys.length) false)))
      | none => Res.no
    | _, _, _ => Res.no
  | some ti, .c (.v (.slice none 0 0)) => match ti.kind, srcOf s nid y with
    | .slice e, some (p, ys) => match tt e with
      | some te => Res.mk1 (t' = t ∧ p ∧ 0 < te.sz ∧ (∀ e ∈ ys, e.length = te.sz) ∧ ys.length * te.bytes ≤ 140737488355328 ∧ ys.length ≤ 4611686018427387904)
          ((s.setBox nid (some { es := ys, k := te.sz, ty := e, row := true, fz := false })).put d (.c (.own nid ys.length false)))
      | none => Res.no
    | _, _ => Res.no
  | some ti, .c (.sl true es) => match ti.kind, srcOf s nid y with
    | .slice e, some (p, ys) => match tt e with
      | some te => Res.mk1 (t' = t ∧ p ∧ 0 < te.sz ∧ (∀ e ∈ es, e.length = te.sz) ∧ (∀ e ∈ ys, e.length = te.sz) ∧ (es = [] ∨ ys ≠ []) ∧ (es.length + ys.length) * te.bytes ≤ 140737488355328 ∧ es.length + ys.length ≤ 4611686018427387904)
          ((s.setBox nid (some { es := es ++ ys, k := te.sz, ty := e, row := true, fz := false })).put d (.c (.own nid (es.length + ys.length) false)))
      | none => Res.no
    | _, _ => Res.no
  | _, _ => Res.no

/-- A row's part is written over. -/
def copyE (es : List (List C)) (lo m : Nat) (ys : List (List C)) : List (List C) := es.take lo ++ (ys.take m ++ es.drop (lo + m))
def copyS (t : Nat) (x y : AV) (s : St) (d : Option Nat) : Res :=
  match elemSz tt t, x with
  | some sz, .c (.own b n _) => match s.box b, srcOf s (b + 1) y with
    | some bx, some (_, ys) => Res.mk1 (n = bx.es.length ∧ srcLen s y ∧ bx.row = true ∧ bx.fz = false ∧ bx.k = sz ∧ 0 < sz ∧ ∀ e ∈ ys, e.length = sz)
        ((s.setBox b (some { bx with es := copyE bx.es 0 (min n ys.length) ys })).put d (.c (.v (.int .i64 ((min n ys.length : Nat) : Int)))))
    | _, _ => Res.no
  | some sz, .c (.vw b n lo hi) => match s.box b, srcOf s (b + 1) y with
    | some bx, some (_, ys) => Res.mk1 (n = bx.es.length ∧ srcLen s y ∧ bx.row = true ∧ bx.fz = false ∧ bx.k = sz ∧ 0 < sz ∧ ∀ e ∈ ys, e.length = sz)
        ((s.setBox b (some { bx with es := copyE bx.es lo (min (hi - lo) ys.length) ys })).put d (.c (.v (.int .i64 ((min (hi - lo) ys.length : Nat) : Int)))))
    | _, _ => Res.no
  | _, _ => Res.no
where srcLen (s : St) : AV → Prop
  | .c (.own b m _) => match s.box b with
    | some bx => m = bx.es.length
    | none => False
  | .c (.vw b m _ _) => match s.box b with
    | some bx => m = bx.es.length
    | none => False
  | _ => True

def assignS (x : AV) (ti : Option TI) (s : St) (d : Option Nat) : Res :=
  match x, ti with
  | .c (.v (.slice none 0 0)), some ti => match ti.kind with
    | .slice e => match tt e with
      | some te => Res.mk1 True ((s.setBox nid (some { es := [], k := te.sz, ty := e, row := true, fz := false })).put d (.c (.own nid 0 false)))
      | none => Res.no
    | _ => Res.mk1 True (s.put d x)
  | _, _ => Res.mk1 True (s.put d x)

def pickS (c : AV) (a b : AV) (s : St) (d : Option Nat) : Res :=
  match c with
  | .c (.v (.bool true)) => Res.mk1 True (s.put d a)
  | .c (.v (.bool false)) => Res.mk1 True (s.put d b)
  | _ => Res.no

def allocS (ti : Option TI) (t : Nat) (s : St) (d : Option Nat) : Res :=
  match ti with
  | some ti => newBox nid t (ti.zv.map .v) s d
  | none => Res.no

def nilS (x : AV) (s : St) (d : Option Nat) : Res :=
  match x with
  | .c (.ptr b n i off) => match s.box b with
    | some bx => Res.mk1 (n = bx.es.length) (s.put d (.c (.ptr b n i off)))
    | none => Res.no
  | .c (.rp cs) => Res.mk1 True (s.put d (.c (.rp cs)))
  | .c .rdr => Res.mk1 True (s.put d (.c .rdr))
  | .c (.fn f a) => Res.mk1 True (s.put d (.c (.fn f a)))
  | _ => Res.no

def minS (mx : Bool) (l : List AV) (s : St) (d : Option Nat) : Res :=
  match mx, l with
  | false, [.c (.v (.int k a)), .c (.v (.int _ b))] => Res.mk1 True (s.put d (.c (.v (.int k (min a b)))))
  | true, [.c (.v (.int k a)), .c (.v (.int _ b))] => Res.mk1 True (s.put d (.c (.v (.int k (max a b)))))
  | true, [.c (.v (.int k a)), .c (.v (.int _ b)), .c (.v (.int _ c))] => Res.mk1 True (s.put d (.c (.v (.int k (max (max a b) c)))))
  | _, _ => Res.no

def opS (o : Oper) (s : St) : Res :=
  match o.op with
  | .move x => Res.mk1 True (s.put o.dst (s.ev x))
  | .assign x => assignS tt nid (s.ev x) (tt o.type) s o.dst
  | .pick c a b => pickS (s.ev c) (s.ev a) (s.ev b) s o.dst
  | .alloc t => allocS nid (tt t) t s o.dst
  | .box t x => boxS nid t (cellsOf (s.ev x)) s o.dst
  | .build t parts => buildS tt t (parts.toList.map fun p => (p.1, s.ev p.2)) s o.dst
  | .buildSlice t len parts => buildSliceS tt nid t len (parts.toList.map fun p => (p.1, s.ev p.2)) s o.dst
  | .load t x => loadS tt t (s.ev x) s o.dst
  | .store t x y => storeS tt t (s.ev x) (s.ev y) s o.dst
  | .nilCheck x => nilS (s.ev x) s o.dst
  | .binOp op t x y _ => binS tt op t (s.ev x) (s.ev y) s o.dst
  | .unOp op _ x => unS op (s.ev x) s o.dst
  | .convert src dst x => convertS tt src dst (s.ev x) s o.dst
  | .makeFunc f first captured => match f, first.toList with
    | .func f, [] => makeFuncS f (captured.toList.map s.ev) s o.dst
    | _, _ => Res.no
  | .makeMap t none => makeMapS nid t s o.dst
  | .mapUpdate t m k x => match o.dst with
    | none => mapUpdS tt t (s.ev m) (s.ev k) (s.ev x) s
    | some _ => Res.no
  | .makeSlice t l c => makeSliceS tt nid t (s.ev l) (s.ev c) s o.dst
  | .fieldAddr t x f => fieldAddrS tt t (s.ev x) f s o.dst
  | .field t x f => fieldS tt t (s.ev x) f s o.dst
  | .indexAddr t x i => indexAddrS tt t (s.ev x) (s.ev i) s o.dst
  | .index t x i => indexS tt t (s.ev x) (s.ev i) s o.dst
  | .extract x j => extractS (s.ev x) j s o.dst
  | .slice t x lo hi mx => sliceS tt t (s.ev x) (lo.map s.ev) (hi.map s.ev) (mx.map s.ev) s o.dst
  | .call c => match c.callee with
    | .builtin .len => match c.args.toList, c.argTypes.toList with
      | [x], [t] => lenS tt t (s.ev x) s o.dst
      | _, _ => Res.no
    | .builtin .append => match c.args.toList, c.argTypes.toList with
      | [x, y], [t, t'] => appendS tt nid t t' (s.ev x) (s.ev y) s o.dst
      | _, _ => Res.no
    | .builtin .copy => match c.args.toList, c.argTypes.toList with
      | [x, y], [t, _] => copyS tt t (s.ev x) (s.ev y) s o.dst
      | _, _ => Res.no
    | .builtin .min => minS false (c.args.toList.map s.ev) s o.dst
    | .builtin .max => minS true (c.args.toList.map s.ev) s o.dst
    | .value (.func f) => callS tab nid f (c.args.toList.map s.ev) s o.dst
    | .value (.tmp t) => callV tab nid (s.get t) (c.args.toList.map s.ev) s o.dst
    | _ => Res.no
  | _ => Res.no

end ops

inductive Ex where
  | normal
  | exit (id : Nat)
  | ret

section run
variable (tt : Nat → Option TI) (tab : Nat → Option Spec)

def dstOK (n : Nat) : Option Nat → Prop
  | none => True
  | some d => d < n

def opW (o : Oper) (s : St) (K : St → Prop) : Prop :=
  dstOK s.nt o.dst ∧ (opS tt tab s.nx o { s with nx := s.nx + 8 }).app K

/-- Both ways, each under its own answer. -/
def ifP (t : Bool) (yes no : Prop) : Prop := (t = true → yes) ∧ (t = false → no)
theorem ifP_true (y n : Prop) : ifP true y n = y := by simp [ifP]
theorem ifP_false (y n : Prop) : ifP false y n = n := by simp [ifP]
theorem ifP_not (t : Bool) (y n : Prop) : ifP (!t) y n = ifP t n y := by cases t <;> simp [ifP]
theorem ifP_decide (p : Prop) [Decidable p] (y n : Prop) : ifP (decide p) y n = ((p → y) ∧ (¬ p → n)) := by simp [ifP]
theorem ifP_beq (a b : Bool) (y n : Prop) : ifP (a == b) y n = ((a = b → y) ∧ (¬ a = b → n)) := by simp [ifP]

def guardB (ops : Array Oper) (j : Nat) (want : Bool) (s : St) (yes no : St → Prop) : Prop :=
  match (nthL ops.toList j).bind (·.dst) with
  | some g => match s.get g with
    | .c (.v (.bool t)) => match want with
      | true => ifP t (yes (s.put (some g) (.c (.v (.bool true))))) (no (s.put (some g) (.c (.v (.bool false)))))
      | false => ifP t (no (s.put (some g) (.c (.v (.bool true))))) (yes (s.put (some g) (.c (.v (.bool false)))))
    | .c .und => no s
    | _ => False
  | none => no s

/-- Whether an operation is carried out. -/
def guardW (ops : Array Oper) (o : Oper) (s : St) (yes no : St → Prop) : Prop :=
  match o.guard with
  | none => yes s
  | some (j, want) => guardB ops j want s yes no

def opsW (ops : Array Oper) : List Oper → St → (St → Prop) → Prop
  | [], s, K => K s
  | o :: r, s, K => guardW ops o s (fun s => opW tt tab o s fun s => opsW ops r s K) (fun s => dstOK s.nt o.dst ∧ opsW ops r (s.put o.dst (.c .und)) K)

def seqK (Q : Ex → St → Prop) (k : St → Prop) : Ex → St → Prop
  | .normal, s => k s
  | .exit i, s => Q (.exit i) s
  | .ret, s => Q .ret s
def blockK (Q : Ex → St → Prop) (id : Nat) : Ex → St → Prop
  | .normal, s => Q .normal s
  | .exit i, s => match decide (i = id) with
    | true => Q .normal s
    | false => Q (.exit i) s
  | .ret, s => Q .ret s
def condW (x : AV) (yes no : Prop) : Prop :=
  match x with
  | .c (.v (.bool t)) => ifP t yes no
  | _ => False

/-- Any state that fits the one fits the other. (The meaning of it is given in Eng13; here it is a parameter.) -/
def runW (Ent : St → St → Prop) (drawW : Nat → Array Oper → St → (St → Prop) → Prop) : Code → St → (Ex → St → Prop) → Prop
  | .skip, s, Q => Q .normal s
  | .region _ ops false, s, Q => opsW tt tab ops ops.toList s (Q .normal)
  | .region id ops true, s, Q => drawW id ops s (Q .normal)
  | .seq a b, s, Q => runW Ent drawW a s (seqK Q fun s' => runW Ent drawW b s' Q)
  | .cond c a b, s, Q => condW (s.ev c) (runW Ent drawW a s Q) (runW Ent drawW b s Q)
  | .block id c, s, Q => runW Ent drawW c s (blockK Q id)
  | .loop c, s, Q => ∃ (α : Type) (F : α → St) (Inv : α → Prop) (m : α → Nat) (x0 : α), Inv x0 ∧ Ent s (F x0) ∧ ∀ x, Inv x → runW Ent drawW c (F x) (seqK Q fun s' => ∃ y, Inv y ∧ m y < m x ∧ Ent s' (F y))
  | .exit id, s, Q => Q (.exit id) s
  | .ret, s, Q => Q .ret s
  | _, _, _ => False

section eqs
variable (nt np : Nat) (env : List (Nat × AV)) (hp : List (Nat × Option Box)) (nx pk : Nat)
theorem opW_lit (o : Oper) (K : St → Prop) : opW tt tab o ⟨nt, np, env, hp, nx, pk⟩ K = (dstOK nt o.dst ∧ (opS tt tab nx o ⟨nt, np, env, hp, nx + 8, pk⟩).app K) := rfl
theorem opsW_nil (ops : Array Oper) (K : St → Prop) : opsW tt tab ops [] ⟨nt, np, env, hp, nx, pk⟩ K = K ⟨nt, np, env, hp, nx, pk⟩ := rfl
theorem opsW_plain (ops : Array Oper) (d : Option Nat) (op : Op) (t : Nat) (pos : String) (af : Array Edge) (r : List Oper) (K : St → Prop) :
    opsW tt tab ops (⟨d, op, t, pos, af, none⟩ :: r) ⟨nt, np, env, hp, nx, pk⟩ K = opW tt tab ⟨d, op, t, pos, af, none⟩ ⟨nt, np, env, hp, nx, pk⟩ fun s => opsW tt tab ops r s K := rfl
theorem opsW_guard (ops : Array Oper) (d : Option Nat) (op : Op) (t : Nat) (pos : String) (af : Array Edge) (j : Nat) (want : Bool) (r : List Oper) (K : St → Prop) :
    opsW tt tab ops (⟨d, op, t, pos, af, some (j, want)⟩ :: r) ⟨nt, np, env, hp, nx, pk⟩ K =
      guardB ops j want ⟨nt, np, env, hp, nx, pk⟩ (fun s => opW tt tab ⟨d, op, t, pos, af, some (j, want)⟩ s fun s => opsW tt tab ops r s K) (fun s => dstOK s.nt d ∧ opsW tt tab ops r (s.put d (.c .und)) K) := rfl
variable (lw : St → St → Prop) (dw : Nat → Array Oper → St → (St → Prop) → Prop) (Q : Ex → St → Prop)
theorem runW_skip : runW tt tab lw dw .skip ⟨nt, np, env, hp, nx, pk⟩ Q = Q .normal ⟨nt, np, env, hp, nx, pk⟩ := rfl
theorem runW_region (id : Nat) (l : List Oper) : runW tt tab lw dw (.region id ⟨l⟩ false) ⟨nt, np, env, hp, nx, pk⟩ Q = opsW tt tab ⟨l⟩ l ⟨nt, np, env, hp, nx, pk⟩ (Q .normal) := rfl
theorem runW_draw (id : Nat) (ops : Array Oper) : runW tt tab lw dw (.region id ops true) ⟨nt, np, env, hp, nx, pk⟩ Q = dw id ops ⟨nt, np, env, hp, nx, pk⟩ (Q .normal) := rfl
theorem runW_seq (a b : Code) : runW tt tab lw dw (.seq a b) ⟨nt, np, env, hp, nx, pk⟩ Q = runW tt tab lw dw a ⟨nt, np, env, hp, nx, pk⟩ (seqK Q fun s' => runW tt tab lw dw b s' Q) := rfl
theorem runW_cond (c : Operand) (a b : Code) : runW tt tab lw dw (.cond c a b) ⟨nt, np, env, hp, nx, pk⟩ Q = condW ((St.mk nt np env hp nx pk).ev c) (runW tt tab lw dw a ⟨nt, np, env, hp, nx, pk⟩ Q) (runW tt tab lw dw b ⟨nt, np, env, hp, nx, pk⟩ Q) := rfl
theorem runW_block (id : Nat) (c : Code) : runW tt tab lw dw (.block id c) ⟨nt, np, env, hp, nx, pk⟩ Q = runW tt tab lw dw c ⟨nt, np, env, hp, nx, pk⟩ (blockK Q id) := rfl
theorem runW_loop (c : Code) : runW tt tab lw dw (.loop c) ⟨nt, np, env, hp, nx, pk⟩ Q = ∃ (α : Type) (F : α → St) (Inv : α → Prop) (m : α → Nat) (x0 : α), Inv x0 ∧ lw ⟨nt, np, env, hp, nx, pk⟩ (F x0) ∧
    ∀ x, Inv x → runW tt tab lw dw c (F x) (seqK Q fun s' => ∃ y, Inv y ∧ m y < m x ∧ lw s' (F y)) := rfl
theorem runW_exit (id : Nat) : runW tt tab lw dw (.exit id) ⟨nt, np, env, hp, nx, pk⟩ Q = Q (.exit id) ⟨nt, np, env, hp, nx, pk⟩ := rfl
theorem runW_ret : runW tt tab lw dw .ret ⟨nt, np, env, hp, nx, pk⟩ Q = Q .ret ⟨nt, np, env, hp, nx, pk⟩ := rfl
end eqs
end run
end Go.VE
