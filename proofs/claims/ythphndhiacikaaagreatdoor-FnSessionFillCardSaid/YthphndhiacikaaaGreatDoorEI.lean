/- Contracts of functions of the program vectorraster, each proved for all states that fit its description. No conditions. -/
import Derived.Test.YthphndhiacikaaaGreatDoorEC
import Derived.Deep.Slices
import Derived.ChangeSame
import Derived.Shelf.Spec.SlicesGrow
import Derived.HandedShaped
import Derived.ProofKit
import Derived.LaidMore
import Derived.OpenShut
import Derived.Stop.Joined
import Derived.Stop.LaidErr
import Derived.Lib.LaidTab
set_option linter.unusedSimpArgs false
set_option linter.unusedVariables false
section
/- Arguments by data: what is read of an argument fits a description. -/
namespace Go.VE
open Go Go.RowKit Go.ChangeShapes Go.WideShapes
def noA (_ : Nat) : Prop := False
/-- A list of cells fits a list of descriptions. -/
def FitL (w : World) (cs : List Value) (ds : List C) : Prop := ds.length = cs.length ∧ ∀ j c, ds[j]? = some c → RC w noA (cs.getD j undef) c
/-- Every reading at this type fits a description. -/
def Opens {H : Type} (enc : TypeId × Value → H) (P : Program) (w : World) (t : TypeId) (α : Type) (g : α → List C) (Q : α → Prop) : Prop :=
  ∀ (fuel : Nat) (cs : List Value) (x : DataW H × List MemPlace), DataW.trod enc P w 0 (fun _ => true) true fuel t cs = some x → ∃ a : α, Q a ∧ FitL w cs (g a)
section
variable {H : Type} {enc : TypeId × Value → H} {P : Program} {w : World} {t : TypeId}
theorem opens_string (ht : P.underlying t = some .string) : Opens enc P w t ByteArray (fun s => [.v (.string s)]) (fun s => s.size ≤ maxLen) := by
  intro fuel cs x hx
  obtain ⟨s, rfl, _, hw⟩ := DataW.trod_string ht hx
  refine ⟨s, hw, rfl, fun j c hj => ?_⟩
  cases j with
  | zero => simp only [List.getElem?_cons_zero, Option.some.injEq] at hj; subst hj; exact .v _ rfl
  | succ j => simp at hj
theorem rc_nil (len : Nat) (h : len = 0) : RC w noA (.slice none len 0) (.sl false []) := by
  subst h
  exact .sl false _ 1 none ⟨0, 0, none⟩ 0 0 rfl (fun h => by cases h) (Nat.le_refl _) (Nat.zero_le _) (fun e h => by cases h) (fun h => absurd rfl h) (fun _ _ => undef) (fun i j e c h => by simp at h) (fun i j e c h => by simp at h)
theorem opens_slice {e : TypeId} {k : Nat} {α : Type} {g : α → List C} {Q : α → Prop} (ht : P.underlying t = some (.slice e)) (hk : P.cellsOf e = k) (hpos : 0 < k) (hg : ∀ a, (g a).length = k) (he : Opens enc P w e α g Q) :
    Opens enc P w t (List α) (fun l => [.sl false (l.map g)]) (fun l => l.length ≤ maxLen ∧ ∀ a ∈ l, Q a) := by
  intro fuel cs x hx
  have one : ∀ {v : Value} {c : C}, RC w noA v c → FitL w [v] [c] := fun h => ⟨rfl, fun j c hj => by
    cases j with
    | zero => simp only [List.getElem?_cons_zero, Option.some.injEq] at hj; subst hj; exact h
    | succ j => simp at hj⟩
  rcases Go.Deep.open_slice ht hx with ⟨rfl, _⟩ | ⟨a, len, cap, m, n, D, Pl, rfl, _, hl, hm, hmm, _, hel⟩
  · exact ⟨[], ⟨Nat.zero_le _, fun a h => by cases h⟩, one (rc_nil 0 rfl)⟩
  rw [hk] at hel
  have hlm : len ≤ m := by rw [hmm]; split <;> omega
  have hv : ∀ i, i < len → ∃ y : α × List Value, w.cells? 0 (a.add (i * k)) k = some y.2 ∧ Q y.1 ∧ FitL w y.2 (g y.1) := fun i hi => by
    obtain ⟨cs', h1, h2⟩ := hel i (by omega)
    obtain ⟨b, hb1, hb2⟩ := he n cs' _ h2
    exact ⟨(b, cs'), h1, hb1, hb2⟩
  by_cases hlen : len = 0
  · subst hlen
    refine ⟨[], ⟨Nat.zero_le _, fun a h => by cases h⟩, one ?_⟩
    exact .sl false _ 1 _ ⟨0, 0, none⟩ 0 cap rfl (fun h => by cases h) hl hm (fun e h => by cases h) (fun h => absurd rfl h) (fun _ _ => undef) (fun i j e c h => by simp at h) (fun i j e c h => by simp at h)
  obtain ⟨y0, _⟩ := hv 0 (by omega)
  have : Inhabited (α × List Value) := ⟨y0⟩
  obtain ⟨Y, hY⟩ := Go.Deep.choose_lt hv
  have hcell : ∀ i, i < len → ∀ j, j < k → w.cell? ((a.add (i * k)).add j) = (Y i).2[j]? := fun i hi j hj => (World.cells?_some (hY i hi).1).2.2 j hj
  have hclen : ∀ i, i < len → (Y i).2.length = k := fun i hi => (World.cells?_some (hY i hi).1).2.1
  have h00 : w.cell? a = some ((Y 0).2.getD 0 undef) := by
    have := hcell 0 (by omega) 0 hpos
    rw [Go.Deep.add_add] at this
    have e : a.add (0 * k + 0) = a := by simp [Addr.add]
    rw [e] at this
    rw [this, List.getD_eq_getElem?_getD]
    have hl0 := hclen 0 (by omega)
    rw [List.getElem?_eq_getElem (by omega)]
    rfl
  have hs : a.spot = none := World.cell?_spot h00
  have hb : a.block < w.heap.size := World.block_lt_of_cell? _ _ h00
  refine ⟨(List.range len).map fun i => (Y i).1, ⟨by simp; omega, fun b hb => ?_⟩, one ?_⟩
  · obtain ⟨i, hi, rfl⟩ := List.mem_map.1 hb
    exact (hY i (List.mem_range.1 hi)).2.1
  · have hes : ∀ i e, (((List.range len).map fun i => (Y i).1).map g)[i]? = some e → i < len ∧ e = g (Y i).1 := fun i e h => by
      simp only [List.map_map, List.getElem?_map, Option.map_eq_some_iff] at h
      obtain ⟨q, hq, rfl⟩ := h
      have hlt : i < len := by
        have := (List.getElem?_eq_some_iff.1 hq).1
        simpa using this
      rw [List.getElem?_range hlt, Option.some.injEq] at hq
      subst hq
      exact ⟨hlt, rfl⟩
    refine .sl false _ k _ a len cap (by simp) (fun h => by cases h) hl hm (fun e h => ?_) (fun _ => ⟨rfl, hs, fun h => h, hb⟩) (fun i j => (Y i).2.getD j undef) (fun i j e c h1 h2 => ?_) (fun i j e c h1 h2 => ?_)
    · obtain ⟨i, hi⟩ := List.getElem?_of_mem h
      rw [(hes i e hi).2]
      exact hg _
    · obtain ⟨hi, rfl⟩ := hes i e h1
      have hj : j < k := by
        have := (List.getElem?_eq_some_iff.1 h2).1
        rwa [hg] at this
      have := hcell i hi j hj
      rw [Go.Deep.add_add, addr_add' hs] at this
      rw [this, List.getD_eq_getElem?_getD, List.getElem?_eq_getElem (by rw [hclen i hi]; exact hj)]
      rfl
    · obtain ⟨hi, rfl⟩ := hes i e h1
      exact (hY i hi).2.2.2 j c h2
/-- An argument as a law takes it. -/
def ArgOK (w : World) (v : Value) : AV → Prop
  | .c c => okR c = true ∧ RC w noA v c
  | .agg cs => ∃ arr, v = .agg arr ∧ arr.size = cs.length ∧ ∀ j c, cs[j]? = some c → RC w noA (arr.getD j undef) c
  | _ => False
theorem arg_one {α : Type} {g : α → C} {Q : α → Prop} {v : Value} {d : DataW H} {ps : List MemPlace} (hv : v.cells = #[v]) (h : Opens enc P w t α (fun a => [g a]) Q)
    (hd : DataW.Trod enc P w 0 (fun _ => true) true t v d ps) : ∃ a, Q a ∧ ArgOK w v (.c (g a)) := by
  obtain ⟨fuel, hf⟩ := hd
  obtain ⟨a, h1, h2, h3⟩ := h fuel _ _ hf
  have := h3 0 _ rfl
  rw [hv] at this
  have h4 : RC w noA v (g a) := by simpa using this
  exact ⟨a, h1, h4.okR, h4⟩
theorem cells_slice {e : TypeId} {v : Value} (ht : P.underlying t = some (.slice e)) (hv : Value.okWide P w .any 0 t v) : v.cells = #[v] := by
  obtain ⟨a, l, c, rfl⟩ := okWide_slice ht hv; rfl
end
theorem noA_av (ins : List Box) (h : ins = []) (β : Nat → Option Nat) (g : Nat) : avIn noA ins β g → noA g := by
  subst h
  rintro (h | ⟨b, bx, h1, _⟩)
  · exact h
  · rw [exp_box] at h1; simp at h1
/-- A law whose arguments are only read. -/
theorem law_args {P : Program} {rt : RT} {f : Nat} {sp : Spec} (hS : Sat P rt f sp) (args : List AV) (vs : Array Value) (w : World) (hsz : vs.size = args.length) (hargs : ∀ j x, args[j]? = some x → ArgOK w (vs.getD j undef) x) (hpre : sp.pre args [])
    (hpost : ∀ r out, sp.post args [] r out → r = .c (.v (.bool true))) (hcost : sp.cost ≤ pickLimit) (hg : rt.ok w ∧ ∀ g ∈ rt.F, g < w.heap.size) : Calls P f vs w fun e w' => e = .returned (.bool true) ∧ Below w.heap.size w w' := by
  have T : Takes rt w noA noA 0 args vs [] (fun _ => none) (fun _ => 0) := {
    glob := ⟨hg.1, fun g h => ⟨hg.2 g h, fun h => h, fun ⟨b, bx, h1, _⟩ => by rw [exp_box] at h1; simp at h1⟩⟩
    rdav := fun _ h => h
    avlt := fun _ h => h.elim
    pasav := fun _ _ h => h
    rdok := fun _ h => h.elim
    size := hsz
    args := fun j x hj => by
      have h := hargs j x hj
      cases x with
      | c c =>
        obtain ⟨h1, h2⟩ := h
        exact (h2.mono (Mt' := avIn noA [] fun _ => none) (fun _ _ _ => rfl) (Nat.le_refl _) fun g _ hg => noA_av _ rfl _ g hg).mc
      | agg cs =>
        obtain ⟨arr, h1, h2, h3⟩ := h
        exact ⟨arr, h1, h2, fun j c hc => ((h3 j c hc).mono (Mt' := avIn noA [] fun _ => none) (fun _ _ _ => rfl) (Nat.le_refl _) fun g _ hg => noA_av _ rfl _ g hg).mc⟩
      | tup _ => exact h.elim
      | mp _ _ => exact h.elim
    boxes := fun b bx h => by simp at h
    inj := fun b b' bx bx' g h => by simp at h }
  refine (hS w _ _ 0 _ _ _ _ _ T hpre (by omega)).mono fun e w' ⟨v, r, bs', β, cp, Rd', he, hp, G⟩ => ?_
  subst he
  have := hpost _ _ hp
  subst this
  have hv : v = .bool true := by
    have h1 : RC w' (avoid noA bs' β Rd' sp.flat w.heap.size) v (.v (.bool true)) := G.value
    cases h1; rfl
  subst hv
  refine ⟨rfl, G.keeps.os, G.keeps.tape, G.keeps.output.1, G.keeps.size, fun k hk => G.keeps.block k hk fun h => ?_⟩
  rcases h with h | ⟨b, bx, h1, _⟩
  · exact h
  · rw [exp_box] at h1; simp at h1
end Go.VE
end
section
namespace Go.VE
open Go
/-- A function that turns nothing that was there, and hands back what leads to nothing that may be written. -/
theorem sat_calm {P : Program} {rt : RT} {f : FuncId} {sp : Spec} (hin : ∀ a i, sp.pre a i → i = [])
    (body : ∀ (w : World) (Av Rd : Nat → Prop) (pk : Nat) (args : List AV) (vs : Array Value) (β0 : Nat → Option Nat) (cp0 : Nat → Nat), Takes rt w Av Rd pk args vs [] β0 cp0 → sp.pre args [] →
      Calls P f vs w fun e w' => ∃ v r, e = .returned v ∧ sp.post args [] r [] ∧ Keeps (fun _ => False) w w' ∧ ∀ (M Rd : Nat → Prop) (H : C → Value → Prop), (∀ g, M g → g < w.heap.size) → MA w' M Rd H v r) : Sat P rt f sp := by
  intro w Av Rd pk args vs ins β0 cp0 T hpre hpk
  have := hin _ _ hpre
  subst this
  refine (body w Av Rd pk args vs β0 cp0 T hpre).mono ?_
  rintro e w' ⟨v, r, rfl, hpost, K, hv⟩
  have hno : ∀ g, ¬ has (expSt []) (fun _ => (none : Option Nat)) g := fun g ⟨b, bx, h1, _⟩ => by rw [exp_box] at h1; simp at h1
  have hlt : ∀ g, Rd g → g < w.heap.size := fun g h => T.avlt g (T.rdav g h)
  have hav : ∀ fl g, avoid Av [] (fun _ => none) Rd fl w.heap.size g → g < w.heap.size := by
    rintro fl g (h | h | h | h)
    · exact T.avlt g h
    · exact (hno g h).elim
    · exact hlt g h
    · exact h.2
  have hav2 : ∀ g, avoid Av [] (fun _ => none) Rd false w.heap.size g → avIn Av [] β0 g := by
    rintro g (h | h | h | h)
    · exact .inl h
    · exact (hno g h).elim
    · exact .inl (T.rdav g h)
    · cases h.1
  refine ⟨v, r, [], fun _ => none, fun _ => 0, Rd, rfl, hpost, ?_⟩
  exact {
    keeps := K.mono fun g _ h => h.elim
    few := Nat.zero_le _
    long := Nat.le_refl _
    rd := fun g h => h
    rdge := fun g h => .inl h
    same := fun g hg => by
      obtain ⟨_, bv, p, bs, h1, _⟩ := T.rdok g hg
      exact ⟨bv, p, p, h1, h1.congr (K.block g (hlt g hg) fun h => h)⟩
    rdok := T.rdok.mono (fun g hg _ => K.block g hg fun h => h) K.size (fun g _ h => hav2 g h) (fun g hg => K.block g (hlt g hg) fun h => h) (Nat.le_add_right _ _)
    rdnew := fun g h1 h2 => absurd h1 h2
    value := hv _ _ _ (hav _)
    boxes := fun b bx h => by simp at h
    org := fun b bx g h => by simp at h
    inj := fun b b' bx bx' g h => by simp at h
    pins := fun i bx0 bx h => by simp at h }
/-- An argument that is a string. -/
theorem arg_v {w : World} {M Rd : Nat → Prop} {H : C → Value → Prop} {v x : Value} (h : MA w M Rd H v (.c (.v x))) : v = x := by
  cases h; rfl
theorem args1 {vs : Array Value} {a : Value} (hs : vs.size = 1) (h0 : vs.getD 0 undef = a) : vs = #[a] := by
  refine Array.ext (by simpa using hs) fun k h1 h2 => ?_
  have : k = 0 := by simp at h2; omega
  subst this
  simpa [Array.getD_eq_getD_getElem?, h1] using h0
theorem args2 {vs : Array Value} {a b : Value} (hs : vs.size = 2) (h0 : vs.getD 0 undef = a) (h1 : vs.getD 1 undef = b) : vs = #[a, b] := by
  refine Array.ext (by simpa using hs) fun k hk1 hk2 => ?_
  simp only [List.size_toArray, List.length_cons, List.length_nil] at hk2
  match k, hk2 with
  | 0, _ => simpa [Array.getD_eq_getD_getElem?, hk1] using h0
  | 1, _ => simpa [Array.getD_eq_getD_getElem?, hk1] using h1
theorem keeps_below {w w' : World} (h : Go.RowKit.Below w.heap.size w w') : Keeps (fun _ => False) w w' :=
  ⟨h.os, h.tape, ⟨h.output, trivial⟩, h.size, fun g hg _ => h.block g hg⟩
end Go.VE
end
section
namespace Go
variable {H : Type} {enc : TypeId × Value → H}
/-- The wrap that keeps the world's shape, and a condition on the world. -/
theorem returnsInHanded_of_change_and_shaped {a : Assume} {C : Checked} {os : Os} {f : FuncId} {fn : Func} {s : ChangeSpec} {conds : List PathCond} {apart fresh handsOn again : Bool} {X : World → Array Value → Prop}
    (hX : ∀ (w w' : World) (args : Array Value), w.heap = w'.heap → X w args → X w' args)
    (own : ownKnob C.prog.godebug = none) (started : os.Started) (noInit : C.prog.inits.idxOf? f = none) (hfn : C.prog.funcs[f]? = some fn)
    (witness : ∃ (w : World) (tape : Tape) (i : Input), w.os = os ∧ (w.forCall tape i).Shaped C.prog ∧ i.vars = [] ∧ Input.okWide C.prog (w.forCall tape i) .any w.heap.size f i ∧
      ((s.pre enc C.prog fn conds apart (w.forCall tape i).memory i.args ∧ X (w.forCall tape i).memory i.args) ∧ sizedMet enc C.prog fn (OpenSpec.ofChange s) apart (w.forCall tape i).memory i.args) ∧ a.holds C.prog (lone (Frame.enter C.prog f i.args .normal) [] (w.forCall tape i)))
    (contract : ∀ (W : World) (base : Nat) (args : Array Value) (ds gs : List (DataW H)) (before : List MemPlace),
      (∀ (j : Nat) t v, fn.params[j]? = some t → args[j]? = some v → Value.okWide C.prog W .any base t v) →
      DataW.Whole enc C.prog fn.params.toList s.vars apart W args.toList ds gs before →
      conds.all (PathCond.test C.prog ⟨fn.params.toList, ds, s.plain.varTypes C.prog, gs⟩) = true → X W args → W.ShapedOpen C.prog →
      a.holds C.prog (lone (Frame.enter C.prog f args .normal) [] W) →
      Calls C.prog f args W fun e W' => ∃ v, e = .returned v ∧ s.post enc C.prog fn apart fresh handsOn again W args v W') :
    ReturnsInHanded a C os f .any (fun w args => (s.pre enc C.prog fn conds apart w args ∧ X w args) ∧ sizedMet enc C.prog fn (OpenSpec.ofChange s) apart w args) (s.post enc C.prog fn apart fresh handsOn again) := by
  refine returnsInHanded_of_calls own started noInit witness ?_
  intro w tape i _ hsh _ hok hpre hholds
  obtain ⟨_, _, _, fn', hfn', _, _, _, _, hval⟩ := hok
  have e : fn' = fn := Option.some.inj (hfn'.symm.trans hfn)
  subst e
  obtain ⟨⟨⟨ds, gs, before, hw, hc⟩, hx⟩, hz⟩ := hpre
  have hw' := DataW.Whole.of_heap (w' := w.forCall tape i) (by rfl) hw
  refine (contract (w.forCall tape i) w.heap.size i.args ds gs before hval hw' hc (hX _ _ _ (by rfl) hx) hsh hholds).mono fun e W' ⟨v, he, hp⟩ => ?_
  subst he
  exact ChangeSpec.post_blind hp
end Go
namespace Go.VE
open Go
/-- A variable of a type of integers holds one. -/
theorem shaped_int {P : Program} {w : World} {g : Nat} {t : TypeId} {zero : Array Value} {k : IntKind}
    (h : w.ShapedOpen P) (hg : g < P.globals.size)
    (h0 : ((begin P (fun _ _ => 0) default).world.heap[g]?).bind Obj.row? = some (zero, t)) (hz : zero.size = 1)
    (hb : P.buildable t = true) (hc : P.cellTypes P.depth t = some [t]) (hu : P.underlying t = some (.int k)) :
    ∃ m, w.cell? ⟨g, 0, none⟩ = some (.int k m) := by
  obtain ⟨cs, hh, hs, hr⟩ := h.1 g zero t hg h0
  obtain ⟨ts, hts, _, hall⟩ := hr hb
  rw [hc] at hts
  cases hts
  have h1 : 0 < cs.size := by omega
  obtain ⟨u, hu', hok⟩ := hall 0 cs[0] (by simp [h1])
  have : u = t := by simpa using hu'.symm
  subst this
  have hcell : w.cell? ⟨g, 0, none⟩ = some cs[0] := by simp [World.cell?, hh, h1]
  rw [hcell]
  unfold Cell.ok at hok
  rw [hu] at hok
  cases hv : cs[0] <;> rw [hv] at hok <;> simp at hok
  case int k' n => exact ⟨n, by rw [hok.1]⟩
theorem cell_lt {w : World} {g : Nat} {v : Value} (h : w.cell? ⟨g, 0, none⟩ = some v) : g < w.heap.size := by
  unfold World.cell? at h
  cases hh : w.heap[g]? with
  | none => simp [hh] at h
  | some o => exact (Array.getElem?_eq_some_iff.1 hh).1
theorem var_lt {P : Program} {w : World} {n : String} {g : Nat} {cs : Array Value} (hg : P.globalNamed n = some g) (h : w.var? P n = some cs) : g < w.heap.size := by
  unfold World.var? at h
  rw [hg, Option.bind_some] at h
  cases hh : w.heap[g]? with
  | none => simp [hh] at h
  | some o => exact (Array.getElem?_eq_some_iff.1 hh).1
end Go.VE
end
