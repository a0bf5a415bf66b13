/- Contracts of functions of the program vectorraster, each proved for all states that fit its description. No conditions. -/
import Derived.Test.YthphndhiacikaaaDoorEC
import Derived.Deep.Slices
import Derived.ChangeSame
/- Arguments by data: what is read of an argument fits a description. -/
set_option linter.unusedVariables false
set_option linter.unusedSimpArgs false
namespace Go.VE
open Go Go.RowKit Go.ChangeShapes Go.WideShapes

def noA (_ : Nat) : Prop := False

/-- A list of cells fits a list of descriptions. -/
def FitL (w : World) (cs : List Value) (ds : List C) : Prop := ds.length = cs.length ∧ ∀ j c, ds[j]? = some c → RC w noA (cs.getD j undef) c

/-- Every reading at this type fits a description. -/
def Opens {H : Type} (enc : TypeId × Value → H) (P : Program) (w : World) (t : TypeId) (α : Type) (g : α → List C) (Q : α → Prop) : Prop :=
  ∀ (fuel : Nat) (cs : List Value) (x : DataW H × List MemPlace), DataW.trod enc P w 0 (fun _ => true) true fuel t cs = some x → ∃ a : α, Q a ∧ FitL w cs (g a)

section
variable {H : Type} {enc : TypeId × Value → H} {P : Program} {w : World} {t : TypeId}

theorem opens_map {α β : Type} {g : α → List C} {Q : α → Prop} (h : Opens enc P w t α g Q) (φ : α → β) {g' : β → List C} {Q' : β → Prop} (hg : ∀ a, g' (φ a) = g a) (hQ : ∀ a, Q a → Q' (φ a)) : Opens enc P w t β g' Q' := by
  intro fuel cs x hx
  obtain ⟨a, h1, h2⟩ := h fuel cs x hx
  exact ⟨φ a, hQ a h1, by rw [hg]; exact h2⟩

theorem opens_int {k : IntKind} (ht : P.underlying t = some (.int k)) : Opens enc P w t Int (fun n => [.v (.int k n)]) (fun n => (Lit.int k n).wf = true) := by
  intro fuel cs x hx
  obtain ⟨n, rfl, _, hw⟩ := DataW.trod_int ht hx
  refine ⟨n, hw, rfl, fun j c hj => ?_⟩
  cases j with
  | zero => simp only [List.getElem?_cons_zero, Option.some.injEq] at hj; subst hj; exact .v _ rfl
  | succ j => simp at hj

theorem opens_string (ht : P.underlying t = some .string) : Opens enc P w t ByteArray (fun s => [.v (.string s)]) (fun s => s.size ≤ maxLen) := by
  intro fuel cs x hx
  obtain ⟨s, rfl, _, hw⟩ := DataW.trod_string ht hx
  refine ⟨s, hw, rfl, fun j c hj => ?_⟩
  cases j with
  | zero => simp only [List.getElem?_cons_zero, Option.some.injEq] at hj; subst hj; exact .v _ rfl
  | succ j => simp at hj

theorem rc_nil (len : Nat) (h : len = 0) : RC w noA (.slice none len 0) (.sl false []) := by
  subst h
  exact .sl false _ 1 none ⟨0, 0, none⟩ 0 0 rfl (fun h => by cases h) (Nat.le_refl _) (Nat.zero_le _) (fun e h => by cases h) (fun h => absurd rfl h) (fun _ _ => undef) (fun i j e c h => by simp at h) (fun i j e c h => by simp at h)

theorem opens_slice {e : TypeId} {k : Nat} {α : Type} {g : α → List C} {Q : α → Prop} (ht : P.underlying t = some (.slice e)) (hk : P.cellsOf e = k) (hpos : 0 < k) (hg : ∀ a, (g a).length = k) (he : Opens enc P w e α g Q) :
    Opens enc P w t (List α) (fun l => [.sl false (l.map g)]) (fun l => l.length ≤ maxLen ∧ ∀ a ∈ l, Q a) := by
  intro fuel cs x hx
  have one : ∀ {v : Value} {c : C}, RC w noA v c → FitL w [v] [c] := fun h => ⟨rfl, fun j c hj => by
    cases j with
    | zero => simp only [List.getElem?_cons_zero, Option.some.injEq] at hj; subst hj; exact h
    | succ j => simp at hj⟩
  rcases Go.Deep.open_slice ht hx with ⟨rfl, _⟩ | ⟨a, len, cap, m, n, D, Pl, rfl, _, hl, hm, hmm, _, hel⟩
  · exact ⟨[], ⟨Nat.zero_le _, fun a h => by cases h⟩, one (rc_nil 0 rfl)⟩
  rw [hk] at hel
  have hlm : len ≤ m := by rw [hmm]; split <;> omega
  have hv : ∀ i, i < len → ∃ y : α × List Value, w.cells? 0 (a.add (i * k)) k = some y.2 ∧ Q y.1 ∧ FitL w y.2 (g y.1) := fun i hi => by
    obtain ⟨cs', h1, h2⟩ := hel i (by omega)
    obtain ⟨b, hb1, hb2⟩ := he n cs' _ h2
    exact ⟨(b, cs'), h1, hb1, hb2⟩
  by_cases hlen : len = 0
  · subst hlen
    refine ⟨[], ⟨Nat.zero_le _, fun a h => by cases h⟩, one ?_⟩
    exact .sl false _ 1 _ ⟨0, 0, none⟩ 0 cap rfl (fun h => by cases h) hl hm (fun e h => by cases h) (fun h => absurd rfl h) (fun _ _ => undef) (fun i j e c h => by simp at h) (fun i j e c h => by simp at h)
  obtain ⟨y0, _⟩ := hv 0 (by omega)
  have : Inhabited (α × List Value) := ⟨y0⟩
  obtain ⟨Y, hY⟩ := Go.Deep.choose_lt hv
  have hcell : ∀ i, i < len → ∀ j, j < k → w.cell? ((a.add (i * k)).add j) = (Y i).2[j]? := fun i hi j hj => (World.cells?_some (hY i hi).1).2.2 j hj
  have hclen : ∀ i, i < len → (Y i).2.length = k := fun i hi => (World.cells?_some (hY i hi).1).2.1
  have h00 : w.cell? a = some ((Y 0).2.getD 0 undef) := by
    have := hcell 0 (by omega) 0 hpos
    rw [Go.Deep.add_add] at this
    have e : a.add (0 * k + 0) = a := by simp [Addr.add]
    rw [e] at this
    rw [this, List.getD_eq_getElem?_getD]
    have hl0 := hclen 0 (by omega)
    rw [List.getElem?_eq_getElem (by omega)]
    rfl
  have hs : a.spot = none := World.cell?_spot h00
  have hb : a.block < w.heap.size := World.block_lt_of_cell? _ _ h00
  refine ⟨(List.range len).map fun i => (Y i).1, ⟨by simp; omega, fun b hb => ?_⟩, one ?_⟩
  · obtain ⟨i, hi, rfl⟩ := List.mem_map.1 hb
    exact (hY i (List.mem_range.1 hi)).2.1
  · have hes : ∀ i e, (((List.range len).map fun i => (Y i).1).map g)[i]? = some e → i < len ∧ e = g (Y i).1 := fun i e h => by
      simp only [List.map_map, List.getElem?_map, Option.map_eq_some_iff] at h
      obtain ⟨q, hq, rfl⟩ := h
      have hlt : i < len := by
        have := (List.getElem?_eq_some_iff.1 hq).1
        simpa using this
      rw [List.getElem?_range hlt, Option.some.injEq] at hq
      subst hq
      exact ⟨hlt, rfl⟩
    refine .sl false _ k _ a len cap (by simp) (fun h => by cases h) hl hm (fun e h => ?_) (fun _ => ⟨rfl, hs, fun h => h, hb⟩) (fun i j => (Y i).2.getD j undef) (fun i j e c h1 h2 => ?_) (fun i j e c h1 h2 => ?_)
    · obtain ⟨i, hi⟩ := List.getElem?_of_mem h
      rw [(hes i e hi).2]
      exact hg _
    · obtain ⟨hi, rfl⟩ := hes i e h1
      have hj : j < k := by
        have := (List.getElem?_eq_some_iff.1 h2).1
        rwa [hg] at this
      have := hcell i hi j hj
      rw [Go.Deep.add_add, addr_add' hs] at this
      rw [this, List.getD_eq_getElem?_getD, List.getElem?_eq_getElem (by rw [hclen i hi]; exact hj)]
      rfl
    · obtain ⟨hi, rfl⟩ := hes i e h1
      exact (hY i hi).2.2.2 j c h2

/-- The fields of a struct, from a place on. -/
def OpensF {H : Type} (enc : TypeId × Value → H) (P : Program) (w : World) (fs : List Field) (off k : Nat) (α : Type) (g : α → List C) (Q : α → Prop) : Prop :=
  (∀ a, (g a).length = k) ∧ ∀ (fuel : Nat) (cs : List Value) (f : Field → Option (DataW H × List MemPlace)), cs.length = off + k →
    (∀ q ∈ fs, ∃ x, DataW.trod enc P w 0 (fun _ => true) true fuel q.type ((cs.drop q.offset).take (P.cellsOf q.type)) = some x) → ∃ a : α, Q a ∧ ∀ j c, (g a)[j]? = some c → RC w noA (cs.getD (off + j) undef) c
theorem opensF_nil (off : Nat) : OpensF enc P w [] off 0 Unit (fun _ => []) (fun _ => True) :=
  ⟨fun _ => rfl, fun _ _ _ _ _ => ⟨(), trivial, fun j c h => by simp at h⟩⟩
theorem opensF_cons {q : Field} {fs : List Field} {off k1 k2 : Nat} {α β : Type} {g : α → List C} {Q : α → Prop} {g' : β → List C} {Q' : β → Prop} (hq : Opens enc P w q.type α g Q) (ho : q.offset = off) (hk : P.cellsOf q.type = k1) (hg : ∀ a, (g a).length = k1)
    (h : OpensF enc P w fs (off + k1) k2 β g' Q') : OpensF enc P w (q :: fs) off (k1 + k2) (α × β) (fun p => g p.1 ++ g' p.2) (fun p => Q p.1 ∧ Q' p.2) := by
  refine ⟨fun a => by rw [List.length_append, hg, h.1], fun fuel cs f hl hx => ?_⟩
  obtain ⟨x, hx0⟩ := hx q (List.mem_cons_self ..)
  rw [ho, hk] at hx0
  obtain ⟨a, ha1, ha2, ha3⟩ := hq fuel _ _ hx0
  obtain ⟨b, hb1, hb2⟩ := h.2 fuel cs f (by omega) fun r hr => hx r (List.mem_cons_of_mem _ hr)
  refine ⟨(a, b), ⟨ha1, hb1⟩, fun j c hj => ?_⟩
  dsimp only at hj
  by_cases hlt : j < k1
  · rw [List.getElem?_append_left (by rw [hg]; exact hlt)] at hj
    have := ha3 j c hj
    have e : ((cs.drop off).take k1).getD j undef = cs.getD (off + j) undef := by
      rw [List.getD_eq_getElem?_getD, List.getD_eq_getElem?_getD, List.getElem?_take, if_pos hlt, List.getElem?_drop]
    rwa [e] at this
  · rw [List.getElem?_append_right (by rw [hg]; omega), hg] at hj
    have := hb2 (j - k1) c hj
    rwa [show off + k1 + (j - k1) = off + j by omega] at this
theorem opens_struct {fs : Array Field} {l : List Field} {k : Nat} {α : Type} {g : α → List C} {Q : α → Prop} (ht : P.underlying t = some (.struct fs)) (hfs : fs.toList = l) (hk : P.cellsOf t = k) (h : OpensF enc P w l 0 k α g Q) : Opens enc P w t α g Q := by
  intro fuel cs x hx
  obtain ⟨xs, n, _, _, hl, hn, hf⟩ := DataW.trod_struct ht hx
  obtain ⟨a, h1, h2⟩ := h.2 n cs (fun _ => none) (by omega) fun q hq => by
    rw [← hfs] at hq
    obtain ⟨i, hi⟩ := List.getElem?_of_mem hq
    rw [Array.getElem?_toList] at hi
    have := hf i q hi
    have hlt : i < xs.length := by rw [hn]; exact (Array.getElem?_eq_some_iff.1 hi).1
    rw [List.getElem?_eq_getElem hlt] at this
    exact ⟨_, this⟩
  refine ⟨a, h1, by rw [h.1]; omega, fun j c hj => ?_⟩
  have := h2 j c hj
  rwa [Nat.zero_add] at this

/-- An argument as a law takes it. -/
def ArgOK (w : World) (v : Value) : AV → Prop
  | .c c => okR c = true ∧ RC w noA v c
  | .agg cs => ∃ arr, v = .agg arr ∧ arr.size = cs.length ∧ ∀ j c, cs[j]? = some c → RC w noA (arr.getD j undef) c
  | _ => False

theorem arg_struct {fs : Array Field} {α : Type} {g : α → List C} {Q : α → Prop} {v : Value} {d : DataW H} {ps : List MemPlace} (ht : P.underlying t = some (.struct fs)) (hv : Value.okWide P w .any 0 t v) (h : Opens enc P w t α g Q)
    (hd : DataW.Trod enc P w 0 (fun _ => true) true t v d ps) : ∃ a, Q a ∧ ArgOK w v (.agg (g a)) := by
  obtain ⟨cs, rfl, _⟩ := okWide_struct ht hv
  obtain ⟨fuel, hf⟩ := hd
  obtain ⟨a, h1, h2, h3⟩ := h fuel _ _ hf
  refine ⟨a, h1, cs, rfl, ?_, fun j c hj => ?_⟩
  · simpa [Value.cells] using h2.symm
  · have := h3 j c hj
    simpa [Value.cells, List.getD_eq_getElem?_getD, Array.getD_eq_getD_getElem?] using this
theorem arg_one {α : Type} {g : α → C} {Q : α → Prop} {v : Value} {d : DataW H} {ps : List MemPlace} (hv : v.cells = #[v]) (h : Opens enc P w t α (fun a => [g a]) Q)
    (hd : DataW.Trod enc P w 0 (fun _ => true) true t v d ps) : ∃ a, Q a ∧ ArgOK w v (.c (g a)) := by
  obtain ⟨fuel, hf⟩ := hd
  obtain ⟨a, h1, h2, h3⟩ := h fuel _ _ hf
  have := h3 0 _ rfl
  rw [hv] at this
  have h4 : RC w noA v (g a) := by simpa using this
  exact ⟨a, h1, h4.okR, h4⟩
theorem cells_slice {e : TypeId} {v : Value} (ht : P.underlying t = some (.slice e)) (hv : Value.okWide P w .any 0 t v) : v.cells = #[v] := by
  obtain ⟨a, l, c, rfl⟩ := okWide_slice ht hv; rfl
theorem cells_int {k : IntKind} {v : Value} (ht : P.underlying t = some (.int k)) (hv : Value.okWide P w .any 0 t v) : v.cells = #[v] := by
  obtain ⟨a, rfl⟩ := okWide_int ht hv; rfl
theorem cells_string {v : Value} (ht : P.underlying t = some .string) (hv : Value.okWide P w .any 0 t v) : v.cells = #[v] := by
  obtain ⟨a, rfl⟩ := okWide_string ht hv; rfl
end

theorem noA_av (ins : List Box) (h : ins = []) (β : Nat → Option Nat) (g : Nat) : avIn noA ins β g → noA g := by
  subst h
  rintro (h | ⟨b, bx, h1, _⟩)
  · exact h
  · rw [exp_box] at h1; simp at h1

/-- A law whose arguments are only read. -/
theorem law_args {P : Program} {rt : RT} {f : Nat} {sp : Spec} (hS : Sat P rt f sp) (args : List AV) (vs : Array Value) (w : World) (hsz : vs.size = args.length) (hargs : ∀ j x, args[j]? = some x → ArgOK w (vs.getD j undef) x) (hpre : sp.pre args [])
    (hpost : ∀ r out, sp.post args [] r out → r = .c (.v (.bool true))) (hcost : sp.cost ≤ pickLimit) (hg : rt.ok w ∧ ∀ g ∈ rt.F, g < w.heap.size) : Calls P f vs w fun e w' => e = .returned (.bool true) ∧ Below w.heap.size w w' := by
  have T : Takes rt w noA noA 0 args vs [] (fun _ => none) (fun _ => 0) := {
    glob := ⟨hg.1, fun g h => ⟨hg.2 g h, fun h => h, fun ⟨b, bx, h1, _⟩ => by rw [exp_box] at h1; simp at h1⟩⟩
    rdav := fun _ h => h
    avlt := fun _ h => h.elim
    pasav := fun _ _ h => h
    rdok := fun _ h => h.elim
    size := hsz
    args := fun j x hj => by
      have h := hargs j x hj
      cases x with
      | c c =>
        obtain ⟨h1, h2⟩ := h
        exact (h2.mono (Mt' := avIn noA [] fun _ => none) (fun _ _ _ => rfl) (Nat.le_refl _) fun g _ hg => noA_av _ rfl _ g hg).mc
      | agg cs =>
        obtain ⟨arr, h1, h2, h3⟩ := h
        exact ⟨arr, h1, h2, fun j c hc => ((h3 j c hc).mono (Mt' := avIn noA [] fun _ => none) (fun _ _ _ => rfl) (Nat.le_refl _) fun g _ hg => noA_av _ rfl _ g hg).mc⟩
      | tup _ => exact h.elim
      | mp _ _ => exact h.elim
    boxes := fun b bx h => by simp at h
    inj := fun b b' bx bx' g h => by simp at h }
  refine (hS w _ _ 0 _ _ _ _ _ T hpre (by omega)).mono fun e w' ⟨v, r, bs', β, cp, Rd', he, hp, G⟩ => ?_
  subst he
  have := hpost _ _ hp
  subst this
  have hv : v = .bool true := by
    have h1 : RC w' (avoid noA bs' β Rd' sp.flat w.heap.size) v (.v (.bool true)) := G.value
    cases h1; rfl
  subst hv
  refine ⟨rfl, G.keeps.os, G.keeps.tape, G.keeps.output.1, G.keeps.size, fun k hk => G.keeps.block k hk fun h => ?_⟩
  rcases h with h | ⟨b, bx, h1, _⟩
  · exact h
  · rw [exp_box] at h1; simp at h1
end Go.VE
