/- Contracts of functions of the program vectorraster, each proved for all states that fit its description. No conditions. -/
import Derived.Test.YtofelomoieamoaaW38
/- A nil slice in a result, told as an empty row of its own. -/
set_option linter.unusedVariables false
set_option linter.unusedSimpArgs false
namespace Go.VE
open Go Go.RowKit

theorem has_nilB (β : Nat → Option Nat) (g : Nat) : ¬ has (expSt []) β g := by
  rintro ⟨b, bx, h1, _⟩
  rw [exp_box] at h1; simp at h1
theorem has_none (bs : List Box) (g : Nat) : ¬ has (expSt bs) (fun _ => none) g := by
  rintro ⟨b, bx, _, h2⟩
  cases h2
theorem avoid_nil (Av Rd' : Nat → Prop) (β : Nat → Option Nat) (bs : List Box) (fl : Bool) (sz : Nat) : avoid Av bs (fun _ => none) Rd' fl sz = avoid Av [] β Rd' fl sz := by
  funext g
  have h1 := has_none bs g
  have h2 := has_nilB β g
  simp only [avoid, h1, h2]

def nilBx (k ty : Nat) : Box := ⟨[], k, ty, true, false⟩

theorem nil_own {w : World} {Mt Rd : Nat → Prop} {k ty : Nat} {v : Value} (hv : ∃ a, v = .slice a 0 0) : MC w Mt Rd (hOf (expSt [nilBx k ty]) (fun _ => none) (fun _ => 0)) v (.own 0 0 false) := by
  obtain ⟨a, rfl⟩ := hv
  refine ⟨rfl, 0, 0, rfl, (exp_keyed _ _).2 Nat.one_pos, fun bx h => ?_⟩
  rw [exp_box] at h
  simp only [List.getElem?_cons_zero, Option.some.injEq] at h
  subst h
  exact ⟨Nat.le_refl _, fun _ => .inl ⟨rfl, rfl, a, rfl⟩⟩

/-- What a function's result is when one of its slices is nil. -/
theorem gives_nil {rt : Nat} {sp : Spec} {w w' : World} {Av Rd : Nat → Prop} {pk : Nat} {β0 : Nat → Option Nat} {cp0 : Nat → Nat} {v : Value} {β : Nat → Option Nat} {cp : Nat → Nat} {Rd' : Nat → Prop} {r r' : AV} (k ty : Nat)
    (hr : ∀ {Mt Rd : Nat → Prop} {H : C → Value → Prop}, MA w' Mt Rd H v r → MA w' Mt Rd (hOf (expSt [nilBx k ty]) (fun _ => none) (fun _ => 0)) v r')
    (G : Gives rt sp w w' Av Rd pk [] β0 cp0 v r [] β cp Rd') : Gives rt sp w w' Av Rd pk [] β0 cp0 v r' [nilBx k ty] (fun _ => none) (fun _ => 0) Rd' where
  keeps := G.keeps
  few := Nat.le_of_ble_eq_true rfl
  long := Nat.zero_le _
  rd := G.rd
  rdge := G.rdge
  same := G.same
  rdok := by rw [avoid_nil Av Rd' β]; exact G.rdok
  rdnew := by rw [avoid_nil Av Rd' β]; exact G.rdnew
  value := by rw [avoid_nil Av Rd' β]; exact hr G.value
  boxes := fun b bx h => by
    cases b with
    | zero =>
      simp only [List.getElem?_cons_zero, Option.some.injEq] at h
      subst h
      exact ⟨rfl, .inl (.inl ⟨rfl, rfl, rfl⟩)⟩
    | succ b => simp at h
  org := fun b bx g _ h => by cases h
  inj := fun b b' bx bx' g _ _ h => by cases h
  pins := fun i bx0 bx h => by simp at h

theorem mc_v {w : World} {Mt Rd : Nat → Prop} {H H' : C → Value → Prop} {v x : Value} (h : MC w Mt Rd H v (.v x)) : MC w Mt Rd H' v (.v x) := h
theorem mc_slice {w : World} {Mt Rd : Nat → Prop} {H : C → Value → Prop} {v : Value} (h : MC w Mt Rd H v (.sl true [])) : ∃ a, v = .slice a 0 0 := by
  have h1 : RC w Mt v (.sl true []) := h
  cases h1 with
  | sl _ _ k a p m cap hn ht hle hmax hk ha u hc hr =>
    have h0 : m = 0 := by simpa using hn
    subst h0
    have h1 := ht rfl
    subst h1
    exact ⟨a, rfl⟩

/-- A struct whose last field is nil, and a word. -/
theorem nil_structB {w : World} {k ty : Nat} {v : Value} {cs : List C} {y : Value} (hcs : ∀ c ∈ cs, okV c = true) {Mt Rd : Nat → Prop} {H : C → Value → Prop} (h : MA w Mt Rd H v (.tup [.agg (cs ++ [.sl true []]), .c (.v y)])) :
    MA w Mt Rd (hOf (expSt [nilBx k ty]) (fun _ => none) (fun _ => 0)) v (.tup [.agg (cs ++ [.own 0 0 false]), .c (.v y)]) := by
  obtain ⟨arr, rfl, hs, h⟩ := h
  refine ⟨arr, rfl, hs, fun j x hj => ?_⟩
  match j, hj with
  | 0, hj =>
    simp only [List.getElem?_cons_zero, Option.some.injEq] at hj
    subst hj
    obtain ⟨ar, e, hz, hm⟩ := h 0 _ rfl
    refine ⟨ar, e, by simpa using hz, fun i c hc => ?_⟩
    by_cases hi : i < cs.length
    · rw [List.getElem?_append_left hi] at hc
      have hm' := hm i c (by rw [List.getElem?_append_left hi]; exact hc)
      have hk := hcs c (List.mem_of_getElem? hc)
      cases c <;> first | exact hm' | cases hk
    · rw [List.getElem?_append_right (by omega)] at hc
      have hl := (List.getElem?_eq_some_iff.1 hc).1
      simp only [List.length_cons, List.length_nil] at hl
      have h0 : i - cs.length = 0 := by omega
      rw [h0] at hc
      simp only [List.getElem?_cons_zero, Option.some.injEq] at hc
      subst hc
      have hm' := hm i (.sl true []) (by rw [List.getElem?_append_right (by omega), h0]; rfl)
      exact nil_own (mc_slice hm')
  | 1, hj =>
    simp only [List.getElem?_cons_zero, List.getElem?_cons_succ, Option.some.injEq] at hj
    subst hj
    exact h 1 _ rfl
  | j + 2, hj => simp at hj

/-- A contract told otherwise. -/
theorem sat_nil {P : Program} {rt f : Nat} {sp sp' : Spec} (k ty : Nat) (hS : Sat P rt f sp) (hpre : ∀ a i, sp'.pre a i → i = [] ∧ sp.pre a i) (hc : sp'.cost = sp.cost) (hf : sp'.flat = sp.flat)
    (hpost : ∀ a r bs, sp.pre a [] → sp.post a [] r bs → sp'.post a [] r bs ∨ bs = [] ∧ ∃ r', sp'.post a [] r' [nilBx k ty] ∧ ∀ {w : World} {v : Value} {Mt Rd : Nat → Prop} {H : C → Value → Prop}, MA w Mt Rd H v r → MA w Mt Rd (hOf (expSt [nilBx k ty]) (fun _ => none) (fun _ => 0)) v r') : Sat P rt f sp' := by
  intro w Av Rd pk args vs ins β0 cp0 T hp hpk
  obtain ⟨rfl, hp1⟩ := hpre _ _ hp
  refine (hS w Av Rd pk args vs [] β0 cp0 T hp1 (by omega)).mono fun e w' ⟨v, r, bs, β, cp, Rd', he, h, G⟩ => ?_
  have cvt : ∀ {r bs β cp}, Gives rt sp w w' Av Rd pk [] β0 cp0 v r bs β cp Rd' → Gives rt sp' w w' Av Rd pk [] β0 cp0 v r bs β cp Rd' := fun G => by
    refine ⟨G.keeps, G.few, G.long, G.rd, G.rdge, G.same, ?_, ?_, ?_, ?_, G.org, G.inj, G.pins⟩
    · rw [hc]; exact G.rdok
    · rw [hc, hf]; exact G.rdnew
    · rw [hf]; exact G.value
    · rw [hf]; exact G.boxes
  rcases hpost args r bs hp1 h with h1 | ⟨rfl, r', h1, h2⟩
  · exact ⟨v, r, bs, β, cp, Rd', he, h1, cvt G⟩
  · exact ⟨v, r', _, _, _, Rd', he, h1, cvt (gives_nil k ty h2 G)⟩
end Go.VE
