/- Contracts of functions of the program vectorraster, each proved for all states that fit its description. No conditions. -/
import Derived.Test.YthphndhiacikaaaDoorED
namespace Go.VE
open Go

/-- A function that turns nothing that was there, and hands back what leads to nothing that may be written. -/
theorem sat_calm {P : Program} {rt : RT} {f : FuncId} {sp : Spec} (hin : ∀ a i, sp.pre a i → i = [])
    (body : ∀ (w : World) (Av Rd : Nat → Prop) (pk : Nat) (args : List AV) (vs : Array Value) (β0 : Nat → Option Nat) (cp0 : Nat → Nat), Takes rt w Av Rd pk args vs [] β0 cp0 → sp.pre args [] →
      Calls P f vs w fun e w' => ∃ v r, e = .returned v ∧ sp.post args [] r [] ∧ Keeps (fun _ => False) w w' ∧ ∀ (M Rd : Nat → Prop) (H : C → Value → Prop), (∀ g, M g → g < w.heap.size) → MA w' M Rd H v r) : Sat P rt f sp := by
  intro w Av Rd pk args vs ins β0 cp0 T hpre hpk
  have := hin _ _ hpre
  subst this
  refine (body w Av Rd pk args vs β0 cp0 T hpre).mono ?_
  rintro e w' ⟨v, r, rfl, hpost, K, hv⟩
  have hno : ∀ g, ¬ has (expSt []) (fun _ => (none : Option Nat)) g := fun g ⟨b, bx, h1, _⟩ => by rw [exp_box] at h1; simp at h1
  have hlt : ∀ g, Rd g → g < w.heap.size := fun g h => T.avlt g (T.rdav g h)
  have hav : ∀ fl g, avoid Av [] (fun _ => none) Rd fl w.heap.size g → g < w.heap.size := by
    rintro fl g (h | h | h | h)
    · exact T.avlt g h
    · exact (hno g h).elim
    · exact hlt g h
    · exact h.2
  have hav2 : ∀ g, avoid Av [] (fun _ => none) Rd false w.heap.size g → avIn Av [] β0 g := by
    rintro g (h | h | h | h)
    · exact .inl h
    · exact (hno g h).elim
    · exact .inl (T.rdav g h)
    · cases h.1
  refine ⟨v, r, [], fun _ => none, fun _ => 0, Rd, rfl, hpost, ?_⟩
  exact {
    keeps := K.mono fun g _ h => h.elim
    few := Nat.zero_le _
    long := Nat.le_refl _
    rd := fun g h => h
    rdge := fun g h => .inl h
    same := fun g hg => by
      obtain ⟨_, bv, p, bs, h1, _⟩ := T.rdok g hg
      exact ⟨bv, p, p, h1, h1.congr (K.block g (hlt g hg) fun h => h)⟩
    rdok := T.rdok.mono (fun g hg _ => K.block g hg fun h => h) K.size (fun g _ h => hav2 g h) (fun g hg => K.block g (hlt g hg) fun h => h) (Nat.le_add_right _ _)
    rdnew := fun g h1 h2 => absurd h1 h2
    value := hv _ _ _ (hav _)
    boxes := fun b bx h => by simp at h
    org := fun b bx g h => by simp at h
    inj := fun b b' bx bx' g h => by simp at h
    pins := fun i bx0 bx h => by simp at h }

/-- An argument that is a string. -/
theorem arg_v {w : World} {M Rd : Nat → Prop} {H : C → Value → Prop} {v x : Value} (h : MA w M Rd H v (.c (.v x))) : v = x := by
  cases h; rfl
theorem args1 {vs : Array Value} {a : Value} (hs : vs.size = 1) (h0 : vs.getD 0 undef = a) : vs = #[a] := by
  refine Array.ext (by simpa using hs) fun k h1 h2 => ?_
  have : k = 0 := by simp at h2; omega
  subst this
  simpa [Array.getD_eq_getD_getElem?, h1] using h0
theorem args2 {vs : Array Value} {a b : Value} (hs : vs.size = 2) (h0 : vs.getD 0 undef = a) (h1 : vs.getD 1 undef = b) : vs = #[a, b] := by
  refine Array.ext (by simpa using hs) fun k hk1 hk2 => ?_
  simp only [List.size_toArray, List.length_cons, List.length_nil] at hk2
  match k, hk2 with
  | 0, _ => simpa [Array.getD_eq_getD_getElem?, hk1] using h0
  | 1, _ => simpa [Array.getD_eq_getD_getElem?, hk1] using h1
theorem keeps_below {w w' : World} (h : Go.RowKit.Below w.heap.size w w') : Keeps (fun _ => False) w w' :=
  ⟨h.os, h.tape, ⟨h.output, trivial⟩, h.size, fun g hg _ => h.block g hg⟩
end Go.VE
