/- A part of the engine: what operations do to described states, proved sound against the model. No conditions. -/
import Derived.Test.YtofelomoieamoaaW22
import Derived.ProofKit
import Derived.Below
set_option linter.unusedSimpArgs false
set_option linter.unusedVariables false
namespace Go.VE
open Go Go.RowKit

/-- A slice of bytes that came in. -/
def IsBytes (w : World) (a : Option Addr) (len cap : Nat) : Prop :=
  (a = none ∧ len = 0 ∧ cap = 0) ∨
  ∃ (x : Addr) (zs : List Int), a = some x ∧ len ≤ cap ∧ cap ≤ maxLen ∧ zs.length = cap ∧ (∀ i, i < zs.length → w.cell? (x.add i) = some (.int .u8 (zs.getD i 0))) ∧ ∀ n ∈ zs, (Lit.int .u8 n).wf = true

theorem u8_of_wf {x : Int} (h : (Lit.int .u8 x).wf = true) : ((UInt8.ofNat x.toNat).toNat : Int) = x := by
  have h1 : IntKind.u8.min = 0 := rfl
  have h2 : IntKind.u8.max = 255 := rfl
  simp only [Lit.wf, Bool.and_eq_true, decide_eq_true_eq] at h
  simp only [UInt8.toNat_ofNat']
  omega

theorem bytes_rc {w : World} {a : Option Addr} {len cap : Nat} (h : IsBytes w a len cap) : ∃ bs : List UInt8, bs.length = len ∧ RC w (fun _ => False) (.slice a len cap) (.sl false (byC bs)) := by
  rcases h with ⟨rfl, rfl, rfl⟩ | ⟨x, zs, rfl, h1, h2, h3, h4, h5⟩
  · exact ⟨[], rfl, .sl false _ 1 none ⟨0, 0, none⟩ 0 0 rfl (fun h => by cases h) (Nat.le_refl _) (Nat.zero_le _) (fun e h => by simp [byC] at h) (fun h => absurd rfl h) (fun _ _ => undef) (fun i j e c h => by simp [byC] at h) (fun i j e c h => by simp [byC] at h)⟩
  · refine ⟨(zs.take len).map fun z => UInt8.ofNat z.toNat, by simp; omega, ?_⟩
    have hlen : (byC ((zs.take len).map fun z => UInt8.ofNat z.toNat)).length = len := by simp [byC]; omega
    refine .sl false _ 1 _ x len cap hlen.symm (fun h => by cases h) h1 h2 (fun e h => ?_) (fun hne => ?_) (fun i _ => .int .u8 (zs.getD i 0)) (fun i j e c hi hj => ?_) (fun i j e c hi hj => ?_)
    · simp only [byC, List.mem_map] at h
      obtain ⟨b, _, rfl⟩ := h
      rfl
    · have hpos : 0 < zs.length := by
        rcases Nat.eq_zero_or_pos len with h0 | h0
        · exact absurd (List.eq_nil_of_length_eq_zero (hlen.trans h0)) hne
        · omega
      have hc := h4 0 hpos
      refine ⟨rfl, ?_, fun h => h, ?_⟩
      · simpa [Addr.add] using World.cell?_spot hc
      · have := World.block_lt_of_cell? _ _ hc
        simpa [Addr.add] using this
    all_goals
      have hil : i < len := by rw [← hlen]; exact (List.getElem?_eq_some_iff.1 hi).1
      simp only [byC, List.getElem?_map, Option.map_eq_some_iff] at hi
      obtain ⟨b, ⟨z, hz, rfl⟩, rfl⟩ := hi
      rw [List.getElem?_take, if_pos hil] at hz
      have hj0 : j = 0 := by
        have := (List.getElem?_eq_some_iff.1 hj).1
        simpa using this
      subst hj0
      simp only [List.getElem?_cons_zero, Option.some.injEq] at hj
      subst hj
    · have hc := h4 i (by omega)
      have hs : x.spot = none := by simpa [Addr.add] using World.cell?_spot (h4 0 (by omega))
      rw [addr_add' hs] at hc
      simpa using hc
    · rw [u8_of_wf (h5 z (List.mem_of_getElem? hz))]
      have : zs.getD i 0 = z := by simp [List.getD, hz]
      rw [this]
      exact .v _ rfl

/-- A law of one slice of bytes. -/
theorem law_bytes {P : Program} {rt f : Nat} {sp : Spec} (hS : Sat P rt f sp) (hpre : ∀ bs : List UInt8, bs.length ≤ maxLen → sp.pre [.c (.sl false (byC bs))] []) (hpost : ∀ (bs : List UInt8) r out, sp.post [.c (.sl false (byC bs))] [] r out → r = .c (.v (.bool true))) (hcost : sp.cost ≤ pickLimit)
    (a : Option Addr) (len cap : Nat) (w : World) (h : IsBytes w a len cap) : Calls P f #[.slice a len cap] w fun e w' => e = .returned (.bool true) ∧ Below w.heap.size w w' := by
  obtain ⟨bs, hl, hr⟩ := bytes_rc h
  have hlen : bs.length ≤ maxLen := by
    rcases h with ⟨_, h, _⟩ | ⟨_, _, _, h1, h2, _⟩ <;> omega
  have T : Takes rt w (fun _ => False) (fun _ => False) 0 [.c (.sl false (byC bs))] #[.slice a len cap] [] (fun _ => none) (fun _ => 0) := {
    rdav := fun _ h => h
    avlt := fun _ h => h.elim
    pasav := fun _ _ h => h
    rdok := fun _ h => h.elim
    size := rfl
    args := fun j x hj => by
      cases j with
      | zero =>
        simp only [List.getElem?_cons_zero, Option.some.injEq] at hj
        subst hj
        refine RC.mono (Mt' := avIn (fun _ => False) [] (fun _ => none)) hr (fun _ _ _ => rfl) (Nat.le_refl _) fun g _ hg => ?_
        rcases hg with hg | ⟨b, bx, h1, _⟩
        · exact hg
        · rw [exp_box] at h1; simp at h1
      | succ j => simp at hj
    boxes := fun b bx h => by simp at h
    inj := fun b b' bx bx' g h => by simp at h }
  refine (hS w _ _ 0 _ _ _ _ _ T (hpre bs hlen) (by omega)).mono fun e w' ⟨v, r, bs', β, cp, Rd', he, hp, G⟩ => ?_
  subst he
  have := hpost _ _ _ hp
  subst this
  have hv : v = .bool true := by
    have h1 : RC w' (avoid (fun _ => False) bs' β Rd' sp.flat w.heap.size) v (.v (.bool true)) := G.value
    cases h1; rfl
  subst hv
  refine ⟨rfl, G.keeps.os, G.keeps.tape, G.keeps.output, G.keeps.size, fun k hk => G.keeps.block k hk fun h => ?_⟩
  rcases h with h | ⟨b, bx, h1, _⟩
  · exact h
  · rw [exp_box] at h1; simp at h1
end Go.VE
