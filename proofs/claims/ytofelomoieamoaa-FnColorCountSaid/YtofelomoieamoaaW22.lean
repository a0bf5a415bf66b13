/- A part of the engine: what operations do to described states, proved sound against the model. No conditions. -/
import Derived.Test.YtofelomoieamoaaW21
set_option linter.unusedSimpArgs false
set_option linter.unusedVariables false
namespace Go.VE
open Go

abbrev byC (bs : List UInt8) : List (List C) := bs.map fun b => [.v (.int .u8 b.toNat)]
/-- A reader's box. -/
def rdBox (rt : Nat) (bv : Value) (bs : List UInt8) (p : Int) : Box := ⟨[[.ex bv (.sl false (byC bs)), .v (.int .i64 p)]], 2, rt, false, false⟩

section
variable {P : Program} {tt : Nat → Option TI} {tab : Nat → Option Spec} {rt : Nat}

/-- The end of a function that hands back a new reader. -/
theorem reader_exit {sp : Spec} {args : List AV} {fn : Func} {t b : Nat} (hres : fn.results = #[.tmp t]) {w0 w : World} {Av Rd0 : Nat → Prop} {pk : Nat} {β0 : Nat → Option Nat} {cp0 : Nat → Nat} {s : St} {a : Act} {bs : List UInt8} {tf : Bool} (hflat : sp.flat = false)
    (h : Rel ⟨rt, w0, Av, Rd0, entPins [] β0 cp0⟩ s a w) (hg : s.get t = .c (.ptr b 1 0 0)) (hb : s.box b = some ⟨[[.sl tf (byC bs), .v (.int .i64 0)]], 2, rt, false, false⟩) (hlen : bs.length ≤ 2000) (hpk : s.pk ≤ pk + sp.cost) (hpost : sp.post args [] (.c .rdr) []) :
    a.defers = [] ∧ ∃ v, (results fn a.tmps).run P w = .ok v w ∧ ∃ v' r bs β cp Rd', Ending.returned v = .returned v' ∧ sp.post args [] r bs ∧ Gives rt sp w0 w Av Rd0 pk [] β0 cp0 v' r bs β cp Rd' := by
  obtain ⟨β, cp, Rd, G⟩ := h
  refine ⟨G.defers, _, results_tmp hres _ P w, ?_⟩
  have hv := G.env t
  rw [hg] at hv
  obtain ⟨g, hβ, hval⟩ := hv.2.at rfl hb rfl
  simp only [Nat.zero_mul, Nat.add_zero] at hval
  have hnew : w0.heap.size ≤ g := by
    rcases G.org b _ g hb hβ with h1 | ⟨q, h1, _⟩
    · exact h1
    · simp [entPins] at h1
  have hmt : ∀ g', avoid Av [] (fun _ => none) (fun g' => Rd0 g' ∨ g' = g) false w0.heap.size g' → Cx.mt ⟨rt, w0, Av, Rd0, entPins [] β0 cp0⟩ s β Rd g' := by
    rintro g' (h1 | ⟨c, bx, h1, _⟩ | h1 | h1)
    · exact .inl h1
    · rw [exp_box] at h1; simp at h1
    · rcases h1 with h1 | rfl
      · exact .inr (.inr (G.rd0 g' h1))
      · exact .inr (.inl ⟨b, _, hb, rfl, hβ⟩)
    · cases h1.1
  have hcell : ∃ bv, RdB rt w g bv 0 ∧ RC w (avoid Av [] (fun _ => none) (fun g' => Rd0 g' ∨ g' = g) false w0.heap.size) bv (.sl false (byC bs)) := by
    rcases (G.boxes b _ hb).two (.inr (by simp)) with ⟨hnone, _⟩ | ⟨g', cur, q1, q2, q4, q5, q6, q7, q9, q8⟩
    · rw [hnone] at hβ; cases hβ
    · rw [q1] at hβ; cases hβ
      have c0 := q8 0 0 _ _ rfl rfl
      have c1 := q8 0 1 _ _ rfl rfl
      simp only [Nat.zero_mul, Nat.zero_add] at c0 c1
      have c1' : cur.getD 1 undef = .int .i64 0 := by
        generalize cur.getD 1 undef = v at c1
        cases c1; rfl
      simp only [List.length_cons, List.length_nil] at q5
      refine ⟨_, ⟨cur, cp b, q2, q4, by omega, q6, rfl, c1'⟩, ?_⟩
      exact (RC.mono (Mt := Cx.mt ⟨rt, w0, Av, Rd0, entPins [] β0 cp0⟩ s β Rd) c0 (fun _ _ _ => rfl) (Nat.le_refl _) fun g' _ hg' => hmt g' hg').weak (fun h => by cases h)
  obtain ⟨bv, hB, hbv⟩ := hcell
  refine ⟨_, .c .rdr, [], fun _ => none, fun _ => 0, fun g' => Rd0 g' ∨ g' = g, rfl, hpost, ?_⟩
  exact {
    keeps := G.keeps.mono fun g' _ hg' => by
      rcases hg' with hg' | ⟨i, q, hq, _⟩
      · exact .inl hg'
      · simp [entPins] at hq
    few := by simp
    long := by simp
    rd := fun _ h => .inl h
    rdge := fun g' h => by
      rcases h with h | rfl
      · exact .inl h
      · exact .inr ⟨hnew, hB.lt⟩
    same := G.rdsame
    rdok := fun g' hg' => by
      rcases hg' with hg' | rfl
      · obtain ⟨k1, bv', p, bs', k2, k3, k4, k5⟩ := G.rdok g' (G.rd0 g' hg')
        exact ⟨k1, bv', p, bs', k2, Nat.le_trans k3 hpk, k4, k5.mono (fun _ _ _ => rfl) (Nat.le_refl _) fun g2 _ h2 => hmt g2 h2⟩
      · exact ⟨hB.lt, bv, 0, bs, hB, Nat.zero_le _, hlen, hbv⟩
    rdnew := fun g' h1 h2 => by
      rcases h1 with h1 | rfl
      · exact absurd h1 h2
      · exact ⟨bv, 0, bs, hB, Nat.zero_le _, hlen, by rw [hflat]; exact hbv⟩
    value := ⟨g, .inr rfl, hval⟩
    boxes := fun b bx hb => by simp at hb
    org := fun b bx g hb => by simp at hb
    inj := fun b b' bx bx' g hb => by simp at hb
    pins := fun i b0 b hb => by simp at hb }

/-- A method of a reader: from its contract over the reader's box. -/
theorem rdr_sat {f : FuncId} {spB spR : Spec} (hsat : Sat P rt f spB) (hfl : spR.flat = spB.flat) (hcost : spB.cost = 0)
    (hpre : ∀ args ins, spR.pre args ins → ins = [] ∧ ∃ rest, args = .c .rdr :: rest ∧ (∀ x ∈ rest, ∃ k n, x = .c (.v (.int k n))) ∧ ∀ bv bs (p : Nat), bs.length ≤ 2000 → p + spR.cost ≤ pickLimit → spB.pre (.c (.ptr 0 1 0 0) :: rest) [rdBox rt bv bs p])
    (hpost : ∀ rest bv bs (p : Nat) r out, spR.pre (.c .rdr :: rest) [] → spB.post (.c (.ptr 0 1 0 0) :: rest) [rdBox rt bv bs p] r out → ∃ p' : Nat, out = [rdBox rt bv bs p'] ∧ p' ≤ p + spR.cost ∧ (∃ k n, r = .c (.v (.int k n))) ∧ spR.post (.c .rdr :: rest) [] r []) : Sat P rt f spR := by
  intro w Av Rd pk args vs ins β0 cp0 T hp hpk
  obtain ⟨rfl, rest, rfl, hints, hB⟩ := hpre args ins hp
  obtain ⟨g, hgR, hgv⟩ := T.args 0 _ rfl
  obtain ⟨hlt, bv, p, bs, ⟨arr, c, hh, hsz, hc1, hc2, ha0, ha1⟩, hple, hbl, hbr⟩ := T.rdok g hgR
  have hno : ∀ g', has (expSt []) β0 g' → False := fun g' ⟨b, bx, h1, _⟩ => by rw [exp_box] at h1; simp at h1
  have hAv : ∀ g', avIn (fun g' => Av g' ∧ g' ≠ g) [rdBox rt bv bs p] (fun _ => some g) g' → avIn Av [] β0 g' := by
    rintro g' (h | ⟨b, bx, h1, h2⟩)
    · exact .inl h.1
    · cases h2; exact .inl (T.rdav g hgR)
  have T' : Takes rt w (fun g' => Av g' ∧ g' ≠ g) (fun g' => Rd g' ∧ g' ≠ g) pk (.c (.ptr 0 1 0 0) :: rest) vs [rdBox rt bv bs p] (fun _ => some g) (fun _ => c) := {
    rdav := fun g' h => ⟨T.rdav g' h.1, h.2⟩
    avlt := fun g' h => T.avlt g' h.1
    pasav := fun g' ⟨b, bx, _, h2⟩ h => by cases h2; exact h.2 rfl
    rdok := fun g' h => by
      obtain ⟨k1, bv', p', bs', k2, k3, k4, k5⟩ := T.rdok g' h.1
      exact ⟨k1, bv', p', bs', k2, k3, k4, k5.mono (fun _ _ _ => rfl) (Nat.le_refl _) fun g2 _ h2 => hAv g2 h2⟩
    size := by have := T.size; simpa using this
    args := fun j x hj => by
      cases j with
      | zero =>
        simp only [List.getElem?_cons_zero, Option.some.injEq] at hj
        subst hj
        refine ⟨by rw [hgv]; rfl, 0, 1, rfl, (exp_keyed _ _).2 (by simp), fun bx hbx => ?_⟩
        rw [exp_box] at hbx
        simp only [List.getElem?_cons_zero, Option.some.injEq] at hbx
        subst hbx
        exact ⟨by simp [rdBox], fun _ => ⟨g, rfl, by rw [hgv]; simp⟩⟩
      | succ j =>
        have h1 := T.args (j + 1) x (by simpa using hj)
        obtain ⟨k, n, rfl⟩ := hints x (List.mem_of_getElem? (by simpa using hj))
        have h2 : RC w (avIn Av [] β0) (vs.getD (j + 1) undef) (.v (.int k n)) := h1
        exact h2.mono (fun _ _ _ => rfl) (Nat.le_refl _) fun g' _ h => hAv g' h
    boxes := fun b bx hb => by
      cases b with
      | succ b => simp at hb
      | zero =>
        simp only [List.getElem?_cons_zero, Option.some.injEq] at hb
        subst hb
        refine ⟨rfl, .inl (.inr ⟨g, arr, rfl, hh, hsz, by simpa [rdBox] using hc1, hc2, by simp [rdBox], fun h => by simp [rdBox] at h, fun i j e cc he hcc => ?_⟩)⟩
        cases i with
        | succ i => simp [rdBox] at he
        | zero =>
          simp only [rdBox, List.getElem?_cons_zero, Option.some.injEq] at he
          subst he
          match j, hcc with
          | 0, hcc =>
            simp only [List.getElem?_cons_zero, Option.some.injEq] at hcc
            subst hcc
            simp only [Nat.zero_mul, Nat.zero_add, Nat.add_zero]
            rw [ha0]
            exact ⟨rfl, hbr.mono (fun _ _ _ => rfl) (Nat.le_refl _) fun g' _ h => hAv g' h⟩
          | 1, hcc =>
            simp only [List.getElem?_cons_succ, List.getElem?_cons_zero, Option.some.injEq] at hcc
            subst hcc
            simp only [Nat.zero_mul, Nat.zero_add]
            rw [ha1]
            exact RC.v _ rfl
          | j + 2, hcc => simp at hcc
    inj := fun b b' bx bx' g' h1 h2 => by
      have e1 := (List.getElem?_eq_some_iff.1 h1).1
      have e2 := (List.getElem?_eq_some_iff.1 h2).1
      simp at e1 e2
      omega }
  have hcall := hsat w _ _ pk _ _ _ _ _ T' (hB bv bs p hbl (by omega)) (by rw [hcost]; omega)
  refine hcall.mono ?_
  rintro e w' ⟨v, r, out, β, cp, Rd1, rfl, hpst, G⟩
  obtain ⟨p', rfl, hp', ⟨k, n, rfl⟩, hpost'⟩ := hpost rest bv bs p r out hp hpst
  obtain ⟨_, hpin⟩ := G.pins 0 _ _ rfl rfl
  obtain ⟨hβ0, _, _⟩ := hpin (by simp [rdBox])
  have hBox := (G.boxes 0 _ rfl).2.two (.inr (by simp [rdBox]))
  rw [hβ0] at hBox
  rcases hBox with ⟨q, _⟩ | ⟨g', cur, q1, q2, q4, q5, q6, q7, q9, q8⟩
  · cases q
  cases q1
  have c0 := q8 0 0 _ _ rfl rfl
  have c1 := q8 0 1 _ _ rfl rfl
  simp only [Nat.zero_mul, Nat.zero_add] at c0 c1
  have c1' : cur.getD 1 undef = .int .i64 p' := by
    generalize cur.getD 1 undef = v at c1
    cases c1; rfl
  have hRdB : RdB rt w' g bv p' := ⟨cur, cp 0, q2, q4, by simpa [rdBox] using q5, q6, c0.1, c1'⟩
  have hav : ∀ g' fl, avoid Av [] (fun _ => none) (fun g' => Rd1 g' ∨ g' = g) fl w.heap.size g' → avoid (fun g' => Av g' ∧ g' ≠ g) [rdBox rt bv bs p'] β Rd1 fl w.heap.size g' := by
    have hg0 : ∀ fl, avoid (fun g' => Av g' ∧ g' ≠ g) [rdBox rt bv bs p'] β Rd1 fl w.heap.size g := fun fl => .inr (.inl ⟨0, _, by rw [exp_box]; rfl, hβ0⟩)
    rintro g' fl (h | ⟨b, bx, h1, _⟩ | h | h)
    · by_cases e : g' = g
      · subst e; exact hg0 fl
      · exact .inl ⟨h, e⟩
    · rw [exp_box] at h1; simp at h1
    · rcases h with h | rfl
      · exact .inr (.inr (.inl h))
      · exact hg0 fl
    · exact .inr (.inr (.inr h))
  have hsub : ∀ g' fl, avoid Av [] (fun _ => none) (fun g' => Rd1 g' ∨ g' = g) false w.heap.size g' → avoid (fun g' => Av g' ∧ g' ≠ g) [rdBox rt bv bs p'] β Rd1 fl w.heap.size g' := fun g' fl h => (hav g' false h).imp id fun h => h.imp id fun h => h.imp id fun h => by cases h.1
  refine ⟨v, _, [], fun _ => none, fun _ => 0, fun g' => Rd1 g' ∨ g' = g, rfl, hpost', ?_⟩
  exact {
    keeps := G.keeps.mono fun g' _ hg' => by
      rcases hg' with hg' | ⟨b, bx, _, h2⟩
      · exact .inl hg'.1
      · cases h2; exact .inl hgR
    few := by simp
    long := by simp
    rd := fun g' h => by
      by_cases e : g' = g
      · exact .inr e
      · exact .inl (G.rd g' ⟨h, e⟩)
    rdge := fun g' h => by
      rcases h with h | rfl
      · exact (G.rdge g' h).imp (·.1) id
      · exact .inl hgR
    same := fun g' h => by
      by_cases e : g' = g
      · subst e; exact ⟨bv, p, p', ⟨arr, c, hh, hsz, hc1, hc2, ha0, ha1⟩, hRdB⟩
      · exact G.same g' ⟨h, e⟩
    rdok := fun g' h => by
      rcases h with h | rfl
      · obtain ⟨k1, bv', p2, bs', k2, k3, k4, k5⟩ := G.rdok g' h
        exact ⟨k1, bv', p2, bs', k2, by rw [hcost] at k3; omega, k4, k5.mono (fun _ _ _ => rfl) (Nat.le_refl _) fun g2 _ h2 => hsub g2 _ h2⟩
      · exact ⟨hRdB.lt, bv, p', bs, hRdB, by omega, hbl, by rw [← c0.1]; exact c0.2.mono (fun _ _ _ => rfl) (Nat.le_refl _) fun g2 _ h2 => hsub g2 _ h2⟩
    rdnew := fun g' h1 h2 => by
      rcases h1 with h1 | rfl
      · obtain ⟨bv', p2, cs, k1, k2, k3, k4⟩ := G.rdnew g' h1 (fun h => h2 h.1)
        exact ⟨bv', p2, cs, k1, by rw [hcost] at k2; omega, k3, k4.mono (fun _ _ _ => rfl) (Nat.le_refl _) fun g2 _ h2 => by rw [← hfl]; exact hav g2 _ h2⟩
      · exact absurd hgR h2
    value := by
      have hv : RC w' (avoid (fun g' => Av g' ∧ g' ≠ g) [rdBox rt bv bs p'] β Rd1 spB.flat w.heap.size) v (.v (.int k n)) := G.value
      exact hv.mono (fun _ _ _ => rfl) (Nat.le_refl _) fun g2 _ h2 => by rw [← hfl]; exact hav g2 _ h2
    boxes := fun b bx hb => by simp at hb
    org := fun b bx g hb => by simp at hb
    inj := fun b b' bx bx' g hb => by simp at hb
    pins := fun i b0 b hb => by simp at hb }
end

end Go.VE
