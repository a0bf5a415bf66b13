/- A part of the engine: what operations do to described states, proved sound against the model. No conditions. -/
import Derived.Test.YtofelomoieamoaaW12
set_option linter.unusedSimpArgs false
set_option linter.unusedVariables false
namespace Go.VE
open Go

/-- Whatever fits the one state fits the other. -/
def Ent (s s' : St) : Prop := ∀ X a w, Rel X s a w → Rel X s' a w

section
variable {P : Program} {tt : Nat → Option TI} {tab : Nat → Option Spec} {X : Cx}

theorem put_same {a : Act} {g : Nat} {v : Value} (h : a.tmps[g]? = some v) : a.put (some g) v = a := by
  have he := (Array.getElem?_eq_some_iff.1 h).2
  have : a.tmps.setIfInBounds g v = a.tmps := Array.ext (by simp) fun i h1 h2 => by
    rw [Array.getElem_setIfInBounds h2]
    by_cases e : g = i
    · subst e; simp [he]
    · simp [e]
  show { a with tmps := a.tmps.setIfInBounds g v } = a
  rw [this]

theorem guard_good {ops : Array Oper} {o : Oper} {s : St} {a : Act} {w : World} {β : Nat → Option Nat} {cp : Nat → Nat} {Rd : Nat → Prop} (G : Good X s a w β cp Rd) {yes no : St → Prop} (hg : guardW ops o s yes no) :
    (Region.wanted o (yielded ops a.tmps) = true ∧ ∃ s', Good X s' a w β cp Rd ∧ yes s') ∨ (Region.wanted o (yielded ops a.tmps) = false ∧ ∃ s', Good X s' a w β cp Rd ∧ no s') := by
  unfold guardW at hg
  unfold Region.wanted
  cases hgd : o.guard with
  | none => rw [hgd] at hg; exact .inl ⟨rfl, s, G, hg⟩
  | some jw =>
    obtain ⟨j, want⟩ := jw
    rw [hgd] at hg
    simp only at hg ⊢
    unfold guardB at hg
    rw [nthL_eq, Array.getElem?_toList] at hg
    unfold yielded
    cases hd : (ops[j]?).bind (·.dst) with
    | none =>
      rw [hd] at hg
      refine .inr ⟨?_, s, G, hg⟩
      simp
    | some g =>
      rw [hd] at hg
      simp only [Option.bind_some] at hg ⊢
      split at hg
      · rename_i t he
        have hv := G.env g
        rw [he] at hv
        have hv2 : a.tmps.getD g undef = .bool t := by
          generalize a.tmps.getD g undef = v at hv
          cases hv; rfl
        have hv3 : a.tmps[g]? = some (.bool t) := by
          rw [Array.getD_eq_getD_getElem?] at hv2
          cases hq : a.tmps[g]? with
          | none => rw [hq] at hv2; simp [undef] at hv2
          | some x => rw [hq] at hv2; simpa using hv2
        have hgl : g < s.nt := by rw [← G.size]; exact (Array.getElem?_eq_some_iff.1 hv3).1
        rw [hv3]
        have G' : Good X (s.put (some g) (.c (.v (.bool t)))) a w β cp Rd := by
          have := G.put (d := some g) (v := .bool t) (x := .c (.v (.bool t))) hgl (RC.v _ rfl)
          rw [put_same hv3] at this
          exact this
        cases want <;> cases t <;> simp only [ifP_true, ifP_false] at hg
        · exact .inl ⟨by simp, _, G', hg⟩
        · exact .inr ⟨by simp, _, G', hg⟩
        · exact .inr ⟨by simp, _, G', hg⟩
        · exact .inl ⟨by simp, _, G', hg⟩
      · rename_i he
        have hv := G.env g
        rw [he] at hv
        have hv2 : a.tmps.getD g undef = undef := hv
        refine .inr ⟨?_, s, G, hg⟩
        cases hq : a.tmps[g]? with
        | none => rfl
        | some x =>
          have : x = undef := by rw [Array.getD_eq_getD_getElem?, hq] at hv2; simpa using hv2
          subst this
          rfl
      · exact hg.elim

theorem guard_sound {ops : Array Oper} {o : Oper} {s : St} {a : Act} {w : World} (h : Rel X s a w) {yes no : St → Prop} (hg : guardW ops o s yes no) :
    (Region.wanted o (yielded ops a.tmps) = true ∧ ∃ s', Rel X s' a w ∧ yes s') ∨ (Region.wanted o (yielded ops a.tmps) = false ∧ ∃ s', Rel X s' a w ∧ no s') := by
  obtain ⟨β, cp, Rd, G⟩ := h
  rcases guard_good G hg with ⟨h1, s', h2, h3⟩ | ⟨h1, s', h2, h3⟩
  · exact .inl ⟨h1, s', ⟨β, cp, Rd, h2⟩, h3⟩
  · exact .inr ⟨h1, s', ⟨β, cp, Rd, h2⟩, h3⟩

theorem opW_sound (htt : TTok P tt) (htab : TabOK P X.rt tab) {o : Oper} {s : St} {a : Act} {w : World} (h : Rel X s a w) {K' : St → Prop} (hp : opW tt tab o s K') {K : Act → World → Prop} {Q : Exit → Act → World → Prop}
    (hK : ∀ s' a' w', K' s' → Rel X s' a' w' → K a' w') : o.wp P a w K Q := by
  obtain ⟨β, cp, Rd, G⟩ := h
  obtain ⟨hd, h1, h2⟩ := hp
  exact opS_sound (nid := s.nx) htt htab (G.bump 8) hd (fun j _ hk => by have := G.fresh _ hk; omega) (Nat.le_refl _) h1 fun s' a' w' h3 h4 => hK s' a' w' (h2 s' h3) h4.rel

theorem opsW_sound (htt : TTok P tt) (htab : TabOK P X.rt tab) {ops : Array Oper} {Q : Exit → Act → World → Prop} : ∀ (l : List Oper) (s : St) (a : Act) (w : World) (K : St → Prop), Rel X s a w → opsW tt tab ops l s K →
    (∀ s' a' w', K s' → Rel X s' a' w' → Q .normal a' w') → wpList P ops Q l a w
  | [], s, a, w, K, h, hp, hK => hK s a w hp h
  | o :: r, s, a, w, K, h, hp, hK => by
    unfold wpList
    rcases guard_sound h hp with ⟨hw, s1, h1, h2⟩ | ⟨hw, s1, h1, h2⟩
    · rw [if_pos hw]
      exact .inl (opW_sound htt htab h1 h2 fun s' a' w' h3 h4 => opsW_sound htt htab r s' a' w' K h4 h3 hK)
    · rw [if_neg (by rw [hw]; simp)]
      obtain ⟨β, cp, Rd, G⟩ := h1
      exact opsW_sound htt htab r _ _ w K ⟨β, cp, Rd, G.put (x := .c .und) h2.1 rfl⟩ h2.2 hK

structure QR (X : Cx) (Q' : Ex → St → Prop) (Q : Exit → Act → World → Prop) : Prop where
  normal : ∀ s a w, Q' .normal s → Rel X s a w → Q .normal a w
  exit : ∀ i s a w, Q' (.exit i) s → Rel X s a w → Q (.exit i) a w
  ret : ∀ s a w, Q' .ret s → Rel X s a w → Q .ret a w

def DrawOK (P : Program) (X : Cx) (dw : Nat → Array Oper → St → (St → Prop) → Prop) (id : Nat) (ops : Array Oper) : Prop :=
  ∀ s K Q a w, dw id ops s K → Rel X s a w → (∀ s' a' w', K s' → Rel X s' a' w' → Q .normal a' w') → (Code.region id ops true).wp P Q a w
/-- Of all regions that draw. -/
def allD (p : Nat → Array Oper → Prop) : Code → Prop
  | .region id ops true => p id ops
  | .seq a b => allD p a ∧ allD p b
  | .cond _ a b => allD p a ∧ allD p b
  | .block _ c => allD p c
  | .loop c => allD p c
  | _ => True
def allDB (p : Nat → Array Oper → Bool) : Code → Bool
  | .region id ops true => p id ops
  | .seq a b => allDB p a && allDB p b
  | .cond _ a b => allDB p a && allDB p b
  | .block _ c => allDB p c
  | .loop c => allDB p c
  | _ => true
theorem allDB_ok {p : Nat → Array Oper → Bool} {q : Nat → Array Oper → Prop} (h : ∀ id ops, p id ops = true → q id ops) : ∀ c, allDB p c = true → allD q c := by
  intro c
  induction c with
  | region id ops d => cases d <;> intro hc <;> first | trivial | exact h id ops hc
  | seq a b iha ihb => intro hc; simp only [allDB, Bool.and_eq_true] at hc; exact ⟨iha hc.1, ihb hc.2⟩
  | cond x a b iha ihb => intro hc; simp only [allDB, Bool.and_eq_true] at hc; exact ⟨iha hc.1, ihb hc.2⟩
  | block i c ih => intro hc; exact ih hc
  | loop c ih => intro hc; exact ih hc
  | _ => intro _; trivial

theorem runW_sound (htt : TTok P tt) (htab : TabOK P X.rt tab) {dw : Nat → Array Oper → St → (St → Prop) → Prop} : ∀ (c : Code), allD (DrawOK P X dw) c → ∀ (s : St) (a : Act) (w : World) (Q' : Ex → St → Prop) (Q : Exit → Act → World → Prop),
    Rel X s a w → runW tt tab Ent dw c s Q' → QR X Q' Q → c.wp P Q a w := by
  intro c
  induction c with
  | skip => intro _ s a w Q' Q h hp hq; exact wp_skip (hq.normal s a w hp h)
  | region id ops draw =>
    intro hdw s a w Q' Q h hp hq
    cases draw with
    | false => exact wp_region_list (opsW_sound htt htab _ s a w _ h hp hq.normal)
    | true => exact hdw s _ Q a w hp h hq.normal
  | seq x y ihx ihy =>
    intro hdw s a w Q' Q h hp hq
    exact wp_seq (ihx hdw.1 s a w _ _ h hp ⟨fun s' a' w' h1 h2 => ihy hdw.2 s' a' w' Q' Q h2 h1 hq, fun i s' a' w' h1 h2 => hq.exit i s' a' w' h1 h2, fun s' a' w' h1 h2 => hq.ret s' a' w' h1 h2⟩)
  | cond c x y ihx ihy =>
    intro hdw s a w Q' Q h hp hq
    have hp' : condW (s.ev c) (runW tt tab Ent dw x s Q') (runW tt tab Ent dw y s Q') := hp
    unfold condW at hp'
    obtain ⟨β, cp, Rd, G⟩ := h
    have hv := G.ev c
    split at hp'
    · rename_i t he
      rw [he] at hv
      have hv2 : a.eval c = .bool t := by
        generalize a.eval c = v at hv
        cases hv; rfl
      exact wp_cond_split hv2 (fun ht => ihx hdw.1 s a w Q' Q ⟨β, cp, Rd, G⟩ (hp'.1 ht) hq) (fun ht => ihy hdw.2 s a w Q' Q ⟨β, cp, Rd, G⟩ (hp'.2 ht) hq)
    · exact hp'.elim
  | block id c ih =>
    intro hdw s a w Q' Q h hp hq
    refine wp_block (ih hdw s a w _ _ h hp ⟨fun s' a' w' h1 h2 => hq.normal s' a' w' h1 h2, fun i s' a' w' h1 h2 => ?_, fun s' a' w' h1 h2 => hq.ret s' a' w' h1 h2⟩)
    simp only [blockK] at h1
    simp only [Exit.inBlock]
    by_cases e : i = id
    · rw [decide_eq_true e] at h1
      rw [if_pos e]
      exact hq.normal s' a' w' h1 h2
    · rw [decide_eq_false e] at h1
      rw [if_neg e]
      exact hq.exit i s' a' w' h1 h2
  | loop c ih =>
    intro hdw s a w Q' Q h hp hq
    obtain ⟨α, F, Inv, m, x0, h0, he, hr⟩ := hp
    intro b k cs
    have key : ∀ n (x : α) (a : Act) (w : World), m x = n → Inv x → Rel X (F x) a w →
        ∃ e a' w', Q e a' w' ∧ Arrives P (lone (b.at a (.code c :: .inLoop c :: k)) cs w) b k cs e a' w' := by
      intro n
      induction n using Nat.strongRecOn with
      | _ n IH =>
        intro x a w hn hI hR
        have hb : c.wp P (Exit.then (fun a' w' => ∃ y, Inv y ∧ m y < m x ∧ Rel X (F y) a' w') Q) a w :=
          ih hdw (F x) a w _ _ hR (hr x hI) ⟨fun s' a' w' h1 h2 => by obtain ⟨y, g1, g2, g3⟩ := h1; exact ⟨y, g1, g2, g3 X a' w' h2⟩, fun i s' a' w' h1 h2 => hq.exit i s' a' w' h1 h2, fun s' a' w' h1 h2 => hq.ret s' a' w' h1 h2⟩
        obtain ⟨e, a₁, w₁, hq1, harr⟩ := hb b (.inLoop c :: k) cs
        cases e with
        | normal =>
          obtain ⟨y, g1, g2, g3⟩ := hq1
          obtain ⟨e₂, a₂, w₂, hq₂, harr₂⟩ := IH (m y) (hn ▸ g2) y a₁ w₁ rfl g1 g3
          exact ⟨e₂, a₂, w₂, hq₂, .of_steps (Steps.trans harr (.one step_inLoop)) harr₂⟩
        | exit id => exact ⟨_, a₁, w₁, hq1, .pass (x := .inLoop c) rfl (fun _ _ => .inl (by simp)) harr⟩
        | goto l => exact ⟨_, a₁, w₁, hq1, .pass (x := .inLoop c) rfl (fun _ _ => .inl (by simp)) harr⟩
        | ret => exact ⟨_, a₁, w₁, hq1, .pass (x := .inLoop c) rfl (fun _ _ => .inl (by simp)) harr⟩
        | panic ch => exact ⟨_, a₁, w₁, hq1, .pass (x := .inLoop c) rfl (fun _ _ => .inl (by simp)) harr⟩
        | outgrown => exact ⟨_, a₁, w₁, hq1, .pass (x := .inLoop c) rfl (fun _ _ => .inl (by simp)) harr⟩
    obtain ⟨e, a', w', hq', harr⟩ := key _ x0 a w rfl h0 (he X a w h)
    exact ⟨e, a', w', hq', .of_steps (.one step_loop) harr⟩
  | exit id => intro _ s a w Q' Q h hp hq; exact wp_exit (hq.exit id s a w hp h)
  | ret => intro _ s a w Q' Q h hp hq; exact wp_ret (hq.ret s a w hp h)
  | _ => intro _ s a w Q' Q h hp hq; exact hp.elim
end
end Go.VE
