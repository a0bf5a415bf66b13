/- Contracts of functions of the program vectorraster, each proved for all states that fit its description. No conditions. -/
import Derived.Test.YtofelomoieamoaaEG
set_option linter.unusedSimpArgs false
set_option linter.unusedVariables false
section
namespace Go.VE
open Go

/-- A variable that holds no slice yet: it may as well hold an empty row of its own. -/
def nilSt (s : St) (b nb ty kk t2 : Nat) : St := { s with hp := (nb, some ⟨[], kk, t2, true, false⟩) :: (b, some ⟨[[.own nb 0 false]], 1, ty, false, false⟩) :: s.hp }

theorem ent_nil {s : St} {b nb ty kk t2 : Nat} (hb : lkB s.hp b = some (some ⟨[[.v (.slice none 0 0)]], 1, ty, false, false⟩)) (hn : lkB s.hp nb = none) (hx : nb < s.nx) : Ent s (nilSt s b nb ty kk t2) := by
  rintro X a w ⟨β, cp, Rd, h⟩
  have hbn : b ≠ nb := by rintro rfl; rw [hb] at hn; cases hn
  have hk0 : ¬ s.keyed nb := by unfold St.keyed; rw [hn]; simp
  have hbk : s.keyed b := by unfold St.keyed; rw [hb]; rfl
  have hb0 : s.box b = some ⟨[[.v (.slice none 0 0)]], 1, ty, false, false⟩ := by unfold St.box; rw [hb]; rfl
  have e1 : (nilSt s b nb ty kk t2).box nb = some ⟨[], kk, t2, true, false⟩ := by simp [nilSt, St.box, lkB]
  have e2 : (nilSt s b nb ty kk t2).box b = some ⟨[[.own nb 0 false]], 1, ty, false, false⟩ := by
    have : (nb == b) = false := by simp; exact fun e => hbn e.symm
    simp [nilSt, St.box, lkB, this]
  have e3 : ∀ c, c ≠ nb → c ≠ b → (nilSt s b nb ty kk t2).box c = s.box c := by
    intro c h1 h2
    have q1 : (nb == c) = false := by simp; exact fun e => h1 e.symm
    have q2 : (b == c) = false := by simp; exact fun e => h2 e.symm
    simp [nilSt, St.box, lkB, q1, q2]
  have ek : ∀ c, (nilSt s b nb ty kk t2).keyed c ↔ c = nb ∨ s.keyed c := by
    intro c
    by_cases h1 : c = nb
    · subst h1; simp [nilSt, St.keyed, lkB]
    · by_cases h2 : c = b
      · subst h2
        have q1 : (nb == c) = false := by simp; exact fun e => h1 e.symm
        simp only [hbk, or_true, iff_true]
        simp [nilSt, St.keyed, lkB, q1]
      · have q1 : (nb == c) = false := by simp; exact fun e => h1 e.symm
        have q2 : (b == c) = false := by simp; exact fun e => h2 e.symm
        simp [nilSt, St.keyed, lkB, q1, q2, h1]
  let β' := upd β nb none
  have hβ : ∀ c, c ≠ nb → β' c = β c := fun c hc => upd_ne _ _ hc
  have hβn : β' nb = none := upd_same _ _ _
  -- a box behind is one from before
  have back : ∀ c bx g, (nilSt s b nb ty kk t2).box c = some bx → β' c = some g → ∃ bx0, s.box c = some bx0 ∧ β c = some g ∧ c ≠ nb ∧ (bx.fz = false → bx0.fz = false) := by
    intro c bx g h1 h2
    have hc : c ≠ nb := by rintro rfl; rw [hβn] at h2; cases h2
    rw [hβ c hc] at h2
    by_cases h3 : c = b
    · subst h3; exact ⟨_, hb0, h2, hc, fun _ => rfl⟩
    · rw [e3 c hc h3] at h1
      exact ⟨bx, h1, h2, hc, fun h => h⟩
  have howns : ∀ g, owns (nilSt s b nb ty kk t2) β' g → owns s β g := by
    rintro g ⟨c, bx, h1, hz, h2⟩
    obtain ⟨bx0, k1, k2, _, k3⟩ := back c bx g h1 h2
    exact ⟨c, bx0, k1, k3 hz, k2⟩
  have hhas : ∀ g, has (nilSt s b nb ty kk t2) β' g → has s β g := by
    rintro g ⟨c, bx, h1, h2⟩
    obtain ⟨bx0, k1, k2, _, _⟩ := back c bx g h1 h2
    exact ⟨c, bx0, k1, k2⟩
  have hmt : ∀ g, X.mt (nilSt s b nb ty kk t2) β' Rd g → X.mt s β Rd g := fun g hg => hg.imp id fun hg => hg.imp (howns g) id
  have hH : ∀ c v, hOf s β cp c v → hOf (nilSt s b nb ty kk t2) β' cp c v := fun c v hc => hc.go (fun d hd => (ek d).2 (.inr hd)) fun d hd bx' hbx' => by
    have hdn : d ≠ nb := by rintro rfl; exact hk0 hd
    by_cases h3 : d = b
    · subst h3
      rw [e2] at hbx'
      cases hbx'
      exact ⟨_, hb0, .inl ⟨rfl, hβ _ hdn, rfl, rfl⟩⟩
    · rw [e3 d hdn h3] at hbx'
      exact ⟨bx', hbx', .inl ⟨rfl, hβ _ hdn, rfl, rfl⟩⟩
  refine ⟨β', cp, Rd, h.re rfl rfl rfl (fun c hc => ?_) rfl rfl ⟨rfl, Nat.le_refl _⟩ (Nat.le_refl _) (fun _ _ _ _ => rfl) (fun _ h => h) (fun _ h => .inl h) (fun g hg => .inl (howns g hg))
    (fun c bx g h1 h2 => ?_) (fun g hg => h.own_rd g (hhas g hg)) (fun g hg => ?_) (fun c d bx bx' g h1 h2 h3 h4 => ?_) hH (fun i q hq => ?_) ?_ (fun c bx hc => ?_)⟩
  · rcases (ek c).1 hc with rfl | hc
    · exact hx
    · exact h.fresh c hc
  · obtain ⟨bx0, k1, k2, _, _⟩ := back c bx g h1 h2
    exact .inl ⟨bx0, k1, k2⟩
  · obtain ⟨_, bv, p, bs, h1, _⟩ := h.rdok g (h.rd0 g hg)
    exact ⟨bv, p, p, h1, h1⟩
  · obtain ⟨x, k1, k2, _, _⟩ := back c bx g h1 h3
    obtain ⟨y, l1, l2, _, _⟩ := back d bx' g h2 h4
    exact h.inj c d x y g k1 l1 k2 l2
  · obtain ⟨p1, p2⟩ := hq
    have hin : i ≠ nb := by rintro rfl; exact hk0 p1
    refine ⟨(ek i).2 (.inr p1), fun bx hbx => ?_⟩
    by_cases h3 : i = b
    · subst h3
      rw [e2] at hbx
      cases hbx
      have := p2 _ hb0
      rw [hβ _ hin]
      exact this
    · rw [e3 i hin h3] at hbx
      rw [hβ _ hin]
      exact p2 bx hbx
  · exact h.rdok.mono (fun _ _ _ => rfl) (Nat.le_refl _) (fun g _ hm => hmt g hm) (fun _ _ => rfl) (Nat.le_refl _)
  · have hMC : ∀ v c, MC w (X.mt s β Rd) Rd (hOf s β cp) v c → MC w (X.mt (nilSt s b nb ty kk t2) β' Rd) Rd (hOf (nilSt s b nb ty kk t2) β' cp) v c := fun v c hc => hc.mono (K := fun _ => True) (fun _ _ _ => rfl) (Nat.le_refl _) (fun g _ hm => hmt g hm) (fun _ h => h) (cIds_all c) (fun c _ _ _ _ v => hH c v)
    by_cases h1 : c = nb
    · subst h1
      rw [e1] at hc
      cases hc
      exact .inl (.inl ⟨hβn, rfl, rfl⟩)
    · rw [hβ c h1]
      by_cases h2 : c = b
      · subst h2
        rw [e2] at hc
        cases hc
        rcases (h.boxes c _ hb0).two (.inr (by simp)) with ⟨_, k, _⟩ | ⟨g, cur, k1, k2, k4, k5, k6, k7, k9, k8⟩
        · cases k
        · refine .inl (.inr ⟨g, cur, k1, k2, k4, k5, k6, fun e he => ?_, fun hr => (by cases hr), fun i j e d he hd => ?_⟩)
          · simp only [List.mem_singleton] at he; subst he; rfl
          · have hi : i = 0 := by
              have := (List.getElem?_eq_some_iff.1 he).1
              simp at this; omega
            subst hi
            simp only [List.getElem?_cons_zero, Option.some.injEq] at he
            subst he
            have hj : j = 0 := by
              have := (List.getElem?_eq_some_iff.1 hd).1
              simp at this; omega
            subst hj
            simp only [List.getElem?_cons_zero, Option.some.injEq] at hd
            subst hd
            have hv := k8 0 0 _ _ rfl rfl
            generalize cur.getD (0 * 1 + 0) undef = v at hv ⊢
            have hv2 : v = .slice none 0 0 := by cases hv; rfl
            subst hv2
            exact ⟨rfl, nb, 0, rfl, (ek nb).2 (.inl rfl), fun bx hbx => by rw [e1] at hbx; cases hbx; exact ⟨Nat.le_refl _, fun _ => .inl ⟨hβn, rfl, none, rfl⟩⟩⟩
      · rw [e3 c h1 h2] at hc
        exact (h.boxes c bx hc).mono hMC

theorem Ent.trans {a b c : St} (h : Ent a b) (k : Ent b c) : Ent a c := fun X x w hh => k X x w (h X x w hh)

section
variable {tt : Nat → Option TI} {tab : Nat → Option Spec} {sq : Nat → Bool} {it : Nat → Option (Bool × Nat)}
/-- A loop whose variable holds no slice yet. -/
theorem loopGN {c : Code} {s : St} {Q : Ex → St → Prop} (b nb ty kk t2 : Nat) {α : Type} (wk : Bool) (dead : List Nat) (bd : St → List Nat) (up : St → α → List (Nat × AV)) (ub : St → α → List (Nat × Option Box)) (ck : α → Nat) (D : St → α) (R : St → St → List (Nat × Nat)) (Inv : α → Prop) (m : α → Nat)
    (hb : lkB s.hp b = some (some ⟨[[.v (.slice none 0 0)]], 1, ty, false, false⟩) ∧ lkB s.hp nb = none ∧ nb < s.nx)
    (h : (Inv (D (nilSt s b nb ty kk t2)) ∧ EntL wk (R (nilSt s b nb ty kk t2)) (nilSt s b nb ty kk t2) (famS (nilSt s b nb ty kk t2) (up (nilSt s b nb ty kk t2) (D (nilSt s b nb ty kk t2))) dead (ub (nilSt s b nb ty kk t2) (D (nilSt s b nb ty kk t2))) (bd (nilSt s b nb ty kk t2)) (s.pk + ck (D (nilSt s b nb ty kk t2))))) ∧
      ∀ x, Inv x → runG tt tab (dwS tt tab sq) it c (famS (nilSt s b nb ty kk t2) (up (nilSt s b nb ty kk t2) x) dead (ub (nilSt s b nb ty kk t2) x) (bd (nilSt s b nb ty kk t2)) (s.pk + ck x)) (seqK Q fun s' => Inv (D s') ∧ m (D s') < m x ∧ EntL wk (R (nilSt s b nb ty kk t2)) s' (famS (nilSt s b nb ty kk t2) (up (nilSt s b nb ty kk t2) (D s')) dead (ub (nilSt s b nb ty kk t2) (D s')) (bd (nilSt s b nb ty kk t2)) (s.pk + ck (D s'))))) :
    runG tt tab (dwS tt tab sq) it (.loop c) s Q := by
  refine ⟨α, fun x => famS (nilSt s b nb ty kk t2) (up (nilSt s b nb ty kk t2) x) dead (ub (nilSt s b nb ty kk t2) x) (bd (nilSt s b nb ty kk t2)) (s.pk + ck x), Inv, m, D (nilSt s b nb ty kk t2), h.1.1, (ent_nil hb.1 hb.2.1 hb.2.2).trans h.1.2.ent, fun x hx => runG_mono c _ (fun e s' hs => ?_) (h.2 x hx)⟩
  cases e with
  | normal => exact ⟨D s', hs.1, hs.2.1, hs.2.2.ent⟩
  | exit i => exact hs
  | ret => exact hs
end
theorem nilSt_mk (b nb ty kk t2 nt np : Nat) (env : List (Nat × AV)) (hp : List (Nat × Option Box)) (nx pk : Nat) : nilSt ⟨nt, np, env, hp, nx, pk⟩ b nb ty kk t2 = ⟨nt, np, env, (nb, some ⟨[], kk, t2, true, false⟩) :: (b, some ⟨[[.own nb 0 false]], 1, ty, false, false⟩) :: hp, nx, pk⟩ := rfl
attribute [go_sem] nilSt_mk
end Go.VE
end
