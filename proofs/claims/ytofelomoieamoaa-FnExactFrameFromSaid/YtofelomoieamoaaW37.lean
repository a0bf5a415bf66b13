/- Contracts of functions of the program vectorraster, each proved for all states that fit its description. No conditions. -/
import Derived.Test.YtofelomoieamoaaEH
namespace Go.VE
open Go

/-- A variable of which one cell holds no slice yet: it may as well hold an empty row of its own. -/
def nilJ (s : St) (b j nb k ty kk t2 : Nat) (e : List C) : St := { s with hp := (nb, some ⟨[], kk, t2, true, false⟩) :: (b, some ⟨[e.set j (.own nb 0 false)], k, ty, false, false⟩) :: s.hp }

theorem ent_nilJ {s : St} {b j nb k ty kk t2 : Nat} {e : List C} (hb : lkB s.hp b = some (some ⟨[e], k, ty, false, false⟩)) (hj : e[j]? = some (.v (.slice none 0 0))) (hn : lkB s.hp nb = none) (hx : nb < s.nx) : Ent s (nilJ s b j nb k ty kk t2 e) := by
  rintro X a w ⟨β, cp, Rd, h⟩
  have hbn : b ≠ nb := by rintro rfl; rw [hb] at hn; cases hn
  have hk0 : ¬ s.keyed nb := by unfold St.keyed; rw [hn]; simp
  have hbk : s.keyed b := by unfold St.keyed; rw [hb]; rfl
  have hb0 : s.box b = some ⟨[e], k, ty, false, false⟩ := by unfold St.box; rw [hb]; rfl
  have e1 : (nilJ s b j nb k ty kk t2 e).box nb = some ⟨[], kk, t2, true, false⟩ := by simp [nilJ, St.box, lkB]
  have e2 : (nilJ s b j nb k ty kk t2 e).box b = some ⟨[e.set j (.own nb 0 false)], k, ty, false, false⟩ := by
    have : (nb == b) = false := by simp; exact fun e => hbn e.symm
    simp [nilJ, St.box, lkB, this]
  have e3 : ∀ c, c ≠ nb → c ≠ b → (nilJ s b j nb k ty kk t2 e).box c = s.box c := by
    intro c h1 h2
    have q1 : (nb == c) = false := by simp; exact fun e => h1 e.symm
    have q2 : (b == c) = false := by simp; exact fun e => h2 e.symm
    simp [nilJ, St.box, lkB, q1, q2]
  have ek : ∀ c, (nilJ s b j nb k ty kk t2 e).keyed c ↔ c = nb ∨ s.keyed c := by
    intro c
    by_cases h1 : c = nb
    · subst h1; simp [nilJ, St.keyed, lkB]
    · by_cases h2 : c = b
      · subst h2
        have q1 : (nb == c) = false := by simp; exact fun e => h1 e.symm
        simp only [hbk, or_true, iff_true]
        simp [nilJ, St.keyed, lkB, q1]
      · have q1 : (nb == c) = false := by simp; exact fun e => h1 e.symm
        have q2 : (b == c) = false := by simp; exact fun e => h2 e.symm
        simp [nilJ, St.keyed, lkB, q1, q2, h1]
  let β' := upd β nb none
  have hβ : ∀ c, c ≠ nb → β' c = β c := fun c hc => upd_ne _ _ hc
  have hβn : β' nb = none := upd_same _ _ _
  have back : ∀ c bx g, (nilJ s b j nb k ty kk t2 e).box c = some bx → β' c = some g → ∃ bx0, s.box c = some bx0 ∧ β c = some g ∧ c ≠ nb ∧ (bx.fz = false → bx0.fz = false) := by
    intro c bx g h1 h2
    have hc : c ≠ nb := by rintro rfl; rw [hβn] at h2; cases h2
    rw [hβ c hc] at h2
    by_cases h3 : c = b
    · subst h3; exact ⟨_, hb0, h2, hc, fun _ => rfl⟩
    · rw [e3 c hc h3] at h1
      exact ⟨bx, h1, h2, hc, fun h => h⟩
  have howns : ∀ g, owns (nilJ s b j nb k ty kk t2 e) β' g → owns s β g := by
    rintro g ⟨c, bx, h1, hz, h2⟩
    obtain ⟨bx0, k1, k2, _, k3⟩ := back c bx g h1 h2
    exact ⟨c, bx0, k1, k3 hz, k2⟩
  have hhas : ∀ g, has (nilJ s b j nb k ty kk t2 e) β' g → has s β g := by
    rintro g ⟨c, bx, h1, h2⟩
    obtain ⟨bx0, k1, k2, _, _⟩ := back c bx g h1 h2
    exact ⟨c, bx0, k1, k2⟩
  have hmt : ∀ g, X.mt (nilJ s b j nb k ty kk t2 e) β' Rd g → X.mt s β Rd g := fun g hg => hg.imp id fun hg => hg.imp (howns g) id
  have hH : ∀ c v, hOf s β cp c v → hOf (nilJ s b j nb k ty kk t2 e) β' cp c v := fun c v hc => hc.go (fun d hd => (ek d).2 (.inr hd)) fun d hd bx' hbx' => by
    have hdn : d ≠ nb := by rintro rfl; exact hk0 hd
    by_cases h3 : d = b
    · subst h3
      rw [e2] at hbx'
      cases hbx'
      exact ⟨_, hb0, .inl ⟨rfl, hβ _ hdn, rfl, rfl⟩⟩
    · rw [e3 d hdn h3] at hbx'
      exact ⟨bx', hbx', .inl ⟨rfl, hβ _ hdn, rfl, rfl⟩⟩
  refine ⟨β', cp, Rd, h.re rfl rfl rfl (fun c hc => ?_) rfl rfl ⟨rfl, Nat.le_refl _⟩ (Nat.le_refl _) (fun _ _ _ _ => rfl) (fun _ h => h) (fun _ h => .inl h) (fun g hg => .inl (howns g hg))
    (fun c bx g h1 h2 => ?_) (fun g hg => h.own_rd g (hhas g hg)) (fun g hg => ?_) (fun c d bx bx' g h1 h2 h3 h4 => ?_) hH (fun i q hq => ?_) ?_ (fun c bx hc => ?_)⟩
  · rcases (ek c).1 hc with rfl | hc
    · exact hx
    · exact h.fresh c hc
  · obtain ⟨bx0, k1, k2, _, _⟩ := back c bx g h1 h2
    exact .inl ⟨bx0, k1, k2⟩
  · obtain ⟨_, bv, p, bs, h1, _⟩ := h.rdok g (h.rd0 g hg)
    exact ⟨bv, p, p, h1, h1⟩
  · obtain ⟨x, k1, k2, _, _⟩ := back c bx g h1 h3
    obtain ⟨y, l1, l2, _, _⟩ := back d bx' g h2 h4
    exact h.inj c d x y g k1 l1 k2 l2
  · obtain ⟨p1, p2⟩ := hq
    have hin : i ≠ nb := by rintro rfl; exact hk0 p1
    refine ⟨(ek i).2 (.inr p1), fun bx hbx => ?_⟩
    by_cases h3 : i = b
    · subst h3
      rw [e2] at hbx
      cases hbx
      have := p2 _ hb0
      rw [hβ _ hin]
      exact this
    · rw [e3 i hin h3] at hbx
      rw [hβ _ hin]
      exact p2 bx hbx
  · exact h.rdok.mono (fun _ _ _ => rfl) (Nat.le_refl _) (fun g _ hm => hmt g hm) (fun _ _ => rfl) (Nat.le_refl _)
  · have hMC : ∀ v c, MC w (X.mt s β Rd) Rd (hOf s β cp) v c → MC w (X.mt (nilJ s b j nb k ty kk t2 e) β' Rd) Rd (hOf (nilJ s b j nb k ty kk t2 e) β' cp) v c := fun v c hc => hc.mono (K := fun _ => True) (fun _ _ _ => rfl) (Nat.le_refl _) (fun g _ hm => hmt g hm) (fun _ h => h) (cIds_all c) (fun c _ _ _ _ v => hH c v)
    by_cases h1 : c = nb
    · subst h1
      rw [e1] at hc
      cases hc
      exact .inl (.inl ⟨hβn, rfl, rfl⟩)
    · rw [hβ c h1]
      by_cases h2 : c = b
      · subst h2
        rw [e2] at hc
        cases hc
        rcases (h.boxes c _ hb0).two (.inr (by simp)) with ⟨_, k, _⟩ | ⟨g, cur, k1, k2, k4, k5, k6, k7, k9, k8⟩
        · cases k
        · refine .inl (.inr ⟨g, cur, k1, k2, k4, k5, k6, fun e' he => ?_, fun hr => (by cases hr), fun i j' e' d he hd => ?_⟩)
          · simp only [List.mem_singleton] at he
            subst he
            rw [List.length_set]
            exact k7 e (List.mem_singleton.2 rfl)
          · have hi : i = 0 := by
              have := (List.getElem?_eq_some_iff.1 he).1
              simp at this; omega
            subst hi
            simp only [List.getElem?_cons_zero, Option.some.injEq] at he
            subst he
            by_cases hjj : j' = j
            · subst hjj
              have hl := (List.getElem?_eq_some_iff.1 hj).1
              rw [List.getElem?_set_self hl] at hd
              cases hd
              have hv := k8 0 j' _ _ rfl hj
              generalize cur.getD (0 * k + j') undef = v at hv ⊢
              have hv2 : v = .slice none 0 0 := by cases hv; rfl
              subst hv2
              exact ⟨rfl, nb, 0, rfl, (ek nb).2 (.inl rfl), fun bx hbx => by rw [e1] at hbx; cases hbx; exact ⟨Nat.le_refl _, fun _ => .inl ⟨hβn, rfl, none, rfl⟩⟩⟩
            · rw [List.getElem?_set_ne (Ne.symm hjj)] at hd
              exact hMC _ _ (k8 0 j' _ _ rfl hd)
      · rw [e3 c h1 h2] at hc
        exact (h.boxes c bx hc).mono hMC

/-- A loop whose variable holds no slice yet. -/
theorem loopWN {tt : Nat → Option TI} {tab : Nat → Option Spec} {sq : Nat → Bool} {c : Code} {s : St} {Q : Ex → St → Prop} (b j nb k ty kk t2 : Nat) (e : List C) {α : Type} (wk : Bool) (dead : List Nat) (bd : St → List Nat) (up : St → α → List (Nat × AV)) (ub : St → α → List (Nat × Option Box)) (ck : α → Nat) (D : St → α) (R : St → St → List (Nat × Nat)) (Inv : α → Prop) (m : α → Nat)
    (hb : lkB s.hp b = some (some ⟨[e], k, ty, false, false⟩) ∧ e[j]? = some (.v (.slice none 0 0)) ∧ lkB s.hp nb = none ∧ nb < s.nx)
    (h : (Inv (D (nilJ s b j nb k ty kk t2 e)) ∧ EntL wk (R (nilJ s b j nb k ty kk t2 e)) (nilJ s b j nb k ty kk t2 e) (famS (nilJ s b j nb k ty kk t2 e) (up (nilJ s b j nb k ty kk t2 e) (D (nilJ s b j nb k ty kk t2 e))) dead (ub (nilJ s b j nb k ty kk t2 e) (D (nilJ s b j nb k ty kk t2 e))) (bd (nilJ s b j nb k ty kk t2 e)) (s.pk + ck (D (nilJ s b j nb k ty kk t2 e))))) ∧
      ∀ x, Inv x → runW tt tab Ent (dwS tt tab sq) c (famS (nilJ s b j nb k ty kk t2 e) (up (nilJ s b j nb k ty kk t2 e) x) dead (ub (nilJ s b j nb k ty kk t2 e) x) (bd (nilJ s b j nb k ty kk t2 e)) (s.pk + ck x)) (seqK Q fun s' => Inv (D s') ∧ m (D s') < m x ∧ EntL wk (R (nilJ s b j nb k ty kk t2 e)) s' (famS (nilJ s b j nb k ty kk t2 e) (up (nilJ s b j nb k ty kk t2 e) (D s')) dead (ub (nilJ s b j nb k ty kk t2 e) (D s')) (bd (nilJ s b j nb k ty kk t2 e)) (s.pk + ck (D s'))))) :
    runW tt tab Ent (dwS tt tab sq) (.loop c) s Q := by
  refine ⟨α, fun x => famS (nilJ s b j nb k ty kk t2 e) (up (nilJ s b j nb k ty kk t2 e) x) dead (ub (nilJ s b j nb k ty kk t2 e) x) (bd (nilJ s b j nb k ty kk t2 e)) (s.pk + ck x), Inv, m, D (nilJ s b j nb k ty kk t2 e), h.1.1, (ent_nilJ hb.1 hb.2.1 hb.2.2.1 hb.2.2.2).trans h.1.2.ent, fun x hx => runW_mono c _ (fun e s' hs => ?_) (h.2 x hx)⟩
  cases e with
  | normal => exact ⟨D s', hs.1, hs.2.1, hs.2.2.ent⟩
  | exit i => exact hs
  | ret => exact hs
theorem nilJ_mk (b j nb k ty kk t2 nt np : Nat) (e : List C) (env : List (Nat × AV)) (hp : List (Nat × Option Box)) (nx pk : Nat) : nilJ ⟨nt, np, env, hp, nx, pk⟩ b j nb k ty kk t2 e = ⟨nt, np, env, (nb, some ⟨[], kk, t2, true, false⟩) :: (b, some ⟨[e.set j (.own nb 0 false)], k, ty, false, false⟩) :: hp, nx, pk⟩ := rfl
attribute [go_sem] nilJ_mk
end Go.VE
