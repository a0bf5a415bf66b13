/- Contracts of functions of the program vectorraster, each proved for all states that fit its description. No conditions. -/
import Derived.Test.YtcejoknapbhloaaGreatEC
namespace Go.VE
open Go
/-- A box of which one cell holds no slice yet: it may as well hold an empty row of its own; a row may as well be a variable. -/
def nilM (s : St) (b ii j nb k ty kk t2 : Nat) (es : List (List C)) (e : List C) : St := { s with hp := (nb, some ⟨[], kk, t2, true, false⟩) :: (b, some ⟨es.set ii (e.set j (.own nb 0 false)), k, ty, false, false⟩) :: s.hp }
theorem ent_nilM {s : St} {b ii j nb k ty kk t2 : Nat} {r : Bool} {es : List (List C)} {e : List C} (hb : lkB s.hp b = some (some ⟨es, k, ty, r, false⟩)) (hi : es[ii]? = some e) (hj : e[j]? = some (.v (.slice none 0 0))) (hn : lkB s.hp nb = none) (hx : nb < s.nx) : Ent s (nilM s b ii j nb k ty kk t2 es e) := by
  rintro X a w ⟨β, cp, Rd, h⟩
  have hbn : b ≠ nb := by rintro rfl; rw [hb] at hn; cases hn
  have hk0 : ¬ s.keyed nb := by unfold St.keyed; rw [hn]; simp
  have hbk : s.keyed b := by unfold St.keyed; rw [hb]; rfl
  have hb0 : s.box b = some ⟨es, k, ty, r, false⟩ := by unfold St.box; rw [hb]; rfl
  have e1 : (nilM s b ii j nb k ty kk t2 es e).box nb = some ⟨[], kk, t2, true, false⟩ := by simp [nilM, St.box, lkB]
  have e2 : (nilM s b ii j nb k ty kk t2 es e).box b = some ⟨es.set ii (e.set j (.own nb 0 false)), k, ty, false, false⟩ := by
    have : (nb == b) = false := by simp; exact fun e => hbn e.symm
    simp [nilM, St.box, lkB, this]
  have e3 : ∀ c, c ≠ nb → c ≠ b → (nilM s b ii j nb k ty kk t2 es e).box c = s.box c := by
    intro c h1 h2
    have q1 : (nb == c) = false := by simp; exact fun e => h1 e.symm
    have q2 : (b == c) = false := by simp; exact fun e => h2 e.symm
    simp [nilM, St.box, lkB, q1, q2]
  have ek : ∀ c, (nilM s b ii j nb k ty kk t2 es e).keyed c ↔ c = nb ∨ s.keyed c := by
    intro c
    by_cases h1 : c = nb
    · subst h1; simp [nilM, St.keyed, lkB]
    · by_cases h2 : c = b
      · subst h2
        have q1 : (nb == c) = false := by simp; exact fun e => h1 e.symm
        simp only [hbk, or_true, iff_true]
        simp [nilM, St.keyed, lkB, q1]
      · have q1 : (nb == c) = false := by simp; exact fun e => h1 e.symm
        have q2 : (b == c) = false := by simp; exact fun e => h2 e.symm
        simp [nilM, St.keyed, lkB, q1, q2, h1]
  let β' := upd β nb none
  have hβ : ∀ c, c ≠ nb → β' c = β c := fun c hc => upd_ne _ _ hc
  have hβn : β' nb = none := upd_same _ _ _
  have back : ∀ c bx g, (nilM s b ii j nb k ty kk t2 es e).box c = some bx → β' c = some g → ∃ bx0, s.box c = some bx0 ∧ β c = some g ∧ c ≠ nb ∧ (bx.fz = false → bx0.fz = false) := by
    intro c bx g h1 h2
    have hc : c ≠ nb := by rintro rfl; rw [hβn] at h2; cases h2
    rw [hβ c hc] at h2
    by_cases h3 : c = b
    · subst h3; exact ⟨_, hb0, h2, hc, fun _ => rfl⟩
    · rw [e3 c hc h3] at h1
      exact ⟨bx, h1, h2, hc, fun h => h⟩
  have howns : ∀ g, owns (nilM s b ii j nb k ty kk t2 es e) β' g → owns s β g := by
    rintro g ⟨c, bx, h1, hz, h2⟩
    obtain ⟨bx0, k1, k2, _, k3⟩ := back c bx g h1 h2
    exact ⟨c, bx0, k1, k3 hz, k2⟩
  have hhas : ∀ g, has (nilM s b ii j nb k ty kk t2 es e) β' g → has s β g := by
    rintro g ⟨c, bx, h1, h2⟩
    obtain ⟨bx0, k1, k2, _, _⟩ := back c bx g h1 h2
    exact ⟨c, bx0, k1, k2⟩
  have hmt : ∀ g, X.mt (nilM s b ii j nb k ty kk t2 es e) β' Rd g → X.mt s β Rd g := fun g hg => hg.imp id fun hg => hg.imp (howns g) id
  have hH : ∀ c v, hOf s β cp c v → hOf (nilM s b ii j nb k ty kk t2 es e) β' cp c v := fun c v hc => hc.go (fun d hd => (ek d).2 (.inr hd)) fun d hd bx' hbx' => by
    have hdn : d ≠ nb := by rintro rfl; exact hk0 hd
    by_cases h3 : d = b
    · subst h3
      rw [e2] at hbx'
      cases hbx'
      exact ⟨_, hb0, .inl ⟨List.length_set, hβ _ hdn, rfl, rfl⟩⟩
    · rw [e3 d hdn h3] at hbx'
      exact ⟨bx', hbx', .inl ⟨rfl, hβ _ hdn, rfl, rfl⟩⟩
  refine ⟨β', cp, Rd, h.re rfl rfl rfl (fun c hc => ?_) rfl rfl ⟨rfl, trivial⟩ (Nat.le_refl _) (fun _ _ _ _ => rfl) (fun _ h => h) (fun _ h => .inl h) (fun g hg => .inl (howns g hg))
    (fun c bx g h1 h2 => ?_) (fun g hg => h.own_rd g (hhas g hg)) (fun g hg => ?_) (fun c d bx bx' g h1 h2 h3 h4 => ?_) hH (fun i q hq => ?_) ?_ (fun c bx hc => ?_)⟩
  · rcases (ek c).1 hc with rfl | hc
    · exact hx
    · exact h.fresh c hc
  · obtain ⟨bx0, k1, k2, _, _⟩ := back c bx g h1 h2
    exact .inl ⟨bx0, k1, k2⟩
  · obtain ⟨_, bv, p, bs, h1, _⟩ := h.rdok g (h.rd0 g hg)
    exact ⟨bv, p, p, h1, h1⟩
  · obtain ⟨x, k1, k2, _, _⟩ := back c bx g h1 h3
    obtain ⟨y, l1, l2, _, _⟩ := back d bx' g h2 h4
    exact h.inj c d x y g k1 l1 k2 l2
  · obtain ⟨p1, p2⟩ := hq
    have hin : i ≠ nb := by rintro rfl; exact hk0 p1
    refine ⟨(ek i).2 (.inr p1), fun bx hbx => ?_⟩
    by_cases h3 : i = b
    · subst h3
      rw [e2] at hbx
      cases hbx
      have := p2 _ hb0
      rw [hβ _ hin]
      simp only [List.length_set] at this ⊢
      exact this
    · rw [e3 i hin h3] at hbx
      rw [hβ _ hin]
      exact p2 bx hbx
  · exact h.rdok.mono (fun _ _ _ => rfl) (Nat.le_refl _) (fun g _ hm => hmt g hm) (fun _ _ => rfl) (Nat.le_refl _)
  · have hMC : ∀ v c, MC w (X.mt s β Rd) Rd (hOf s β cp) v c → MC w (X.mt (nilM s b ii j nb k ty kk t2 es e) β' Rd) Rd (hOf (nilM s b ii j nb k ty kk t2 es e) β' cp) v c := fun v c hc => hc.mono (K := fun _ => True) (fun _ _ _ => rfl) (Nat.le_refl _) (fun g _ hm => hmt g hm) (fun _ h => h) (cIds_all c) (fun c _ _ _ _ v => hH c v)
    by_cases h1 : c = nb
    · subst h1
      rw [e1] at hc
      cases hc
      exact .inl (.inl ⟨hβn, rfl, rfl⟩)
    · rw [hβ c h1]
      by_cases h2 : c = b
      · subst h2
        rw [e2] at hc
        cases hc
        have hil := (List.getElem?_eq_some_iff.1 hi).1
        rcases (h.boxes c _ hb0).two (.inr (by rintro rfl; simp at hi)) with ⟨_, k0, _⟩ | ⟨g, cur, k1, k2, k4, k5, k6, k7, k9, k8⟩
        · simp only at k0
          subst k0
          simp at hi
        · refine .inl (.inr ⟨g, cur, k1, k2, k4, by rw [List.length_set]; exact k5, k6, fun e' he => ?_, fun hr => (by cases hr), fun i j' e' d he hd => ?_⟩)
          · rcases List.mem_or_eq_of_mem_set he with he | he
            · exact k7 e' he
            · subst he
              rw [List.length_set]
              exact k7 e (List.mem_of_getElem? hi)
          · by_cases hii : i = ii
            · subst hii
              rw [List.getElem?_set_self hil] at he
              cases he
              by_cases hjj : j' = j
              · subst hjj
                have hl := (List.getElem?_eq_some_iff.1 hj).1
                rw [List.getElem?_set_self hl] at hd
                cases hd
                have hv := k8 i j' _ _ hi hj
                generalize cur.getD (i * k + j') undef = v at hv ⊢
                have hv2 : v = .slice none 0 0 := by cases hv; rfl
                subst hv2
                exact ⟨rfl, nb, 0, rfl, (ek nb).2 (.inl rfl), fun bx hbx => by rw [e1] at hbx; cases hbx; exact ⟨Nat.le_refl _, fun _ => .inl ⟨hβn, rfl, none, rfl⟩⟩⟩
              · rw [List.getElem?_set_ne (Ne.symm hjj)] at hd
                exact hMC _ _ (k8 i j' _ _ hi hd)
            · rw [List.getElem?_set_ne (Ne.symm hii)] at he
              exact hMC _ _ (k8 i j' _ _ he hd)
      · rw [e3 c h1 h2] at hc
        exact (h.boxes c bx hc).mono hMC
theorem nilM_mk (nt np : Nat) (env : List (Nat × AV)) (hp : List (Nat × Option Box)) (nx pk b ii j nb k ty kk t2 : Nat) (es : List (List C)) (e : List C) : nilM ⟨nt, np, env, hp, nx, pk⟩ b ii j nb k ty kk t2 es e = ⟨nt, np, env, (nb, some ⟨[], kk, t2, true, false⟩) :: (b, some ⟨es.set ii (e.set j (.own nb 0 false)), k, ty, false, false⟩) :: hp, nx, pk⟩ := rfl
theorem ent_tr {s s1 s2 : St} (h : Ent s s1) (k : Ent s1 s2) : Ent s s2 := fun X a w hh => k X a w (h X a w hh)
/-- A loop may start from a state that knows less. -/
theorem loop_ent {tt : Nat → Option TI} {tab : Nat → Option Spec} {sq : Nat → Bool} {c : Code} {s s1 : St} {Q : Ex → St → Prop} (h : Ent s s1) (k : runW tt tab Ent (dwS tt tab sq) (.loop c) s1 Q) : runW tt tab Ent (dwS tt tab sq) (.loop c) s Q := by
  obtain ⟨α, F, Inv, m, x0, h1, h2, h3⟩ := k
  exact ⟨α, F, Inv, m, x0, h1, fun X a w hh => h2 X a w (h X a w hh), h3⟩
attribute [go_sem] nilM_mk
end Go.VE
