/- A part of the engine: what operations do to described states, proved sound against the model. No conditions. -/
import Derived.Test.YtofelomoieamoaaW20
set_option linter.unusedSimpArgs false
set_option linter.unusedVariables false
namespace Go.VE
open Go

theorem lkB_mem : ∀ (hp : List (Nat × Option Box)) (b : Nat) (x : Option Box), lkB hp b = some x → (b, x) ∈ hp
  | [], _, _, h => by cases h
  | (k, y) :: r, b, x, h => by
    simp only [lkB] at h
    cases hk : k == b with
    | true =>
      rw [hk, cond_true, Option.some.injEq] at h
      subst h
      have := eq_of_beq hk
      subst this
      simp
    | false => rw [hk, cond_false] at h; exact List.mem_cons_of_mem _ (lkB_mem r b x h)

/-! A state that knows less: boxes may be numbered anew, rows may be sealed, what is not named is forgotten. -/
def rho : List (Nat × Nat) → Nat → Nat
  | [], b => b
  | (k, x) :: r, b => bif k == b then x else rho r b
def keyB (hp : List (Nat × Option Box)) (b : Nat) : Bool :=
  match lkB hp b with
  | some _ => true
  | none => false
/-- Is the old box one that may still be written? -/
def keptB (ρ : List (Nat × Nat)) : List (Nat × Option Box) → Nat → Bool
  | [], _ => false
  | (k, some bx) :: r, b => (!bx.fz && (rho ρ k == b)) || keptB ρ r b
  | (_, none) :: r, b => keptB ρ r b
def slOf (s : St) (ρ : List (Nat × Nat)) (hp : List (Nat × Option Box)) (x : C) (t : Bool) (es : List (List C)) : Prop :=
  match x with
  | .sl t0 es0 => es0 = es ∧ (t = true → t0 = true)
  | .v (.slice none 0 0) => es = []
  | .own b n t0 => match s.box b with
    | some bx => bx.row = true ∧ n = bx.es.length ∧ bx.es = es ∧ (t = true → t0 = true) ∧ keptB ρ hp b = false
    | none => False
  | .vw b n lo hi => match s.box b with
    | some bx => bx.row = true ∧ n = bx.es.length ∧ (bx.es.take hi).drop lo = es ∧ t = false ∧ keptB ρ hp b = false
    | none => False
  | _ => False
def leC0 (s : St) (ρ : List (Nat × Nat)) (hp : List (Nat × Option Box)) (x : C) : C → Prop
  | .bot => True
  | .own b n t => match x with
    | .own b0 n0 t0 => b0 = rho ρ b ∧ n0 = n ∧ (t = true → t0 = true) ∧ keyB hp b = true
    | _ => False
  | .vw b n lo hi => match x with
    | .vw b0 n0 lo0 hi0 => b0 = rho ρ b ∧ n0 = n ∧ lo0 = lo ∧ hi0 = hi ∧ keyB hp b = true
    | _ => False
  | .ptr b n i off => match x with
    | .ptr b0 n0 i0 off0 => b0 = rho ρ b ∧ n0 = n ∧ i0 = i ∧ off0 = off ∧ keyB hp b = true
    | _ => False
  | .sl t es => slOf s ρ hp x t es
  | .fn _ _ => False
  | y => x = y
def leC0s (s : St) (ρ : List (Nat × Nat)) (hp : List (Nat × Option Box)) : List C → List C → Prop
  | [], [] => True
  | x :: r, y :: r' => leC0 s ρ hp x y ∧ leC0s s ρ hp r r'
  | _, _ => False
def leC (s : St) (ρ : List (Nat × Nat)) (hp : List (Nat × Option Box)) (x : C) : C → Prop
  | .fn f caps => match x with
    | .fn f0 caps0 => f0 = f ∧ leC0s s ρ hp caps0 caps
    | _ => False
  | y => leC0 s ρ hp x y
def leCs (s : St) (ρ : List (Nat × Nat)) (hp : List (Nat × Option Box)) : List C → List C → Prop
  | [], [] => True
  | x :: r, y :: r' => leC s ρ hp x y ∧ leCs s ρ hp r r'
  | _, _ => False
def leA1 (s : St) (ρ : List (Nat × Nat)) (hp : List (Nat × Option Box)) (x y : AV) : Prop :=
  match x, y with
  | _, .c .bot => True
  | .c x, .c y => leC s ρ hp x y
  | .agg xs, .agg ys => leCs s ρ hp xs ys
  | _, _ => False
def leAs (s : St) (ρ : List (Nat × Nat)) (hp : List (Nat × Option Box)) : List AV → List AV → Prop
  | [], [] => True
  | x :: r, y :: r' => leA1 s ρ hp x y ∧ leAs s ρ hp r r'
  | _, _ => False
def leA (s : St) (ρ : List (Nat × Nat)) (hp : List (Nat × Option Box)) (x y : AV) : Prop :=
  match x, y with
  | .tup xs, .tup ys => leAs s ρ hp xs ys
  | .mp b0 ks0, .mp b ks => b0 = rho ρ b ∧ ks0 = ks ∧ keyB hp b = true
  | x, y => leA1 s ρ hp x y
def leEs (s : St) (ρ : List (Nat × Nat)) (hp : List (Nat × Option Box)) : List (List C) → List (List C) → Prop
  | [], [] => True
  | x :: r, y :: r' => leCs s ρ hp x y ∧ leEs s ρ hp r r'
  | _, _ => False
def leB (s : St) (ρ : List (Nat × Nat)) (hp : List (Nat × Option Box)) (b : Nat) (y : Box) : Prop :=
  match s.box (rho ρ b) with
  | some x => x.k = y.k ∧ x.ty = y.ty ∧ x.row = y.row ∧ (y.fz = false → x.fz = false) ∧ match y.row with
    | true => x.es = y.es
    | false => leEs s ρ hp x.es y.es
  | none => False
def leEnv (s : St) (ρ : List (Nat × Nat)) (hp : List (Nat × Option Box)) : List (Nat × AV) → Prop
  | [] => True
  | (t, y) :: r => leA s ρ hp (s.get t) y ∧ leEnv s ρ hp r
def leHp (s : St) (ρ : List (Nat × Nat)) (hp : List (Nat × Option Box)) (nx : Nat) : List (Nat × Option Box) → Prop
  | [] => True
  | (b, some y) :: r => leB s ρ hp b y ∧ b < nx ∧ leHp s ρ hp nx r
  | (_, none) :: _ => False
def injR (ρ : List (Nat × Nat)) : List (Nat × Option Box) → Bool
  | [] => true
  | (k, _) :: r => (r.all fun p => !(rho ρ k == rho ρ p.1) || (k == p.1)) && injR ρ r
def preR (ρ : List (Nat × Nat)) (hp : List (Nat × Option Box)) : Nat → Bool
  | 0 => true
  | n + 1 => (rho ρ n == n) && keyB hp n && preR ρ hp n

section
variable {X : Cx} {s : St} {a : Act} {w : World} {β : Nat → Option Nat} {cp : Nat → Nat} {Rd : Nat → Prop} {ρ : List (Nat × Nat)} {hp : List (Nat × Option Box)}

theorem leC0s_get : ∀ {xs ys : List C}, leC0s s ρ hp xs ys → ys.length = xs.length ∧ ∀ (j : Nat) y, ys[j]? = some y → ∃ x, xs[j]? = some x ∧ leC0 s ρ hp x y
  | [], [], _ => ⟨rfl, fun j y h => by simp at h⟩
  | x :: r, y :: r', h => by
    obtain ⟨q1, q2⟩ := leC0s_get h.2
    refine ⟨by simp [q1], fun j z hj => ?_⟩
    cases j with
    | zero => simp at hj; subst hj; exact ⟨x, rfl, h.1⟩
    | succ j => simpa using q2 j z (by simpa using hj)
  | [], _ :: _, h => h.elim
  | _ :: _, [], h => h.elim
theorem leCs_get : ∀ {xs ys : List C}, leCs s ρ hp xs ys → ys.length = xs.length ∧ ∀ (j : Nat) y, ys[j]? = some y → ∃ x, xs[j]? = some x ∧ leC s ρ hp x y
  | [], [], _ => ⟨rfl, fun j y h => by simp at h⟩
  | x :: r, y :: r', h => by
    obtain ⟨q1, q2⟩ := leCs_get h.2
    refine ⟨by simp [q1], fun j z hj => ?_⟩
    cases j with
    | zero => simp at hj; subst hj; exact ⟨x, rfl, h.1⟩
    | succ j => simpa using q2 j z (by simpa using hj)
  | [], _ :: _, h => h.elim
  | _ :: _, [], h => h.elim
theorem leAs_get : ∀ {xs ys : List AV}, leAs s ρ hp xs ys → ys.length = xs.length ∧ ∀ (j : Nat) y, ys[j]? = some y → ∃ x, xs[j]? = some x ∧ leA1 s ρ hp x y
  | [], [], _ => ⟨rfl, fun j y h => by simp at h⟩
  | x :: r, y :: r', h => by
    obtain ⟨q1, q2⟩ := leAs_get h.2
    refine ⟨by simp [q1], fun j z hj => ?_⟩
    cases j with
    | zero => simp at hj; subst hj; exact ⟨x, rfl, h.1⟩
    | succ j => simpa using q2 j z (by simpa using hj)
  | [], _ :: _, h => h.elim
  | _ :: _, [], h => h.elim
theorem leEs_get : ∀ {xs ys : List (List C)}, leEs s ρ hp xs ys → ys.length = xs.length ∧ ∀ (j : Nat) y, ys[j]? = some y → ∃ x, xs[j]? = some x ∧ leCs s ρ hp x y
  | [], [], _ => ⟨rfl, fun j y h => by simp at h⟩
  | x :: r, y :: r', h => by
    obtain ⟨q1, q2⟩ := leEs_get h.2
    refine ⟨by simp [q1], fun j z hj => ?_⟩
    cases j with
    | zero => simp at hj; subst hj; exact ⟨x, rfl, h.1⟩
    | succ j => simpa using q2 j z (by simpa using hj)
  | [], _ :: _, h => h.elim
  | _ :: _, [], h => h.elim
theorem leHp_get {nx : Nat} : ∀ {l : List (Nat × Option Box)}, leHp s ρ hp nx l → ∀ b x, (b, x) ∈ l → ∃ y, x = some y ∧ leB s ρ hp b y ∧ b < nx
  | [], _, b, x, h => by simp at h
  | (k, some z) :: r, h, b, x, hm => by
    rcases List.mem_cons.1 hm with e | hm
    · cases e; exact ⟨z, rfl, h.1, h.2.1⟩
    · exact leHp_get h.2.2 b x hm
  | (k, none) :: r, h, _, _, _ => h.elim
theorem leEnv_get : ∀ {l : List (Nat × AV)}, leEnv s ρ hp l → ∀ t, lkE l t = .c .bot ∨ leA s ρ hp (s.get t) (lkE l t)
  | [], _, t => .inl rfl
  | (k, y) :: r, h, t => by
    simp only [lkE]
    cases hk : k == t with
    | true =>
      have := eq_of_beq hk
      subst this
      exact .inr h.1
    | false => exact leEnv_get h.2 t
theorem keptB_mem : ∀ {l : List (Nat × Option Box)} {k : Nat} {bx : Box}, (k, some bx) ∈ l → bx.fz = false → keptB ρ l (rho ρ k) = true
  | (k', some z) :: r, k, bx, h, hz => by
    simp only [keptB, Bool.or_eq_true, Bool.and_eq_true, Bool.not_eq_true', beq_iff_eq]
    rcases List.mem_cons.1 h with e | h
    · cases e; exact .inl ⟨hz, rfl⟩
    · exact .inr (keptB_mem h hz)
  | (k', none) :: r, k, bx, h, hz => by
    simp only [keptB]
    rcases List.mem_cons.1 h with e | h
    · cases e
    · exact keptB_mem h hz
theorem injR_ok : ∀ {l : List (Nat × Option Box)}, injR ρ l = true → ∀ b x b' x', (b, x) ∈ l → (b', x') ∈ l → rho ρ b = rho ρ b' → b = b'
  | [], _, _, _, _, _, h, _, _ => by simp at h
  | (k, z) :: r, h, b, x, b', x', h1, h2, e => by
    simp only [injR, Bool.and_eq_true, List.all_eq_true, Bool.or_eq_true, Bool.not_eq_true', beq_iff_eq] at h
    rcases List.mem_cons.1 h1 with e1 | h1 <;> rcases List.mem_cons.1 h2 with e2 | h2
    · cases e1; cases e2; rfl
    · cases e1
      rcases h.1 _ h2 with h3 | h3
      · simp only at h3; rw [e] at h3; simp at h3
      · exact h3
    · cases e2
      rcases h.1 _ h1 with h3 | h3
      · simp only at h3; rw [← e] at h3; simp at h3
      · exact h3.symm
    · exact injR_ok h.2 b x b' x' h1 h2 e
theorem preR_ok : ∀ {n : Nat}, preR ρ hp n = true → ∀ b, b < n → rho ρ b = b ∧ keyB hp b = true
  | 0, _, b, h => by omega
  | n + 1, h, b, hb => by
    simp only [preR, Bool.and_eq_true, beq_iff_eq] at h
    by_cases e : b = n
    · subst e; exact h.1
    · exact preR_ok h.2 b (by omega)

theorem ent_of {env' : List (Nat × AV)} {nx' pk' : Nat} (ρ : List (Nat × Nat)) (hE : leEnv s ρ hp env') (hB : leHp s ρ hp nx' hp) (hI : injR ρ hp = true) (hP : preR ρ hp s.np = true) (hpk : s.pk ≤ pk') : Ent s ⟨s.nt, s.np, env', hp, nx', pk'⟩ := by
  intro X a w ⟨β, cp, Rd, h⟩
  generalize hs' : (St.mk s.nt s.np env' hp nx' pk') = s'
  have hbox : ∀ b bx', s'.box b = some bx' → (b, some bx') ∈ hp ∧ leB s ρ hp b bx' ∧ b < nx' := by
    intro b bx' hb
    rw [← hs'] at hb
    simp only [St.box] at hb
    cases hl : lkB hp b with
    | none => rw [hl] at hb; cases hb
    | some x =>
      rw [hl] at hb
      simp only [Option.getD_some] at hb
      subst hb
      have hm := lkB_mem hp b _ hl
      obtain ⟨y, e, h1, h2⟩ := leHp_get hB b _ hm
      cases e
      exact ⟨hm, h1, h2⟩
  have hkq : ∀ b, s'.keyed b ↔ keyB hp b = true := by
    intro b
    rw [← hs']
    simp only [St.keyed, keyB]
    cases lkB hp b <;> simp
  have hkmem : ∀ b, keyB hp b = true → ∃ y, s'.box b = some y ∧ leB s ρ hp b y ∧ b < nx' := by
    intro b hb
    unfold keyB at hb
    split at hb
    · rename_i x hx
      obtain ⟨y, rfl, h1, h2⟩ := leHp_get hB b _ (lkB_mem hp b _ hx)
      exact ⟨y, by rw [← hs']; simp [St.box, hx], h1, h2⟩
    · cases hb
  have hbx : ∀ b y, leB s ρ hp b y → ∃ x, s.box (rho ρ b) = some x ∧ x.k = y.k ∧ x.ty = y.ty ∧ x.row = y.row ∧ (y.fz = false → x.fz = false) ∧ y.es.length = x.es.length ∧ (y.row = true → x.es = y.es) ∧ (y.row = false → leEs s ρ hp x.es y.es) := by
    intro b y hl
    unfold leB at hl
    split at hl
    · rename_i x hx
      obtain ⟨q1, q2, q3, q4, q5⟩ := hl
      refine ⟨x, hx, q1, q2, q3, q4, ?_, fun hr => by rw [hr] at q5; exact q5, fun hr => by rw [hr] at q5; exact q5⟩
      cases hr : y.row with
      | true => rw [hr] at q5; simp only at q5; rw [q5]
      | false => rw [hr] at q5; exact (leEs_get q5).1
    · exact hl.elim
  let β' : Nat → Option Nat := fun b => β (rho ρ b)
  let cp' : Nat → Nat := fun b => cp (rho ρ b)
  have has1 : ∀ g, has s' β' g → has s β g := by
    rintro g ⟨b, bx', h1, h2⟩
    obtain ⟨_, h3, _⟩ := hbox b bx' h1
    obtain ⟨x, h4, _⟩ := hbx b bx' h3
    exact ⟨_, x, h4, h2⟩
  have own1 : ∀ g, owns s' β' g → owns s β g := by
    rintro g ⟨b, bx', h1, hz, h2⟩
    obtain ⟨_, h3, _⟩ := hbox b bx' h1
    obtain ⟨x, h4, _, _, _, h5, _⟩ := hbx b bx' h3
    exact ⟨_, x, h4, h5 hz, h2⟩
  have mt1 : ∀ g, X.mt s' β' Rd g → X.mt s β Rd g := fun g hg => hg.imp id fun hg => hg.imp (own1 g) id
  -- a handle
  have hH : ∀ c b n, hkey c = some (b, n) → keyB hp b = true → ∀ v, hOf s β cp (setId (rho ρ b) c) v → hOf s' β' cp' c v := by
    intro c b n hk hb v hc
    refine ⟨b, n, hk, (hkq b).2 hb, fun bx' hbx' => ?_⟩
    obtain ⟨_, h3, _⟩ := hbox b bx' hbx'
    obtain ⟨x, h4, h5, _, _, _, h6, _⟩ := hbx b bx' h3
    obtain ⟨b0, n0, k1, k2, k3⟩ := hc
    rw [hkey_setId hk] at k1
    cases k1
    rw [h6, ← h5]
    have := k3 x h4
    rwa [hV_setId] at this
  -- a row that is sealed
  have hav : ∀ b, keptB ρ hp b = false → ∀ bx g, s.box b = some bx → β b = some g → ¬ X.mt s' β' Rd g := by
    rintro b hkb bx g hbx0 hg (h1 | ⟨b', bx', h1, hz, h2⟩ | h1)
    · exact h.own_av g ⟨b, bx, hbx0, hg⟩ h1
    · obtain ⟨hm, h3, _⟩ := hbox b' bx' h1
      obtain ⟨x, h4, _⟩ := hbx b' bx' h3
      have := h.inj b (rho ρ b') bx x g hbx0 h4 hg h2
      rw [this, keptB_mem hm hz] at hkb
      cases hkb
    · exact h.own_rd g ⟨b, bx, hbx0, hg⟩ h1
  have hS : ∀ {v : Value} {x : C} {t : Bool} {es : List (List C)}, MC w (X.mt s β Rd) Rd (hOf s β cp) v x → slOf s ρ hp x t es → RC w (X.mt s' β' Rd) v (.sl t es) := by
    intro v x t es hm hl
    unfold slOf at hl
    split at hl
    · rename_i t0 es0
      obtain ⟨rfl, ht⟩ := hl
      exact ((RC.mono (Mt := X.mt s β Rd) hm (fun _ _ _ => rfl) (Nat.le_refl _) fun g _ hg => mt1 g hg).weak ht)
    · subst hl
      cases hm with
      | v _ _ => exact (RC.sl true [] 0 none ⟨0, 0, none⟩ 0 0 rfl (fun _ => rfl) (Nat.le_refl _) (by simp [maxLen]) (by simp) (fun h => absurd rfl h) (fun _ _ => undef) (by simp) (by simp)).weak (fun _ => rfl)
    · rename_i b n t0
      split at hl
      · rename_i bx hbx0
        obtain ⟨hr, hn, rfl, ht, hkb⟩ := hl
        have := seal_ok (Mt' := X.mt s' β' Rd) (Rd' := Rd) (H' := fun _ _ => False) h (fun g _ hg => mt1 g hg) (fun _ h => h) (ids := [b]) (fun b' hb' bx' g h1 h2 => by simp only [List.mem_singleton] at hb'; subst hb'; exact hav b' hkb bx' g h1 h2) hm (by simp only [sealOk, hbx0]; exact hn) (by simp [rowIds])
        simp only [sealC, hbx0, hr] at this
        exact RC.weak this ht
      · exact hl.elim
    · rename_i b n lo hi
      split at hl
      · rename_i bx hbx0
        obtain ⟨hr, hn, rfl, ht, hkb⟩ := hl
        have := seal_ok (Mt' := X.mt s' β' Rd) (Rd' := Rd) (H' := fun _ _ => False) h (fun g _ hg => mt1 g hg) (fun _ h => h) (ids := [b]) (fun b' hb' bx' g h1 h2 => by simp only [List.mem_singleton] at hb'; subst hb'; exact hav b' hkb bx' g h1 h2) hm (by simp only [sealOk, hbx0]; exact hn) (by simp [rowIds])
        simp only [sealC, hbx0, hr] at this
        rw [ht]
        exact this
      · exact hl.elim
    · exact hl.elim
  have hC0 : ∀ {v : Value} {x y : C}, MC0 w (X.mt s β Rd) Rd (hOf s β cp) v x → leC0 s ρ hp x y → MC0 w (X.mt s' β' Rd) Rd (hOf s' β' cp') v y := by
    intro v x y hm hl
    cases y with
    | bot => trivial
    | own b n t =>
      cases x <;> simp only [leC0] at hl
      obtain ⟨rfl, rfl, ht, hb⟩ := hl
      refine ⟨hm.1, hH (.own b _ t) b _ rfl hb v ?_⟩
      obtain ⟨b0, n0, k1, k2, k3⟩ := hm.2
      cases k1
      refine ⟨_, _, rfl, k2, fun bx hbx0 => ?_⟩
      obtain ⟨k4, k5⟩ := k3 bx hbx0
      refine ⟨k4, fun hn => (k5 hn).imp id fun ⟨g, c, q1, q2, q3, q4, q5⟩ => ⟨g, c, q1, q2, q3, q4, fun h => q5 (ht h)⟩⟩
    | vw b n lo hi =>
      cases x <;> simp only [leC0] at hl
      obtain ⟨rfl, rfl, rfl, rfl, hb⟩ := hl
      exact ⟨hm.1, hH (.vw b _ _ _) b _ rfl hb v hm.2⟩
    | ptr b n i off =>
      cases x <;> simp only [leC0] at hl
      obtain ⟨rfl, rfl, rfl, rfl, hb⟩ := hl
      exact ⟨hm.1, hH (.ptr b _ _ _) b _ rfl hb v hm.2⟩
    | sl t es => exact hS hm.mc hl
    | fn f caps => exact hl.elim
    | v z =>
      have e : x = .v z := hl
      subst e
      exact RC.mono (Mt := X.mt s β Rd) hm (fun _ _ _ => rfl) (Nat.le_refl _) fun g _ hg => mt1 g hg
    | rp z =>
      have e : x = .rp z := hl
      subst e
      exact RC.mono (Mt := X.mt s β Rd) hm (fun _ _ _ => rfl) (Nat.le_refl _) fun g _ hg => mt1 g hg
    | ex z c =>
      have e : x = .ex z c := hl
      subst e
      exact ⟨hm.1, RC.mono hm.2 (fun _ _ _ => rfl) (Nat.le_refl _) fun g _ hg => mt1 g hg⟩
    | rdr =>
      have e : x = .rdr := hl
      subst e
      exact hm
    | und =>
      have e : x = .und := hl
      subst e
      exact hm
  have hC : ∀ {v : Value} {x y : C}, MC w (X.mt s β Rd) Rd (hOf s β cp) v x → leC s ρ hp x y → MC w (X.mt s' β' Rd) Rd (hOf s' β' cp') v y := by
    intro v x y hm hl
    cases y with
    | fn f caps =>
      cases x <;> simp only [leC] at hl
      obtain ⟨rfl, hl⟩ := hl
      obtain ⟨arr, rfl, hs, hr⟩ := hm
      obtain ⟨q1, q2⟩ := leC0s_get hl
      refine ⟨arr, rfl, by rw [q1]; exact hs, fun j c hj => ?_⟩
      obtain ⟨x, q3, q4⟩ := q2 j c hj
      exact hC0 (hr j x q3) q4
    | bot => trivial
    | sl t es => exact (hS hm hl).mc
    | _ =>
      simp only [leC] at hl
      cases x with
      | fn f caps => simp [leC0] at hl
      | _ => simp only [MC] at hm ⊢; exact hC0 hm hl
  have hA1 : ∀ {v : Value} {x y : AV}, MA1 w (X.mt s β Rd) Rd (hOf s β cp) v x → leA1 s ρ hp x y → MA1 w (X.mt s' β' Rd) Rd (hOf s' β' cp') v y := by
    intro v x y hm hl
    unfold leA1 at hl
    split at hl
    · trivial
    · exact hC hm hl
    · rename_i xs ys
      obtain ⟨arr, rfl, hs, hr⟩ := hm
      obtain ⟨q1, q2⟩ := leCs_get hl
      refine ⟨arr, rfl, by rw [q1]; exact hs, fun j c hj => ?_⟩
      obtain ⟨x, q3, q4⟩ := q2 j c hj
      exact hC (hr j x q3) q4
    · exact hl.elim
  have hA : ∀ {v : Value} {x y : AV}, MA w (X.mt s β Rd) Rd (hOf s β cp) v x → leA s ρ hp x y → MA w (X.mt s' β' Rd) Rd (hOf s' β' cp') v y := by
    intro v x y hm hl
    unfold leA at hl
    split at hl
    · rename_i xs ys
      obtain ⟨arr, rfl, hs, hr⟩ := hm
      obtain ⟨q1, q2⟩ := leAs_get hl
      refine ⟨arr, rfl, by rw [q1]; exact hs, fun j c hj => ?_⟩
      obtain ⟨x, q3, q4⟩ := q2 j c hj
      exact hA1 (hr j x q3) q4
    · obtain ⟨rfl, rfl, hb⟩ := hl
      obtain ⟨g, es, clk, rfl, q1, q2, q3, q4, q5⟩ := hm
      exact ⟨g, es, clk, rfl, hH (.ptr _ 0 0 0) _ 0 rfl hb _ q1, fun hg => q2 (mt1 g hg), q3, q4, q5⟩
    · rename_i hn1 hn2
      cases x with
      | mp b0 k0 =>
        cases y with
        | c y => cases y <;> first | trivial | exact hl.elim
        | agg ys => exact hl.elim
        | tup ys => exact hl.elim
        | mp b1 k1 => exact absurd rfl (hn2 b0 k0 b1 k1 rfl)
      | tup xs =>
        cases y with
        | c y => cases y <;> first | trivial | exact hl.elim
        | agg ys => exact hl.elim
        | tup ys => exact absurd rfl (hn1 xs ys rfl)
        | mp _ _ => exact hl.elim
      | c x =>
        cases y with
        | mp _ _ => exact hl.elim
        | tup ys => exact hl.elim
        | c y => exact hA1 (x := .c x) (y := .c y) hm hl
        | agg ys => exact hA1 (x := .c x) (y := .agg ys) hm hl
      | agg xs =>
        cases y with
        | mp _ _ => exact hl.elim
        | tup ys => exact hl.elim
        | c y => exact hA1 (x := .agg xs) (y := .c y) hm hl
        | agg ys => exact hA1 (x := .agg xs) (y := .agg ys) hm hl
  have e1 : s'.env = env' ∧ s'.nt = s.nt ∧ s'.np = s.np ∧ s'.nx = nx' ∧ s'.pk = pk' := by rw [← hs']; exact ⟨rfl, rfl, rfl, rfl, rfl⟩
  refine ⟨β', cp', Rd, ?_⟩
  exact {
    defers := h.defers
    size := by rw [e1.2.1]; exact h.size
    keeps := h.keeps
    fresh := fun b hb => by
      rw [e1.2.2.2.1]
      obtain ⟨y, _, _, h1⟩ := hkmem b ((hkq b).1 hb)
      exact h1
    org := fun b bx' g h1 h2 => by
      obtain ⟨hm, h3, _⟩ := hbox b bx' h1
      obtain ⟨x, h4, _⟩ := hbx b bx' h3
      rcases h.org _ x g h4 h2 with h5 | ⟨q, h5, h6⟩
      · exact .inl h5
      · refine .inr ⟨q, ?_, h6⟩
        have hlt := (List.getElem?_eq_some_iff.1 h5).1
        rw [h.npin] at hlt
        obtain ⟨r1, r2⟩ := preR_ok hP _ hlt
        -- the number that is handed over stays
        obtain ⟨y2, hy2, hl2, _⟩ := hkmem _ r2
        obtain ⟨hm2, _⟩ := hbox _ _ hy2
        have := injR_ok hI b _ (rho ρ b) _ hm hm2 r1.symm
        rw [this]
        exact h5
    own_rd := fun g hg => h.own_rd g (has1 g hg)
    own_av := fun g hg => h.own_av g (has1 g hg)
    rdsame := h.rdsame
    inj := fun b b' bx bx' g h1 h2 h3 h4 => by
      obtain ⟨m1, l1, _⟩ := hbox b bx h1
      obtain ⟨m2, l2, _⟩ := hbox b' bx' h2
      obtain ⟨x, k1, _⟩ := hbx b bx l1
      obtain ⟨x', k2, _⟩ := hbx b' bx' l2
      exact injR_ok hI b _ b' _ m1 m2 (h.inj _ _ x x' g k1 k2 h3 h4)
    rd0 := h.rd0
    rdge := h.rdge
    avlt := h.avlt
    npin := by rw [e1.2.2.1]; exact h.npin
    pin := fun i q hq => by
      have hlt := (List.getElem?_eq_some_iff.1 hq).1
      rw [h.npin] at hlt
      obtain ⟨r1, r2⟩ := preR_ok hP i hlt
      obtain ⟨p1, p2⟩ := h.pin i q hq
      refine ⟨(hkq i).2 r2, fun bx' hb => ?_⟩
      obtain ⟨m1, l1, _⟩ := hbox i bx' hb
      obtain ⟨x, k1, k2, _, _, _, k3, _⟩ := hbx i bx' l1
      rw [r1] at k1
      obtain ⟨p3, p4⟩ := p2 x k1
      rw [k3, ← k2]
      refine ⟨p3, fun hl => ?_⟩
      obtain ⟨p5, p6, p7⟩ := p4 hl
      exact ⟨by simp only [β', r1]; exact p5, by simp only [cp', r1]; exact p6, p7⟩
    rdok := by
      rw [e1.2.2.2.2]
      exact h.rdok.mono (fun _ _ _ => rfl) (Nat.le_refl _) (fun g _ hm => mt1 g hm) (fun _ _ => rfl) hpk
    env := fun t => by
      have e2 : s'.get t = lkE env' t := by rw [← hs']; rfl
      rw [e2]
      rcases leEnv_get hE t with he | he
      · rw [he]; trivial
      · exact hA (h.env t) he
    boxes := fun b bx' hb => by
      obtain ⟨m1, l1, _⟩ := hbox b bx' hb
      obtain ⟨x, k1, k2, k3, k4, k5, k6, k7, k8⟩ := hbx b bx' l1
      rcases h.boxes _ x k1 with (⟨q1, q2, q3⟩ | ⟨g, cur, q1, q2, q4, q5, q6, q7, q9, q8⟩) | ⟨q1, q2, q3, q4⟩
      rotate_left 2
      · exact .inr ⟨List.eq_nil_of_length_eq_zero (by rw [k6, q1]; rfl), by rw [← k4]; exact q2, q3, q4⟩
      · exact .inl (.inl ⟨q1, List.eq_nil_of_length_eq_zero (by rw [k6, q2]; rfl), by rw [← k4]; exact q3⟩)
      · refine .inl (.inr ⟨g, cur, q1, by rw [← k3]; exact q2, by rw [← k2]; exact q4, by rw [k6]; exact q5, q6, ?_, ?_, ?_⟩)
        · intro e he
          cases hr : bx'.row with
          | true => rw [← k7 hr] at he; rw [← k2]; exact q7 e he
          | false =>
            obtain ⟨i, hi, rfl⟩ := List.getElem_of_mem he
            obtain ⟨x2, r1, r2⟩ := (leEs_get (k8 hr)).2 i _ (List.getElem?_eq_getElem hi)
            rw [(leCs_get r2).1, ← k2]
            exact q7 x2 (List.mem_of_getElem? r1)
        · intro hr
          rw [← k7 hr]
          exact q9 (by rw [k4]; exact hr)
        · intro i j e c he hc
          cases hr : bx'.row with
          | true =>
            rw [← k7 hr] at he
            have := (q8 i j e c he hc).rc (q9 (by rw [k4]; exact hr) e (List.mem_of_getElem? he) c (List.mem_of_getElem? hc))
            rw [k2] at this
            exact (this.mono (fun _ _ _ => rfl) (Nat.le_refl _) fun g _ hg => mt1 g hg).mc
          | false =>
            obtain ⟨x2, r1, r2⟩ := (leEs_get (k8 hr)).2 i e he
            obtain ⟨x3, r3, r4⟩ := (leCs_get r2).2 j c hc
            have := q8 i j x2 x3 r1 r3
            rw [k2] at this
            exact hC this r4 }
end

theorem loopI {tt : Nat → Option TI} {tab : Nat → Option Spec} {dw : Nat → Array Oper → St → (St → Prop) → Prop} {c : Code} {s : St} {Q : Ex → St → Prop} {α : Type} (F : α → St) (Inv : α → Prop) (m : α → Nat) (x0 : α) (h0 : Inv x0) (he : Ent s (F x0))
    (hs : ∀ x, Inv x → runW tt tab Ent dw c (F x) (seqK Q fun s' => ∃ y, Inv y ∧ m y < m x ∧ Ent s' (F y))) : runW tt tab Ent dw (.loop c) s Q := ⟨α, F, Inv, m, x0, h0, he, hs⟩
theorem drawI {tt : Nat → Option TI} {tab : Nat → Option Spec} {ops : Array Oper} {s : St} {K : St → Prop} (p : Plan) (h1 : planOK' tab ops p = true) (h2 : planW tt tab ops K p false s) : drawW tt tab ops s K := ⟨p, h1, h2⟩
end Go.VE
