/- A part of the engine: what operations do to described states, proved sound against the model. No conditions. -/
import Derived.Test.YtofelomoieamoaaW2
set_option linter.unusedSimpArgs false
set_option linter.unusedVariables false
namespace Go.VE
open Go

theorem BoxOK0.mono {w : World} {M M' : Value → C → Prop} {β : Option Nat} {cp : Nat} {bx : Box} (h : BoxOK0 w M β cp bx) (hM : ∀ v c, M v c → M' v c) : BoxOK0 w M' β cp bx := by
  rcases h with h | ⟨g, cur, h1, h2, h4, h5, h6, h7, h9, h8⟩
  · exact .inl h
  · exact .inr ⟨g, cur, h1, h2, h4, h5, h6, h7, h9, fun i j e c he hc => hM _ _ (h8 i j e c he hc)⟩
theorem BoxOK.mono {w : World} {M M' : Value → C → Prop} {β : Option Nat} {cp : Nat} {bx : Box} (h : BoxOK w M β cp bx) (hM : ∀ v c, M v c → M' v c) : BoxOK w M' β cp bx :=
  h.imp (fun h => h.mono hM) id

theorem BoxOK0.heap {w w' : World} {M : Value → C → Prop} {β : Option Nat} {cp : Nat} {bx : Box} (h : BoxOK0 w M β cp bx) (hh : ∀ g, β = some g → w'.heap[g]? = w.heap[g]?) : BoxOK0 w' M β cp bx := by
  rcases h with h | ⟨g, cur, h1, h2, h4, h5, h6, h7, h9, h8⟩
  · exact .inl h
  · exact .inr ⟨g, cur, h1, (hh g h1).trans h2, h4, h5, h6, h7, h9, h8⟩
theorem BoxOK.heap {w w' : World} {M : Value → C → Prop} {β : Option Nat} {cp : Nat} {bx : Box} (h : BoxOK w M β cp bx) (hh : ∀ g, β = some g → w'.heap[g]? = w.heap[g]?) : BoxOK w' M β cp bx :=
  h.imp (fun h => h.heap hh) fun ⟨h1, h2, h0, g, es, clk, h3, h4⟩ => ⟨h1, h2, h0, g, es, clk, h3, (hh g h3).trans h4⟩

theorem BoxOK0.lt {w : World} {M : Value → C → Prop} {β : Option Nat} {cp : Nat} {bx : Box} (h : BoxOK0 w M β cp bx) {g : Nat} (hg : β = some g) : g < w.heap.size := by
  rcases h with ⟨h, _⟩ | ⟨g', cur, h1, h2, _⟩
  · rw [h] at hg; cases hg
  · rw [h1] at hg; cases hg; exact (Array.getElem?_eq_some_iff.1 h2).1
theorem BoxOK.lt {w : World} {M : Value → C → Prop} {β : Option Nat} {cp : Nat} {bx : Box} (h : BoxOK w M β cp bx) {g : Nat} (hg : β = some g) : g < w.heap.size := by
  rcases h with h | ⟨_, _, _, g', es, clk, h1, h2⟩
  · exact h.lt hg
  · rw [h1] at hg; cases hg; exact (Array.getElem?_eq_some_iff.1 h2).1

theorem BoxOK.pure {w : World} {M : Value → C → Prop} {β : Option Nat} {cp : Nat} {bx : Box} (h : BoxOK w M β cp bx) (hr : bx.row = true) : pureEs bx.es := by
  rcases h.two (.inl hr) with ⟨_, h, _⟩ | ⟨g', cur, _, _, _, _, _, _, h, _⟩
  · rw [h]; intro e he; cases he
  · exact h hr

theorem BoxOK.fz {w : World} {M : Value → C → Prop} {β : Option Nat} {cp : Nat} {bx : Box} (h : BoxOK w M β cp bx) (z : Bool) : BoxOK w M β cp { bx with fz := z } := by
  rcases h with (h | ⟨g, cur, h1, h2, h4, h5, h6, h7, h9, h8⟩) | h
  · exact .inl (.inl h)
  · exact .inl (.inr ⟨g, cur, h1, h2, h4, h5, h6, h7, h9, h8⟩)
  · exact .inr h

section
variable {X : Cx} {s : St} {a : Act} {w : World} {β : Nat → Option Nat} {cp : Nat → Nat} {Rd : Nat → Prop}

theorem Good.put (h : Good X s a w β cp Rd) {d : Option Nat} (hd : dstOK s.nt d) {v : Value} {x : AV} (hv : MA w (X.mt s β Rd) Rd (hOf s β cp) v x) : Good X (s.put d x) (a.put d v) w β cp Rd := by
  cases d with
  | none => exact h
  | some d =>
    refine ⟨h.defers, by simpa [Act.put, St.put] using h.size, h.keeps, h.fresh, h.org, h.own_rd, h.own_av, h.rdsame, h.inj, h.rd0, h.rdge, h.avlt, h.npin, h.pin, h.rdok, fun t => ?_, h.boxes⟩
    have hlt : d < a.tmps.size := by rw [h.size]; exact hd
    show MA w (X.mt s β Rd) Rd (hOf s β cp) ((a.tmps.setIfInBounds d v).getD t undef) (lkE ((d, x) :: s.env) t)
    simp only [lkE]
    by_cases e : d = t
    · subst e
      simpa [Array.getElem?_setIfInBounds, hlt] using hv
    · have e' : (d == t) = false := by simpa using e
      rw [e', cond_false]
      have := h.env t
      simpa [Array.getElem?_setIfInBounds, e, St.get] using this

/-- The number of the next box may grow. -/
theorem Good.bump (h : Good X s a w β cp Rd) (n : Nat) : Good X { s with nx := s.nx + n } a w β cp Rd :=
  ⟨h.defers, h.size, h.keeps, fun b hb => Nat.lt_of_lt_of_le (h.fresh b hb) (Nat.le_add_right _ _), h.org, h.own_rd, h.own_av, h.rdsame, h.inj, h.rd0, h.rdge, h.avlt, h.npin, h.pin, h.rdok, h.env, h.boxes⟩

theorem constC_ok {Mt Rd : Nat → Prop} {H : C → Value → Prop} (v : Value) : MC w Mt Rd H v (constC v) := by
  unfold constC
  cases h : v.oneCell' with
  | true => exact RC.v v h
  | false => trivial

theorem const_ok {Mt Rd : Nat → Prop} {H : C → Value → Prop} (v : Value) : MA w Mt Rd H v (ofConst v) := by
  cases v
  case agg cs =>
    refine ⟨cs, rfl, by simp, fun j c hc => ?_⟩
    simp only [List.getElem?_map, Option.map_eq_some_iff] at hc
    obtain ⟨x, hx, rfl⟩ := hc
    have : cs.getD j undef = x := by simp only [Array.getElem?_toList] at hx; simp [Array.getD_eq_getD_getElem?, hx]
    rw [this]
    exact constC_ok x
  case tuple vs => trivial
  all_goals exact RC.v _ rfl

theorem Good.ev (h : Good X s a w β cp Rd) (x : Operand) : MA w (X.mt s β Rd) Rd (hOf s β cp) (a.eval x) (s.ev x) := by
  cases x with
  | tmp t => exact h.env t
  | const v => exact const_ok v
  | global g => trivial
  | func f => exact ⟨#[], rfl, rfl, fun j c hj => by simp at hj⟩

theorem Good.lt (h : Good X s a w β cp Rd) {g : Nat} (hg : has s β g) : g < w.heap.size := by
  obtain ⟨b, bx, h1, h2⟩ := hg
  exact (h.boxes b bx h1).lt h2

/-- The state and the world go on. -/
theorem Good.re (h : Good X s a w β cp Rd) {s' : St} {w' : World} {β' : Nat → Option Nat} {cp' : Nat → Nat} {Rd' : Nat → Prop}
    (henv : s'.env = s.env) (hnt : s'.nt = s.nt) (hnp : s'.np = s.np) (hfresh : ∀ b, s'.keyed b → b < s'.nx) (hos : w'.os = w.os) (htape : w'.tape = w.tape) (hout : w'.output = w.output) (hsz : w.heap.size ≤ w'.heap.size)
    (hkeep : ∀ g, g < w.heap.size → ¬ owns s β g → ¬ Rd g → w'.heap[g]? = w.heap[g]?) (hrd : ∀ g, Rd g → Rd' g) (hrdge : ∀ g, Rd' g → Rd g ∨ w.heap.size ≤ g)
    (howns : ∀ g, owns s' β' g → owns s β g ∨ w.heap.size ≤ g) (horg : ∀ b bx' g, s'.box b = some bx' → β' b = some g → (∃ bx, s.box b = some bx ∧ β b = some g) ∨ w.heap.size ≤ g) (hownrd : ∀ g, has s' β' g → ¬ Rd' g)
    (hsame : ∀ g, X.Rd0 g → RdSame X.rt w w' g)
    (hinj : ∀ b b' bx bx' g, s'.box b = some bx → s'.box b' = some bx' → β' b = some g → β' b' = some g → b = b')
    (hH : ∀ c v, hOf s β cp c v → hOf s' β' cp' c v)
    (hpin : ∀ i q, pinP s β cp i q → pinP s' β' cp' i q)
    (hrdok : RdOK X.rt w' (X.mt s' β' Rd') Rd' s'.pk)
    (hboxes : ∀ b bx, s'.box b = some bx → BoxOK w' (MC w' (X.mt s' β' Rd') Rd' (hOf s' β' cp')) (β' b) (cp' b) bx) : Good X s' a w' β' cp' Rd' := by
  have h0 : X.w0.heap.size ≤ w.heap.size := h.keeps.size
  have hmt : ∀ g, g < w.heap.size → X.mt s' β' Rd' g → X.mt s β Rd g := by
    rintro g hg (hm | hm | hm)
    · exact .inl hm
    · rcases howns g hm with h1 | h1
      · exact .inr (.inl h1)
      · omega
    · rcases hrdge g hm with h1 | h1
      · exact .inr (.inr h1)
      · omega
  have hhas : ∀ g, has s' β' g → has s β g ∨ w.heap.size ≤ g := fun g ⟨b, bx', h1, h2⟩ => (horg b bx' g h1 h2).imp (fun ⟨bx, h3, h4⟩ => ⟨b, bx, h3, h4⟩) id
  refine ⟨h.defers, by rw [hnt]; exact h.size, ?_, hfresh, ?_, hownrd, ?_, fun g hg => (h.rdsame g hg).trans (hsame g hg), hinj, fun g hg => hrd g (h.rd0 g hg), ?_, h.avlt, h.npin.trans hnp.symm, fun i q hq => hpin i q (h.pin i q hq), hrdok, fun t => ?_, hboxes⟩
  · refine ⟨hos.trans h.keeps.os, htape.trans h.keeps.tape, hout.trans h.keeps.output, Nat.le_trans h0 hsz, fun g hg hm => ?_⟩
    refine (hkeep g (by omega) (fun ho => ?_) (fun hr => ?_)).trans (h.keeps.block g hg hm)
    · obtain ⟨b, bx, h1, _, h2⟩ := ho
      rcases h.org b bx g h1 h2 with h1 | ⟨q, h1, h2⟩
      · omega
      · exact hm (.inr ⟨b, q, h1, h2⟩)
    · rcases h.rdge g hr with h1 | h1
      · exact hm (.inl h1)
      · omega
  · intro b bx' g h1 h2
    rcases horg b bx' g h1 h2 with ⟨bx, h3, h4⟩ | h3
    · exact h.org b bx g h3 h4
    · exact .inl (by omega)
  · intro g hg ha
    rcases hhas g hg with h1 | h1
    · exact h.own_av g h1 ha
    · have := h.avlt g ha; omega
  · intro g hg
    rcases hrdge g hg with h1 | h1
    · exact h.rdge g h1
    · exact .inr (by omega)
  · have := h.env t
    unfold St.get at this ⊢
    rw [henv]
    exact this.mono (K := fun _ => True) (fun g hg hm => hkeep g hg (fun ho => hm (.inr (.inl ho))) (fun hr => hm (.inr (.inr hr)))) hsz hmt hrd (avIds_all _) (fun c b n _ _ v => hH c v)

def upd {α : Type} (f : Nat → α) (b : Nat) (x : α) (c : Nat) : α := if c = b then x else f c
theorem upd_same {α : Type} (f : Nat → α) (b : Nat) (x : α) : upd f b x b = x := by simp [upd]
theorem upd_ne {α : Type} (f : Nat → α) {b c : Nat} (x : α) (h : c ≠ b) : upd f b x c = f c := by simp [upd, h]

theorem St.box_set_same (s : St) (b : Nat) (x : Option Box) : (s.setBox b x).box b = x := by simp [St.box, St.setBox, lkB]
theorem St.box_set_ne (s : St) {b c : Nat} (x : Option Box) (h : c ≠ b) : (s.setBox b x).box c = s.box c := by
  have : (b == c) = false := by simp; exact fun e => h e.symm
  simp [St.box, St.setBox, lkB, this]
theorem St.keyed_set (s : St) (b c : Nat) (x : Option Box) : (s.setBox b x).keyed c ↔ c = b ∨ s.keyed c := by
  by_cases h : c = b
  · subst h; simp [St.keyed, St.setBox, lkB]
  · have : (b == c) = false := by simp; exact fun e => h e.symm
    simp [St.keyed, St.setBox, lkB, this, h]
theorem St.keyed_of_box {s : St} {b : Nat} {bx : Box} (h : s.box b = some bx) : s.keyed b := by
  unfold St.box at h
  unfold St.keyed
  cases hl : lkB s.hp b with
  | none => rw [hl] at h; cases h
  | some x => rfl

/-- A handle's meaning goes on. -/
theorem hOf.go {s s' : St} {β β' : Nat → Option Nat} {cp cp' : Nat → Nat} {c : C} {v : Value} (h : hOf s β cp c v) (hkey : ∀ b, s.keyed b → s'.keyed b)
    (hb : ∀ b, s.keyed b → ∀ bx', s'.box b = some bx' → ∃ bx, s.box b = some bx ∧ ((bx'.es.length = bx.es.length ∧ β' b = β b ∧ cp' b = cp b ∧ bx'.k = bx.k) ∨ bx.es.length < bx'.es.length)) : hOf s' β' cp' c v := by
  obtain ⟨b, n, h1, h2, h3⟩ := h
  refine ⟨b, n, h1, hkey b h2, fun bx' hbx' => ?_⟩
  obtain ⟨bx, h4, h5⟩ := hb b h2 bx' hbx'
  obtain ⟨h6, h7⟩ := h3 bx h4
  rcases h5 with ⟨e1, e2, e3, e4⟩ | h5
  · rw [e1, e2, e3, e4]; exact ⟨h6, h7⟩
  · exact ⟨by omega, fun hn => by omega⟩
theorem hOf.at {s : St} {β : Nat → Option Nat} {cp : Nat → Nat} {c : C} {v : Value} {b n : Nat} {bx : Box} (h : hOf s β cp c v) (hk : hkey c = some (b, n)) (hbx : s.box b = some bx) (hn : n = bx.es.length) : hV (β b) (cp b) bx.k c v := by
  obtain ⟨b', n', h1, _, h2⟩ := h
  rw [hk] at h1
  cases h1
  exact (h2 bx hbx).2 hn
theorem hOf.keyed {s : St} {β : Nat → Option Nat} {cp : Nat → Nat} {c : C} {v : Value} {b n : Nat} (h : hOf s β cp c v) (hk : hkey c = some (b, n)) : s.keyed b := by
  obtain ⟨b', n', h1, h3, h2⟩ := h
  rw [hk] at h1
  cases h1
  exact h3
theorem hOf.mk {s : St} {β : Nat → Option Nat} {cp : Nat → Nat} {c : C} {v : Value} {b n : Nat} {bx : Box} (hk : hkey c = some (b, n)) (hbx : s.box b = some bx) (hle : n ≤ bx.es.length) (h : n = bx.es.length → hV (β b) (cp b) bx.k c v) : hOf s β cp c v :=
  ⟨b, n, hk, St.keyed_of_box hbx, fun bx' hb => by rw [hbx] at hb; cases hb; exact ⟨hle, h⟩⟩
theorem pinP.go {s s' : St} {β β' : Nat → Option Nat} {cp cp' : Nat → Nat} {i : Nat} {q : Box × Option Nat × Nat} (h : pinP s β cp i q) (hkey : ∀ b, s.keyed b → s'.keyed b)
    (hb : ∀ b, s.keyed b → ∀ bx', s'.box b = some bx' → ∃ bx, s.box b = some bx ∧ ((bx'.es.length = bx.es.length ∧ β' b = β b ∧ cp' b = cp b ∧ bx'.k = bx.k) ∨ bx.es.length < bx'.es.length)) : pinP s' β' cp' i q := by
  obtain ⟨h2, h3⟩ := h
  refine ⟨hkey i h2, fun bx' hbx' => ?_⟩
  obtain ⟨bx, h4, h5⟩ := hb i h2 bx' hbx'
  obtain ⟨h6, h7⟩ := h3 bx h4
  rcases h5 with ⟨e1, e2, e3, e4⟩ | h5
  · rw [e1, e2, e3, e4]; exact ⟨h6, h7⟩
  · exact ⟨by omega, fun hn => by omega⟩

/-- One box is laid, or turned. -/
theorem Good.updM (h : Good X s a w β cp Rd) {w' : World} (b : Nat) (bx' : Box) (βb : Option Nat) (cpb : Nat) (hnx : b < s.nx)
    (hb : ¬ s.keyed b ∨ ∃ bx, s.box b = some bx ∧ (bx'.fz = false → bx.fz = false) ∧ ((bx'.es.length = bx.es.length ∧ βb = β b ∧ cpb = cp b ∧ bx'.k = bx.k) ∨ bx.es.length < bx'.es.length))
    (hw : Keeps (fun g => ∃ bx, s.box b = some bx ∧ bx.fz = false ∧ β b = some g) w w')
    (hβ : ∀ g, βb = some g → w.heap.size ≤ g ∨ (∃ bx, s.box b = some bx ∧ β b = some g))
    (hbox : BoxOK w' (MC w (X.mt s β Rd) Rd (hOf s β cp)) βb cpb bx') :
    Good X (s.setBox b (some bx')) a w' (VE.upd β b βb) (VE.upd cp b cpb) Rd := by
  have hfz : ∀ bx, s.box b = some bx → bx'.fz = false → bx.fz = false := by
    intro bx hbx hf
    rcases hb with hn | ⟨bx0, h0, h1, _⟩
    · exact absurd (St.keyed_of_box hbx) hn
    · rw [hbx] at h0; cases h0; exact h1 hf
  have hkeep : ∀ g, g < w.heap.size → ¬ owns s β g → ¬ Rd g → w'.heap[g]? = w.heap[g]? := fun g hg ho _ =>
    hw.block g hg fun ⟨bx, h1, h2, h3⟩ => ho ⟨b, bx, h1, h2, h3⟩
  have hown : ∀ g, owns (s.setBox b (some bx')) (VE.upd β b βb) g → owns s β g ∨ w.heap.size ≤ g := by
    rintro g ⟨c, bx, h1, h2, h3⟩
    by_cases e : c = b
    · subst e
      rw [St.box_set_same] at h1
      cases h1
      rw [upd_same] at h3
      rcases hβ g h3 with h4 | ⟨bx, h4, h5⟩
      · exact .inr h4
      · exact .inl ⟨c, bx, h4, hfz bx h4 h2, h5⟩
    · rw [St.box_set_ne _ _ e] at h1
      rw [upd_ne _ _ e] at h3
      exact .inl ⟨c, bx, h1, h2, h3⟩
  have horg : ∀ c bx2 g, (s.setBox b (some bx')).box c = some bx2 → VE.upd β b βb c = some g → (∃ bx, s.box c = some bx ∧ β c = some g) ∨ w.heap.size ≤ g := by
    intro c bx2 g h1 h3
    by_cases e : c = b
    · subst e
      rw [upd_same] at h3
      exact (hβ g h3).elim .inr .inl
    · rw [St.box_set_ne _ _ e] at h1
      rw [upd_ne _ _ e] at h3
      exact .inl ⟨bx2, h1, h3⟩
  have hk1 : ∀ c, s.keyed c → (s.setBox b (some bx')).keyed c := fun c hc => (St.keyed_set s b c _).2 (.inr hc)
  have hk2 : ∀ c, s.keyed c → ∀ bx2, (s.setBox b (some bx')).box c = some bx2 → ∃ bx, s.box c = some bx ∧ ((bx2.es.length = bx.es.length ∧ VE.upd β b βb c = β c ∧ VE.upd cp b cpb c = cp c ∧ bx2.k = bx.k) ∨ bx.es.length < bx2.es.length) := by
    intro c hc bx2 h1
    by_cases e : c = b
    · subst e
      rw [St.box_set_same] at h1
      cases h1
      rw [upd_same, upd_same]
      rcases hb with hn | ⟨bx, h3, _, h4⟩
      · exact absurd hc hn
      · exact ⟨bx, h3, h4⟩
    · rw [St.box_set_ne _ _ e] at h1
      rw [upd_ne _ _ e, upd_ne _ _ e]
      exact ⟨bx2, h1, .inl ⟨rfl, rfl, rfl, rfl⟩⟩
  have hH : ∀ c v, hOf s β cp c v → hOf (s.setBox b (some bx')) (VE.upd β b βb) (VE.upd cp b cpb) c v := fun c v hc => hc.go hk1 hk2
  have hmt : ∀ g, g < w.heap.size → X.mt (s.setBox b (some bx')) (VE.upd β b βb) Rd g → X.mt s β Rd g := by
    rintro g hg (hm | hm | hm)
    · exact .inl hm
    · rcases hown g hm with h1 | h1
      · exact .inr (.inl h1)
      · omega
    · exact .inr (.inr hm)
  have hrdlt : ∀ g, Rd g → g < w.heap.size := fun g hg => (h.rdok g hg).1
  have hM : ∀ v c, MC w (X.mt s β Rd) Rd (hOf s β cp) v c → MC w' (X.mt (s.setBox b (some bx')) (VE.upd β b βb) Rd) Rd (hOf (s.setBox b (some bx')) (VE.upd β b βb) (VE.upd cp b cpb)) v c := fun v c hc =>
    hc.mono (K := fun _ => True) (fun g hg hm => hkeep g hg (fun ho => hm (.inr (.inl ho))) (fun hr => hm (.inr (.inr hr)))) hw.size hmt (fun _ h => h) (cIds_all c) (fun c _ _ _ _ v => hH c v)
  refine h.re rfl rfl rfl (fun c hc => ?_) hw.os hw.tape hw.output hw.size hkeep (fun _ h => h) (fun _ h => .inl h) hown horg ?_ ?_ ?_ hH (fun i q hq => hq.go hk1 hk2) ?_ ?_
  · rcases (St.keyed_set s b c _).1 hc with rfl | h1
    · exact hnx
    · exact h.fresh c h1
  · intro g hg hr
    obtain ⟨c, bx2, h1, h2⟩ := hg
    rcases horg c bx2 g h1 h2 with ⟨bx, h3, h4⟩ | h1
    · exact h.own_rd g ⟨c, bx, h3, h4⟩ hr
    · have := hrdlt g hr; omega
  · intro g hg
    obtain ⟨_, bv, p, bs, h1, _⟩ := h.rdok g (h.rd0 g hg)
    exact ⟨bv, p, p, h1, h1.congr (hw.block g (hrdlt g (h.rd0 g hg)) fun ⟨bx, h1, h2, h3⟩ => h.own_rd g ⟨b, bx, h1, h3⟩ (h.rd0 g hg))⟩
  · intro c c' bx bx2 g h1 h2 h3 h4
    by_cases e : c = b <;> by_cases e' : c' = b
    · rw [e, e']
    · exfalso
      subst e
      rw [upd_same] at h3
      rw [upd_ne _ _ e'] at h4
      rw [St.box_set_ne _ _ e'] at h2
      rcases hβ g h3 with h5 | ⟨bx3, h5, h6⟩
      · have := (h.boxes c' bx2 h2).lt h4; omega
      · exact e' (h.inj c' c bx2 bx3 g h2 h5 h4 h6)
    · exfalso
      subst e'
      rw [upd_same] at h4
      rw [upd_ne _ _ e] at h3
      rw [St.box_set_ne _ _ e] at h1
      rcases hβ g h4 with h5 | ⟨bx3, h5, h6⟩
      · have := (h.boxes c bx h1).lt h3; omega
      · exact e (h.inj c c' bx bx3 g h1 h5 h3 h6)
    · rw [upd_ne _ _ e] at h3
      rw [upd_ne _ _ e'] at h4
      rw [St.box_set_ne _ _ e] at h1
      rw [St.box_set_ne _ _ e'] at h2
      exact h.inj c c' bx bx2 g h1 h2 h3 h4
  · refine h.rdok.mono (fun g hg hm => hkeep g hg (fun ho => hm (.inr (.inl ho))) (fun hr => hm (.inr (.inr hr)))) hw.size hmt (fun g hg => ?_) (Nat.le_refl _)
    exact hw.block g (hrdlt g hg) fun ⟨bx, h1, h2, h3⟩ => h.own_rd g ⟨b, bx, h1, h3⟩ hg
  · intro c bx hbx
    by_cases e : c = b
    · subst e
      rw [St.box_set_same] at hbx
      cases hbx
      rw [upd_same, upd_same]
      exact hbox.mono hM
    · rw [St.box_set_ne _ _ e] at hbx
      rw [upd_ne _ _ e, upd_ne _ _ e]
      refine ((h.boxes c bx hbx).heap fun g hg => ?_).mono hM
      exact hw.block g ((h.boxes c bx hbx).lt hg) fun ⟨bx2, h1, h2, h3⟩ => e (h.inj c b bx bx2 g hbx h1 hg h3)

theorem Good.upd (h : Good X s a w β cp Rd) {w' : World} (b : Nat) (bx' : Box) (βb : Option Nat) (cpb : Nat) (hnx : b < s.nx)
    (hb : ¬ s.keyed b ∨ ∃ bx, s.box b = some bx ∧ (bx'.fz = false → bx.fz = false) ∧ ((bx'.es.length = bx.es.length ∧ βb = β b ∧ cpb = cp b ∧ bx'.k = bx.k) ∨ bx.es.length < bx'.es.length))
    (hw : Keeps (fun g => ∃ bx, s.box b = some bx ∧ bx.fz = false ∧ β b = some g) w w')
    (hβ : ∀ g, βb = some g → w.heap.size ≤ g ∨ (∃ bx, s.box b = some bx ∧ β b = some g))
    (hbox : BoxOK0 w' (MC w (X.mt s β Rd) Rd (hOf s β cp)) βb cpb bx') :
    Good X (s.setBox b (some bx')) a w' (VE.upd β b βb) (VE.upd cp b cpb) Rd := h.updM b bx' βb cpb hnx hb hw hβ (.inl hbox)

theorem upd_id {α : Type} (f : Nat → α) (b : Nat) : upd f b (f b) = f := funext fun c => by by_cases h : c = b <;> simp [upd, h]

theorem Good.freeze1 (h : Good X s a w β cp Rd) {b : Nat} {bx : Box} (hb : s.box b = some bx) : Good X (s.setBox b (some { bx with fz := true })) a w β cp Rd := by
  have := h.updM (w' := w) b { bx with fz := true } (β b) (cp b) (h.fresh b (St.keyed_of_box hb)) (.inr ⟨bx, hb, (fun h => by cases h), .inl ⟨rfl, rfl, rfl, rfl⟩⟩) (Keeps.refl _ w) (fun g hg => .inr ⟨bx, hb, hg⟩) ((h.boxes b bx hb).fz true)
  rwa [upd_id, upd_id] at this

theorem Good.freeze (h : Good X s a w β cp Rd) : ∀ ids, Good X (freeze s ids) a w β cp Rd := by
  intro ids
  induction ids generalizing s with
  | nil => exact h
  | cons b r ih =>
    unfold VE.freeze
    split
    · rename_i bx hbx; exact ih (h.freeze1 hbx)
    · exact ih h

theorem freeze_env (s : St) : ∀ ids, (VE.freeze s ids).env = s.env ∧ (VE.freeze s ids).nt = s.nt ∧ (VE.freeze s ids).np = s.np ∧ (VE.freeze s ids).nx = s.nx ∧ (VE.freeze s ids).pk = s.pk := by
  intro ids
  induction ids generalizing s with
  | nil => exact ⟨rfl, rfl, rfl, rfl, rfl⟩
  | cons b r ih =>
    unfold VE.freeze
    split
    · exact ih _
    · exact ih _

theorem freeze_box (s : St) : ∀ ids c, (VE.freeze s ids).box c = (s.box c).map fun bx => if c ∈ ids then { bx with fz := true } else bx := by
  intro ids
  induction ids generalizing s with
  | nil => intro c; simp [VE.freeze]
  | cons b r ih =>
    intro c
    unfold VE.freeze
    split
    · rename_i bx hbx
      rw [ih]
      by_cases e : c = b
      · subst e
        rw [St.box_set_same, hbx]
        simp
      · rw [St.box_set_ne _ _ e]
        simp [e]
    · rename_i hbx
      rw [ih]
      by_cases e : c = b
      · subst e; rw [hbx]; rfl
      · simp [e]

theorem freeze_keyed (s : St) : ∀ ids c, (VE.freeze s ids).keyed c ↔ s.keyed c := by
  intro ids
  induction ids generalizing s with
  | nil => intro c; exact Iff.rfl
  | cons b r ih =>
    intro c
    unfold VE.freeze
    split
    · rename_i bx hbx
      rw [ih, St.keyed_set]
      exact ⟨fun h => h.elim (fun e => e ▸ St.keyed_of_box hbx) id, .inr⟩
    · exact ih s c
end
end Go.VE
