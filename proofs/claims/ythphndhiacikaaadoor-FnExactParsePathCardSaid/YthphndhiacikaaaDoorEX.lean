/- Contracts of functions of the program vectorraster, each proved for all states that fit its description. No conditions. -/
import Derived.Test.YthphndhiacikaaaDoorW41
import Derived.Test.YthphndhiacikaaaDoorW40
set_option linter.unusedSimpArgs false
set_option linter.unusedVariables false
section
namespace Go.VE
open Go

/-- A loop, told by what holds of the frame and the world, with a measure. -/
theorem wp_loopJ {P : Program} {Q : Exit → Act → World → Prop} {a : Act} {w : World} {c : Code} (J : Nat → Act → World → Prop) (n0 : Nat) (h0 : J n0 a w)
    (round : ∀ n a w, J n a w → c.wp P (Exit.then (fun a' w' => ∃ m, m < n ∧ J m a' w') Q) a w) : (Code.loop c).wp P Q a w := by
  intro b k cs
  have key : ∀ n (a : Act) (w : World), J n a w →
      ∃ e a' w', Q e a' w' ∧ Arrives P (lone (b.at a (.code c :: .inLoop c :: k)) cs w) b k cs e a' w' := by
    intro n
    induction n using Nat.strongRecOn with
    | _ n IH =>
      intro a w hR
      obtain ⟨e, a₁, w₁, hq1, harr⟩ := round n a w hR b (.inLoop c :: k) cs
      cases e with
      | normal =>
        obtain ⟨m, g1, g2⟩ := hq1
        obtain ⟨e₂, a₂, w₂, hq₂, harr₂⟩ := IH m g1 a₁ w₁ g2
        exact ⟨e₂, a₂, w₂, hq₂, .of_steps (Steps.trans harr (.one step_inLoop)) harr₂⟩
      | exit id => exact ⟨_, a₁, w₁, hq1, .pass (x := .inLoop c) rfl (fun _ _ => .inl (by simp)) harr⟩
      | goto l => exact ⟨_, a₁, w₁, hq1, .pass (x := .inLoop c) rfl (fun _ _ => .inl (by simp)) harr⟩
      | ret => exact ⟨_, a₁, w₁, hq1, .pass (x := .inLoop c) rfl (fun _ _ => .inl (by simp)) harr⟩
      | panic ch => exact ⟨_, a₁, w₁, hq1, .pass (x := .inLoop c) rfl (fun _ _ => .inl (by simp)) harr⟩
      | outgrown => exact ⟨_, a₁, w₁, hq1, .pass (x := .inLoop c) rfl (fun _ _ => .inl (by simp)) harr⟩
  obtain ⟨e, a', w', hq', harr⟩ := key n0 a w h0
  exact ⟨e, a', w', hq', .of_steps (.one step_loop) harr⟩

def noB (_ : Nat) : Prop := False
def insH (ins : List Box) (β : Nat → Option Nat) (g : Nat) : Prop := has (expSt ins) β g
/-- The state of which a part of a text is walked. -/
def cutSt (nt : Nat) (env : List (Nat × AV)) (ins : List Box) : St := ⟨nt, ins.length, env, expHp 0 ins, ins.length, 0⟩
def cutX (rt : RT) (w : World) (ins : List Box) (β : Nat → Option Nat) (cp : Nat → Nat) : Cx := ⟨rt, w, noB, noB, entPins ins β cp, [], w, fun _ => False⟩
theorem cut_box (nt : Nat) (env : List (Nat × AV)) (ins : List Box) (b : Nat) : (cutSt nt env ins).box b = ins[b]? := exp_box ins b

/-- A frame and a world fit a state, told part by part. -/
structure Cut (rt : RT) (env : List (Nat × AV)) (ins : List Box) (a : Act) (w : World) (β : Nat → Option Nat) (cp : Nat → Nat) : Prop where
  df : a.defers = []
  glob : rt.ok w ∧ ∀ g ∈ rt.F, g < w.heap.size ∧ ¬ insH ins β g
  env : ∀ t, MA w (insH ins β) noB (hOf (expSt ins) β cp) (a.tmps.getD t undef) (lkE env t)
  boxes : ∀ b bx, ins[b]? = some bx → bx.fz = false ∧ BoxOK w (MC w (insH ins β) noB (hOf (expSt ins) β cp)) (β b) (cp b) bx
  inj : ∀ b b' bx bx' g, ins[b]? = some bx → ins[b']? = some bx' → β b = some g → β b' = some g → b = b'

theorem Cut.good {rt : RT} {env : List (Nat × AV)} {ins : List Box} {a : Act} {w : World} {β : Nat → Option Nat} {cp : Nat → Nat} (h : Cut rt env ins a w β cp) :
    Good (cutX rt w ins β cp) (cutSt a.tmps.size env ins) a w β cp noB := by
  have hav : ∀ g, avIn noB ins β g → insH ins β g := fun g h => h.elim (fun h => h.elim) id
  have T : Takes rt w noB noB 0 [] #[] ins β cp := {
    glob := ⟨h.glob.1, fun g hg => ⟨(h.glob.2 g hg).1, fun h => h, (h.glob.2 g hg).2⟩⟩
    rdav := fun g h => h
    avlt := fun g h => h.elim
    pasav := fun g _ h => h
    rdok := fun g h => h.elim
    size := rfl
    args := fun j x hx => by simp at hx
    boxes := fun b bx hb => ⟨(h.boxes b bx hb).1, (h.boxes b bx hb).2.mono fun v c hc => hc.mono (K := fun _ => True) (fun _ _ _ => rfl) (Nat.le_refl _) (fun g _ hm => hav g hm) (fun _ h => h) (cIds_all c) (fun c _ _ _ _ v h => h)⟩
    inj := h.inj }
  have G := good_entry (nt := 0) T (Nat.le_refl 0)
  have hmt : ∀ g, Cx.mt (cutX rt w ins β cp) (cutSt a.tmps.size env ins) β noB g → insH ins β g := by
    rintro g (h | h | h)
    · exact h.elim
    · exact h.has
    · exact h.elim
  exact {
    defers := h.df
    size := rfl
    keeps := G.keeps
    fresh := G.fresh
    org := G.org
    own_rd := G.own_rd
    own_av := G.own_av
    rdsame := G.rdsame
    inj := G.inj
    rd0 := G.rd0
    rdge := G.rdge
    avlt := G.avlt
    npin := G.npin
    pin := G.pin
    rdok := G.rdok
    env := fun t => (h.env t).mono (K := fun _ => True) (fun _ _ _ => rfl) (Nat.le_refl _) (fun g _ hm => hmt g hm) (fun _ h => h) (avIds_all _) (fun c _ _ _ _ v h => h)
    boxes := G.boxes
    glob := G.glob
    kept := G.kept }

/-- Where each part of a cut's state comes from. -/
structure CutEnd (rt : RT) (ins : List Box) (a : Act) (w w' : World) (β0 : Nat → Option Nat) (cp0 : Nat → Nat) (s : St) : Prop where
  df : a.defers = []
  size : a.tmps.size = s.nt
  keeps : Keeps (insH ins β0) w w'
  ex : ∃ β cp, Good (cutX rt w ins β0 cp0) s a w' β cp noB

theorem Good.cut_end {rt : RT} {ins : List Box} {a : Act} {w w' : World} {β0 β : Nat → Option Nat} {cp0 cp : Nat → Nat} {Rd : Nat → Prop} {s : St} (G : Good (cutX rt w ins β0 cp0) s a w' β cp Rd) : Keeps (insH ins β0) w w' ∧ a.defers = [] := by
  refine ⟨G.keeps.mono fun g _ hg => ?_, G.defers⟩
  rcases hg with hg | ⟨i, q, hq, h2⟩
  · exact hg.elim
  · obtain ⟨bx, p1, rfl⟩ := entPins_get hq
    exact ⟨i, bx, by rw [exp_box]; exact p1, h2⟩

/-- A part of a text, walked by the engine from a frame and a world. -/
theorem Cut.run {P : Program} {rt : RT} {tt : Nat → Option TI} {tab : Nat → Option Spec} (hm : P.follows .mixedOrders = true) (htt : TTok P tt) (htab : TabOK P rt tab) {sq : Nat → Bool} {c : Code} (hsq : allDB (dwOK tab sq) c = true)
    {env : List (Nat × AV)} {ins : List Box} {a : Act} {w : World} {β : Nat → Option Nat} {cp : Nat → Nat} (h : Cut rt env ins a w β cp) {nt : Nat} (hnt : a.tmps.size = nt) {Q' : Ex → St → Prop} {Q : Exit → Act → World → Prop}
    (hrun : runW tt tab Ent (dwS tt tab sq) c (cutSt nt env ins) Q') (hq : QR (cutX rt w ins β cp) Q' Q) : c.wp P Q a w := by
  subst hnt
  exact runW_sound (X := cutX rt w ins β cp) htt htab c (dwS_ok hm htt htab hsq) _ _ _ _ _ ⟨_, _, _, h.good⟩ hrun hq
end Go.VE
end
section
namespace Go.VE
open Go

/-- What a plain cell holds. -/
def MV (v : Value) (c : C) : Prop := (∃ x, c = .v x ∧ v = x ∧ x.oneCell' = true) ∨ (c = .sl true [] ∧ ∃ a, v = .slice a 0 0)
def okX : C → Prop
  | .v _ => True
  | .sl true [] => True
  | _ => False
def pureX (es : List (List C)) : Prop := ∀ e ∈ es, ∀ c ∈ e, okX c
theorem rcnil {w : World} {Mt : Nat → Prop} {f : Bool} {a : Option Addr} : RC w Mt (.slice a 0 0) (.sl f []) :=
  RC.sl f [] 0 a ⟨0, 0, none⟩ 0 0 rfl (fun _ => rfl) (Nat.le_refl _) (by simp [maxLen]) (by simp) (fun h => absurd rfl h) (fun _ _ => undef) (by simp) (by simp)
theorem MV.rc {w : World} {Mt : Nat → Prop} {v : Value} {c : C} (h : MV v c) : RC w Mt v c := by
  rcases h with ⟨x, rfl, rfl, h⟩ | ⟨rfl, a, rfl⟩
  · exact RC.v _ h
  · exact rcnil
theorem MV.mc {w : World} {Mt Rd : Nat → Prop} {H : C → Value → Prop} {v : Value} {c : C} (h : MV v c) : MC w Mt Rd H v c := h.rc.mc
theorem MV.of {w : World} {Mt Rd : Nat → Prop} {H : C → Value → Prop} {v : Value} {c : C} (h : MC w Mt Rd H v c) (hc : okX c) : MV v c := by
  unfold okX at hc
  split at hc
  · have h2 : RC w Mt v (.v _) := h
    cases h2 with
    | v _ hx => exact .inl ⟨_, rfl, rfl, hx⟩
  · have h2 : RC w Mt v (.sl true []) := h
    cases h2 with
    | sl _ _ k a p n cap hn ht _ _ _ _ _ _ _ =>
      have hc := ht rfl
      subst hc
      subst hn
      exact .inr ⟨rfl, a, rfl⟩
  · exact hc.elim
/-- A row of plain cells in a block. -/
def Row (w : World) (β : Option Nat) (cp : Nat) (bx : Box) : Prop := BoxOK0 w MV β cp bx

section
variable {X : Cx} {s : St} {a : Act} {w : World} {β : Nat → Option Nat} {cp : Nat → Nat} {Rd : Nat → Prop}
theorem Good.own_out (h : Good X s a w β cp Rd) {t b n : Nat} {f : Bool} {bx : Box} (ht : s.get t = .c (.own b n f)) (hb : s.box b = some bx) (hn : n = bx.es.length) : hV (β b) (cp b) bx.k (.own 0 n f) (a.tmps.getD t undef) := by
  have := h.env t
  rw [ht] at this
  obtain ⟨_, b', n', hk, _, h2⟩ := this
  cases hk
  exact (h2 bx hb).2 hn
theorem Good.v_out (h : Good X s a w β cp Rd) {t : Nat} {x : Value} (ht : s.get t = .c (.v x)) : a.tmps.getD t undef = x := by
  have := h.env t
  rw [ht] at this
  have h2 : RC w (X.mt s β Rd) (a.tmps.getD t undef) (.v x) := this
  generalize a.tmps.getD t undef = v at h2 ⊢
  cases h2; rfl
theorem Good.sl_out (h : Good X s a w β cp Rd) {t : Nat} {f : Bool} {es : List (List C)} (ht : s.get t = .c (.sl f es)) : RC w noB (a.tmps.getD t undef) (.sl f es) := by
  have := h.env t
  rw [ht] at this
  have h2 : RC w (X.mt s β Rd) (a.tmps.getD t undef) (.sl f es) := this
  exact h2.mono (fun _ _ _ => rfl) (Nat.le_refl _) (fun g _ h => h.elim)
theorem Good.row_out (h : Good X s a w β cp Rd) {b : Nat} {bx : Box} (hb : s.box b = some bx) (hv : pureX bx.es) (hr : bx.row = true) : Row w (β b) (cp b) bx := by
  rcases (h.boxes b bx hb).two (.inl hr) with h1 | ⟨g, cur, h1, h2, h4, h5, h6, h7, h9, h8⟩
  · exact .inl h1
  · exact .inr ⟨g, cur, h1, h2, h4, h5, h6, h7, h9, fun i j e c he hc => MV.of (h8 i j e c he hc) (hv e (List.mem_of_getElem? he) c (List.mem_of_getElem? hc))⟩
theorem Good.var_out (h : Good X s a w β cp Rd) {b : Nat} {bx : Box} (hb : s.box b = some bx) (hne : bx.es ≠ []) : ∃ g cur, β b = some g ∧ w.heap[g]? = some (.cells cur bx.ty (0, 0)) ∧ cur.size = cp b * bx.k ∧ bx.es.length ≤ cp b ∧ cp b ≤ maxLen ∧ (∀ e ∈ bx.es, e.length = bx.k) ∧ ∀ i j e c, bx.es[i]? = some e → e[j]? = some c → MC w (X.mt s β Rd) Rd (hOf s β cp) (cur.getD (i * bx.k + j) undef) c := by
  rcases (h.boxes b bx hb).two (.inr hne) with ⟨_, h1, _⟩ | ⟨g, cur, h1, h2, h4, h5, h6, h7, h9, h8⟩
  · exact absurd h1 hne
  · exact ⟨g, cur, h1, h2, h4, h5, h6, h7, h8⟩
/-- The value of a cell that is a handle. -/
theorem Good.cell_own (_ : Good X s a w β cp Rd) {v : Value} {b n : Nat} {f : Bool} {bx : Box} (hm : MC w (X.mt s β Rd) Rd (hOf s β cp) v (.own b n f)) (hb : s.box b = some bx) (hn : n = bx.es.length) : hV (β b) (cp b) bx.k (.own 0 n f) v ∧ v.oneCell' = true := by
  obtain ⟨h1, b', n', hk, _, h2⟩ := hm
  cases hk
  exact ⟨(h2 bx hb).2 hn, h1⟩
end
theorem org_new {rt : RT} {w w' : World} {ins : List Box} {β0 : Nat → Option Nat} {cp0 : Nat → Nat} {s : St} {a : Act} {β : Nat → Option Nat} {cp : Nat → Nat} {Rd : Nat → Prop} (h : Good (cutX rt w ins β0 cp0) s a w' β cp Rd) {b : Nat} {bx : Box} {g : Nat} (hb : s.box b = some bx) (hg : β b = some g) : w.heap.size ≤ g ∨ (b < ins.length ∧ β0 b = some g) := by
  rcases h.org b bx g hb hg with h1 | ⟨q, h1, h2⟩
  · exact .inl h1
  · obtain ⟨bx', p1, rfl⟩ := entPins_get h1
    exact .inr ⟨(List.getElem?_eq_some_iff.1 p1).1, h2⟩
theorem RC.old {w : World} {v : Value} {c : C} (h : RC w noB v c) : RC w (fun g => w.heap.size ≤ g) v c := h.mono (fun _ _ _ => rfl) (Nat.le_refl _) (fun g h1 h2 => by omega)
theorem RC.keep {w w' : World} {M Mt : Nat → Prop} {v : Value} {c : C} (h : RC w Mt v c) (hk : Keeps M w w') (hM : ∀ g, M g → Mt g) : RC w' Mt v c := h.mono (fun g h1 h2 => hk.block g h1 fun h3 => h2 (hM g h3)) hk.size (fun g _ h => h)
theorem RC.less {w : World} {M Mt : Nat → Prop} {v : Value} {c : C} (h : RC w Mt v c) (hM : ∀ g, M g → Mt g) : RC w M v c := h.mono (fun g h1 h2 => rfl) (Nat.le_refl _) (fun g _ h => hM g h)
/-- A frame fits a list of slots. -/
def EnvOK (w : World) (Mt : Nat → Prop) (H : C → Value → Prop) (a : Act) (env : List (Nat × AV)) : Prop := ∀ t, MA w Mt noB H (a.tmps.getD t undef) (lkE env t)
theorem EnvOK.nil {w : World} {Mt : Nat → Prop} {H : C → Value → Prop} {a : Act} : EnvOK w Mt H a [] := fun _ => trivial
theorem EnvOK.cons {w : World} {Mt : Nat → Prop} {H : C → Value → Prop} {a : Act} {env : List (Nat × AV)} {k : Nat} {x : AV} (h : MA w Mt noB H (a.tmps.getD k undef) x) (r : EnvOK w Mt H a env) : EnvOK w Mt H a ((k, x) :: env) := fun t => by
  unfold lkE
  by_cases e : k = t
  · subst e; simp only [beq_self_eq_true, cond_true]; exact h
  · have : (k == t) = false := by simpa using e
    rw [this, cond_false]; exact r t
theorem ma_v {w : World} {Mt : Nat → Prop} {H : C → Value → Prop} {v x : Value} (h : v = x) (h1 : x.oneCell' = true) : MA w Mt noB H v (.c (.v x)) := by
  subst h; exact RC.v _ h1
theorem ma_sl {w : World} {Mt : Nat → Prop} {H : C → Value → Prop} {v : Value} {f : Bool} {es : List (List C)} (h : RC w Mt v (.sl f es)) : MA w Mt noB H v (.c (.sl f es)) := h
theorem ma_own {w : World} {Mt : Nat → Prop} {ins : List Box} {β : Nat → Option Nat} {cp : Nat → Nat} {v : Value} {b n : Nat} {f : Bool} {bx : Box} (hb : ins[b]? = some bx) (hn : n = bx.es.length) (h : hV (β b) (cp b) bx.k (.own 0 n f) v) : MA w Mt noB (hOf (expSt ins) β cp) v (.c (.own b n f)) := by
  refine ⟨hV_one h, b, n, rfl, (exp_keyed ins b).2 (List.getElem?_eq_some_iff.1 hb).1, fun bx' hbx' => ?_⟩
  rw [exp_box, hb] at hbx'
  cases hbx'
  exact ⟨by omega, fun _ => h⟩
theorem insH_nil {β : Nat → Option Nat} {g : Nat} (h : insH [] β g) : False := by
  obtain ⟨b, bx, h1, _⟩ := h; rw [exp_box] at h1; simp at h1
theorem insH_one {bx : Box} {β : Nat → Option Nat} {g : Nat} (h : insH [bx] β g) : β 0 = some g := by
  obtain ⟨b, bx', h1, h2⟩ := h; rw [exp_box] at h1
  cases b with
  | zero => exact h2
  | succ n => simp at h1
theorem insH_two {bx by' : Box} {β : Nat → Option Nat} {g : Nat} (h : insH [bx, by'] β g) : β 0 = some g ∨ β 1 = some g := by
  obtain ⟨b, bx', h1, h2⟩ := h; rw [exp_box] at h1
  match b with
  | 0 => exact .inl h2
  | 1 => exact .inr h2
  | n + 2 => simp at h1
/-- A row is read, where none writes to it. -/
theorem Row.rc {w : World} {Mt : Nat → Prop} {go : Option Nat} {cp k ty : Nat} {es es' : List (List C)} {f r z : Bool} {v : Value} {n : Nat} (hv : hV go cp k (.own 0 n f) v) (hr : BoxOK0 w MV go cp ⟨es, k, ty, r, z⟩) (hn : n = es.length) (hl : es'.length = es.length) (hk : ∀ e ∈ es', e.length = k)
    (hM : ∀ g, go = some g → ¬ Mt g) (hc : ∀ (i j : Nat) (e : List C) (c : C), es'[i]? = some e → e[j]? = some c → ∃ (e0 : List C) (c0 : C), es[i]? = some e0 ∧ e0[j]? = some c0 ∧ ∀ v, MV v c0 → RC w Mt v c) : RC w Mt v (.sl f es') := by
  subst hn
  rcases hr with ⟨h1, h2, _⟩ | ⟨g, cur, h1, h2, h4, h5, h6, h7, h9, h8⟩
  · simp only at h2
    subst h2
    have he : es' = [] := List.eq_nil_of_length_eq_zero hl
    subst he
    rcases hv with ⟨_, _, a, rfl⟩ | ⟨g, c, q1, _⟩
    · exact RC.sl f [] k a ⟨0, 0, none⟩ 0 0 rfl (fun _ => rfl) (Nat.le_refl _) (by simp [maxLen]) (by simp) (fun h => absurd rfl h) (fun _ _ => undef) (by simp) (by simp)
    · rw [h1] at q1; cases q1
  · rcases hv with ⟨q1, _⟩ | ⟨g', c, q1, rfl, q3, q4, q5⟩
    · rw [h1] at q1; cases q1
    rw [h1] at q1
    cases q1
    simp only at h2 h4 h5 h7 h8 q3 q4 q5
    refine RC.sl f es' k _ ⟨g, 0, none⟩ es.length c hl.symm q5 q3 (by omega) hk (fun _ => ⟨rfl, rfl, hM g h1, (Array.getElem?_eq_some_iff.1 h2).1⟩) (fun i j => cur.getD (i * k + j) undef) (fun i j e cc he hcc => ?_) (fun i j e cc he hcc => ?_)
    · have hil := (List.getElem?_eq_some_iff.1 he).1
      have hjl := (List.getElem?_eq_some_iff.1 hcc).1
      rw [hk e (List.mem_of_getElem? he)] at hjl
      have hr := row_lt (m := cp) (sz := k) (i := i) (j := j) (by omega) hjl
      rw [cell_of_row w g _ cur ty (0, 0) h2]
      have : i * k + j < cur.size := by rw [h4]; omega
      simp [this]
    · obtain ⟨e0, c0, k1, k2, k3⟩ := hc i j e cc he hcc
      exact k3 _ (h8 i j e0 _ k1 k2)
theorem Row.keep {w w' : World} {M : Nat → Prop} {go : Option Nat} {cp : Nat} {bx : Box} (h : Row w go cp bx) (hk : Keeps M w w') (hM : ∀ g, go = some g → ¬ M g) : Row w' go cp bx := BoxOK0.heap h fun g hg => hk.block g (BoxOK0.lt h hg) (hM g hg)
end Go.VE
end
section
namespace Go.VE
open Go

/-- All that is there stays. -/
def frz (rt : RT) (w1 : World) : RT := ⟨rt.t, List.range w1.heap.size, fun w => ∀ g, g < w1.heap.size → w.heap[g]? = w1.heap[g]?, fun _ _ h k g hg => (h g (List.mem_range.2 hg)).trans (k g hg)⟩
/-- The program's own facts hold in a world. -/
def FrzOK (rt : RT) (w1 : World) : Prop := rt.ok w1 ∧ ∀ g ∈ rt.F, g < w1.heap.size
theorem frz_size {w1 w : World} (h : ∀ g, g < w1.heap.size → w.heap[g]? = w1.heap[g]?) : w1.heap.size ≤ w.heap.size := by
  rcases Nat.lt_or_ge w.heap.size w1.heap.size with hlt | hge
  · have h1 := h w.heap.size hlt
    have h2 : w.heap[w.heap.size]? = none := by simp
    rw [h2] at h1
    have h3 : w1.heap[w.heap.size]? = some w1.heap[w.heap.size] := by simp [hlt]
    rw [h3] at h1; cases h1
  · exact hge
theorem frz_rc {w1 w : World} {v : Value} {c : C} (h : ∀ g, g < w1.heap.size → w.heap[g]? = w1.heap[g]?) (k : RC w1 noB v c) : RC w noB v c :=
  k.mono (fun g hg _ => h g hg) (frz_size h) (fun g _ h => h)
theorem frz_ok {rt : RT} {w1 w : World} (h1 : FrzOK rt w1) (h : ∀ g, g < w1.heap.size → w.heap[g]? = w1.heap[g]?) : FrzOK rt w :=
  ⟨rt.stay w1 w (fun g hg => h g (h1.2 g hg)) h1.1, fun g hg => Nat.lt_of_lt_of_le (h1.2 g hg) (frz_size h)⟩
theorem FrzOK.keep {rt : RT} {w w' : World} {M : Nat → Prop} (h : FrzOK rt w) (hk : Keeps M w w') (hM : ∀ g ∈ rt.F, ¬ M g) : FrzOK rt w' :=
  ⟨rt.stay w w' (fun g hg => hk.block g (h.2 g hg) (hM g hg)) h.1, fun g hg => Nat.lt_of_lt_of_le (h.2 g hg) hk.size⟩

/-- A contract holds where more stays. -/
theorem sat_frz {P : Program} {rt : RT} {w1 : World} {f : FuncId} {sp : Spec} (h : Sat P rt f sp) (h1 : FrzOK rt w1) : Sat P (frz rt w1) f sp := by
  intro w Av Rd pk args vs ins β0 cp0 T hpre hpk
  have T' : Takes rt w Av Rd pk args vs ins β0 cp0 := {
    glob := ⟨(frz_ok h1 T.glob.1).1, fun g hg => ⟨(frz_ok h1 T.glob.1).2 g hg, (T.glob.2 g (List.mem_range.2 (h1.2 g hg))).2⟩⟩
    rdav := T.rdav
    avlt := T.avlt
    pasav := T.pasav
    rdok := T.rdok
    size := T.size
    args := T.args
    boxes := T.boxes
    inj := T.inj }
  refine (h w Av Rd pk args vs ins β0 cp0 T' hpre hpk).mono fun e w' ⟨v, r, bs, β, cp, Rd', h2, h3, G⟩ => ?_
  exact ⟨v, r, bs, β, cp, Rd', h2, h3, ⟨G.keeps, G.few, G.long, G.rd, G.rdge, G.same, G.rdok, G.rdnew, G.value, G.boxes, G.org, G.inj, G.pins⟩⟩

/-- What a call of a function leaves, told without a state. -/
theorem sat_raw {P : Program} {rt : RT} {f : FuncId} {sp : Spec} (h : Sat P rt f sp) (hc : sp.cost ≤ pickLimit) {w : World} (h1 : FrzOK rt w) {args : List AV} {vs : Array Value} (hs : vs.size = args.length) (ha : ∀ j x, args[j]? = some x → MA w noB noB noH (vs.getD j undef) x) (hpre : sp.pre args []) :
    Calls P f vs w fun e w' => ∃ v r bs β cp Rd', e = .returned v ∧ sp.post args [] r bs ∧ Keeps noB w w' ∧ MA w' noB Rd' (hOf (expSt bs) β cp) v r := by
  have hno : ∀ g, ¬ has (expSt []) (fun _ => (none : Option Nat)) g := fun g ⟨b, bx, h1, _⟩ => by rw [exp_box] at h1; simp at h1
  have T : Takes rt w noB noB 0 args vs [] (fun _ => none) (fun _ => 0) := {
    glob := ⟨h1.1, fun g hg => ⟨h1.2 g hg, fun h => h, hno g⟩⟩
    rdav := fun g h => h
    avlt := fun g h => h.elim
    pasav := fun g h _ => hno g h
    rdok := fun g h => h.elim
    size := hs
    args := fun j x hj => (ha j x hj).mono (K := fun _ => True) (fun _ _ _ => rfl) (Nat.le_refl _) (fun g _ hm => by rcases hm with hm | hm; exact hm.elim; exact (hno g hm).elim) (fun _ h => h) (avIds_all _) (fun c _ _ _ _ v h => h.elim)
    boxes := fun b bx h => by simp at h
    inj := fun b b' bx bx' g h => by simp at h }
  refine (h w noB noB 0 args vs [] _ _ T hpre (by omega)).mono fun e w' ⟨v, r, bs, β, cp, Rd', h2, h3, G⟩ => ?_
  refine ⟨v, r, bs, β, cp, Rd', h2, h3, G.keeps.mono fun g _ hg => ?_, G.value.mono (K := fun _ => True) (fun _ _ _ => rfl) (Nat.le_refl _) (fun g _ hm => hm.elim) (fun _ h => h) (avIds_all _) (fun c _ _ _ _ v h => h)⟩
  rcases hg with hg | hg
  · exact hg.elim
  · exact (hno g hg).elim

/-- A contract at very values. -/
def exS (args : List AV) (r : AV) : Spec := ⟨fun a i => i = [] ∧ a = args, fun _ _ r' bs => r' = r ∧ bs = [], 0, true, [], false⟩
theorem sat_exact {P : Program} {rt : RT} {w1 : World} {f : FuncId} {sp : Spec} (h : Sat P rt f sp) (hc : sp.cost ≤ pickLimit) (h1 : FrzOK rt w1) {args0 args1 : List AV} {z : Value} (hl : args0.length = args1.length) (hpre : sp.pre args0 [])
    (ha : ∀ (j : Nat) (x0 x1 : AV), args0[j]? = some x0 → args1[j]? = some x1 → ∀ w : World, (∀ g, g < w1.heap.size → w.heap[g]? = w1.heap[g]?) → ∀ (M Rd : Nat → Prop) (H : C → Value → Prop) (v : Value), MA w M Rd H v x1 → MA w noB noB noH v x0)
    (hp : ∀ r bs, sp.post args0 [] r bs → r = .c (.v z)) : Sat P (frz rt w1) f (exS args1 (.c (.v z))) := by
  refine sat_calm (fun a i h => h.1) fun w Av Rd pk args vs β0 cp0 T hpre1 => ?_
  obtain ⟨_, rfl⟩ := hpre1
  have hk := T.glob.1
  refine (sat_raw h hc (frz_ok h1 hk) (args := args0) (vs := vs) (by rw [T.size, hl]) (fun j x0 hj => ?_) hpre).mono fun e w' ⟨v, r, bs, β, cp, Rd', h2, h3, h4, h5⟩ => ?_
  · have hj2 : j < args.length := by rw [← hl]; exact (List.getElem?_eq_some_iff.1 hj).1
    have h9 := T.args j _ (List.getElem?_eq_getElem hj2)
    exact ha j x0 _ hj (List.getElem?_eq_getElem hj2) w hk _ _ _ _ h9
  · have hr := hp r bs h3
    subst hr
    refine ⟨v, _, h2, ⟨rfl, rfl⟩, h4, fun M Rd2 H _ => ?_⟩
    have h6 : RC w' noB v (.v z) := h5
    cases h6 with
    | v _ hx => exact RC.v _ hx
end Go.VE
end
section
namespace Go.VE
open Go
theorem Good.sl_own {X : Cx} {s : St} {a : Act} {w : World} {β : Nat → Option Nat} {cp : Nat → Nat} {Rd : Nat → Prop} (h : Good X s a w β cp Rd) {t b : Nat} {f : Bool} {es : List (List C)} {bx : Box} (ht : s.get t = .c (.sl f es)) (hb : s.box b = some bx) (hz : bx.fz = false) : RC w (fun g => β b = some g) (a.tmps.getD t undef) (.sl f es) := by
  have := h.env t
  rw [ht] at this
  have h2 : RC w (X.mt s β Rd) (a.tmps.getD t undef) (.sl f es) := this
  exact h2.less fun g hg => .inr (.inl ⟨b, bx, hb, hz, hg⟩)
/-- One box. -/
theorem cut1 {rt : RT} {a : Act} {w : World} {env : List (Nat × AV)} {bx : Box} {go : Option Nat} {cp : Nat} (hdf : a.defers = []) (hg : FrzOK rt w) (hF : ∀ g ∈ rt.F, go ≠ some g) (henv : EnvOK w (fun g => go = some g) (hOf (expSt [bx]) (fun _ => go) (fun _ => cp)) a env)
    (hz : bx.fz = false) (hbx : BoxOK0 w (MC w (insH [bx] (fun _ => go)) noB (hOf (expSt [bx]) (fun _ => go) (fun _ => cp))) go cp bx) : Cut rt env [bx] a w (fun _ => go) (fun _ => cp) := {
  df := hdf
  glob := ⟨hg.1, fun g h => ⟨hg.2 g h, fun h2 => hF g h (insH_one h2)⟩⟩
  env := fun t => (henv t).mono (K := fun _ => True) (fun _ _ _ => rfl) (Nat.le_refl _) (fun g _ hm => insH_one hm) (fun _ h => h) (avIds_all _) (fun c _ _ _ _ v h => h)
  boxes := fun b bx' hb => by
    match b with
    | 0 => simp at hb; subst hb; exact ⟨hz, .inl hbx⟩
    | n + 1 => simp at hb
  inj := fun b b' bx1 bx2 g h1 h2 h3 h4 => by
    match b, b' with
    | 0, 0 => rfl
    | 0, n + 1 => simp at h2
    | n + 1, _ => simp at h1 }
theorem cut0 {rt : RT} {a : Act} {w : World} {env : List (Nat × AV)} (hdf : a.defers = []) (hg : FrzOK rt w) (henv : EnvOK w noB noH a env) : Cut rt env [] a w (fun _ => none) (fun _ => 0) := {
  df := hdf
  glob := ⟨hg.1, fun g h => ⟨hg.2 g h, fun h2 => insH_nil h2⟩⟩
  env := fun t => (henv t).mono (K := fun _ => True) (fun _ _ _ => rfl) (Nat.le_refl _) (fun g _ hm => (insH_nil hm).elim) (fun _ h => h) (avIds_all _) (fun c _ _ _ _ v h => h.elim)
  boxes := fun b bx' hb => by simp at hb
  inj := fun b b' bx1 bx2 g h1 => by simp at h1 }
theorem ktrans {w0 w w' : World} {go : Option Nat} (h : Keeps noB w0 w) (k : Keeps (fun g => go = some g) w w') (hlo : ∀ g, go = some g → w0.heap.size ≤ g) : Keeps noB w0 w' :=
  h.trans k (fun g _ h => h) (fun g hg h => by have := hlo g h; omega)
theorem Good.kp1 {rt : RT} {bx : Box} {a : Act} {w w' : World} {go : Option Nat} {c0 : Nat} {s : St} {β : Nat → Option Nat} {cp : Nat → Nat} {Rd : Nat → Prop} (G : Good (cutX rt w [bx] (fun _ => go) (fun _ => c0)) s a w' β cp Rd) : Keeps (fun g => go = some g) w w' :=
  G.cut_end.1.mono fun g _ hg => insH_one hg
theorem Good.org1 {rt : RT} {bx bx' : Box} {a : Act} {w w' : World} {go : Option Nat} {c0 : Nat} {s : St} {β : Nat → Option Nat} {cp : Nat → Nat} {Rd : Nat → Prop} (G : Good (cutX rt w [bx] (fun _ => go) (fun _ => c0)) s a w' β cp Rd) {b g : Nat} (hb : s.box b = some bx') (hg : β b = some g) : w.heap.size ≤ g ∨ (b = 0 ∧ go = some g) := by
  rcases org_new G hb hg with h | ⟨h1, h2⟩
  · exact .inl h
  · exact .inr ⟨by simp only [List.length_cons, List.length_nil] at h1; omega, h2⟩
end Go.VE
end
section
namespace Go.VE
open Go
theorem putS {a : Act} {d : Nat} {v : Value} (h : d < a.tmps.size) : (a.put (some d) v).tmps.getD d undef = v := by simp [Act.put, h]
theorem putO {a : Act} {d t : Nat} {v : Value} (h : d ≠ t) : (a.put (some d) v).tmps.getD t undef = a.tmps.getD t undef := by
  simp only [Act.put, Array.getD_eq_getD_getElem?, Array.getElem?_setIfInBounds, h, if_false]
theorem putZ {a : Act} {d : Nat} {v : Value} : (a.put (some d) v).tmps.size = a.tmps.size := by simp [Act.put]
theorem op_val {P : Program} {o : Oper} {a : Act} {w : World} {K : Act → World → Prop} {Q : Exit → Act → World → Prop} {v : Value} (h : (execOp a.eval o).run P w = .ok (.value v) w) (hK : K (a.put o.dst v) w) : o.wp P a w K Q := by
  unfold Oper.wp; rw [h]; exact hK
theorem op_ext {P : Program} {o : Oper} {a : Act} {w : World} {K : Act → World → Prop} {Q : Exit → Act → World → Prop} {x : Operand} {j : Nat} {arr : Array Value} (ho : o.op = .extract x j) (hv : a.eval x = .tuple arr) (hj : j < arr.size) (hK : K (a.put o.dst (arr.getD j undef)) w) : o.wp P a w K Q := by
  refine op_val (v := arr.getD j undef) ?_ hK
  unfold execOp
  simp only [ho, hv, Sem.run_bind]
  simp [Instr.extract, hj]
theorem op_call {P : Program} {o : Oper} {a : Act} {w : World} {K : Act → World → Prop} {Q : Exit → Act → World → Prop} {F : FuncId} {args : Array Operand} {ts : Array Nat} (hrow : FnRow P F) (ho : o.op = .call ⟨.value (.func F), args, ts⟩) {R : World → Value → Prop} (hc : Calls P F (args.map a.eval) w fun e w' => ∃ v, e = .returned v ∧ R w' v) (hK : ∀ v w', R w' v → K (a.put o.dst v) w') : o.wp P a w K Q := by
  unfold Oper.wp
  rw [run_call_func hrow o args ts ho]
  simp only [Oper.upon]
  refine hc.mono ?_
  rintro e w' ⟨v, rfl, hr⟩
  exact hK v w' hr
end Go.VE
end
