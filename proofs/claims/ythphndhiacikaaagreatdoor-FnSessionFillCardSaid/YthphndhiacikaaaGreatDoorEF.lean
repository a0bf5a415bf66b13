/- Contracts of functions of the program vectorraster, each proved for all states that fit its description. No conditions. -/
import Derived.Test.YthphndhiacikaaaGreatDoorEC
import Derived.OrdersIn
import Derived.LoopNIn
import Derived.TacticsIn
import Derived.RangeFuncRecord
import Derived.RangeFuncLeaves
import Derived.RangeFuncIn
import Derived.RangeFuncSeq
set_option linter.unusedSimpArgs false
set_option linter.unusedVariables false
section

namespace Go.VE
open Go
/-! Walks within a round of a range over a function. -/
def fenceR (l : Option Nat) : Fence := { fn := fun _ => True, depth := none, alive := false, round := l }
def isDefer : Op → Bool
  | .defer _ => true
  | _ => false
def okOp (Dd : Nat → Bool) (o : Oper) : Bool := (match o.dst with
  | none => true
  | some d => Dd d) && !isDefer o.op
def okReg (Dd : Nat → Bool) (ops : Array Oper) : Bool := ops.toList.all (okOp Dd)
/-- Code that writes only to temporaries of 'Dd', and defers nothing. -/
def okCode (Dd : Nat → Bool) : Code → Bool
  | .region _ ops _ => okReg Dd ops
  | .seq a b => okCode Dd a && okCode Dd b
  | .cond _ a b => okCode Dd a && okCode Dd b
  | .block _ c => okCode Dd c
  | .loop c => okCode Dd c
  | .skip => true
  | .exit _ => true
  | .ret => true
  | _ => false
/-- All other temporaries are as they were. -/
def SameB (Dd : Nat → Bool) (a0 a : Act) : Prop := a.tmps.size = a0.tmps.size ∧ ∀ t, Dd t = false → a.tmps.getD t undef = a0.tmps.getD t undef
theorem SameB.refl (Dd : Nat → Bool) (a : Act) : SameB Dd a a := ⟨rfl, fun _ _ => rfl⟩
theorem getD_setIfInBounds_ne {arr : Array Value} {d t : Nat} {v : Value} (h : d ≠ t) : (arr.setIfInBounds d v).getD t undef = arr.getD t undef := by
  simp [Array.getElem?_setIfInBounds, h]
theorem SameB.set {Dd : Nat → Bool} {a0 a a' : Act} {d : Nat} {v : Value} (h : SameB Dd a0 a) (hd : Dd d = true) (ha : a'.tmps = a.tmps.setIfInBounds d v) : SameB Dd a0 a' := by
  refine ⟨by rw [ha]; simpa using h.1, fun t ht => ?_⟩
  rw [ha, getD_setIfInBounds_ne (by rintro rfl; rw [hd] at ht; cases ht)]
  exact h.2 t ht
theorem SameB.put {Dd : Nat → Bool} {a0 a a' : Act} {o : Oper} {v : Value} (h : SameB Dd a0 a) (ho : okOp Dd o = true) (ha : a'.tmps = (a.put o.dst v).tmps) : SameB Dd a0 a' := by
  unfold okOp at ho
  cases hd : o.dst with
  | none =>
    rw [hd] at ha
    refine ⟨by rw [ha]; exact h.1, fun t ht => ?_⟩
    rw [ha]; exact h.2 t ht
  | some d =>
    rw [hd] at ha ho
    simp only [Bool.and_eq_true] at ho
    exact h.set ho.1 ha
section
variable {P : Program} {n : Nat} {r : Option Nat}
theorem rowsIn_of {row : String} {args : Array Value} {w : World} {R : Value → World → Prop} (h : Rows P row args w R) : RowsIn (fenceR r) n P row args w R :=
  fun c cs _ => let ⟨v, w', q, s⟩ := h c cs; ⟨v, w', q, (StepsIn.of_steps s).mono fun m _ => fenced_wide P m⟩
theorem callsIn_of {f : FuncId} {args : Array Value} {w : World} {R : Ending → World → Prop} (h : Calls P f args w R) : CallsIn (fenceR r) n P f args w R :=
  (callsIn_wide (n := n)).2 h
/-- An operation, within a round: what it does is what it does elsewhere, and it writes its own temporary alone. -/
theorem wpIn_of_wp {o : Oper} {a : Act} {w : World} {K : Act → World → Prop} {Q : Exit → Act → World → Prop} (hnd : isDefer o.op = false) (h : o.wp P a w K Q) :
    o.wpIn (fenceR r) n P a w (fun a' w' => K a' w' ∧ ∃ v, a'.tmps = (a.put o.dst v).tmps) Q := by
  have hnd' : ∀ c, o.op ≠ .defer c := by intro c hc; rw [hc] at hnd; cases hnd
  refine ⟨fun _ _ => trivial, ?_⟩
  rw [Oper.semAt_eq _ _ _ hnd']
  unfold Oper.wp at h
  generalize (execOp a.eval o).run P w = x at h
  cases x with
  | ok x w' =>
    cases x with
    | value v => exact ⟨h, v, rfl⟩
    | skip => exact ⟨h, undef, rfl⟩
    | defer d => exact ⟨h, undef, by cases o.dst <;> rfl⟩
    | enter f args =>
      refine ⟨fun hh => (by cases hh), CallsIn.mono (callsIn_of h) fun e w'' he => ?_⟩
      cases e with
      | returned v => exact ⟨he, v, rfl⟩
      | panicked ch => exact he
      | outgrown => exact he
    | row row args => exact ⟨fun hh => (by cases hh), RowsIn.mono (rowsIn_of h) fun v w'' he => ⟨he, v, rfl⟩⟩
    | _ => exact h.elim
  | halt x w' =>
    cases x <;> exact h
variable {tt : Nat → Option TI} {tab : Nat → Option Spec} {X : Cx} {Dd : Nat → Bool} {a0 : Act}
theorem opW_in (htt : TTok P tt) (htab : TabOK P X.rt tab) {o : Oper} {s : St} {a : Act} {w : World} (ho : okOp Dd o = true) (h : Rel X s a w) (hs : SameB Dd a0 a) {K' : St → Prop} (hp : opW tt tab o s K') {K : Act → World → Prop} {Q : Exit → Act → World → Prop}
    (hK : ∀ s' a' w', K' s' → Rel X s' a' w' → SameB Dd a0 a' → K a' w') : o.wpIn (fenceR r) n P a w K Q := by
  have hnd : isDefer o.op = false := by
    unfold okOp at ho
    simp only [Bool.and_eq_true, Bool.not_eq_true'] at ho
    exact ho.2
  refine Oper.wpIn_mono (fun a' w' hh => ?_) (wpIn_of_wp hnd (opW_sound htt htab h hp (K := fun a' w' => ∃ s', K' s' ∧ Rel X s' a' w') fun s' a' w' h1 h2 => ⟨s', h1, h2⟩))
  obtain ⟨⟨s', h1, h2⟩, v, h3⟩ := hh
  exact hK s' a' w' h1 h2 (hs.put ho h3)
theorem opsW_in (htt : TTok P tt) (htab : TabOK P X.rt tab) {ops : Array Oper} {Q : Exit → Act → World → Prop} : ∀ (l : List Oper) (s : St) (a : Act) (w : World) (K : St → Prop), l.all (okOp Dd) = true → Rel X s a w → SameB Dd a0 a → opsW tt tab ops l s K →
    (∀ s' a' w', K s' → Rel X s' a' w' → SameB Dd a0 a' → Q .normal a' w') → wpListIn (fenceR r) n P ops Q l a w
  | [], s, a, w, K, _, h, hs, hp, hK => hK s a w hp h hs
  | o :: l, s, a, w, K, hl, h, hs, hp, hK => by
    simp only [List.all_cons, Bool.and_eq_true] at hl
    unfold wpListIn
    rcases guard_sound h hp with ⟨hw, s1, h1, h2⟩ | ⟨hw, s1, h1, h2⟩
    · rw [if_pos hw]
      exact opW_in htt htab hl.1 h1 hs h2 fun s' a' w' h3 h4 h5 => opsW_in htt htab l s' a' w' K hl.2 h4 h5 h3 hK
    · rw [if_neg (by rw [hw]; simp)]
      obtain ⟨β, cp, Rd, G⟩ := h1
      exact ⟨fun _ _ => trivial, opsW_in htt htab l _ _ w K hl.2 ⟨β, cp, Rd, G.put (x := .c .und) h2.1 rfl⟩ (hs.put hl.1 rfl) h2.2 hK⟩
/-- Orders that are drawn. -/
theorem wpAnyIn_of_I {ops : Array Oper} {Q0 : Act → World → Prop} (hops : ∀ (i : Nat) (o : Oper), ops[i]? = some o → okOp Dd o = true) : ∀ (fuel : Nat) (listed : Array Bool) (a : Act) (w : World) (Rd : Nat → Prop), SameB Dd a0 a → wpI P tt tab ops Q0 fuel listed a w Rd →
    wpAnyIn (fenceR r) n P .any ops (QN fun a' w' => Q0 a' w' ∧ SameB Dd a0 a') fuel listed a w
  | 0, _, _, _, _, hs, h => ⟨h.1, h.2, hs⟩
  | fuel + 1, listed, a, w, Rd, hs, h => ⟨fun hr => ⟨h.1 hr, hs⟩, fun i hi => by
      have h2 := h.2 i hi
      unfold opI at h2
      unfold wpOpIn
      split
      · rename_i ho; simp only [ho] at h2; exact wpAnyIn_of_I hops fuel _ _ _ _ hs h2
      · rename_i o ho
        simp only [ho] at h2
        have hok := hops i o ho
        have hnd : isDefer o.op = false := by
          have hok' := hok
          unfold okOp at hok'
          simp only [Bool.and_eq_true, Bool.not_eq_true'] at hok'
          exact hok'.2
        split
        · rename_i hw
          simp only [hw, if_true] at h2
          have h3 := wpIn_of_wp (n := n) (r := r) hnd h2
          refine wpIn_ops_post (fun a' w' hh => ?_) h3
          obtain ⟨⟨Rd', _, h4⟩, v, h5⟩ := hh
          exact wpAnyIn_of_I hops fuel _ _ _ _ (hs.put hok h5) h4
        · rename_i hw
          simp only [hw] at h2
          exact ⟨fun _ _ => trivial, wpAnyIn_of_I hops fuel _ _ _ _ (hs.put hok rfl) h2⟩⟩
where
  wpIn_ops_post {o : Oper} {a : Act} {w : World} {K K' : Act → World → Prop} {A B : Act → World → Prop} (h : ∀ a w, K a w → K' a w) (hh : o.wpIn (fenceR r) n P a w K (QN A)) : o.wpIn (fenceR r) n P a w K' (QN B) := by
    unfold Oper.wpIn at *
    refine ⟨hh.1, ?_⟩
    have hh := hh.2
    generalize (o.semAt (fenceR r).round a.eval).run P w = x at *
    cases x with
    | ok x w' =>
      cases x <;> simp only [Oper.uponIn] at hh ⊢ <;>
        first
          | exact h _ _ hh
          | exact ⟨hh.1, CallsIn.mono hh.2 (fun e w'' he => by cases e <;> first | exact h _ _ he | exact he.elim | exact fun m => (he m).elim | exact he)⟩
          | exact ⟨hh.1, RowsIn.mono hh.2 (fun _ _ he => h _ _ he)⟩
          | exact ⟨hh.1, RoundIn.mono hh.2 (fun e w'' he => by cases e <;> first | exact h _ _ he | exact he.elim | exact he)⟩
    | halt x w' => cases x <;> simp only [Oper.uponIn] at hh ⊢ <;> first | exact hh | exact hh.elim
def DrawIn (P : Program) (n : Nat) (r : Option Nat) (X : Cx) (Dd : Nat → Bool) (dw : Nat → Array Oper → St → (St → Prop) → Prop) (id : Nat) (ops : Array Oper) : Prop :=
  ∀ s K Q a w a0, dw id ops s K → okReg Dd ops = true → Rel X s a w → SameB Dd a0 a → (∀ s' a' w', K s' → Rel X s' a' w' → SameB Dd a0 a' → Q .normal a' w') → (Code.region id ops true).wpIn (fenceR r) n P Q a w
theorem drawW_in (hm : P.follows .mixedOrders = true) (htt : TTok P tt) (htab : TabOK P X.rt tab) (id : Nat) (ops : Array Oper) : DrawIn P n r X Dd (fun _ => drawW tt tab) id ops := by
  intro s K Q a w a0 hp hok h hs hK
  obtain ⟨p, hpl, hp⟩ := hp
  simp only [planOK', Bool.and_eq_true] at hpl
  obtain ⟨β, cp, Rd, G⟩ := h
  have hops : ∀ (i : Nat) (o : Oper), ops[i]? = some o → okOp Dd o = true := fun i o ho => by
    unfold okReg at hok
    have := List.all_eq_true.1 hok o (by
      have := Array.getElem?_eq_some_iff.1 ho
      obtain ⟨h1, h2⟩ := this
      rw [← h2]
      exact Array.getElem_mem_toList h1)
    exact this
  have h1 := (planW_sound (Q0 := fun a' w' => ∃ s', K s' ∧ Rel X s' a' w') htt htab hpl.1 (fun s' a' w' h1 h2 => ⟨s', h1, h2⟩) p false ops.size _ s a { w with drawn := w.drawn + 1 } β cp Rd hpl.2 (G.sameHeap rfl rfl ⟨rfl, trivial⟩ rfl) hp).1 rfl
  exact wpIn_mono (wpIn_region_any hm (wpAnyIn_of_I (n := n) (r := r) hops _ _ _ _ _ hs h1)) fun e a w hq => by
    cases e with
    | normal => obtain ⟨⟨s', k1, k2⟩, k3⟩ := hq; exact hK s' a w k1 k2 k3
    | _ => exact hq.elim
theorem dwS_in (hm : P.follows .mixedOrders = true) (htt : TTok P tt) (htab : TabOK P X.rt tab) {sq : Nat → Bool} {c : Code} (h : allDB (dwOK tab sq) c = true) : allD (DrawIn P n r X Dd (dwS tt tab sq)) c := by
  refine allDB_ok (fun id ops hp => ?_) c h
  intro s K Q a w a0 hd hok hR hs hK
  refine drawW_in hm htt htab id ops s K Q a w a0 ?_ hok hR hs hK
  unfold dwS at hd
  cases hs : sq id with
  | false => rw [hs] at hd; exact hd
  | true =>
    rw [hs] at hd
    simp only [dwOK, hs, Bool.not_true, Bool.false_or] at hp
    exact ⟨_, seqOK_plan hp, linP_ok tt tab ops K ops.size 0 _ s (by omega) (by simpa using hd)⟩
structure QRI (X : Cx) (Dd : Nat → Bool) (a0 : Act) (Q' : Ex → St → Prop) (Q : Exit → Act → World → Prop) : Prop where
  normal : ∀ s a w, Q' .normal s → Rel X s a w → SameB Dd a0 a → Q .normal a w
  exit : ∀ i s a w, Q' (.exit i) s → Rel X s a w → SameB Dd a0 a → Q (.exit i) a w
  ret : ∀ s a w, Q' .ret s → Rel X s a w → SameB Dd a0 a → Q .ret a w
theorem runW_in (htt : TTok P tt) (htab : TabOK P X.rt tab) {dw : Nat → Array Oper → St → (St → Prop) → Prop} : ∀ (c : Code), allD (DrawIn P n r X Dd dw) c → okCode Dd c = true → ∀ (s : St) (a : Act) (w : World) (Q' : Ex → St → Prop) (Q : Exit → Act → World → Prop),
    Rel X s a w → SameB Dd a0 a → runW tt tab Ent dw c s Q' → QRI X Dd a0 Q' Q → c.wpIn (fenceR r) n P Q a w := by
  intro c
  induction c with
  | skip => intro _ _ s a w Q' Q h hs hp hq; exact wpIn_skip (hq.normal s a w hp h hs)
  | region id ops draw =>
    intro hdw hok s a w Q' Q h hs hp hq
    cases draw with
    | false => exact wpIn_region_list (opsW_in htt htab _ s a w _ hok h hs hp hq.normal)
    | true => exact hdw s _ Q a w a0 hp hok h hs hq.normal
  | seq x y ihx ihy =>
    intro hdw hok s a w Q' Q h hs hp hq
    simp only [okCode, Bool.and_eq_true] at hok
    exact wpIn_seq (ihx hdw.1 hok.1 s a w _ _ h hs hp ⟨fun s' a' w' h1 h2 h3 => ihy hdw.2 hok.2 s' a' w' Q' Q h2 h3 h1 hq, fun i s' a' w' h1 h2 h3 => hq.exit i s' a' w' h1 h2 h3, fun s' a' w' h1 h2 h3 => hq.ret s' a' w' h1 h2 h3⟩)
  | cond c x y ihx ihy =>
    intro hdw hok s a w Q' Q h hs hp hq
    simp only [okCode, Bool.and_eq_true] at hok
    have hp' : condW (s.ev c) (runW tt tab Ent dw x s Q') (runW tt tab Ent dw y s Q') := hp
    unfold condW at hp'
    obtain ⟨β, cp, Rd, G⟩ := h
    have hv := G.ev c
    split at hp'
    · rename_i t he
      rw [he] at hv
      have hv2 : a.eval c = .bool t := by
        generalize a.eval c = v at hv
        cases hv; rfl
      exact wpIn_cond_split hv2 (fun ht => ihx hdw.1 hok.1 s a w Q' Q ⟨β, cp, Rd, G⟩ hs (hp'.1 ht) hq) (fun ht => ihy hdw.2 hok.2 s a w Q' Q ⟨β, cp, Rd, G⟩ hs (hp'.2 ht) hq)
    · exact hp'.elim
  | block id c ih =>
    intro hdw hok s a w Q' Q h hs hp hq
    refine wpIn_block (ih hdw hok s a w _ _ h hs hp ⟨fun s' a' w' h1 h2 h3 => hq.normal s' a' w' h1 h2 h3, fun i s' a' w' h1 h2 h3 => ?_, fun s' a' w' h1 h2 h3 => hq.ret s' a' w' h1 h2 h3⟩)
    simp only [blockK] at h1
    simp only [Exit.inBlock]
    by_cases e : i = id
    · rw [decide_eq_true e] at h1
      rw [if_pos e]
      exact hq.normal s' a' w' h1 h2 h3
    · rw [decide_eq_false e] at h1
      rw [if_neg e]
      exact hq.exit i s' a' w' h1 h2 h3
  | loop c ih =>
    intro hdw hok s a w Q' Q h hs hp hq
    obtain ⟨α, F, Inv, m, x0, h0, he, hr⟩ := hp
    have key : ∀ k (x : α) (a : Act) (w : World), m x < k → Inv x → Rel X (F x) a w → SameB Dd a0 a → Code.roundsIn (fenceR r) n P c Q k a w := by
      intro k
      induction k with
      | zero => intro x a w hk; omega
      | succ k IH =>
        intro x a w hk hI hR hS
        refine ih hdw hok (F x) a w _ _ hR hS (hr x hI) ⟨fun s' a' w' h1 h2 h3 => ?_, fun i s' a' w' h1 h2 h3 => hq.exit i s' a' w' h1 h2 h3, fun s' a' w' h1 h2 h3 => hq.ret s' a' w' h1 h2 h3⟩
        obtain ⟨y, g1, g2, g3⟩ := h1
        exact IH y a' w' (by omega) g1 (g3 X a' w' h2) h3
    exact wpIn_loop_rounds _ (key _ x0 a w (Nat.lt_succ_self _) h0 (he X a w h) hs)
  | exit id => intro _ _ s a w Q' Q h hs hp hq; exact wpIn_exit (hq.exit id s a w hp h hs)
  | ret => intro _ _ s a w Q' Q h hs hp hq; exact wpIn_ret (hq.ret s a w hp h hs)
  | _ => intro _ hok; cases hok
end
/-! What the frozen blocks allow. -/
section
variable {P : Program} {X : Cx} {s : St} {a : Act} {w w' : World} {β : Nat → Option Nat} {cp : Nat → Nat} {Rd : Nat → Prop}
/-- A block that holds neither cells nor a map. -/
def othB (w : World) (g : Nat) : Prop := ∃ o, w.heap[g]? = some o ∧ (∀ c t z, o ≠ .cells c t z) ∧ ∀ es clk, o ≠ .map es clk
theorem RC.setOth {Mt : Nat → Prop} {g : Nat} (hb : othB w g) (hk : ∀ q, q ≠ g → w'.heap[q]? = w.heap[q]?) (hsz : w'.heap.size = w.heap.size) {v : Value} {c : C} (h : RC w Mt v c) : RC w' Mt v c := by
  obtain ⟨ob, ho, hn, _⟩ := hb
  have cell : ∀ q o u, w.cell? ⟨q, o, none⟩ = some u → w'.cell? ⟨q, o, none⟩ = some u := by
    intro q o u hc
    have hq : q ≠ g := by
      rintro rfl
      simp only [World.cell?, ho] at hc
      cases ob <;> first | exact absurd rfl (hn _ _ _) | simp at hc
    exact (World.cell?_of_block (w := w) (w' := w') (a := ⟨q, o, none⟩) (hk q hq)).trans hc
  induction h with
  | v x hx => exact .v x hx
  | sl t es k a p n cap hn ht hle hmax hk' ha u hc _ ih =>
    exact .sl t es k a p n cap hn ht hle hmax hk' (fun hne => by rw [hsz]; exact ha hne) u (fun i j e c h1 h2 => cell _ _ _ (hc i j e c h1 h2)) ih
  | rp cs p hs hm hlt u hc _ ih => exact .rp cs p hs hm (by rw [hsz]; exact hlt) u (fun j c h1 => cell _ _ _ (hc j c h1)) ih
theorem MC.setOth {Mt Rd : Nat → Prop} {H : C → Value → Prop} {g : Nat} (hb : othB w g) (hk : ∀ q, q ≠ g → w'.heap[q]? = w.heap[q]?) (hsz : w'.heap.size = w.heap.size) {v : Value} {c : C} (h : MC w Mt Rd H v c) : MC w' Mt Rd H v c := by
  have h0 : ∀ v c, MC0 w Mt Rd H v c → MC0 w' Mt Rd H v c := by
    intro v c h
    cases c <;> simp only [MC0] at h ⊢ <;> first | exact h | exact RC.setOth hb hk hsz h | exact ⟨h.1, RC.setOth hb hk hsz h.2⟩
  cases c
  case fn f caps =>
    obtain ⟨arr, e, hs, hr⟩ := h
    exact ⟨arr, e, hs, fun j c hj => h0 _ _ (hr j c hj)⟩
  all_goals (simp only [MC] at h ⊢; exact h0 _ _ h)
/-- No box lies in such a block. -/
theorem Good.no_oth (h : Good X s a w β cp Rd) {g : Nat} (hb : othB w g) : ¬ has s β g ∧ ¬ Rd g ∧ ¬ mapHas s β w g := by
  obtain ⟨ob, ho, hn, hn2⟩ := hb
  refine ⟨fun ⟨b, bx, h1, h2⟩ => ?_, fun hr => ?_, fun ⟨_, _, es, clk, _, _, h3⟩ => ?_⟩
  · rcases h.boxes b bx h1 with (⟨e1, _⟩ | ⟨g', cur, e1, e2, _⟩) | ⟨_, _, _, g', es, clk, e1, e2⟩
    · rw [e1] at h2; cases h2
    · rw [e1] at h2; cases h2; rw [ho] at e2; cases e2; exact hn _ _ _ rfl
    · rw [e1] at h2; cases h2; rw [ho] at e2; cases e2; exact hn2 _ _ rfl
  · obtain ⟨_, bv, p, bs, ⟨arr, c, e1, _⟩, _⟩ := h.rdok g hr
    rw [ho] at e1; cases e1; exact hn _ _ _ rfl
  · rw [ho] at h3; cases h3; exact hn2 _ _ rfl
/-- A block that the state does not know is written. -/
theorem Good.other (h : Good X s a w β cp Rd) {l : Nat} (o' : Obj) (hb : othB w l) (hn : ∀ es clk, o' ≠ .map es clk) (hl : X.w0.heap.size ≤ l) (hF : ¬ X.Fb l) : Good X s a (w.putObj l o') β cp Rd := by
  have hoth : ∀ q, q ≠ l → (w.putObj l o').heap[q]? = w.heap[q]? := fun q hq => World.putObj_heap_other hq
  have hsz : (w.putObj l o').heap.size = w.heap.size := World.putObj_size
  obtain ⟨n1, n2, n3⟩ := h.no_oth hb
  have hMC : ∀ v c, MC w (X.mt s β Rd) Rd (hOf s β cp) v c → MC (w.putObj l o') (X.mt s β Rd) Rd (hOf s β cp) v c := fun v c hc => hc.setOth hb hoth hsz
  have hA1 : ∀ v x, MA1 w (X.mt s β Rd) Rd (hOf s β cp) v x → MA1 (w.putObj l o') (X.mt s β Rd) Rd (hOf s β cp) v x := by
    intro v x hv
    cases x with
    | c c => exact hMC _ _ hv
    | agg cs => obtain ⟨arr, e, e1, e2⟩ := hv; exact ⟨arr, e, e1, fun j c hj => hMC _ _ (e2 j c hj)⟩
    | tup _ => exact hv.elim
    | mp _ _ => exact hv.elim
  have hrdk : ∀ q, Rd q → (w.putObj l o').heap[q]? = w.heap[q]? := fun q hq => hoth q (by rintro rfl; exact n2 hq)
  exact {
    defers := h.defers
    size := h.size
    keeps := ⟨h.keeps.os, h.keeps.tape, h.keeps.output, by rw [hsz]; exact h.keeps.size, fun q hq hmq => (hoth q (by omega)).trans (h.keeps.block q hq hmq)⟩
    fresh := h.fresh
    org := h.org
    own_rd := h.own_rd
    own_av := h.own_av
    rdsame := fun q hq => by
      obtain ⟨bv, p, p', e1, e2⟩ := h.rdsame q hq
      exact ⟨bv, p, p', e1, e2.congr (hrdk q (h.rd0 q hq))⟩
    inj := h.inj
    rd0 := h.rd0
    rdge := h.rdge
    avlt := h.avlt
    npin := h.npin
    pin := h.pin
    rdok := fun q hq => by
      obtain ⟨e0, bv, p, bs, e1, e2, e3, e4⟩ := h.rdok q hq
      exact ⟨by rw [hsz]; exact e0, bv, p, bs, e1.congr (hrdk q hq), e2, e3, e4.setOth hb hoth hsz⟩
    env := fun t => by
      have e2 := h.env t
      generalize s.get t = x at e2 ⊢
      cases x with
      | c c => exact hMC _ _ e2
      | agg cs => exact hA1 _ (.agg cs) e2
      | tup vs => obtain ⟨arr, e, e1, e3⟩ := e2; exact ⟨arr, e, e1, fun j x hj => hA1 _ _ (e3 j x hj)⟩
      | mp b ks =>
        obtain ⟨g, es, clk, r1, r2, r3, r4, r5, r6⟩ := e2
        have hg : g ≠ l := by
          rintro rfl
          obtain ⟨ob, ho, _, hn2⟩ := hb
          rw [ho] at r5; cases r5; exact hn2 _ _ rfl
        exact ⟨g, es, clk, r1, r2, r3, by rw [hsz]; exact r4, (hoth g hg).trans r5, r6⟩
    boxes := fun b bx hb2 => ((h.boxes b bx hb2).heap (w' := w.putObj l o') fun q hq => hoth q (by rintro rfl; exact n1 ⟨b, bx, hb2, hq⟩)).mono hMC
    glob := h.glob
    kept := fun q hq => by
      obtain ⟨k1, k2, k3, k4, k5⟩ := h.kept q hq
      have hql : q ≠ l := by rintro rfl; exact hF hq
      exact ⟨by rw [hsz]; exact k1, (hoth q hql).trans k2, k3, k4, fun ⟨b, bx, es, clk, m1, m2, m3⟩ => k5 ⟨b, bx, es, clk, m1, m2, (hoth q hql) ▸ m3⟩⟩ }
/-- A new block that the state does not know. -/
theorem Good.grow (h : Good X s a w β cp Rd) (o : Obj) : Good X s a (w.alloc o) β cp Rd := by
  have hold : ∀ g, g < w.heap.size → (w.alloc o).heap[g]? = w.heap[g]? := fun g hg => by show (w.heap.push o)[g]? = _; simp [Array.getElem?_push, Nat.ne_of_lt hg]
  have hsz : w.heap.size ≤ (w.alloc o).heap.size := by simp
  have hrdlt : ∀ g, Rd g → g < w.heap.size := fun g hg => (h.rdok g hg).1
  refine h.re rfl rfl rfl h.fresh rfl rfl ⟨rfl, trivial⟩ hsz (fun g hg _ _ => hold g hg) (fun _ h => h) (fun _ h => .inl h) (fun _ h => .inl h) (fun b bx g h1 h2 => .inl ⟨bx, h1, h2⟩) h.own_rd
    (fun g hg => ?_) h.inj (fun _ _ h => h) (fun _ _ h => h) ?_ (fun b bx hb => ?_)
  · obtain ⟨_, bv, p, bs, h1, _⟩ := h.rdok g (h.rd0 g hg)
    exact ⟨bv, p, p, h1, h1.congr (hold g (hrdlt g (h.rd0 g hg)))⟩
  · exact h.rdok.mono (fun g hg _ => hold g hg) hsz (fun _ _ h => h) (fun g hg => hold g (hrdlt g hg)) (Nat.le_refl _)
  · exact ((h.boxes b bx hb).heap (w' := w.alloc o) fun g hg => hold g ((h.boxes b bx hb).lt hg)).mono fun v c hc => hc.mono (K := fun _ => True) (fun g hg _ => hold g hg) hsz (fun _ _ h => h) (fun _ h => h) (cIds_all c) (fun _ _ _ _ _ _ h => h)
/-- Another description of what is frozen. -/
theorem Good.refreeze (h : Good X s a w β cp Rd) (ds : List Nat) (fw : World) (Fb : Nat → Prop) (a' : Act) (ht : a'.tmps = a.tmps) (hd : a'.defers = ds.map markD)
    (hF : ∀ g, Fb g → g < w.heap.size ∧ w.heap[g]? = fw.heap[g]? ∧ ¬ owns s β g ∧ ¬ Rd g ∧ ¬ mapHas s β w g) : Good { X with ds := ds, fw := fw, Fb := Fb } s a' w β cp Rd where
  defers := hd
  size := by rw [ht]; exact h.size
  keeps := h.keeps
  fresh := h.fresh
  org := h.org
  own_rd := h.own_rd
  own_av := h.own_av
  rdsame := h.rdsame
  inj := h.inj
  rd0 := h.rd0
  rdge := h.rdge
  avlt := h.avlt
  npin := h.npin
  pin := h.pin
  rdok := h.rdok
  env := fun t => by rw [ht]; exact h.env t
  boxes := h.boxes
  glob := h.glob
  kept := hF
theorem lkE_dropE : ∀ (l : List (Nat × AV)) (dead : List Nat) (t : Nat), lkE (dropE dead l) t = bif memN t dead then .c .bot else lkE l t
  | [], dead, t => by simp [dropE, lkE]
  | (k, x) :: l, dead, t => by
    simp only [dropE, lkE]
    have ih := lkE_dropE l (k :: dead) t
    simp only [memN] at ih
    by_cases hkt : k = t
    · subst hkt
      cases hm : memN k dead with
      | true => simp [hm, ih]
      | false => simp [lkE]
    · have e1 : (k == t) = false := by simpa using hkt
      have e2 : (t == k) = false := by simp; exact fun e => hkt e.symm
      cases hm : memN k dead with
      | true => simp [ih, e1]
      | false => simp [lkE, e1, ih]
/-- Temporaries that are forgotten. -/
def kill (dead : List Nat) (s : St) : St := { s with env := dropE dead s.env }
theorem kill_get (dead : List Nat) (s : St) (t : Nat) : (kill dead s).get t = bif memN t dead then .c .bot else s.get t := lkE_dropE _ _ _
/-- Another activation, which differs in forgotten temporaries alone. -/
theorem Good.swap {a' : Act} (dead : List Nat) (h : Good X s a w β cp Rd) (hs : SameB (fun t => memN t dead) a' a) (hd : a'.defers = a.defers) (hb : ∀ t, memN t dead = true → s.get t = .c .bot) : Good X s a' w β cp Rd where
  defers := hd.trans h.defers
  size := hs.1.symm.trans h.size
  keeps := h.keeps
  fresh := h.fresh
  org := h.org
  own_rd := h.own_rd
  own_av := h.own_av
  rdsame := h.rdsame
  inj := h.inj
  rd0 := h.rd0
  rdge := h.rdge
  avlt := h.avlt
  npin := h.npin
  pin := h.pin
  rdok := h.rdok
  env := fun t => by
    cases hm : memN t dead with
    | true => rw [hb t hm]; trivial
    | false => rw [← hs.2 t hm]; exact h.env t
  boxes := h.boxes
  glob := h.glob
  kept := h.kept
theorem Good.kill (dead : List Nat) (h : Good X s a w β cp Rd) : Good X (kill dead s) a w β cp Rd where
  defers := h.defers
  size := h.size
  keeps := h.keeps
  fresh := h.fresh
  org := h.org
  own_rd := h.own_rd
  own_av := h.own_av
  rdsame := h.rdsame
  inj := h.inj
  rd0 := h.rd0
  rdge := h.rdge
  avlt := h.avlt
  npin := h.npin
  pin := h.pin
  rdok := h.rdok
  env := fun t => by
    rw [kill_get]
    cases memN t dead with
    | true => trivial
    | false => exact h.env t
  boxes := h.boxes
  glob := h.glob
  kept := h.kept
end
end Go.VE
end
section
namespace Go.VE
open Go
/-- AN ITERATOR THAT WALKS A ROW BACKWARD: its function captures a pointer to the variable that holds the row. -/
def IterOK (P : Program) (fk : Nat) (agg : Bool) (sz : Nat) : Prop :=
  FnRow P fk ∧ ∀ (n l : Nat) (t : Bool) (es : List (List C)) (pv : Value) (Mt : Nat → Prop) (J : Nat → World → Prop) (Jx : World → Prop),
    (∀ e ∈ es, e.length = sz) →
    (∀ k W, J k W → RC W Mt pv (.rp [.sl t es])) →
    (∀ k W v e, es[k]? = some e → J (k + 1) W → MA1 W Mt (fun _ => False) (fun _ _ => False) v (mkAV agg e) →
      YieldAt (fenceR none) (n - 1) P l #[.int .i64 (k : Int), v] W fun e W' => (e = .returned (.bool true) ∧ J k W') ∨ (e = .returned (.bool false) ∧ Jx W')) →
    ∀ W, J es.length W → CallsIn (fenceR none) n P fk #[.func (.yield l) #[] #[], pv] W fun e W' => (∃ v, e = .returned v) ∧ (J 0 W' ∨ Jx W')
def noMapHp : List (Nat × Option Box) → Prop
  | [] => True
  | (_, some bx) :: r => (bx.row = true ∨ bx.es ≠ []) ∧ noMapHp r
  | (_, none) :: r => noMapHp r
theorem noMapHp_get : ∀ {l : List (Nat × Option Box)} {b : Nat} {bx : Box}, noMapHp l → lkB l b = some (some bx) → bx.row = true ∨ bx.es ≠ []
  | [], _, _, _, h => by cases h
  | (k, some x) :: r, b, bx, hn, h => by
    simp only [lkB] at h
    cases hk : k == b with
    | true => rw [hk, cond_true] at h; cases h; exact hn.1
    | false => rw [hk, cond_false] at h; exact noMapHp_get hn.2 h
  | (k, none) :: r, b, bx, hn, h => by
    simp only [lkB] at h
    cases hk : k == b with
    | true => rw [hk, cond_true] at h; cases h
    | false => rw [hk, cond_false] at h; exact noMapHp_get (l := r) hn h
section
variable (tt : Nat → Option TI) (tab : Nat → Option Spec) (dw : Nat → Array Oper → St → (St → Prop) → Prop) (it : Nat → Option (Bool × Nat))
def afterQ (Q : Ex → St → Prop) (dead : List Nat) (next : St → Prop) : Ex → St → Prop
  | .normal, s => next s
  | .exit i, s => Q (.exit i) (kill dead s)
  | .ret, s => Q .ret (kill dead s)
def onlyN (k : St → Prop) : Ex → St → Prop
  | .normal, s => k s
  | _, _ => False
/-- A RANGE OVER A FUNCTION: k counts down; 'dead': the temporaries that a round may write. -/
def rfW (g : Operand) (ps : Array Tmp) (assign body : Code) (s : St) (Q : Ex → St → Prop) : Prop :=
  match s.ev g, ps.toList with
  | .c (.fn fk [.rp [.sl _ es]]), [p1, p2] => ∃ (agg : Bool) (sz : Nat) (dead : List Nat), it fk = some (agg, sz) ∧ (∀ e ∈ es, e.length = sz) ∧ p1 < s.nt ∧ p2 < s.nt ∧ memN p1 dead = true ∧ memN p2 dead = true ∧
      okCode (fun t => memN t dead) assign = true ∧ okCode (fun t => memN t dead) body = true ∧
      ∃ (α : Type) (F : α → St) (Inv : Nat → α → Prop) (x0 : α), Inv es.length x0 ∧ noMapHp s.hp ∧ Ent s (F x0) ∧ (∀ x, (F x).nt = s.nt ∧ (F x).nx = s.nx ∧ ∀ t, memN t dead = true → (F x).get t = .c .bot) ∧
        (∀ k x e, es[k]? = some e → Inv (k + 1) x →
          runW tt tab Ent dw assign { F x with env := (p2, mkAV agg e) :: (p1, .c (.v (.int .i64 (k : Int)))) :: (F x).env } (onlyN fun s1 => runW tt tab Ent dw body s1 (afterQ Q dead fun s' => ∃ y, Inv k y ∧ Ent s' (F y)))) ∧
        ∀ x, Inv 0 x → Q .normal (F x)
  | _, _ => False
def runG : Code → St → (Ex → St → Prop) → Prop
  | .seq a b, s, Q => runG a s (seqK Q fun s' => runG b s' Q)
  | .cond c a b, s, Q => condW (s.ev c) (runG a s Q) (runG b s Q)
  | .block id c, s, Q => runG c s (blockK Q id)
  | .loop c, s, Q => ∃ (α : Type) (F : α → St) (Inv : α → Prop) (m : α → Nat) (x0 : α), Inv x0 ∧ Ent s (F x0) ∧ ∀ x, Inv x → runG c (F x) (seqK Q fun s' => ∃ y, Inv y ∧ m y < m x ∧ Ent s' (F y))
  | .rangeFunc g ps assign body, s, Q => rfW tt tab dw it g ps assign body s Q
  | .skip, s, Q => Q .normal s
  | .region id ops d, s, Q => runW tt tab Ent dw (.region id ops d) s Q
  | .exit id, s, Q => Q (.exit id) s
  | .ret, s, Q => Q .ret s
  | _, _, _ => False
/-- What is asked of the code beside. -/
def okG (tab : Nat → Option Spec) (sq : Nat → Bool) : Code → Bool
  | .region id ops d => okReg (fun _ => true) ops && allDB (dwOK tab sq) (.region id ops d)
  | .seq a b => okG tab sq a && okG tab sq b
  | .cond _ a b => okG tab sq a && okG tab sq b
  | .block _ c => okG tab sq c
  | .loop c => okG tab sq c
  | .rangeFunc _ _ a b => allDB (dwOK tab sq) a && allDB (dwOK tab sq) b
  | _ => true
end
section
variable {P : Program} {tt : Nat → Option TI} {tab : Nat → Option Spec} {it : Nat → Option (Bool × Nat)} {n : Nat}
/-- The state fits, but for the marks of deferred calls that the loops have left. -/
def RelR (X : Cx) (s : St) (a : Act) (w : World) : Prop :=
  ∃ ds : List Nat, ds.Nodup ∧ (∀ D ∈ ds, X.w0.heap.size ≤ D ∧ w.heap[D]? = some (.deferred (some []))) ∧ Rel { X with ds := ds, fw := w, Fb := (· ∈ ds) } s a w
structure QRR (X : Cx) (Q' : Ex → St → Prop) (Q : Exit → Act → World → Prop) : Prop where
  normal : ∀ s a w, Q' .normal s → RelR X s a w → Q .normal a w
  exit : ∀ i s a w, Q' (.exit i) s → RelR X s a w → Q (.exit i) a w
  ret : ∀ s a w, Q' .ret s → RelR X s a w → Q .ret a w
theorem othB_def {w : World} {D : Nat} {x : Option (List Deferred)} (h : w.heap[D]? = some (.deferred x)) : othB w D := ⟨_, h, (by intro _ _ _ e; cases e), (by intro _ _ e; cases e)⟩
theorem othB_loop {w : World} {D : Nat} {x : Loop} (h : w.heap[D]? = some (.loop x)) : othB w D := ⟨_, h, (by intro _ _ _ e; cases e), (by intro _ _ e; cases e)⟩
variable {X : Cx}
/-- A region, at the function's own level. -/
theorem regG (hm : P.follows .mixedOrders = true) (htt : TTok P tt) (htab : TabOK P X.rt tab) {sq : Nat → Bool} {id : Nat} {ops : Array Oper} {d : Bool} (hok : okReg (fun _ => true) ops = true) (hdw : allDB (dwOK tab sq) (.region id ops d) = true)
    {s : St} {a : Act} {w : World} {Q' : Ex → St → Prop} {Q : Exit → Act → World → Prop} (h : RelR X s a w) (hp : runW tt tab Ent (dwS tt tab sq) (.region id ops d) s Q') (hq : QRR X Q' Q) : (Code.region id ops d).wpIn (fenceR none) n P Q a w := by
  obtain ⟨ds, h1, h2, h3⟩ := h
  have back : ∀ s' a' w', Rel { X with ds := ds, fw := w, Fb := (· ∈ ds) } s' a' w' → RelR X s' a' w' := by
    intro s' a' w' ⟨β, cp, Rd, G⟩
    refine ⟨ds, h1, fun D hD => ⟨(h2 D hD).1, (G.kept D hD).2.1.trans (h2 D hD).2⟩, β, cp, Rd, ?_⟩
    exact G.refreeze ds w' (· ∈ ds) a' rfl G.defers fun g hg => by
      obtain ⟨k1, _, k3, k4, k5⟩ := G.kept g hg
      exact ⟨k1, rfl, k3, k4, k5⟩
  exact runW_in (X := { X with ds := ds, fw := w, Fb := (· ∈ ds) }) (Dd := fun _ => true) (a0 := a) htt htab (.region id ops d) (dwS_in (X := { X with ds := ds, fw := w, Fb := (· ∈ ds) }) hm htt htab hdw) hok s a w Q' Q h3 (SameB.refl _ _) hp
    ⟨fun s' a' w' k1 k2 _ => hq.normal s' a' w' k1 (back s' a' w' k2), fun i s' a' w' k1 k2 _ => hq.exit i s' a' w' k1 (back s' a' w' k2), fun s' a' w' k1 k2 _ => hq.ret s' a' w' k1 (back s' a' w' k2)⟩
theorem mkAV_c {agg : Bool} {e : List C} : (∃ x, mkAV agg e = .c x) ∨ ∃ cs, mkAV agg e = .agg cs := by
  cases agg with
  | true => exact .inr ⟨e, rfl⟩
  | false => match e with
    | [] => exact .inl ⟨_, rfl⟩
    | [x] => exact .inl ⟨_, rfl⟩
    | _ :: _ :: _ => exact .inl ⟨_, rfl⟩
/-- THE LAW OF A RANGE OVER A FUNCTION. -/
theorem rfW_sound (hm : P.follows .mixedOrders = true) (htt : TTok P tt) (htab : TabOK P X.rt tab) (hit : ∀ fk agg sz, it fk = some (agg, sz) → IterOK P fk agg sz) {sq : Nat → Bool} {g : Operand} {ps : Array Tmp} {assign body : Code} (hda : allDB (dwOK tab sq) assign = true) (hdb : allDB (dwOK tab sq) body = true)
    {s : St} {a : Act} {w : World} {Q' : Ex → St → Prop} {Q : Exit → Act → World → Prop} (h : RelR X s a w) (hp : rfW tt tab (dwS tt tab sq) it g ps assign body s Q') (hq : QRR X Q' Q) : (Code.rangeFunc g ps assign body).wpIn (fenceR none) n P Q a w := by
  unfold rfW at hp
  split at hp
  · rename_i fk tg es p1 p2 hg hps
    obtain ⟨agg, sz, dead, hfk, hlen, hp1, hp2, hm1, hm2, hoa, hob, α, F, Inv, x0, hI0, hnm, hE0, hF, hround, hend⟩ := hp
    obtain ⟨⟨fnr, hfn, hng, hbn⟩, hiter⟩ := hit fk agg sz hfk
    obtain ⟨ds, hnd, hmk, hR⟩ := h
    -- the closure's value
    obtain ⟨β0, cp0, Rd0, G0⟩ := hR
    have hval := G0.ev g
    rw [hg] at hval
    obtain ⟨arr, hgv, harr, hcap⟩ := hval
    have hpv := hcap 0 _ rfl
    generalize hpve : arr.getD 0 undef = pv at hpv
    have harr1 : arr = #[pv] := by
      apply Array.ext
      · simpa using harr
      · intro i hi1 hi2
        have : i = 0 := by simp at harr; omega
        subst this
        rw [← hpve]
        simp [Array.getD_eq_getD_getElem?, hi1]
    subst harr1
    -- what is frozen
    have hnm' : ∀ g, ¬ mapHas s β0 w g := by
      rintro g ⟨b, bx, es', clk, e1, e2, e3⟩
      have h1 : bx.row = true ∨ bx.es ≠ [] := by
        refine noMapHp_get hnm (b := b) ?_
        unfold St.box at e1
        cases hlk : lkB s.hp b with
        | none => rw [hlk] at e1; cases e1
        | some y => rw [hlk] at e1; simp only [Option.getD_some] at e1; rw [e1]
      rcases (G0.boxes b bx e1).two h1 with ⟨k1, _⟩ | ⟨g', cur, k1, k2, _⟩
      · rw [k1] at e2; cases e2
      · rw [k1] at e2; cases e2; rw [k2] at e3; cases e3
    obtain ⟨FB, hFB⟩ : ∃ FB : Nat → Prop, FB = fun g => g < w.heap.size ∧ ¬ X.mt s β0 Rd0 g := ⟨_, rfl⟩
    obtain ⟨am, ham⟩ : ∃ am : Act, am = { tmps := a.tmps, defers := [] } := ⟨_, rfl⟩
    have hamt : am.tmps = a.tmps := by rw [ham]
    have hamd : am.defers = [] := by rw [ham]
    obtain ⟨Xm, hXm⟩ : ∃ Xm : Cx, Xm = { X with ds := [], fw := w, Fb := FB } := ⟨_, rfl⟩
    have G0m : Good Xm s am w β0 cp0 Rd0 := by
      rw [hXm]
      exact G0.refreeze [] w FB am hamt hamd fun g hg => by
        rw [hFB] at hg
        exact ⟨hg.1, rfl, fun ho => hg.2 (.inr (.inl ho)), fun hr => hg.2 (.inr (.inr hr)), hnm' g⟩
    have hRm : Rel Xm (F x0) am w := hE0 Xm am w ⟨β0, cp0, Rd0, G0m⟩
    have hpvB : RC w (fun g => ¬ FB g) pv (.rp [.sl tg es]) := by
      have hpv' : RC w (X.mt s β0 Rd0) pv (.rp [.sl tg es]) := hpv
      refine hpv'.mono (fun _ _ _ => rfl) (Nat.le_refl _) fun g hg hn => ?_
      rw [hFB] at hn
      exact Classical.byContradiction fun h => hn ⟨hg, h⟩
    have hXmw : Xm.w0 = X.w0 := by rw [hXm]
    have hXmF : Xm.Fb = FB := by rw [hXm]
    have hXmf : Xm.fw = w := by rw [hXm]
    have hw0 : X.w0.heap.size ≤ w.heap.size := G0.keeps.size
    have hFlt : ∀ g, FB g → g < w.heap.size := fun g hg => by rw [hFB] at hg; exact hg.1
    have hFmt : ∀ {x : St} {β : Nat → Option Nat} {Rd : Nat → Prop} {g : Nat}, FB g → ¬ owns x β g → ¬ Rd g → ¬ X.mt x β Rd g := by
      rintro x β Rd g hg h1 h2 (h3 | h3 | h3)
      · rw [hFB] at hg; exact hg.2 (.inl h3)
      · exact h1 h3
      · exact h2 h3
    refine wpIn_rangeFunc ?_
    intro fn hfnF
    obtain ⟨rec, hrec⟩ : ∃ rec : LoopState → Option Code → Loop, rec = fun st pe => { state := st, pending := pe, fn := fn, tmps := a.tmps, params := ps, assign := assign, body := body, defers := w.heap.size } := ⟨_, rfl⟩
    obtain ⟨W1, hW1⟩ : ∃ W1, (w.alloc (.deferred (some []))).alloc (.loop (rec .ready none)) = W1 := ⟨_, rfl⟩
    have hL1 : W1.heap[w.heap.size + 1]? = some (.loop (rec .ready none)) := by
      rw [← hW1]
      have := World.alloc_heap_new (w.alloc (.deferred (some []))) (.loop (rec .ready none))
      rwa [World.size_alloc] at this
    have hK1 : W1.heap[w.heap.size]? = some (.deferred (some [])) := by
      rw [← hW1]
      show ((w.heap.push _).push _)[w.heap.size]? = _
      simp [Array.getElem?_push]
    obtain ⟨J, hJ⟩ : ∃ J : Nat → World → Prop, J = fun k W => (∃ x, Inv k x ∧ Rel Xm (F x) am W) ∧ W.heap[w.heap.size + 1]? = some (.loop (rec .ready none)) ∧ W.heap[w.heap.size]? = some (.deferred (some [])) := ⟨_, rfl⟩
    obtain ⟨Jx, hJx⟩ : ∃ Jx : World → Prop, Jx = fun W => ∃ (c : Code) (ex : Ex) (sx : St), ((c = .ret ∧ ex = .ret) ∨ ∃ i, c = .exit i ∧ ex = .exit i) ∧ Q' ex sx ∧ Rel Xm sx am W ∧ W.heap[w.heap.size + 1]? = some (.loop (rec .done (some c))) ∧ W.heap[w.heap.size]? = some (.deferred (some [])) := ⟨_, rfl⟩
    -- behind the loop
    have fin : ∀ (sx : St) (W2 : World) (rr rr' : Loop), Rel Xm sx am W2 → W2.heap[w.heap.size + 1]? = some (.loop rr) → W2.heap[w.heap.size]? = some (.deferred (some [])) →
        RelR X sx { a with defers := [{ target := .collected w.heap.size, args := #[] }] ++ a.defers } (W2.putObj (w.heap.size + 1) (.loop rr')) := by
      rintro sx W2 rr rr' ⟨β, cp, Rd, G⟩ hl hD
      have G2 := G.other (.loop rr') (othB_loop hl) (by intro _ _ e; cases e) (by rw [hXmw]; omega) (by rw [hXmF]; intro h; have := hFlt _ h; omega)
      have hoth : ∀ q, q ≠ w.heap.size + 1 → (W2.putObj (w.heap.size + 1) (.loop rr')).heap[q]? = W2.heap[q]? := fun q hq => World.putObj_heap_other hq
      have hdl : ∀ D' ∈ ds, D' < w.heap.size := fun D' hD' => (G0.kept D' hD').1
      have hold : ∀ D' ∈ w.heap.size :: ds, (W2.putObj (w.heap.size + 1) (.loop rr')).heap[D']? = some (.deferred (some [])) := by
        intro D' hD'
        rcases List.mem_cons.1 hD' with rfl | hD'
        · rw [hoth _ (by omega)]; exact hD
        · have hlt := hdl D' hD'
          rw [hoth _ (by omega)]
          have hfb : FB D' := by
            rw [hFB]
            refine ⟨hlt, ?_⟩
            rintro (h3 | h3 | h3)
            · have h4 := G0.avlt D' h3
              have h5 := (hmk D' hD').1
              exact absurd h4 (by simpa using h5)
            · exact (G0.kept D' hD').2.2.1 h3
            · exact (G0.kept D' hD').2.2.2.1 h3
          have h4 := (G.kept D' (by rw [hXmF]; exact hfb)).2.1
          rw [hXmf] at h4
          exact h4.trans (hmk D' hD').2
      refine ⟨w.heap.size :: ds, List.nodup_cons.2 ⟨fun hm => by have := hdl _ hm; omega, hnd⟩, fun D' hD' => ⟨?_, hold D' hD'⟩, β, cp, Rd, ?_⟩
      · rcases List.mem_cons.1 hD' with rfl | hD'
        · exact hw0
        · exact (hmk D' hD').1
      · have hdf : a.defers = ds.map markD := G0.defers
        have G3 := G2.refreeze (w.heap.size :: ds) (W2.putObj (w.heap.size + 1) (.loop rr')) (· ∈ w.heap.size :: ds) { a with defers := [{ target := .collected w.heap.size, args := #[] }] ++ a.defers } hamt.symm (by rw [hdf]; rfl) fun D' hD' => by
          obtain ⟨n1, n2, n3⟩ := G2.no_oth (othB_def (hold D' hD'))
          exact ⟨(Array.getElem?_eq_some_iff.1 (hold D' hD')).1, rfl, fun ho => n1 ho.has, n2, n3⟩
        rw [hXm] at G3
        exact G3
    refine ⟨w.heap.size + 1, [{ target := .collected w.heap.size, args := #[] }], W1, { target := .fn (.func fk) #[pv], args := #[.func (.yield (w.heap.size + 1)) #[] #[]] }, W1, fk,
      #[.func (.yield (w.heap.size + 1)) #[] #[], pv], W1, ?_, ?_, fun _ _ => trivial, ?_, fun hh => (by cases hh), ?_⟩
    · rw [← hW1, hrec]
      exact run_enterLoop_outer _ _ _ _ _
    · simp only [resolve, hgv]
      simp [go_sem]
    · have h2' : ¬ fnr.name = "runtime.NumGoroutine" := by simpa using hng
      have h3' : ¬ fnr.body = none := fun e => by rw [e] at hbn; simp at hbn
      simp [invoke, callFunc, hfn, h2', h3']
    · refine CallsIn.mono (hiter (n - 1) (w.heap.size + 1) tg es pv (fun g => ¬ FB g) J Jx hlen ?_ ?_ W1 ?_) ?_
      · intro k W hj
        rw [hJ] at hj
        obtain ⟨⟨x, _, β, cp, Rd, G⟩, hl, _⟩ := hj
        have hsz := (Array.getElem?_eq_some_iff.1 hl).1
        refine hpvB.mono (fun g _ hn => ?_) (by omega) (fun _ _ h => h)
        have := (G.kept g (by rw [hXmF]; exact Classical.byContradiction hn)).2.1
        rw [hXmf] at this
        exact this
      · -- A ROUND
        intro k W v e hek hj hv
        rw [hJ] at hj
        obtain ⟨⟨x, hInv, β, cp, Rd, G⟩, hl, hD⟩ := hj
        have hps2 : ps = #[p1, p2] := by
          apply Array.toList_inj.1
          simpa using hps
        have hy := run_yield (P := P) (args := #[.int .i64 (k : Int), v]) hl (by rw [hrec]; simp [hps2])
        rw [hrec] at hy
        refine ⟨fn, _, assign, body, hy, roundIn_of_wpIn trivial ?_⟩
        rw [hps2]
        obtain ⟨ar, har⟩ : ∃ ar : Act, ar = { tmps := (a.tmps.setIfInBounds p1 (.int .i64 (k : Int))).setIfInBounds p2 v, defers := [] } := ⟨_, rfl⟩
        have hstart : ({ tmps := (#[p1, p2].zip #[.int .i64 (k : Int), v]).foldl (fun tmps (x : Tmp × Value) => tmps.setIfInBounds x.1 x.2) a.tmps, defers := [] } : Act) = ar := by
          rw [har]
          simp
        have hSB : SameB (fun t => memN t dead) am ar := by
          have h1 : SameB (fun t => memN t dead) am { tmps := am.tmps.setIfInBounds p1 (.int .i64 (k : Int)), defers := [] } := (SameB.refl _ am).set hm1 rfl
          exact h1.set hm2 (by rw [har, hamt])
        -- the frozen blocks of a round
        have hFBW : ∀ g, FB g → W.heap[g]? = w.heap[g]? := fun g hg => by
          have := (G.kept g (by rw [hXmF]; exact hg)).2.1
          rwa [hXmf] at this
        have hRnt := hF x
        have hmtB : ∀ g, g < W.heap.size → Xm.mt (F x) β Rd g → ¬ FB g := by
          intro g _ hg hf
          have h5 := G.kept g (by rw [hXmF]; exact hf)
          have h6 := hFmt hf h5.2.2.1 h5.2.2.2.1
          rw [hXm] at hg
          exact h6 hg
        have hev : MA W (Xm.mt (F x) β Rd) Rd (hOf (F x) β cp) v (mkAV agg e) := by
          have hv1 : MA1 W (Xm.mt (F x) β Rd) Rd (hOf (F x) β cp) v (mkAV agg e) := by
            refine hv.mono (K := fun _ => True) (fun _ _ _ => rfl) (Nat.le_refl _) hmtB (fun _ h => h.elim) ?_ (fun _ _ _ _ _ _ h => h.elim)
            have := avIds_all (mkAV agg e)
            rcases mkAV_c (agg := agg) (e := e) with ⟨c, hc⟩ | ⟨cs, hc⟩ <;> (rw [hc] at this ⊢; exact this)
          rcases mkAV_c (agg := agg) (e := e) with ⟨c, hc⟩ | ⟨cs, hc⟩ <;> (rw [hc] at hv1 ⊢; exact hv1)
        have Gr : Good Xm { F x with env := (p2, mkAV agg e) :: (p1, .c (.v (.int .i64 (k : Int)))) :: (F x).env } ar W β cp Rd := by
          have g1 := G.put (d := some p1) (v := .int .i64 (k : Int)) (x := .c (.v (.int .i64 (k : Int)))) (by show p1 < (F x).nt; rw [hRnt.1]; exact hp1) (RC.v _ rfl)
          have g2 := g1.put (d := some p2) (v := v) (x := mkAV agg e) (by show p2 < (F x).nt; rw [hRnt.1]; exact hp2) hev
          have he : (am.put (some p1) (.int .i64 (k : Int))).put (some p2) v = ar := by
            rw [har, ham]; rfl
          rw [he] at g2
          exact g2
        obtain ⟨Fr, hFr⟩ : ∃ Fr : Nat → Prop, Fr = fun g => FB g ∨ g = w.heap.size + 1 ∨ g = w.heap.size := ⟨_, rfl⟩
        -- to freeze the record and the block beside
        have frz : ∀ (s' : St) (a' : Act) (W' : World) (β' : Nat → Option Nat) (cp' : Nat → Nat) (Rd' : Nat → Prop) (lp : Loop), Good Xm s' a' W' β' cp' Rd' → W'.heap[w.heap.size + 1]? = some (.loop lp) → W'.heap[w.heap.size]? = some (.deferred (some [])) →
            Good { Xm with ds := [], fw := W', Fb := Fr } s' a' W' β' cp' Rd' := by
          intro s' a' W' β' cp' Rd' lp G' hl' hD'
          have hd' : a'.defers = [] := by have := G'.defers; rw [hXm] at this; exact this
          refine G'.refreeze [] W' Fr a' rfl (by rw [hd']; rfl) fun g hg => ?_
          rw [hFr] at hg
          rcases hg with hg | rfl | rfl
          · obtain ⟨k1, _, k3, k4, k5⟩ := G'.kept g (by rw [hXmF]; exact hg)
            exact ⟨k1, rfl, k3, k4, k5⟩
          · obtain ⟨n1, n2, n3⟩ := G'.no_oth (othB_loop hl')
            exact ⟨(Array.getElem?_eq_some_iff.1 hl').1, rfl, fun ho => n1 ho.has, n2, n3⟩
          · obtain ⟨n1, n2, n3⟩ := G'.no_oth (othB_def hD')
            exact ⟨(Array.getElem?_eq_some_iff.1 hD').1, rfl, fun ho => n1 ho.has, n2, n3⟩
        -- and back
        have thaw : ∀ (s' : St) (a' : Act) (W0 W' : World), (∀ g, FB g → W0.heap[g]? = w.heap[g]?) → Rel { Xm with ds := [], fw := W0, Fb := Fr } s' a' W' →
            (W'.heap[w.heap.size + 1]? = W0.heap[w.heap.size + 1]? ∧ W'.heap[w.heap.size]? = W0.heap[w.heap.size]? ∧ (∀ g, FB g → W'.heap[g]? = w.heap[g]?)) ∧ Rel Xm s' a' W' := by
          rintro s' a' W0 W' hW0 ⟨β', cp', Rd', G'⟩
          have hk : ∀ g, Fr g → W'.heap[g]? = W0.heap[g]? := fun g hg => (G'.kept g hg).2.1
          have hd' : a'.defers = [] := G'.defers
          refine ⟨⟨hk _ (by rw [hFr]; exact .inr (.inl rfl)), hk _ (by rw [hFr]; exact .inr (.inr rfl)), fun g hg => (hk g (by rw [hFr]; exact .inl hg)).trans (hW0 g hg)⟩, β', cp', Rd', ?_⟩
          have G2 := G'.refreeze [] w FB a' rfl (by rw [hd']; rfl) fun g hg => by
            obtain ⟨k1, k2, k3, k4, k5⟩ := G'.kept g (by rw [hFr]; exact .inl hg)
            exact ⟨k1, k2.trans (hW0 g hg), k3, k4, k5⟩
          rw [hXm] at G2 ⊢
          exact G2
        have turn : ∀ (s' : St) (a' : Act) (W' : World) (lp lp' : Loop), Rel Xm s' a' W' → W'.heap[w.heap.size + 1]? = some (.loop lp) → Rel Xm s' a' (W'.putObj (w.heap.size + 1) (.loop lp')) := by
          rintro s' a' W' lp lp' ⟨β', cp', Rd', G'⟩ hl'
          exact ⟨β', cp', Rd', G'.other (.loop lp') (othB_loop hl') (by intro _ _ e; cases e) (by rw [hXmw]; omega) (by rw [hXmF]; intro h; have := hFlt _ h; omega)⟩
        have hoth : ∀ (W' : World) (lp' : Loop) (q : Nat), q ≠ w.heap.size + 1 → (W'.putObj (w.heap.size + 1) (.loop lp')).heap[q]? = W'.heap[q]? := fun W' lp' q hq => World.putObj_heap_other hq
        have hFBl : ∀ g, FB g → g ≠ w.heap.size + 1 := fun g hg => by have := hFlt g hg; omega
        -- the assignment, then the body
        have hassign := hround k x e hek hInv
        show Code.wpIn (fenceR (some (w.heap.size + 1))) _ P assign _ ({ tmps := (#[p1, p2].zip #[.int .i64 (k : Int), v]).foldl (fun tmps (x : Tmp × Value) => tmps.setIfInBounds x.1 x.2) a.tmps, defers := [] } : Act) W
        rw [hstart]
        refine runW_in (X := { Xm with ds := [], fw := W, Fb := Fr }) (Dd := fun t => memN t dead) (a0 := am) htt (by rw [hXm]; exact htab) assign (dwS_in (X := { Xm with ds := [], fw := W, Fb := Fr }) hm htt (by rw [hXm]; exact htab) hda) hoa _ ar W _ _ ⟨β, cp, Rd, frz _ _ _ _ _ _ _ Gr hl hD⟩ hSB hassign ⟨?_, fun _ _ _ _ hh => hh.elim, fun _ _ _ hh => hh.elim⟩
        intro s1 a1 Wa hbody hR1 hS1
        obtain ⟨⟨el, eD, eF⟩, hR1m⟩ := thaw s1 a1 W Wa hFBW hR1
        have hla := el.trans hl
        have hDa := eD.trans hD
        refine ⟨Wa.putObj (w.heap.size + 1) (.loop (rec .busy none)), ?_, ?_⟩
        · have := run_beginRound (P := P) hla (by rw [hrec])
          rw [hrec] at this ⊢
          exact this
        · have hlb : (Wa.putObj (w.heap.size + 1) (.loop (rec .busy none))).heap[w.heap.size + 1]? = some (.loop (rec .busy none)) := World.putObj_heap_same (Array.getElem?_eq_some_iff.1 hla).1
          have hDb : (Wa.putObj (w.heap.size + 1) (.loop (rec .busy none))).heap[w.heap.size]? = some (.deferred (some [])) := (hoth _ _ _ (by omega)).trans hDa
          have hFb : ∀ g, FB g → (Wa.putObj (w.heap.size + 1) (.loop (rec .busy none))).heap[g]? = w.heap[g]? := fun g hg => (hoth _ _ _ (hFBl g hg)).trans (eF g hg)
          obtain ⟨βb, cpb, Rdb, Gb⟩ := turn s1 a1 Wa _ (rec .busy none) hR1m hla
          generalize Wa.putObj (w.heap.size + 1) (.loop (rec .busy none)) = Wb at hlb hDb hFb Gb
          -- how a round ends
          have ended : ∀ (jump : Option Code) (Wc : World), Wc.heap[w.heap.size + 1]? = some (.loop (rec .busy none)) →
              (Instr.endRound (w.heap.size + 1) jump).run P Wc = .ok (.bool jump.isNone) (Wc.putObj (w.heap.size + 1) (.loop (rec (if jump.isNone then .ready else .done) jump))) := by
            intro jump Wc hc
            have := run_endRound (P := P) jump hc
            rw [hrec] at this ⊢
            exact this
          have out : ∀ (s' : St) (a' : Act) (Wc : World) (lp' : Loop), Rel { Xm with ds := [], fw := Wb, Fb := Fr } s' a' Wc → SameB (fun t => memN t dead) am a' → ∀ sx, Ent s' sx → (∀ t, memN t dead = true → sx.get t = .c .bot) →
              Wc.heap[w.heap.size + 1]? = some (.loop (rec .busy none)) ∧ Rel Xm sx am (Wc.putObj (w.heap.size + 1) (.loop lp')) ∧ (Wc.putObj (w.heap.size + 1) (.loop lp')).heap[w.heap.size + 1]? = some (.loop lp') ∧ (Wc.putObj (w.heap.size + 1) (.loop lp')).heap[w.heap.size]? = some (.deferred (some [])) := by
            intro s' a' Wc lp' hRc hSc sx hE hbot
            obtain ⟨⟨fl, fD, _⟩, hRm'⟩ := thaw s' a' Wb Wc hFb hRc
            have hlc := fl.trans hlb
            have hDc := fD.trans hDb
            obtain ⟨βc, cpc, Rdc, Gc⟩ := hE Xm a' Wc hRm'
            have hdc : am.defers = a'.defers := by
              have := Gc.defers
              rw [hXm] at this
              rw [hamd]; exact this.symm
            have Gs : Good Xm sx am Wc βc cpc Rdc := Gc.swap dead hSc hdc hbot
            exact ⟨hlc, turn sx am Wc _ lp' ⟨βc, cpc, Rdc, Gs⟩ hlc, World.putObj_heap_same (Array.getElem?_eq_some_iff.1 hlc).1, (hoth _ _ _ (by omega)).trans hDc⟩
          have killE : ∀ s', Ent s' (kill dead s') := fun s' X a w ⟨β, cp, Rd, G⟩ => ⟨β, cp, Rd, G.kill dead⟩
          have killB : ∀ (s' : St) t, memN t dead = true → (kill dead s').get t = .c .bot := fun s' t ht => by rw [kill_get, ht]; rfl
          refine runW_in (X := { Xm with ds := [], fw := Wb, Fb := Fr }) (Dd := fun t => memN t dead) (a0 := am) htt (by rw [hXm]; exact htab) body (dwS_in (X := { Xm with ds := [], fw := Wb, Fb := Fr }) hm htt (by rw [hXm]; exact htab) hdb) hob s1 a1 Wb _ _ ⟨βb, cpb, Rdb, frz _ _ _ _ _ _ _ Gb hlb hDb⟩ hS1 hbody ⟨?_, ?_, ?_⟩
          · rintro s' a' Wc ⟨y, hy1, hy2⟩ hRc hSc
            obtain ⟨o1, o2, o3, o4⟩ := out s' a' Wc (rec .ready none) hRc hSc (F y) hy2 (hF y).2.2
            exact ⟨_, _, ended none Wc o1, .inl ⟨rfl, by rw [hJ]; exact ⟨⟨y, hy1, o2⟩, o3, o4⟩⟩⟩
          · intro i s' a' Wc hQ hRc hSc
            obtain ⟨o1, o2, o3, o4⟩ := out s' a' Wc (rec .done (some (.exit i))) hRc hSc (kill dead s') (killE s') (killB s')
            exact ⟨_, _, ended (some (.exit i)) Wc o1, .inr ⟨rfl, by rw [hJx]; exact ⟨.exit i, .exit i, kill dead s', .inr ⟨i, rfl, rfl⟩, hQ, o2, o3, o4⟩⟩⟩
          · intro s' a' Wc hQ hRc hSc
            obtain ⟨o1, o2, o3, o4⟩ := out s' a' Wc (rec .done (some .ret)) hRc hSc (kill dead s') (killE s') (killB s')
            exact ⟨_, _, ended (some .ret) Wc o1, .inr ⟨rfl, by rw [hJx]; exact ⟨.ret, .ret, kill dead s', .inl ⟨rfl, rfl⟩, hQ, o2, o3, o4⟩⟩⟩
      · rw [hJ]
        obtain ⟨β, cp, Rd, G⟩ := hRm
        refine ⟨⟨x0, hI0, β, cp, Rd, ?_⟩, hL1, hK1⟩
        rw [← hW1]
        exact (G.grow _).grow _
      · rintro e W2 ⟨⟨v, rfl⟩, hj | hj⟩
        · rw [hJ] at hj
          obtain ⟨⟨x, hInv, hRx⟩, hl, hD⟩ := hj
          refine ⟨none, _, ?_, hq.normal (F x) _ _ (hend x hInv) (fin (F x) W2 _ (rec .exhausted none) hRx hl hD)⟩
          have := run_endLoop (P := P) hl (by rw [hrec]; simp)
          rw [hrec] at this ⊢
          exact this
        · rw [hJx] at hj
          obtain ⟨c, ex, sx, hce, hQx, hRx, hl, hD⟩ := hj
          refine ⟨some c, W2.putObj (w.heap.size + 1) (.loop (rec .exhausted (some c))), ?_, ?_⟩
          · have := run_endLoop (P := P) hl (by rw [hrec]; simp)
            rw [hrec] at this ⊢
            exact this
          · have hf := fin sx W2 _ (rec .exhausted (some c)) hRx hl hD
            rcases hce with ⟨rfl, rfl⟩ | ⟨i, rfl, rfl⟩
            · exact wpIn_ret (hq.ret sx _ _ hQx hf)
            · exact wpIn_exit (hq.exit i sx _ _ hQx hf)
  · exact hp.elim
end
end Go.VE
end
section
namespace Go.VE
open Go
section
variable {P : Program} {tt : Nat → Option TI} {tab : Nat → Option Spec} {it : Nat → Option (Bool × Nat)} {n : Nat} {X : Cx}
theorem RelR.cond {s : St} {a : Act} {w : World} (h : RelR X s a w) {c : Operand} {t : Bool} (he : s.ev c = .c (.v (.bool t))) : a.eval c = .bool t := by
  obtain ⟨ds, _, _, β, cp, Rd, G⟩ := h
  have hv := G.ev c
  rw [he] at hv
  generalize a.eval c = v at hv
  cases hv; rfl
theorem RelR.ent {s s' : St} {a : Act} {w : World} (h : RelR X s a w) (he : Ent s s') : RelR X s' a w := let ⟨ds, h1, h2, h3⟩ := h; ⟨ds, h1, h2, he _ _ _ h3⟩
theorem runG_sound (hm : P.follows .mixedOrders = true) (htt : TTok P tt) (htab : TabOK P X.rt tab) (hit : ∀ fk agg sz, it fk = some (agg, sz) → IterOK P fk agg sz) {sq : Nat → Bool} : ∀ (c : Code), okG tab sq c = true → ∀ (s : St) (a : Act) (w : World) (Q' : Ex → St → Prop) (Q : Exit → Act → World → Prop),
    RelR X s a w → runG tt tab (dwS tt tab sq) it c s Q' → QRR X Q' Q → c.wpIn (fenceR none) n P Q a w := by
  intro c
  induction c with
  | skip => intro _ s a w Q' Q h hp hq; exact wpIn_skip (hq.normal s a w hp h)
  | region id ops draw =>
    intro hok s a w Q' Q h hp hq
    simp only [okG, Bool.and_eq_true] at hok
    exact regG hm htt htab hok.1 hok.2 h hp hq
  | rangeFunc g ps x y ihx ihy =>
    intro hok s a w Q' Q h hp hq
    simp only [okG, Bool.and_eq_true] at hok
    exact rfW_sound hm htt htab hit hok.1 hok.2 h hp hq
  | seq x y ihx ihy =>
    intro hok s a w Q' Q h hp hq
    simp only [okG, Bool.and_eq_true] at hok
    exact wpIn_seq (ihx hok.1 s a w _ _ h hp ⟨fun s' a' w' h1 h2 => ihy hok.2 s' a' w' Q' Q h2 h1 hq, fun i s' a' w' h1 h2 => hq.exit i s' a' w' h1 h2, fun s' a' w' h1 h2 => hq.ret s' a' w' h1 h2⟩)
  | cond c x y ihx ihy =>
    intro hok s a w Q' Q h hp hq
    simp only [okG, Bool.and_eq_true] at hok
    have hp' : condW (s.ev c) (runG tt tab (dwS tt tab sq) it x s Q') (runG tt tab (dwS tt tab sq) it y s Q') := hp
    unfold condW at hp'
    split at hp'
    · rename_i t he
      exact wpIn_cond_split (h.cond he) (fun ht => ihx hok.1 s a w Q' Q h (hp'.1 ht) hq) (fun ht => ihy hok.2 s a w Q' Q h (hp'.2 ht) hq)
    · exact hp'.elim
  | block id c ih =>
    intro hok s a w Q' Q h hp hq
    refine wpIn_block (ih hok s a w _ _ h hp ⟨fun s' a' w' h1 h2 => hq.normal s' a' w' h1 h2, fun i s' a' w' h1 h2 => ?_, fun s' a' w' h1 h2 => hq.ret s' a' w' h1 h2⟩)
    simp only [blockK] at h1
    simp only [Exit.inBlock]
    by_cases e : i = id
    · rw [decide_eq_true e] at h1
      rw [if_pos e]
      exact hq.normal s' a' w' h1 h2
    · rw [decide_eq_false e] at h1
      rw [if_neg e]
      exact hq.exit i s' a' w' h1 h2
  | loop c ih =>
    intro hok s a w Q' Q h hp hq
    obtain ⟨α, F, Inv, m, x0, h0, he, hr⟩ := hp
    have key : ∀ k (x : α) (a : Act) (w : World), m x < k → Inv x → RelR X (F x) a w → Code.roundsIn (fenceR none) n P c Q k a w := by
      intro k
      induction k with
      | zero => intro x a w hk; omega
      | succ k IH =>
        intro x a w hk hI hR
        refine ih hok (F x) a w _ _ hR (hr x hI) ⟨fun s' a' w' h1 h2 => ?_, fun i s' a' w' h1 h2 => hq.exit i s' a' w' h1 h2, fun s' a' w' h1 h2 => hq.ret s' a' w' h1 h2⟩
        obtain ⟨y, g1, g2, g3⟩ := h1
        exact IH y a' w' (by omega) g1 (h2.ent g3)
    exact wpIn_loop_rounds _ (key _ x0 a w (Nat.lt_succ_self _) h0 (h.ent he))
  | exit id => intro _ s a w Q' Q h hp hq; exact wpIn_exit (hq.exit id s a w hp h)
  | ret => intro _ s a w Q' Q h hp hq; exact wpIn_ret (hq.ret s a w hp h)
  | _ => intro _ s a w Q' Q h hp hq; exact hp.elim
/-- A FUNCTION'S CONTRACT, FROM ITS TEXT, WHERE THE TEXT HOLDS RANGES OVER FUNCTIONS. -/
theorem fn_satR {rt : RT} (hm : P.follows .mixedOrders = true) (htt : TTok P tt) (htab : TabOK P rt tab) (hit : ∀ fk agg sz, it fk = some (agg, sz) → IterOK P fk agg sz) {f : FuncId} {fn : Func} {c : Code} (hf : P.funcs[f]? = some fn) (hb : fn.body = some c) {ts : List RV} (hres : fn.results = (ts.map RV.var).toArray) {nt : Nat} (hnt : fn.ntmps = nt)
    {sq : Nat → Bool} (hsq : okG tab sq c = true)
    {sp : Spec} (body : ∀ args ins pk, sp.pre args ins → pk + sp.cost ≤ pickLimit → args.length ≤ nt ∧ runG tt tab (dwS tt tab sq) it c (entSt nt args ins pk) (retQ tt sp args ins ts pk)) : Sat P rt f sp := by
  intro w Av Rd pk args vs ins β0 cp0 T hpre hpk
  obtain ⟨hlen, hrun⟩ := body args ins pk hpre hpk
  subst hnt
  have hG := good_entry (nt := fn.ntmps) T hlen
  refine (callsIn_wide (n := 0)).1 (callsIn_of_wp_marks (F := fenceR none) hf hb trivial ?_ rfl)
  have leave : ∀ (s : St) (ds : List Nat) (a : Act) (w' : World), ds.Nodup → (∀ D ∈ ds, w.heap.size ≤ D ∧ w'.heap[D]? = some (.deferred (some []))) → Rel ⟨rt, w, Av, Rd, entPins ins β0 cp0, ds, w', (· ∈ ds)⟩ s a w' → retW tt sp args ins ts pk s →
      LeavesInM (fenceR none) 0 P fn a.tmps (fun e w' => ∃ v r bs β cp Rd', e = .returned v ∧ sp.post args ins r bs ∧ Gives rt sp w w' Av Rd pk ins β0 cp0 v r bs β cp Rd') (ds.map markD) .returning w' := by
    intro s ds
    induction ds with
    | nil =>
      intro a w' _ _ hR hret
      obtain ⟨β, cp, Rd1, G⟩ := hR
      have G2 : Good ⟨rt, w, Av, Rd, entPins ins β0 cp0, [], w, fun _ => False⟩ s a w' β cp Rd1 := G.refreeze [] w (fun _ => False) a rfl G.defers fun g hg => hg.elim
      obtain ⟨_, v, h1, h2⟩ := ret_gives htt hres ⟨β, cp, Rd1, G2⟩ hret
      refine ⟨v, h1, ?_⟩
      obtain ⟨v', r, bs, β', cp', Rd', h3, h4, h5⟩ := h2
      exact ⟨v', r, bs, β', cp', Rd', h3, h4, h5⟩
    | cons D ds ih =>
      intro a w' hnd hmk hR hret
      have hnd' := List.nodup_cons.1 hnd
      have hD := hmk D (List.mem_cons_self ..)
      refine ⟨by simp, .inl ⟨D, _, rfl, run_takeDeferred hD.2, ?_⟩⟩
      have hoth : ∀ q, q ≠ D → (w'.putObj D (.deferred none)).heap[q]? = w'.heap[q]? := fun q hq => World.putObj_heap_other hq
      obtain ⟨β, cp, Rd1, G⟩ := hR
      have G2 := G.refreeze ds w' (· ∈ ds) { tmps := a.tmps, defers := ds.map markD } rfl rfl fun g hg => by
        obtain ⟨k1, k2, k3, k4, k5⟩ := G.kept g (List.mem_cons_of_mem _ hg)
        exact ⟨k1, rfl, k3, k4, k5⟩
      have G3 := G2.other (.deferred none) (othB_def hD.2) (by intro _ _ e; cases e) hD.1 hnd'.1
      have hm2 : ∀ D' ∈ ds, w.heap.size ≤ D' ∧ (w'.putObj D (.deferred none)).heap[D']? = some (.deferred (some [])) := fun D' hD' => by
        obtain ⟨h1, h2⟩ := hmk D' (List.mem_cons_of_mem _ hD')
        exact ⟨h1, (hoth _ (by rintro rfl; exact hnd'.1 hD')).trans h2⟩
      have G4 := G3.refreeze ds (w'.putObj D (.deferred none)) (· ∈ ds) { tmps := a.tmps, defers := ds.map markD } rfl rfl fun g hg => by
        obtain ⟨k1, k2, k3, k4, k5⟩ := G3.kept g hg
        exact ⟨k1, rfl, k3, k4, k5⟩
      exact ih { tmps := a.tmps, defers := ds.map markD } _ hnd'.2 hm2 ⟨β, cp, Rd1, G4⟩ hret
  have hstart : RelR ⟨rt, w, Av, Rd, entPins ins β0 cp0, [], w, fun _ => False⟩ (entSt fn.ntmps args ins pk) { tmps := vs ++ Array.replicate (fn.ntmps - vs.size) undef, defers := [] } w :=
    ⟨[], List.nodup_nil, fun D hD => (by cases hD), β0, cp0, Rd, hG.refreeze [] w (· ∈ []) _ rfl rfl fun g hg => (by cases hg)⟩
  have fin : ∀ s a w', retW tt sp args ins ts pk s → RelR ⟨rt, w, Av, Rd, entPins ins β0 cp0, [], w, fun _ => False⟩ s a w' →
      LeavesInM (fenceR none) 0 P fn a.tmps (fun e w' => ∃ v r bs β cp Rd', e = .returned v ∧ sp.post args ins r bs ∧ Gives rt sp w w' Av Rd pk ins β0 cp0 v r bs β cp Rd') a.defers .returning w' := by
    rintro s a w' hret ⟨ds, h1, h2, h3⟩
    have hdf : a.defers = ds.map markD := by obtain ⟨β, cp, Rd1, G⟩ := h3; exact G.defers
    rw [hdf]
    exact leave s ds a w' h1 h2 h3 hret
  refine runG_sound (X := ⟨rt, w, Av, Rd, entPins ins β0 cp0, [], w, fun _ => False⟩) hm htt htab hit c hsq _ _ _ _ _ hstart hrun ⟨fun s a w' h1 h2 => ?_, fun i s a w' h1 h2 => h1.elim, fun s a w' h1 h2 => ?_⟩
  · exact fin s a w' h1 h2
  · exact fin s a w' h1 h2
end
section eqs
variable (tt : Nat → Option TI) (tab : Nat → Option Spec) (dw : Nat → Array Oper → St → (St → Prop) → Prop) (it : Nat → Option (Bool × Nat)) (Q : Ex → St → Prop) (s : St)
theorem runG_skip : runG tt tab dw it .skip s Q = Q .normal s := rfl
theorem runG_region (id : Nat) (l : List Oper) (d : Bool) : runG tt tab dw it (.region id ⟨l⟩ d) s Q = runW tt tab Ent dw (.region id ⟨l⟩ d) s Q := rfl
theorem runG_seq (a b : Code) : runG tt tab dw it (.seq a b) s Q = runG tt tab dw it a s (seqK Q fun s' => runG tt tab dw it b s' Q) := rfl
theorem runG_cond (c : Operand) (a b : Code) : runG tt tab dw it (.cond c a b) s Q = condW (s.ev c) (runG tt tab dw it a s Q) (runG tt tab dw it b s Q) := rfl
theorem runG_block (id : Nat) (c : Code) : runG tt tab dw it (.block id c) s Q = runG tt tab dw it c s (blockK Q id) := rfl
theorem runG_exit (id : Nat) : runG tt tab dw it (.exit id) s Q = Q (.exit id) s := rfl
theorem runG_ret : runG tt tab dw it .ret s Q = Q .ret s := rfl
end eqs
end Go.VE
end
