/- Contracts of functions of the program vectorraster, each proved for all states that fit its description. No conditions. -/
import Derived.Test.YthphndhiacikaaaGreatDoorEF
set_option linter.unusedSimpArgs false
set_option linter.unusedVariables false
section
namespace Go.VE
open Go
/-! The library's iterators that walk a row backward. -/
def itShape (r0 r1 r2 r3 b0 b1 : Nat) (L0 L1 L2 L3 : List Oper) : Code :=
  .seq (.region r0 ⟨L0⟩ false) (.block b0 (.loop (.seq (.seq (.region r1 ⟨L1⟩ false) (.cond (.tmp 8) .skip (.exit b0))) (.seq (.block b1 (.seq (.region r3 ⟨L3⟩ false) (.cond (.tmp 18) .ret .skip))) (.region r2 ⟨L2⟩ false)))))
def rOps : Code → Nat → List Oper
  | .region id ops _, r => bif id == r then ops.toList else []
  | .seq a b, r => rOps a r ++ rOps b r
  | .block _ c, r => rOps c r
  | .loop c, r => rOps c r
  | _, _ => []
def itD (t : Nat) : Bool := !(t == 0) && !(t == 1)
def plainP (o : Oper) : Bool := pureOp o.op && o.guard.isNone && okOp itD o
/-- The state between operations. -/
def itS0 (Y : Value) (t : Bool) (es : List (List C)) : St := ⟨19, 0, [(0, .c (.v Y)), (1, .c (.rp [.sl t es]))], [], 0, 0⟩
def itSt (Y : Value) (t : Bool) (es : List (List C)) (k : Int) : St := ⟨19, 0, [(0, .c (.v Y)), (1, .c (.rp [.sl t es])), (3, .c (.v (.int .i64 k)))], [], 0, 0⟩
def itB (k : Int) (b : Bool) : St := ⟨19, 0, [(3, .c (.v (.int .i64 k))), (17, .c (.v (.bool b)))], [], 0, 0⟩
section
variable {P : Program} {tt : Nat → Option TI} {tab : Nat → Option Spec} {n : Nat}
/-- Pure operations, one after another: the world stays. -/
theorem opsP_in {X : Cx} {a0 : Act} (htt : TTok P tt) {ops : Array Oper} {Q : Exit → Act → World → Prop} {L : List Oper} : ∀ (l : List Oper) (s : St) (a : Act) (w : World) (K : St → Prop), l.all plainP = true → Rel X s a w → SameB itD a0 a → opsW tt tab ops l s K →
    (∀ s' a', K s' → Rel X s' a' w → SameB itD a0 a' → wpListIn (fenceR none) n P ops Q L a' w) → wpListIn (fenceR none) n P ops Q (l ++ L) a w
  | [], s, a, w, K, _, h, hs, hp, hK => hK s a hp h hs
  | o :: l, s, a, w, K, hl, h, hs, hp, hK => by
    simp only [List.all_cons, Bool.and_eq_true, plainP] at hl
    obtain ⟨⟨⟨hpure, hgd⟩, hok⟩, hl2⟩ := hl
    have hgn : o.guard = none := by cases hg : o.guard <;> simp_all
    have hp' : opW tt tab o s fun s => opsW tt tab ops l s K := by
      have h1 : guardW ops o s (fun s => opW tt tab o s fun s => opsW tt tab ops l s K) (fun s => dstOK s.nt o.dst ∧ opsW tt tab ops l (s.put o.dst (.c .und)) K) := hp
      unfold guardW at h1
      rw [hgn] at h1
      exact h1
    obtain ⟨β, cp, Rd, G⟩ := h
    obtain ⟨hd, h1, h2⟩ := hp'
    obtain ⟨u, hrun, s', hs', hG'⟩ := opP_sound (tab := tab) (nid := s.nx) htt (G.bump 8) hd hpure h1
    rw [List.cons_append]
    unfold wpListIn
    have hw : Region.wanted o (yielded ops a.tmps) = true := by unfold Region.wanted; rw [hgn]
    rw [if_pos hw]
    have hnd : ∀ c, o.op ≠ .defer c := by
      intro c hc
      rw [hc] at hpure
      cases hpure
    refine ⟨fun _ _ => trivial, ?_⟩
    rw [Oper.semAt_eq _ _ _ hnd, hrun w Rd (fun _ => Fr.refl w Rd)]
    exact opsP_in htt l s' _ w K (by simpa [plainP] using hl2) ⟨β, cp, Rd, hG'⟩ (hs.put hok rfl) (h2 s' hs') hK
theorem opsP_end {X : Cx} {a0 : Act} (htt : TTok P tt) {ops : Array Oper} {Q : Exit → Act → World → Prop} (l : List Oper) (s : St) (a : Act) (w : World) (K : St → Prop) (hl : l.all plainP = true) (h : Rel X s a w) (hs : SameB itD a0 a) (hp : opsW tt tab ops l s K)
    (hK : ∀ s' a', K s' → Rel X s' a' w → SameB itD a0 a' → Q .normal a' w) : wpListIn (fenceR none) n P ops Q l a w := by
  have := opsP_in (n := n) (L := []) (Q := Q) htt l s a w K hl h hs hp hK
  rwa [List.append_nil] at this
/-- An assignment of a value. -/
theorem assign_in {X : Cx} {a0 : Act} {ops : Array Oper} {Q : Exit → Act → World → Prop} {L : List Oper} {o : Oper} {x : Operand} {d : Nat} (ho : o.op = .assign x) (hg : o.guard = none) (hdst : o.dst = some d) (hok : itD d = true) {s : St} {a : Act} {w : World} (h : Rel X s a w) (hs : SameB itD a0 a) (hd : d < s.nt)
    (hK : ∀ a', Rel X (s.put (some d) (s.ev x)) a' w → SameB itD a0 a' → wpListIn (fenceR none) n P ops Q L a' w) : wpListIn (fenceR none) n P ops Q (o :: L) a w := by
  unfold wpListIn
  have hw : Region.wanted o (yielded ops a.tmps) = true := by unfold Region.wanted; rw [hg]
  rw [if_pos hw]
  have hnd : ∀ c, o.op ≠ .defer c := by
    intro c hc
    rw [ho] at hc
    cases hc
  refine ⟨fun _ _ => trivial, ?_⟩
  have hrun : (execOp a.eval o).run P w = .ok (.value (a.eval x)) w := by
    unfold execOp
    rw [ho]
    rfl
  rw [Oper.semAt_eq _ _ _ hnd, hrun]
  obtain ⟨β, cp, Rd, G⟩ := h
  show wpListIn (fenceR none) n P ops Q L (a.put o.dst (a.eval x)) w
  rw [hdst]
  exact hK _ ⟨β, cp, Rd, G.put (d := some d) hd (G.ev x)⟩ (hs.set hok rfl)
/-- Without variables of packages. -/
def rtN : RT := ⟨0, [], fun _ => True, fun _ _ _ h => h⟩
/-- A state without boxes fits. -/
theorem it_relE {Mt : Nat → Prop} {a : Act} {w : World} {env : List (Nat × AV)} (hsz : a.tmps.size = 19) (hdf : a.defers = []) (henv : ∀ p ∈ env, MA w Mt (fun _ => False) (fun _ _ => False) (a.tmps.getD p.1 undef) p.2) :
    Rel ⟨rtN, w, fun g => Mt g ∧ g < w.heap.size, fun _ => False, [], [], w, fun _ => False⟩ ⟨19, 0, env, [], 0, 0⟩ a w := by
  refine ⟨fun _ => none, fun _ => 0, fun _ => False, ?_⟩
  have hmt : ∀ g, g < w.heap.size → Cx.mt ⟨rtN, w, fun g => Mt g ∧ g < w.heap.size, fun _ => False, [], [], w, fun _ => False⟩ ⟨19, 0, env, [], 0, 0⟩ (fun _ => none) (fun _ => False) g → Mt g := by
    rintro g _ (hg | ⟨b, bx, _, _, hg⟩ | hg)
    · exact hg.1
    · cases hg
    · exact hg.elim
  have hbx : ∀ b, (⟨19, 0, env, [], 0, 0⟩ : St).box b = none := fun b => rfl
  have hget : ∀ (l : List (Nat × AV)) (u : Nat), (∀ p ∈ l, MA w Mt (fun _ => False) (fun _ _ => False) (a.tmps.getD p.1 undef) p.2) → MA w Mt (fun _ => False) (fun _ _ => False) (a.tmps.getD u undef) (lkE l u) := by
    intro l u
    induction l with
    | nil => intro _; trivial
    | cons q l ih =>
      intro h
      obtain ⟨k, x⟩ := q
      simp only [lkE]
      cases hk : k == u with
      | true =>
        have := eq_of_beq hk
        subst this
        exact h _ (List.mem_cons_self ..)
      | false => exact ih fun p hp => h p (List.mem_cons_of_mem _ hp)
  exact {
    defers := hdf
    size := hsz
    keeps := Keeps.refl _ _
    fresh := fun b hb => by cases hb
    org := fun b bx g hb => by rw [hbx] at hb; cases hb
    own_rd := fun g _ hr => hr
    own_av := fun g ⟨b, bx, hb, _⟩ => by rw [hbx] at hb; cases hb
    rdsame := fun g hg => hg.elim
    inj := fun b b' bx bx' g hb => by rw [hbx] at hb; cases hb
    rd0 := fun g hg => hg
    rdge := fun g hg => hg.elim
    avlt := fun g hg => hg.2
    npin := rfl
    pin := fun i q hq => by simp at hq
    rdok := fun g hg => hg.elim
    env := fun u => (hget env u henv).mono (K := fun _ => True) (fun _ _ _ => rfl) (Nat.le_refl _) hmt (fun _ h => h.elim) (avIds_all _) (fun _ _ _ _ _ _ h => h.elim)
    boxes := fun b bx hb => by rw [hbx] at hb; cases hb
    glob := ⟨trivial, fun g hg => by cases hg⟩
    kept := fun g hg => hg.elim }
theorem Rel.val {X : Cx} {s : St} {a : Act} {w : World} (h : Rel X s a w) {t : Nat} {v : Value} (ht : s.get t = .c (.v v)) : a.tmps.getD t undef = v := by
  obtain ⟨β, cp, Rd, G⟩ := h
  have := G.env t
  rw [ht] at this
  generalize a.tmps.getD t undef = u at this
  cases this; rfl
theorem Rel.nodefers {X : Cx} {s : St} {a : Act} {w : World} (h : Rel X s a w) (hX : X.ds = []) : a.defers = [] := by
  obtain ⟨β, cp, Rd, G⟩ := h
  have := G.defers
  rw [hX] at this
  exact this
/-- What is so between two rounds. -/
structure ItA (Y pv : Value) (k : Int) (a : Act) : Prop where
  size : a.tmps.size = 19
  defers : a.defers = []
  s0 : a.tmps.getD 0 undef = Y
  s1 : a.tmps.getD 1 undef = pv
  s3 : a.tmps.getD 3 undef = .int .i64 k
theorem rp_parts {W : World} {Mt : Nat → Prop} {pv : Value} {t : Bool} {es : List (List C)} (h : RC W Mt pv (.rp [.sl t es])) : es.length ≤ maxLen ∧ ∀ e ∈ es, ∀ c ∈ e, VE.okR c = true := by
  cases h with
  | rp cs p hs hm hlt u hc hr =>
    have h1 := hr 0 _ rfl
    generalize u 0 = x at h1
    cases h1 with
    | sl t es k a p n cap hn ht hle hmax hk ha u hc hr =>
      refine ⟨by omega, fun e he c hce => ?_⟩
      obtain ⟨i, hi, hie⟩ := List.getElem_of_mem he
      obtain ⟨j, hj, hjc⟩ := List.getElem_of_mem hce
      exact (hr i j e c (by rw [List.getElem?_eq_getElem hi, hie]) (by rw [List.getElem?_eq_getElem hj, hjc])).okR
theorem elem_ok {w : World} {Mt Mt' Rd : Nat → Prop} {H : C → Value → Prop} {v : Value} {agg : Bool} {e : List C} (h : MA w Mt Rd H v (mkAV agg e)) (he : ∀ c ∈ e, VE.okR c = true) (hM : ∀ g, g < w.heap.size → Mt' g → Mt g) :
    MA1 w Mt' (fun _ => False) (fun _ _ => False) v (mkAV agg e) := by
  cases agg with
  | true =>
    obtain ⟨arr, rfl, hs, hr⟩ := (h : MA1 w Mt Rd H v (.agg e))
    exact ⟨arr, rfl, hs, fun j c hj => (((hr j c hj).rc (he c (List.mem_of_getElem? hj))).mono (fun _ _ _ => rfl) (Nat.le_refl _) hM).mc⟩
  | false =>
    match e, he, h with
    | [], _, _ => trivial
    | [x], he, h => exact (((h : MC w Mt Rd H v x).rc (he x (List.mem_cons_self ..))).mono (fun _ _ _ => rfl) (Nat.le_refl _) hM).mc
    | _ :: _ :: _, _, _ => trivial
set_option maxHeartbeats 2000000 in
/-- AN ITERATOR, BY ITS TEXT. -/
theorem iter_of (htt : TTok P tt) (htab : TabOK P rtN tab) {fk : Nat} {fn : Func} {r0 r1 r2 r3 b0 b1 : Nat} {L0 A0 L1 L2 A2 L3 A3 : List Oper} {o0 o2 oy on : Oper} {agg : Bool} {sz : Nat}
    (hf : P.funcs[fk]? = some fn) (hng : (fn.name == "runtime.NumGoroutine") = false) (hb : fn.body = some (itShape r0 r1 r2 r3 b0 b1 L0 L1 L2 L3)) (hres : fn.results = #[]) (hnt : fn.ntmps = 19)
    (hL0 : L0 = A0 ++ [o0]) (hL2 : L2 = A2 ++ [o2]) (hL3 : L3 = A3 ++ oy :: [on])
    (hA : (A0.all plainP && L1.all plainP && A2.all plainP && A3.all plainP && plainP on) = true)
    (ho0 : o0.op = .assign (.tmp 6) ∧ o0.guard = none ∧ o0.dst = some 3) (ho2 : o2.op = .assign (.tmp 10) ∧ o2.guard = none ∧ o2.dst = some 3)
    (hoy : oy.guard = none ∧ oy.dst = some 17 ∧ ∃ ats, oy.op = .call ⟨.value (.tmp 11), #[.tmp 12, .tmp 16], ats⟩)
    (e0 : ∀ Y t es, es.length ≤ maxLen → opsW tt tab ⟨L0⟩ A0 (itS0 Y t es) fun s => s.get 6 = .c (.v (.int .i64 ((es.length : Int) - 1))) ∧ s.nt = 19)
    (e1 : ∀ (Y : Value) (t : Bool) (es : List (List C)) (k : Int), opsW tt tab ⟨L1⟩ L1 (itSt Y t es k) fun s => s.get 8 = .c (.v (.bool (decide (0 ≤ k)))) ∧ s.get 3 = .c (.v (.int .i64 k)))
    (e2 : ∀ (k : Int) (b : Bool), 0 ≤ k → k ≤ maxLen → opsW tt tab ⟨L2⟩ A2 (itB k b) fun s => s.get 10 = .c (.v (.int .i64 (k - 1))) ∧ s.nt = 19)
    (e3 : ∀ Y t es (k : Nat) e, es[k]? = some e → (∀ e ∈ es, e.length = sz) → opsW tt tab ⟨L3⟩ A3 (itSt Y t es k) fun s => s.get 11 = .c (.v Y) ∧ s.get 12 = .c (.v (.int .i64 (k : Int))) ∧ s.get 16 = mkAV agg e ∧ s.get 3 = .c (.v (.int .i64 (k : Int))))
    (e4 : ∀ (k : Int) (b : Bool), opsW tt tab ⟨L3⟩ [on] (itB k b) fun s => s.get 18 = .c (.v (.bool !b)) ∧ s.get 3 = .c (.v (.int .i64 k)) ∧ s.get 17 = .c (.v (.bool b))) : IterOK P fk agg sz := by
  refine ⟨⟨fn, hf, hng, by rw [hb]; rfl⟩, ?_⟩
  subst hL0 hL2 hL3
  simp only [Bool.and_eq_true] at hA
  obtain ⟨⟨⟨⟨hA0, hA1⟩, hA2⟩, hA3⟩, hAn⟩ := hA
  intro n l t es pv Mt J Jx hlen hJ hY W0 hW0
  obtain ⟨Y, hYe⟩ : ∃ Y, Y = Value.func (.yield l) #[] #[] := ⟨_, rfl⟩
  rw [← hYe]
  have hY1 : Y.oneCell' = true := by rw [hYe]; rfl
  have hmax := (rp_parts (hJ _ _ hW0)).1
  have hokc := (rp_parts (hJ _ _ hW0)).2
  refine callsIn_of_wp_marks (F := fenceR none) hf hb trivial ?_ rfl
  rw [hnt]
  obtain ⟨R, hR⟩ : ∃ R : Ending → World → Prop, R = fun e W' => (∃ v, e = .returned v) ∧ (J 0 W' ∨ Jx W') := ⟨_, rfl⟩
  rw [← hR]
  have hleave : ∀ (a : Act) (W : World), a.defers = [] → (J 0 W ∨ Jx W) → LeavesInM (fenceR none) n P fn a.tmps R a.defers .returning W := by
    intro a W hd hj
    rw [hd]
    exact ⟨_, results_none hres _ _ _, by rw [hR]; exact ⟨⟨_, rfl⟩, hj⟩⟩
  -- relations
  have rel3 : ∀ (a : Act) (W : World) (k : Int), ItA Y pv k a → RC W Mt pv (.rp [.sl t es]) → Rel ⟨rtN, W, fun g => Mt g ∧ g < W.heap.size, fun _ => False, [], [], W, fun _ => False⟩ (itSt Y t es k) a W := by
    intro a W k hA hpv
    refine it_relE hA.size hA.defers fun p hp => ?_
    simp only [List.mem_cons, List.not_mem_nil, or_false] at hp
    rcases hp with rfl | rfl | rfl
    · show RC _ _ _ (.v Y); rw [hA.s0]; exact RC.v _ hY1
    · show RC _ _ _ _; rw [hA.s1]; exact hpv
    · show RC _ _ _ (.v _); rw [hA.s3]; exact RC.v _ rfl
  have relB : ∀ (a : Act) (W : World) (k : Int) (b : Bool), ItA Y pv k a → a.tmps.getD 17 undef = .bool b → Rel ⟨rtN, W, fun g => Mt g ∧ g < W.heap.size, fun _ => False, [], [], W, fun _ => False⟩ (itB k b) a W := by
    intro a W k b hA hb
    refine it_relE hA.size hA.defers fun p hp => ?_
    simp only [List.mem_cons, List.not_mem_nil, or_false] at hp
    rcases hp with rfl | rfl
    · show RC _ _ _ (.v _); rw [hA.s3]; exact RC.v _ rfl
    · show RC _ _ _ (.v _); rw [hb]; exact RC.v _ rfl
  -- carried
  have carry : ∀ (X : Cx) (s : St) (a a' : Act) (W : World) (k k' : Int), X.ds = [] → ItA Y pv k a → SameB itD a a' → Rel X s a' W → s.get 3 = .c (.v (.int .i64 k')) → ItA Y pv k' a' := by
    intro X s a a' W k k' hX hA hS hRl h3
    exact ⟨hS.1.trans hA.size, hRl.nodefers hX, (hS.2 0 rfl).trans hA.s0, (hS.2 1 rfl).trans hA.s1, hRl.val h3⟩
  -- the loop
  have key : ∀ (m k : Nat) (a : Act) (W : World), k < m → k ≤ es.length → ItA Y pv ((k : Int) - 1) a → J k W → Code.roundsIn (fenceR none) n P
      (.seq (.seq (.region r1 ⟨L1⟩ false) (.cond (.tmp 8) .skip (.exit b0))) (.seq (.block b1 (.seq (.region r3 ⟨A3 ++ oy :: [on]⟩ false) (.cond (.tmp 18) .ret .skip))) (.region r2 ⟨A2 ++ [o2]⟩ false))) (Exit.inBlock b0 (bodyPostM (fenceR none) n P fn R)) m a W := by
    intro m
    induction m with
    | zero => intro k a W h; omega
    | succ m IH =>
      intro k a W hkm hkl hA hj
      rw [roundsIn_succ]
      have hpv := hJ k W hj
      refine wpIn_seq (wpIn_seq (wpIn_region_list ?_))
      show wpListIn _ _ _ _ _ L1 _ _
      refine opsP_end htt L1 _ a W _ hA1 (rel3 a W _ hA hpv) (SameB.refl _ _) (e1 Y t es _) ?_
      intro s1 a1 ⟨h8, h3⟩ hR1 hS1
      have hA' := carry _ _ _ _ _ _ _ rfl hA hS1 hR1 h3
      have hc8 := hR1.val h8
      show Code.wpIn _ _ _ _ _ _ _
      refine wpIn_cond_split (t := decide (0 ≤ (k : Int) - 1)) hc8 (fun hk => ?_) (fun hk => ?_)
      · -- a round
        have hk1 : 1 ≤ k := by have := of_decide_eq_true hk; omega
        obtain ⟨k', rfl⟩ : ∃ k', k = k' + 1 := ⟨k - 1, by omega⟩
        have hki : ((k' + 1 : Nat) : Int) - 1 = (k' : Int) := by omega
        rw [hki] at hA'
        have hkk : k' < es.length := by omega
        have hek : es[k']? = some es[k'] := List.getElem?_eq_getElem hkk
        refine wpIn_skip ?_
        show Code.wpIn _ _ _ _ _ _ _
        refine wpIn_seq (wpIn_block (wpIn_seq (wpIn_region_list ?_)))
        show wpListIn _ _ _ _ _ (A3 ++ oy :: [on]) _ _
        refine opsP_in htt A3 _ a1 W _ hA3 (rel3 a1 W _ hA' hpv) (SameB.refl _ _) (e3 Y t es k' es[k'] hek hlen) ?_
        intro s3 a3 ⟨h11, h12, h16, h33⟩ hR3 hS3
        have hA3' := carry _ _ _ _ _ _ _ rfl hA' hS3 hR3 h33
        have hv : MA1 W Mt (fun _ => False) (fun _ _ => False) (a3.tmps.getD 16 undef) (mkAV agg es[k']) := by
          obtain ⟨β, cp, Rd, G⟩ := hR3
          have := G.env 16
          rw [h16] at this
          exact elem_ok this (hokc _ (List.getElem_mem hkk)) fun g hg hm => .inl ⟨hm, hg⟩
        obtain ⟨fn', tmps', assign', body', hyr, hround⟩ := hY k' W _ _ hek hj hv
        show wpListIn _ _ _ _ _ (oy :: [on]) _ _
        unfold wpListIn
        have hw : Region.wanted oy (yielded (⟨A3 ++ oy :: [on]⟩ : Array Oper) a3.tmps) = true := by unfold Region.wanted; rw [hoy.1]
        rw [if_pos hw]
        obtain ⟨hoy1, hoy2, ats, hoy3⟩ := hoy
        have hnd : ∀ c, oy.op ≠ .defer c := by
          intro c hc
          rw [hoy3] at hc
          cases hc
        refine ⟨fun _ _ => trivial, ?_⟩
        have hrun : (execOp a3.eval oy).run P W = .ok (.round l fn' tmps' assign' body') W := by
          have e11 : a3.eval (.tmp 11) = .func (.yield l) #[] #[] := by rw [← hYe]; exact hR3.val h11
          have e12 : a3.eval (.tmp 12) = .int .i64 (k' : Int) := hR3.val h12
          have e16 : a3.eval (.tmp 16) = a3.tmps.getD 16 undef := rfl
          unfold execOp
          simp only [hoy3, resolve, e11]
          rw [← e12, ← e16] at hyr
          simpa [Deferred.ofValue, invoke] using hyr
        rw [Oper.semAt_eq _ _ _ hnd, hrun]
        refine ⟨fun hh => (by cases hh), RoundIn.mono hround fun e' W' he => ?_⟩
        have hbb : ∃ b : Bool, e' = .returned (.bool b) ∧ (b = true → J k' W') ∧ (b = false → Jx W') := by
          rcases he with ⟨rfl, hj'⟩ | ⟨rfl, hj'⟩
          · exact ⟨true, rfl, fun _ => hj', fun h => by cases h⟩
          · exact ⟨false, rfl, fun h => (by cases h), fun _ => hj'⟩
        obtain ⟨b, rfl, hbt, hbf⟩ := hbb
        show wpListIn _ _ _ _ _ [on] (a3.put oy.dst (.bool b)) W'
        rw [hoy2]
        have hput : (a3.put (some 17) (.bool b)).tmps = a3.tmps.setIfInBounds 17 (.bool b) := rfl
        have hA4 : ItA Y pv (k' : Int) (a3.put (some 17) (.bool b)) := by
          refine ⟨by rw [hput]; simpa using hA3'.size, hA3'.defers, ?_, ?_, ?_⟩
          · rw [hput, getD_setIfInBounds_ne (by decide)]; exact hA3'.s0
          · rw [hput, getD_setIfInBounds_ne (by decide)]; exact hA3'.s1
          · rw [hput, getD_setIfInBounds_ne (by decide)]; exact hA3'.s3
        have h17 : (a3.put (some 17) (.bool b)).tmps.getD 17 undef = .bool b := by
          rw [hput]
          have : 17 < a3.tmps.size := by rw [hA3'.size]; decide
          simp [this]
        refine opsP_end htt [on] _ _ W' _ (by simpa using hAn) (relB _ W' _ b hA4 h17) (SameB.refl _ _) (e4 _ b) ?_
        intro s5 a5 ⟨h18, h53, h517⟩ hR5 hS5
        have hA5 := carry _ _ _ _ _ _ _ rfl hA4 hS5 hR5 h53
        have hc18 := hR5.val h18
        show Code.wpIn _ _ _ _ _ _ _
        cases b with
        | false =>
          refine wpIn_cond_true hc18 (wpIn_ret ?_)
          exact hleave a5 W' hA5.defers (.inr (hbf rfl))
        | true =>
          refine wpIn_cond_false hc18 (wpIn_skip ?_)
          show Code.wpIn _ _ _ _ _ _ _
          refine wpIn_region_list ?_
          show wpListIn _ _ _ _ _ (A2 ++ [o2]) _ _
          have hj' := hbt rfl
          have hR6 := relB a5 W' _ true hA5 (hR5.val h517)
          refine opsP_in htt A2 _ a5 W' _ hA2 hR6 (SameB.refl _ _) (e2 (k' : Int) true (by omega) (by omega)) ?_
          intro s7 a7 ⟨h10, hnt7⟩ hR7 hS7
          refine assign_in ho2.1 ho2.2.1 ho2.2.2 rfl hR7 hS7 (by rw [hnt7]; decide) ?_
          intro a8 hR8 hS8
          refine IH k' a8 W' (by omega) (by omega) ?_ hj'
          refine ⟨hS8.1.trans hA5.size, hR8.nodefers rfl, (hS8.2 0 rfl).trans hA5.s0, (hS8.2 1 rfl).trans hA5.s1, hR8.val ?_⟩
          show lkE ((3, s7.ev (.tmp 10)) :: s7.env) 3 = _
          exact h10
      · -- all have come
        have hk0 : k = 0 := by have := of_decide_eq_false hk; omega
        subst hk0
        refine wpIn_exit ?_
        show Exit.inBlock b0 (bodyPostM (fenceR none) n P fn R) (.exit b0) a1 W
        simp only [Exit.inBlock, if_true]
        exact hleave a1 W hA'.defers (.inl hj)
  -- ahead of the loop
  obtain ⟨a0, ha0⟩ : ∃ a0 : Act, a0 = { tmps := #[Y, pv] ++ Array.replicate (19 - (#[Y, pv] : Array Value).size) undef, defers := [] } := ⟨_, rfl⟩
  rw [← ha0]
  have hpv0 := hJ _ _ hW0
  have hsz0 : a0.tmps.size = 19 := by rw [ha0]; rfl
  have hd0 : a0.defers = [] := by rw [ha0]
  have h00 : a0.tmps.getD 0 undef = Y := by rw [ha0]; rfl
  have h01 : a0.tmps.getD 1 undef = pv := by rw [ha0]; rfl
  have hrel0 : Rel ⟨rtN, W0, fun g => Mt g ∧ g < W0.heap.size, fun _ => False, [], [], W0, fun _ => False⟩ (itS0 Y t es) a0 W0 := by
    refine it_relE hsz0 hd0 fun p hp => ?_
    simp only [List.mem_cons, List.not_mem_nil, or_false] at hp
    rcases hp with rfl | rfl
    · show RC _ _ _ (.v Y); rw [h00]; exact RC.v _ hY1
    · show RC _ _ _ _; rw [h01]; exact hpv0
  refine wpIn_seq (wpIn_region_list ?_)
  show wpListIn _ _ _ _ _ (A0 ++ [o0]) _ _
  refine opsP_in htt A0 _ a0 W0 _ hA0 hrel0 (SameB.refl _ _) (e0 Y t es hmax) ?_
  intro s1 a1 ⟨h6, hnt1⟩ hR1 hS1
  refine assign_in ho0.1 ho0.2.1 ho0.2.2 rfl hR1 hS1 (by rw [hnt1]; decide) ?_
  intro a2 hR2 hS2
  have hA2' : ItA Y pv ((es.length : Int) - 1) a2 := by
    refine ⟨hS2.1.trans hsz0, hR2.nodefers rfl, (hS2.2 0 rfl).trans h00, (hS2.2 1 rfl).trans h01, hR2.val ?_⟩
    show lkE ((3, s1.ev (.tmp 6)) :: s1.env) 3 = _
    exact h6
  show Code.wpIn _ _ _ _ _ _ _
  exact wpIn_block (wpIn_loop_rounds (es.length + 1) (key (es.length + 1) es.length a2 W0 (by omega) (Nat.le_refl _) hA2' hW0))
end
end Go.VE
end
section
namespace Go.VE
open Go
section
variable {tt : Nat → Option TI} {tab : Nat → Option Spec} {sq : Nat → Bool} {it : Nat → Option (Bool × Nat)}
/-- A RANGE OVER A FUNCTION, its row given by its elements. -/
theorem rfS {g : Operand} {p1 p2 : Nat} {assign body : Code} {s : St} {Q : Ex → St → Prop} {fk : Nat} {t : Bool} {η : Type} (l : List η) (cf : η → List C) {α : Type} (agg : Bool) (sz : Nat) (wk : Bool) (dead : List Nat) (bd : St → List Nat) (ub : St → α → List (Nat × Option Box)) (ck : α → Nat) (D : St → α) (R : St → St → List (Nat × Nat)) (Inv : Nat → α → Prop)
    (hg : s.ev g = .c (.fn fk [.rp [.sl t (l.map cf)]])) (hsz : ∀ y, (cf y).length = sz) (hit : it fk = some (agg, sz))
    (hok : (Nat.blt p1 s.nt && Nat.blt p2 s.nt && memN p1 dead && memN p2 dead && okCode (fun t => memN t dead) assign && okCode (fun t => memN t dead) body) = true) (hnm : noMapHp s.hp)
    (h0 : Inv l.length (D s) ∧ EntL wk (R s) s (famS s [] dead (ub s (D s)) (bd s) (s.pk + ck (D s))))
    (hr : ∀ (k : Nat) x y, l[k]? = some y → Inv (k + 1) x →
      runW tt tab Ent (dwS tt tab sq) assign ⟨s.nt, s.np, (p2, mkAV agg (cf y)) :: (p1, .c (.v (.int .i64 (k : Int)))) :: dropE dead s.env, ub s x ++ dropB (bd s) s.hp, s.nx, s.pk + ck x⟩ (onlyN fun s1 => runW tt tab Ent (dwS tt tab sq) body s1 (afterQ Q dead fun s' => Inv k (D s') ∧ EntL wk (R s) s' (famS s [] dead (ub s (D s')) (bd s) (s.pk + ck (D s'))))))
    (he : ∀ x, Inv 0 x → Q .normal (famS s [] dead (ub s x) (bd s) (s.pk + ck x))) : runG tt tab (dwS tt tab sq) it (.rangeFunc g #[p1, p2] assign body) s Q := by
  simp only [Bool.and_eq_true, Nat.blt_eq] at hok
  obtain ⟨⟨⟨⟨⟨k1, k2⟩, k3⟩, k4⟩, k5⟩, k6⟩ := hok
  simp only [runG, rfW, hg]
  refine ⟨agg, sz, dead, hit, fun e he => ?_, k1, k2, k3, k4, k5, k6, α, fun x => famS s [] dead (ub s x) (bd s) (s.pk + ck x), Inv, D s, by simpa using h0.1, hnm, h0.2.ent, fun x => ⟨rfl, rfl, fun t ht => ?_⟩, fun k x e hk hi => ?_, he⟩
  · simp only [List.mem_map] at he
    obtain ⟨y, _, rfl⟩ := he
    exact hsz y
  · show lkE (dropE dead s.env) t = _
    rw [lkE_dropE, ht]; rfl
  · simp only [List.getElem?_map, Option.map_eq_some_iff] at hk
    obtain ⟨y, hy, rfl⟩ := hk
    refine runW_mono _ _ (fun e' s' hs => ?_) (hr k x y hy hi)
    cases e' with
    | normal =>
      refine runW_mono _ _ (fun e2 s2 hs2 => ?_) hs
      cases e2 with
      | normal => exact ⟨D s2, hs2.1, hs2.2.ent⟩
      | exit i => exact hs2
      | ret => exact hs2
    | exit i => exact hs
    | ret => exact hs
end
def itOne (f : Nat) (agg : Bool) (sz : Nat) (g : Nat) : Option (Bool × Nat) := bif g == f then some (agg, sz) else none
theorem itOne_ok {P : Program} {f : Nat} {agg : Bool} {sz : Nat} (h : IterOK P f agg sz) : ∀ fk a z, itOne f agg sz fk = some (a, z) → IterOK P fk a z := by
  intro fk a z hh
  unfold itOne at hh
  cases he : fk == f with
  | false => rw [he] at hh; cases hh
  | true =>
    rw [he] at hh
    cases hh
    rw [eq_of_beq he]
    exact h
section eqs
variable (Q : Ex → St → Prop) (dead : List Nat) (next : St → Prop) (s : St)
theorem onlyN_normal : onlyN next .normal s = next s := rfl
theorem onlyN_exit (i : Nat) : onlyN next (.exit i) s = False := rfl
theorem onlyN_ret : onlyN next .ret s = False := rfl
theorem afterQ_normal : afterQ Q dead next .normal s = next s := rfl
theorem afterQ_exit (i : Nat) : afterQ Q dead next (.exit i) s = Q (.exit i) (kill dead s) := rfl
theorem afterQ_ret : afterQ Q dead next .ret s = Q .ret (kill dead s) := rfl
theorem kill_mk (nt np : Nat) (env : List (Nat × AV)) (hp : List (Nat × Option Box)) (nx pk : Nat) : kill dead ⟨nt, np, env, hp, nx, pk⟩ = ⟨nt, np, dropE dead env, hp, nx, pk⟩ := rfl
theorem noMapHp_nil : noMapHp [] = True := rfl
theorem noMapHp_some (b : Nat) (bx : Box) (r : List (Nat × Option Box)) : noMapHp ((b, some bx) :: r) = ((bx.row = true ∨ bx.es ≠ []) ∧ noMapHp r) := rfl
theorem noMapHp_none (b : Nat) (r : List (Nat × Option Box)) : noMapHp ((b, none) :: r) = noMapHp r := rfl
end eqs
attribute [go_sem] runG_skip runG_region runG_seq runG_cond runG_block runG_exit runG_ret onlyN_normal onlyN_exit onlyN_ret afterQ_normal afterQ_exit afterQ_ret kill_mk noMapHp_nil noMapHp_some noMapHp_none
end Go.VE
end
