/- A part of the engine: what operations do to described states, proved sound against the model. No conditions. -/
import Derived.Test.YtofelomoieamoaaW11
set_option linter.unusedSimpArgs false
set_option linter.unusedVariables false
namespace Go.VE
open Go

section
variable {P : Program} {tt : Nat → Option TI} {tab : Nat → Option Spec} {X : Cx} {s : St} {a : Act} {w : World} {β : Nat → Option Nat} {cp : Nat → Nat} {Rd : Nat → Prop}

theorem run_call_func {f : FuncId} (hr : FnRow P f) (o : Oper) (args : Array Operand) (ts : Array Nat) (ho : o.op = .call ⟨.value (.func f), args, ts⟩) : (execOp a.eval o).run P w = .ok (.enter f (args.map a.eval)) w := by
  obtain ⟨fn, h1, h2, h3⟩ := hr.row
  unfold execOp
  simp only [ho, resolve]
  have : a.eval (.func f) = .func (.func f) #[] #[] := rfl
  rw [this]
  have h2' : ¬ fn.name = "runtime.NumGoroutine" := by simpa using h2
  have h3' : ¬ fn.body = none := fun e => by rw [e] at h3; simp at h3
  simp [Deferred.ofValue, invoke, callFunc, h1, h2', h3']

theorem run_call_val {f : FuncId} (hr : FnRow P f) (o : Oper) (t : Nat) (args : Array Operand) (ts : Array Nat) (ho : o.op = .call ⟨.value (.tmp t), args, ts⟩) {arr : Array Value} (hv : a.eval (.tmp t) = .func (.func f) #[] arr) : (execOp a.eval o).run P w = .ok (.enter f (args.map a.eval ++ arr)) w := by
  obtain ⟨fn, h1, h2, h3⟩ := hr.row
  unfold execOp
  simp only [ho, resolve]
  rw [hv]
  have h2' : ¬ fn.name = "runtime.NumGoroutine" := by simpa using h2
  have h3' : ¬ fn.body = none := fun e => by rw [e] at h3; simp at h3
  simp [Deferred.ofValue, invoke, callFunc, h1, h2', h3']

/-- What is handed to a call. -/
theorem pass_get {lids pids : List Nat} : ∀ (m : List Bool) (xs : List AV), passOkA s lids pids m xs → (passA s pids m xs).length = xs.length ∧ ∀ (j : Nat) x', (passA s pids m xs)[j]? = some x' → ∃ x ids1, xs[j]? = some x ∧ (ids1 = pids ∨ ids1 = []) ∧ x' = renA1 s ids1 x ∧ renOks s lids ids1 (cellsOf x)
  | _, [], _ => ⟨rfl, fun j x' h => by simp [passA] at h⟩
  | [], x :: r, h => by
    obtain ⟨q1, q2⟩ := pass_get [] r h.2
    refine ⟨by simp [passA, q1], fun j x' hj => ?_⟩
    cases j with
    | zero => simp only [passA, List.getElem?_cons_zero, Option.some.injEq] at hj; subst hj; exact ⟨x, [], rfl, .inr rfl, rfl, h.1⟩
    | succ j => simpa using q2 j x' (by simpa [passA] using hj)
  | true :: m, x :: r, h => by
    obtain ⟨q1, q2⟩ := pass_get m r h.2
    refine ⟨by simp [passA, q1], fun j x' hj => ?_⟩
    cases j with
    | zero => simp only [passA, List.getElem?_cons_zero, Option.some.injEq] at hj; subst hj; exact ⟨x, pids, rfl, .inl rfl, rfl, h.1⟩
    | succ j => simpa using q2 j x' (by simpa [passA] using hj)
  | false :: m, x :: r, h => by
    obtain ⟨q1, q2⟩ := pass_get m r h.2
    refine ⟨by simp [passA, q1], fun j x' hj => ?_⟩
    cases j with
    | zero => simp only [passA, List.getElem?_cons_zero, Option.some.injEq] at hj; subst hj; exact ⟨x, [], rfl, .inr rfl, rfl, h.1⟩
    | succ j => simpa using q2 j x' (by simpa [passA] using hj)

theorem takes_ok (h : Good X s a w β cp Rd) {lids pids : List Nat} {m : List Bool} {xs : List AV} {vs : Array Value} (hsz : vs.size = xs.length) (hvs : ∀ j x, xs[j]? = some x → MA w (X.mt s β Rd) Rd (hOf s β cp) (vs.getD j undef) x)
    (hA : passOkA s lids pids m xs) (hB : passOkB s lids pids pids) (hd : ∀ b ∈ lids, b ∉ pids) (hI : RenOK s pids) :
    Takes X.rt w (lendAv X s β Rd (lids ++ pids)) Rd s.pk (passA s pids m xs) vs (renIns s (renB s pids) pids) (renβ β pids) (rencp cp pids) := by
  obtain ⟨q1, q2⟩ := pass_get m xs hA
  have hin : ∀ g, avIn (lendAv X s β Rd (lids ++ pids)) (renIns s (renB s pids) pids) (renβ β pids) g → X.mt s β Rd g := by
    rintro g (hg | hg)
    · exact lendAv_mt hg
    · obtain ⟨b, bx, _, h2, h3, h4⟩ := ren_has hI hg
      exact .inr (.inl ⟨b, bx, h2, h3, h4⟩)
  exact {
    rdav := fun g hg => .inr (.inr hg)
    avlt := fun g hg => by
      rcases hg with h1 | h1 | h1
      · exact Nat.lt_of_lt_of_le (h.avlt g h1) h.keeps.size
      · exact h.lt h1.1.has
      · exact (h.rdok g h1).1
    pasav := fun g hg hav => by
      obtain ⟨b, bx, p1, p2, _, p4⟩ := ren_has hI hg
      rcases hav with h1 | h1 | h1
      · exact h.own_av g ⟨b, bx, p2, p4⟩ h1
      · exact h1.2 b (List.mem_append_right _ p1) bx p2 p4
      · exact h.own_rd g ⟨b, bx, p2, p4⟩ h1
    rdok := h.rdok.mono (fun _ _ _ => rfl) (Nat.le_refl _) (fun g _ hm => hin g hm) (fun _ _ => rfl) (Nat.le_refl _)
    size := by rw [q1]; exact hsz
    args := fun j x' hj => by
      obtain ⟨x, ids1, p1, p2, rfl, p4⟩ := q2 j x' hj
      have hx := hvs j x p1
      have hsub : ∀ b j, idxOf b ids1 0 = some j → idxOf b pids 0 = some j := by
        rcases p2 with rfl | rfl
        · exact fun _ _ h => h
        · intro b j h; cases h
      cases x with
      | tup l => trivial
      | mp _ _ => trivial
      | c x =>
        have := renA1_ok (F := renB s pids) (x := .c x) h (renB_fit pids) hI hsub hd (fun g hg => hg) (fun _ h => h) hx p4
        exact this
      | agg cs =>
        have := renA1_ok (F := renB s pids) (x := .agg cs) h (renB_fit pids) hI hsub hd (fun g hg => hg) (fun _ h => h) hx p4
        exact this
    boxes := fun b bx hb => by
      obtain ⟨b0, bx0, p1, p2, p3, rfl, p5, p6⟩ := ren_get (β := β) (cp := cp) hI hb
      obtain ⟨bx1, r1, r2, r3⟩ := passOkB_box hB b0 (List.mem_of_getElem? p1)
      rw [p2] at r1
      cases r1
      refine ⟨by unfold renB; split <;> exact p3, ?_⟩
      rw [p5, p6]
      exact renB_ok h hI hd (fun g hg => hg) (fun _ h => h) p2 r3
    inj := fun b b' bx bx' g h1 h2 h3 h4 => by
      obtain ⟨b0, bx0, p1, p2, _, _, p5, _⟩ := ren_get (β := β) (cp := cp) hI h1
      obtain ⟨b1, bx1, r1, r2, _, _, r5, _⟩ := ren_get (β := β) (cp := cp) hI h2
      rw [p5] at h3
      rw [r5] at h4
      have := h.inj b0 b1 bx0 bx1 g p2 r2 h3 h4
      subst this
      exact hI.inj b b' b0 p1 r1 }

/-- A call, by the contract. -/
theorem call_ok {tab : Nat → Option Spec} (htab : TabOK P X.rt tab) (h : Good X s a w β cp Rd) {d : Option Nat} (hd : dstOK s.nt d) {nid : Nat} (hf : ∀ j, j < 8 → ¬ s.keyed (nid + j)) (hnx : nid + 8 ≤ s.nx) {f : Nat} {xs : List AV} {vs : Array Value} (hsz : vs.size = xs.length)
    (hvs : ∀ j x, xs[j]? = some x → MA w (X.mt s β Rd) Rd (hOf s β cp) (vs.getD j undef) x) (hp : (callS tab nid f xs s d).1) :
    FnRow P f ∧ Calls P f vs w fun e w' => ∃ v s', e = .returned v ∧ (callS tab nid f xs s d).2 s' ∧ ∃ β2 cp2 Rd2, Good X s' (a.put d v) w' β2 cp2 Rd2 ∧ ((∀ sp, tab f = some sp → sp.mt = []) → Fr w Rd w' Rd2) := by
  unfold callS at hp ⊢
  split at hp
  · rename_i sp hsp
    simp only [Res.mkE] at hp ⊢
    obtain ⟨p1, p2, p3, p4, p5, p6⟩ := hp
    obtain ⟨hrow, hsat⟩ := htab f sp hsp
    refine ⟨hrow, ?_⟩
    have hI : RenOK s (passIds s sp.mt xs) := ⟨fun b hb => let ⟨bx, q1, q2, _⟩ := passOkB_box p2 b hb; ⟨bx, q1, q2⟩, distN_inj _ p4⟩
    have hdj : ∀ b ∈ lent sp.mt xs, b ∉ passIds s sp.mt xs := fun b hb hm => by
      have := List.all_eq_true.1 p3 b hb
      rw [(memN_iff b _).2 hm] at this
      cases this
    have hT := takes_ok h hsz hvs p1 p2 hdj hI
    rw [passBs_ren] at p5
    refine (hsat _ _ _ _ _ _ _ _ _ hT p5 p6).mono ?_
    rintro e w' ⟨v, r, bs, β', cp', Rd', rfl, hpost, hg⟩
    obtain ⟨β2, cp2, Rd2, g1, g2⟩ := call_post h hf hnx hI hdj hg hd
    refine ⟨v, _, rfl, ⟨(r, bs), by rw [passBs_ren]; exact hpost, rfl⟩, β2, cp2, Rd2, g1, fun hm => g2 ?_⟩
    rw [hm sp hsp]
    rfl
  · exact hp.elim

def pureOp (o : Op) : Bool :=
  match o with
  | .move _ | .pick .. | .build .. | .load .. | .nilCheck _ | .binOp .. | .unOp .. | .convert .. | .fieldAddr .. | .field .. | .indexAddr .. | .index .. | .extract .. | .slice .. | .makeFunc .. => true
  | .call c => match c.callee with
    | .builtin .len | .builtin .min | .builtin .max => true
    | _ => false
  | _ => false
def isLoad (o : Op) : Bool :=
  match o with
  | .load .. => true
  | .call c => match c.callee with
    | .builtin .len => true
    | _ => false
  | _ => false
def calmOp (tab : Nat → Option Spec) (o : Op) : Bool :=
  match o with
  | .store .. => false
  | .mapUpdate .. => false
  | .call c => match c.callee with
    | .builtin .append => false
    | .builtin .copy => false
    | .value (.func f) => match tab f with
      | some sp => sp.mt.isEmpty
      | none => false
    | .value _ => false
    | _ => true
  | _ => true

def RelC (b : Bool) (w0 : World) (Rd0 : Nat → Prop) (X : Cx) (s : St) (a : Act) (w : World) : Prop := ∃ β cp Rd, Good X s a w β cp Rd ∧ (b = true → Fr w0 Rd0 w Rd)
theorem RelF.c {b : Bool} {w0 : World} {Rd0 : Nat → Prop} (h : RelF w0 Rd0 X s a w) : RelC b w0 Rd0 X s a w := let ⟨β, cp, Rd, h, k⟩ := h; ⟨β, cp, Rd, h, fun _ => k⟩
theorem RelC.rel {b : Bool} {w0 : World} {Rd0 : Nat → Prop} (h : RelC b w0 Rd0 X s a w) : Rel X s a w := let ⟨β, cp, Rd, h, _⟩ := h; ⟨β, cp, Rd, h⟩

/-- What yields its value without a trace. -/
theorem opP_sound (htt : TTok P tt) (h : Good X s a w β cp Rd) {o : Oper} {nid : Nat} (hd : dstOK s.nt o.dst) (hpure : pureOp o.op = true) (hp : (opS tt tab nid o s).1) :
    ∃ u, (∀ w' Rd', (isLoad o.op = true → Fr w Rd w' Rd') → (execOp a.eval o).run P w' = .ok (.value u) w') ∧ ∃ s', (opS tt tab nid o s).2 s' ∧ Good X s' (a.put o.dst u) w β cp Rd := by
  have val : ∀ (sem : Sem Value) (r : Res), (execOp a.eval o = do pure (Next.value (← sem))) → (opS tt tab nid o s = r) → (∃ u, (∀ w', sem.run P w' = .ok u w') ∧ ∃ s', r.2 s' ∧ Good X s' (a.put o.dst u) w β cp Rd) →
      ∃ u, (∀ w' Rd', (isLoad o.op = true → Fr w Rd w' Rd') → (execOp a.eval o).run P w' = .ok (.value u) w') ∧ ∃ s', (opS tt tab nid o s).2 s' ∧ Good X s' (a.put o.dst u) w β cp Rd := by
    intro sem r he hr ⟨u, h1, s', h2, h3⟩
    refine ⟨u, fun w' _ _ => ?_, s', hr ▸ h2, h3⟩
    rw [he]
    simp only [Sem.run_bind, h1 w', Result.andThen_ok, Sem.run_pure]
  obtain ⟨dst, op, ty, pos, af, g⟩ := o
  cases op with
  | move x => exact ⟨_, fun _ _ _ => rfl, _, rfl, h.put hd (h.ev x)⟩
  | pick c x y =>
    obtain ⟨u, h1, s', h2, h3⟩ := pick_ok (P := P) h hd hp
    exact ⟨u, fun w' _ _ => by unfold execOp; exact h1 w', s', h2, h3⟩
  | build t parts => exact val _ _ rfl rfl (build_ok htt h hd hp)
  | load t x =>
    obtain ⟨u, h1, s', h2, h3⟩ := load_ok htt h hd (h.ev x) hp
    refine ⟨u, fun w' Rd' hf => ?_, s', h2, h3⟩
    unfold execOp
    simp only [Sem.run_bind, h1 w' Rd' (hf rfl), Result.andThen_ok, Sem.run_pure]
  | nilCheck x =>
    obtain ⟨u, h1, s', h2, h3⟩ := nil_ok (P := P) h hd (o := ⟨dst, .nilCheck x, ty, pos, af, g⟩) rfl hp
    exact ⟨u, fun w' _ _ => h1 w', s', h2, h3⟩
  | binOp op t x y t' => exact val _ _ rfl rfl (bin_ok (ox := x) (oy := y) htt h hd (h.ev x) (h.ev y) hp)
  | unOp op t x => exact val _ _ rfl rfl (un_ok (P := P) h hd (h.ev x) hp)
  | convert t t' x => exact val _ _ rfl rfl (convert_ok htt h hd (h.ev x) hp)
  | fieldAddr t x f => exact val _ _ rfl rfl (fieldAddr_ok htt h hd (h.ev x) hp)
  | field t x f => exact val _ _ rfl rfl (field_ok htt h hd (h.ev x) hp)
  | indexAddr t x i => exact val _ _ rfl rfl (indexAddr_ok htt h hd (h.ev x) (h.ev i) hp)
  | index t x i => exact val _ _ rfl rfl (index_ok htt h hd (h.ev x) (h.ev i) hp)
  | extract x j => exact val _ _ rfl rfl (extract_ok (P := P) h hd (h.ev x) hp)
  | makeFunc f first captured =>
    cases f with
    | func f =>
      obtain ⟨first⟩ := first
      cases first with
      | nil =>
        obtain ⟨u, h1, h2⟩ := makeFunc_ok (P := P) (f := f) (captured := captured) h hd hp
        exact val (Instr.makeFunc (.func f) #[] (captured.map a.eval)) _ (by simp [execOp]) rfl ⟨u, h1, h2⟩
      | cons x r => exact hp.elim
    | _ => exact hp.elim
  | slice t x lo hi mx => exact val _ _ rfl rfl (slice_ok htt h hd hp)
  | call c =>
    obtain ⟨callee, args, ts⟩ := c
    have bi : ∀ (b : Builtin) (sem : Sem Value) (r : Res), callee = .builtin b → (∀ cs, builtin b ts ty cs (args.map a.eval) = (do pure (Next.value (← sem)) : Sem Next)) → (opS tt tab nid ⟨dst, .call ⟨callee, args, ts⟩, ty, pos, af, g⟩ s = r) →
        (∃ u, (∀ w' Rd', (isLoad (.call ⟨callee, args, ts⟩) = true → Fr w Rd w' Rd') → sem.run P w' = .ok u w') ∧ ∃ s', r.2 s' ∧ Good X s' (a.put dst u) w β cp Rd) →
        ∃ u, (∀ w' Rd', (isLoad (.call ⟨callee, args, ts⟩) = true → Fr w Rd w' Rd') → (execOp a.eval ⟨dst, .call ⟨callee, args, ts⟩, ty, pos, af, g⟩).run P w' = .ok (.value u) w') ∧
          ∃ s', (opS tt tab nid ⟨dst, .call ⟨callee, args, ts⟩, ty, pos, af, g⟩ s).2 s' ∧ Good X s' (a.put dst u) w β cp Rd := by
      rintro b sem r rfl he hr ⟨u, h1, s', h2, h3⟩
      refine ⟨u, fun w' Rd' hf => ?_, s', hr ▸ h2, h3⟩
      unfold execOp
      simp only [resolve, Sem.run_bind, Sem.run_pure, Result.andThen_ok, invoke]
      rw [he]
      simp only [Sem.run_bind, h1 w' Rd' hf, Result.andThen_ok, Sem.run_pure]
    cases callee with
    | builtin b =>
      cases b with
      | len =>
        obtain ⟨args⟩ := args
        obtain ⟨ts⟩ := ts
        match args, ts, hp with
        | [x], [t], hp =>
          obtain ⟨u, h1, h2⟩ := len_ok (ty := ty) htt h hd (h.ev x) hp
          exact bi .len _ _ rfl (fun _ => rfl) rfl ⟨u, fun w' Rd' hf => by simpa using h1 w' Rd' (hf rfl), h2⟩
        | [], _, hp => exact hp.elim
        | _ :: _ :: _, _, hp => exact hp.elim
        | [_], [], hp => exact hp.elim
        | [_], _ :: _ :: _, hp => exact hp.elim
      | min =>
        obtain ⟨args⟩ := args
        obtain ⟨u, h1, h2⟩ := min_ok (P := P) (ts := ts) (ty := ty) false h hd (l := args) hp
        exact bi .min _ _ rfl (fun _ => by simp [builtin]) rfl ⟨u, fun w' _ _ => h1 w', h2⟩
      | max =>
        obtain ⟨args⟩ := args
        obtain ⟨u, h1, h2⟩ := min_ok (P := P) (ts := ts) (ty := ty) true h hd (l := args) hp
        exact bi .max _ _ rfl (fun _ => by simp [builtin]) rfl ⟨u, fun w' _ _ => h1 w', h2⟩
      | _ => cases hpure
    | _ => cases hpure
  | _ => cases hpure

theorem opS_sound (htt : TTok P tt) (htab : TabOK P X.rt tab) (h : Good X s a w β cp Rd) {o : Oper} {nid : Nat} (hd : dstOK s.nt o.dst) (hf : ∀ j, j < 8 → ¬ s.keyed (nid + j)) (hnx : nid + 8 ≤ s.nx)
    (hp : (opS tt tab nid o s).1) {K : Act → World → Prop} {Q : Exit → Act → World → Prop} (hK : ∀ s' a' w', (opS tt tab nid o s).2 s' → RelC (calmOp tab o.op) w Rd X s' a' w' → K a' w') : o.wp P a w K Q := by
  by_cases hpure : pureOp o.op = true
  · obtain ⟨u, h1, s', h2, h3⟩ := opP_sound (tab := tab) (nid := nid) htt h hd hpure hp
    unfold Oper.wp
    rw [h1 w Rd (fun _ => Fr.refl w Rd)]
    exact hK s' _ _ h2 ⟨β, cp, Rd, h3, fun _ => Fr.refl w Rd⟩
  have hf0 : ¬ s.keyed nid := hf 0 (by omega)
  have hn0 : nid < s.nx := by omega
  have val : ∀ (sem : Sem Value) (r : Res), (execOp a.eval o = do pure (Next.value (← sem))) → (opS tt tab nid o s = r) → (∃ u w', sem.run P w = .ok u w' ∧ ∃ s', r.2 s' ∧ RelF w Rd X s' (a.put o.dst u) w') → o.wp P a w K Q := by
    intro sem r he hr ⟨u, w', h1, s', h2, h3⟩
    unfold Oper.wp
    rw [he]
    simp only [Sem.run_bind, h1, Result.andThen_ok, Sem.run_pure, Oper.upon]
    exact hK s' _ _ (hr ▸ h2) h3.c
  obtain ⟨dst, op, ty, pos, af, g⟩ := o
  cases op with
  | assign x =>
    obtain ⟨s', h1, h2⟩ := assign_ok (tt := tt) (nid := nid) h hd hf0 hn0 (h.ev x) hp
    unfold Oper.wp
    exact hK s' _ _ h1 h2.c
  | alloc t => exact val _ _ rfl rfl (alloc_ok htt h hd hf0 hn0 hp)
  | box t x => exact val _ _ rfl rfl (box_ok (P := P) h hd hf0 hn0 (h.ev x) hp)
  | buildSlice t n parts => exact val _ _ rfl rfl (buildSlice_ok htt h hd hf0 hn0 hp)
  | makeMap t r =>
    cases r with
    | none => exact val (Instr.makeMap t none) _ (by simp [execOp]) rfl (makeMap_ok (P := P) h hd hf0 hn0 hp)
    | some r => exact hp.elim
  | mapUpdate t m k x =>
    cases dst with
    | some d => exact hp.elim
    | none =>
      obtain ⟨w', h1, s', h2, β', cp', Rd', h3⟩ := mapUpd_ok htt h (h.ev m) (h.ev k) (h.ev x) hp
      unfold Oper.wp execOp
      simp only [Sem.run_bind, h1, Result.andThen_ok, Sem.run_pure, Oper.upon]
      exact hK s' _ _ h2 ⟨β', cp', Rd', h3, fun h => by cases h⟩
  | makeSlice t x y => exact val _ _ rfl rfl (makeSlice_ok htt h hd hf0 hn0 (h.ev x) (h.ev y) hp)
  | store t x y =>
    obtain ⟨w', h1, s', h2, β', cp', Rd', h3⟩ := store_ok htt h hd (h.ev x) (h.ev y) hp
    unfold Oper.wp execOp
    simp only [Sem.run_bind, h1, Result.andThen_ok, Sem.run_pure, Oper.upon]
    exact hK s' _ _ h2 ⟨β', cp', Rd', h3, fun h => by cases h⟩
  | call c =>
    obtain ⟨callee, args, ts⟩ := c
    cases callee with
    | builtin b =>
      cases b with
      | append =>
        obtain ⟨args⟩ := args
        obtain ⟨ts⟩ := ts
        match args, ts, hp with
        | [x, y], [t, t'], hp =>
          obtain ⟨u, w', h1, s', h2, β', cp', Rd', h3⟩ := append_ok (ty := ty) htt h hd hf0 hn0 (h.ev x) (h.ev y) hp
          unfold Oper.wp execOp
          simp only [resolve, Sem.run_bind, Sem.run_pure, Result.andThen_ok, invoke, builtin]
          have h1' : (Builtin.append_ ⟨[t, t']⟩ ty (Array.map a.eval ⟨[x, y]⟩)).run P w = .ok u w' := by simpa using h1
          rw [h1']
          exact hK s' _ _ h2 ⟨β', cp', Rd', h3, fun h => by cases h⟩
        | [], _, hp => exact hp.elim
        | [_], _, hp => exact hp.elim
        | _ :: _ :: _ :: _, _, hp => exact hp.elim
        | [_, _], [], hp => exact hp.elim
        | [_, _], [_], hp => exact hp.elim
        | [_, _], _ :: _ :: _ :: _, hp => exact hp.elim
      | copy =>
        obtain ⟨args⟩ := args
        obtain ⟨ts⟩ := ts
        match args, ts, hp with
        | [x, y], [t, t'], hp =>
          obtain ⟨u, w', h1, s', h2, β', cp', Rd', h3⟩ := copy_ok (t2 := t') (ty := ty) htt h hd (h.ev x) (h.ev y) hp
          unfold Oper.wp execOp
          simp only [resolve, Sem.run_bind, Sem.run_pure, Result.andThen_ok, invoke, builtin]
          have h1' : (Builtin.copy_ ⟨[t, t']⟩ ty (Array.map a.eval ⟨[x, y]⟩)).run P w = .ok u w' := by simpa using h1
          rw [h1']
          exact hK s' _ _ h2 ⟨β', cp', Rd', h3, fun h => by cases h⟩
        | [], _, hp => exact hp.elim
        | [_], _, hp => exact hp.elim
        | _ :: _ :: _ :: _, _, hp => exact hp.elim
        | [_, _], [], hp => exact hp.elim
        | [_, _], [_], hp => exact hp.elim
        | [_, _], _ :: _ :: _ :: _, hp => exact hp.elim
      | len => exact absurd rfl hpure
      | min => exact absurd rfl hpure
      | max => exact absurd rfl hpure
      | _ => exact hp.elim
    | value f =>
      cases f with
      | func f =>
        obtain ⟨args⟩ := args
        have hp' : (callS tab nid f (args.map s.ev) s dst).1 := hp
        obtain ⟨hrow, hcall⟩ := call_ok (vs := (⟨args⟩ : Array Operand).map a.eval) htab h hd hf hnx (by simp) (fun j x hj => by
          simp only [List.getElem?_map, Option.map_eq_some_iff] at hj
          obtain ⟨o, ho, rfl⟩ := hj
          have e : ((⟨args⟩ : Array Operand).map a.eval).getD j undef = a.eval o := by simp [Array.getD_eq_getD_getElem?, ho]
          rw [e]
          exact h.ev o) hp'
        unfold Oper.wp
        rw [run_call_func hrow ⟨dst, .call ⟨.value (.func f), ⟨args⟩, ts⟩, ty, pos, af, g⟩ ⟨args⟩ ts rfl]
        simp only [Oper.upon]
        refine hcall.mono ?_
        rintro e w' ⟨v, s', rfl, h2, β2, cp2, Rd2, h3, h4⟩
        refine hK s' _ _ h2 ⟨β2, cp2, Rd2, h3, fun hc => h4 fun sp hsp => ?_⟩
        simp only [calmOp, hsp, List.isEmpty_iff] at hc
        exact hc
      | tmp t =>
        obtain ⟨args⟩ := args
        have hp' : (callV tab nid (s.get t) (args.map s.ev) s dst).1 := hp
        have hv := h.env t
        have hst : ∀ s', (callV tab nid (s.get t) (args.map s.ev) s dst).2 s' → (opS tt tab nid ⟨dst, .call ⟨.value (.tmp t), ⟨args⟩, ts⟩, ty, pos, af, g⟩ s).2 s' := fun s' h => h
        unfold callV at hp' hst
        split at hp'
        · rename_i f caps he
          rw [he] at hv
          simp only [he] at hst
          obtain ⟨arr, hav, has, har⟩ := hv
          obtain ⟨hrow, hcall⟩ := call_ok (vs := (⟨args⟩ : Array Operand).map a.eval ++ arr) htab h hd hf hnx (by simp [has]) (fun j x hj => by
            rw [List.getElem?_append] at hj
            split at hj
            · rename_i hlt
              simp only [List.getElem?_map, Option.map_eq_some_iff] at hj
              obtain ⟨o, ho, rfl⟩ := hj
              simp only [List.length_map] at hlt
              have e : ((⟨args⟩ : Array Operand).map a.eval ++ arr).getD j undef = a.eval o := by
                rw [Array.getD_eq_getD_getElem?, Array.getElem?_append_left (by simpa using hlt)]
                simp [ho]
              rw [e]
              exact h.ev o
            · rename_i hge
              simp only [List.length_map, Nat.not_lt] at hge hj
              simp only [List.getElem?_map, Option.map_eq_some_iff] at hj
              obtain ⟨c, hc, rfl⟩ := hj
              have e : ((⟨args⟩ : Array Operand).map a.eval ++ arr).getD j undef = arr.getD (j - args.length) undef := by
                rw [Array.getD_eq_getD_getElem?, Array.getElem?_append_right (by simpa using hge)]
                simp [Array.getD_eq_getD_getElem?]
              rw [e]
              exact (har _ c hc).mc) hp'
          unfold Oper.wp
          rw [run_call_val hrow ⟨dst, .call ⟨.value (.tmp t), ⟨args⟩, ts⟩, ty, pos, af, g⟩ t ⟨args⟩ ts rfl hav]
          simp only [Oper.upon]
          refine hcall.mono ?_
          rintro e w' ⟨v, s', rfl, h2, β2, cp2, Rd2, h3, h4⟩
          exact hK s' _ _ (hst s' h2) ⟨β2, cp2, Rd2, h3, fun hc => by cases hc⟩
        · exact hp'.elim
      | _ => exact hp.elim
    | invoke r m => exact hp.elim
  | move x => exact absurd rfl hpure
  | pick c x y => exact absurd rfl hpure
  | build t p => exact absurd rfl hpure
  | load t x => exact absurd rfl hpure
  | nilCheck x => exact absurd rfl hpure
  | binOp op t x y t' => exact absurd rfl hpure
  | unOp op t x => exact absurd rfl hpure
  | convert t t' x => exact absurd rfl hpure
  | fieldAddr t x f => exact absurd rfl hpure
  | field t x f => exact absurd rfl hpure
  | indexAddr t x i => exact absurd rfl hpure
  | index t x i => exact absurd rfl hpure
  | extract x j => exact absurd rfl hpure
  | slice t x lo hi mx => exact absurd rfl hpure
  | makeFunc f x y => exact absurd rfl hpure
  | _ => exact hp.elim
end
end Go.VE
