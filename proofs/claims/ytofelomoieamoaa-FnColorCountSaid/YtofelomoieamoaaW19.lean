/- A part of the engine: what operations do to described states, proved sound against the model. No conditions. -/
import Derived.Test.YtofelomoieamoaaW18
set_option linter.unusedSimpArgs false
set_option linter.unusedVariables false
namespace Go.VE
open Go

abbrev iarr (xs : List Int) : Array Value := (xs.map (Value.int .i64)).toArray

def FieldEq (P : Program) (d t m : Nat) : Prop := ∀ (w : World) (xs ys : List Int) (off : Nat), off + m ≤ xs.length → off + m ≤ ys.length → ∃ va vb, (part t (iarr xs) off).run P w = .ok va w ∧ (part t (iarr ys) off).run P w = .ok vb w ∧
  (Op.equalIn d t va vb).run P w = .ok (decide ((xs.drop off).take m = (ys.drop off).take m)) w ∧ (Instr.checkKey false d t va).run P w = .ok () w

def EqI (P : Program) (d t n : Nat) : Prop := ∀ (w : World) (as bs : List Int), as.length = n → bs.length = n → (Op.equalIn d t (.agg (iarr as)) (.agg (iarr bs))).run P w = .ok (decide (as = bs)) w ∧ (Instr.checkKey false d t (.agg (iarr as))).run P w = .ok () w

section
variable {P : Program}

theorem fieldEq_int {d t : Nat} {x : TI} (hT : TIok P t x) (hk : x.kind = .int .i64) : FieldEq P (d + 1) t 1 := by
  intro w xs ys off h1 h2
  have ha := hT.run_isAgg (w := w)
  rw [hk] at ha
  obtain ⟨a, hxa⟩ : ∃ a, xs[off]? = some a := ⟨_, List.getElem?_eq_getElem (by omega)⟩
  obtain ⟨b, hyb⟩ : ∃ b, ys[off]? = some b := ⟨_, List.getElem?_eq_getElem (by omega)⟩
  obtain ⟨dd, hu, hdk⟩ := hT.und
  rw [hk] at hdk
  have hu' : P.underlying t = some (.int .i64) := by cases dd <;> first | exact hdk.elim | (simp only [descOK] at hdk; subst hdk; exact hu)
  refine ⟨.int .i64 a, .int .i64 b, ?_, ?_, ?_, ?_⟩
  · unfold part
    rw [Sem.run_bind, ha]
    simp [TK.agg, hxa]
  · unfold part
    rw [Sem.run_bind, ha]
    simp [TK.agg, hyb]
  · unfold Op.equalIn
    rw [Sem.run_bind, run_underlying hu' w]
    have e1 : (xs.drop off).take 1 = [a] := by
      have hl := (List.getElem?_eq_some_iff.1 hxa).1
      rw [List.drop_eq_getElem_cons hl, List.take_succ_cons, List.take_zero, (List.getElem?_eq_some_iff.1 hxa).2]
    have e2 : (ys.drop off).take 1 = [b] := by
      have hl := (List.getElem?_eq_some_iff.1 hyb).1
      rw [List.drop_eq_getElem_cons hl, List.take_succ_cons, List.take_zero, (List.getElem?_eq_some_iff.1 hyb).2]
    rw [e1, e2]
    simp
    rfl
  · unfold Instr.checkKey
    rw [Sem.run_bind, run_underlying hu' w]
    rfl

theorem fieldEq_struct {d t : Nat} {x : TI} (hT : TIok P t x) (hk : x.kind.agg = true) (h : EqI P d t x.sz) : FieldEq P d t x.sz := by
  intro w xs ys off h1 h2
  have ha := hT.run_isAgg (w := w)
  rw [hk] at ha
  have hs := hT.run_sizeOf (w := w)
  have hp : ∀ zs : List Int, off + x.sz ≤ zs.length → (part t (iarr zs) off).run P w = .ok (.agg (iarr ((zs.drop off).take x.sz))) w := by
    intro zs hz
    unfold part
    rw [Sem.run_bind, ha]
    simp only [Result.andThen_ok, if_true, Sem.run_bind, hs, Sem.run_pure]
    congr 2
    simp [iarr, List.map_take, List.map_drop]
  obtain ⟨q1, q2⟩ := h w ((xs.drop off).take x.sz) ((ys.drop off).take x.sz) (by simp; omega) (by simp; omega)
  exact ⟨_, _, hp xs h1, hp ys h2, q1, q2⟩

/-- The fields lie in a row from 'o' to 'n'. -/
def Chain (P : Program) (d n : Nat) : Nat → List Field → Prop
  | o, [] => o = n
  | o, f :: r => f.name ≠ "_" ∧ f.offset = o ∧ ∃ m, o + m ≤ n ∧ FieldEq P d f.type m ∧ Chain P d n (o + m) r

theorem loop_ok {d n : Nat} (w : World) (xs ys : List Int) (hx : xs.length = n) (hy : ys.length = n) : ∀ (L : List Field) (o : Nat), Chain P d n o L →
    (do
      let r ← forIn L ((none : Option Bool), ()) (fun f (_ : Option Bool × Unit) => (do
        if f.name ≠ "_" then
          if !(← Op.equalIn d f.type (← part f.type (iarr xs) f.offset) (← part f.type (iarr ys) f.offset)) then pure (ForInStep.done (some false, ()))
          else pure (ForInStep.yield (none, ()))
        else pure (ForInStep.yield (none, ())) : Sem (ForInStep (Option Bool × Unit))))
      match r.1 with
      | some r => pure r
      | none => pure true : Sem Bool).run P w = .ok (decide (xs.drop o = ys.drop o)) w
  | [], o, h => by
    have : o = n := h
    subst this
    simp [List.drop_eq_nil_of_le (Nat.le_of_eq hx), List.drop_eq_nil_of_le (Nat.le_of_eq hy)]
  | f :: L, o, h => by
    obtain ⟨h1, rfl, m, h2, h3, h4⟩ := h
    obtain ⟨va, vb, p1, p2, p3, _⟩ := h3 w xs ys f.offset (by omega) (by omega)
    have ih := loop_ok w xs ys hx hy L (f.offset + m) h4
    have split : (xs.drop f.offset = ys.drop f.offset) ↔ ((xs.drop f.offset).take m = (ys.drop f.offset).take m ∧ xs.drop (f.offset + m) = ys.drop (f.offset + m)) := by
      constructor
      · intro e
        rw [← List.drop_drop, ← List.drop_drop, e]
        exact ⟨rfl, rfl⟩
      · rintro ⟨e1, e2⟩
        rw [← List.take_append_drop m (xs.drop f.offset), ← List.take_append_drop m (ys.drop f.offset), e1, List.drop_drop, List.drop_drop, e2]
    simp only [List.forIn_cons, ne_eq, h1, not_false_eq_true, if_true, Sem.run_bind, p1, p2, p3, Result.andThen_ok]
    by_cases he : (xs.drop f.offset).take m = (ys.drop f.offset).take m
    · simp only [he, decide_true, Bool.not_true, Bool.false_eq_true, if_false, Sem.run_pure, Result.andThen_ok]
      simp only [Sem.run_bind] at ih
      rw [ih]
      congr 1
      simp only [split, he, true_and]
    · simp only [he, decide_false, Bool.not_false, if_true, Sem.run_pure, Result.andThen_ok]
      congr 1
      simp only [split, he, false_and, decide_false]

theorem loop_ck {d n : Nat} (w : World) (xs : List Int) (hx : xs.length = n) : ∀ (L : List Field) (o : Nat), Chain P d n o L →
    (forIn L PUnit.unit (fun f (_ : PUnit) => (do
        if f.name ≠ "_" then
          Instr.checkKey false d f.type (← part f.type (iarr xs) f.offset)
          pure (ForInStep.yield PUnit.unit)
        else pure (ForInStep.yield PUnit.unit) : Sem (ForInStep PUnit))) : Sem PUnit).run P w = .ok PUnit.unit w
  | [], _, _ => by simp
  | f :: L, o, h => by
    obtain ⟨h1, rfl, m, h2, h3, h4⟩ := h
    obtain ⟨va, vb, p1, p2, p3, p4⟩ := h3 w xs xs f.offset (by omega) (by omega)
    have ih := loop_ck w xs hx L (f.offset + m) h4
    simp only [List.forIn_cons, ne_eq, h1, not_false_eq_true, if_true, Sem.run_bind, p1, p4, Result.andThen_ok, Sem.run_pure]
    exact ih

theorem eqI_struct {t d n : Nat} {fields : Array Field} (hu : P.underlying t = some (.struct fields)) (hs : P.stoodInHeld t = false) (hc : Chain P d n 0 fields.toList) : EqI P (d + 1) t n := by
  intro w as bs ha hb
  refine ⟨?_, ?_⟩
  rotate_left
  · unfold Instr.checkKey
    rw [Sem.run_bind, run_underlying hu w]
    have := loop_ck w as ha fields.toList 0 hc
    simp only [Result.andThen_ok]
    obtain ⟨fields⟩ := fields
    simpa using this
  unfold Op.equalIn
  rw [Sem.run_bind, run_underlying hu w]
  have := loop_ok w as bs ha hb fields.toList 0 hc
  simp only [List.drop_zero] at this
  simp only [Result.andThen_ok]
  rw [← this]
  obtain ⟨fields⟩ := fields
  simp [hs]
  refine congr (congrArg _ ?_) ?_
  · rfl
  · funext a w'
    obtain ⟨a, _⟩ := a
    cases a <;> rfl
theorem eqv_of {t n d : Nat} {x : TI} (_h : x.sz = n) (hg : P.eqGuardType P.depth t = false) (he : EqI P (d + 1) t n) (hd : d + 1 = 10000) : EqvOK P t n :=
  ⟨hg, fun w as bs ha hb => hd ▸ he w as bs ha hb⟩

def chB (n : Nat) : Nat → List Field → List (Nat × Nat) → Bool
  | o, [], [] => o == n
  | o, f :: r, x :: r' => f.name != "_" && f.type == x.1 && f.offset == o && decide (o + x.2 ≤ n) && chB n (o + x.2) r r'
  | _, _, _ => false
theorem chB_ok {d n : Nat} : ∀ (L : List Field) (o : Nat) (l : List (Nat × Nat)), chB n o L l = true → (∀ x ∈ l, FieldEq P d x.1 x.2) → Chain P d n o L
  | [], o, [], h, _ => by simpa [chB, Chain] using h
  | f :: r, o, x :: r', h, hl => by
    simp only [chB, Bool.and_eq_true, bne_iff_ne, beq_iff_eq, decide_eq_true_eq] at h
    obtain ⟨⟨⟨⟨h1, h2⟩, h3⟩, h4⟩, h5⟩ := h
    exact ⟨h1, h3, x.2, h4, h2 ▸ hl x (by simp), chB_ok r _ r' h5 fun y hy => hl y (by simp [hy])⟩
  | [], _, _ :: _, h, _ => by cases h
  | _ :: _, _, [], h, _ => by cases h
def eqB (P : Program) (t n : Nat) (l : List (Nat × Nat)) : Bool :=
  match P.underlying t with
  | some (.struct fs) => !P.stoodInHeld t && chB n 0 fs.toList l
  | _ => false
theorem eqB_ok {t n d : Nat} {l : List (Nat × Nat)} (h : eqB P t n l = true) (hl : ∀ x ∈ l, FieldEq P d x.1 x.2) : EqI P (d + 1) t n := by
  unfold eqB at h
  split at h
  · rename_i fs hu
    simp only [Bool.and_eq_true, Bool.not_eq_true'] at h
    exact eqI_struct hu h.1 (chB_ok _ _ _ h.2 hl)
  · cases h
end
end Go.VE
