/- A part of the engine: what operations do to described states, proved sound against the model. No conditions. -/
import Derived.Test.YtofelomoieamoaaW13
import Derived.Orders
set_option linter.unusedSimpArgs false
set_option linter.unusedVariables false
namespace Go.VE
open Go

inductive Plan where
  | nil
  | first (i : Nat) (p : Plan)
  | alt (i : Nat) (p rest : Plan)
deriving Repr

def waitL (i : Nat) : List Oper → List Bool → List Bool
  | [], acc => acc
  | o :: r, acc => waitL i r (acc ++ [o.after.any fun e => Region.binds .any e && (e.on == i || acc.getD e.on false)])
def waits (ops : Array Oper) (i j : Nat) : Bool := (waitL i ops.toList []).getD j false

def firstOK (tab : Nat → Option Spec) (ops : Array Oper) (listed : Array Bool) (i : Nat) : Bool :=
  match ops[i]? with
  | none => false
  | some oi => (Region.ready .any ops listed).contains i && pureOp oi.op && ((waitL i ops.toList []).length == ops.size) && (List.range ops.size).all fun j =>
    match ops[j]? with
    | none => false
    | some oj => (!waits ops i j || (!listed.getD j false && oj.after.any fun e => Region.binds .any e && (e.on == i || waits ops i e.on))) &&
        (j == i || listed.getD j true || waits ops i j || (oi.apart ops oj && (!isLoad oi.op || calmOp tab oj.op)))

def Plan.ids : Plan → List Nat
  | .nil => []
  | .first _ _ => []
  | .alt i _ r => i :: r.ids

def planOK (tab : Nat → Option Spec) (ops : Array Oper) : Plan → Bool → Nat → Array Bool → Bool
  | .nil, false, _, listed => (Region.ready .any ops listed).isEmpty
  | .nil, true, _, _ => true
  | .first i p, false, fuel + 1, listed => firstOK tab ops listed i && planOK tab ops p false fuel (listed.setIfInBounds i true)
  | .alt i p r, m, fuel + 1, listed => (m || (!(Region.ready .any ops listed).isEmpty && (Region.ready .any ops listed).all fun k => k == i || r.ids.contains k)) && planOK tab ops p false fuel (listed.setIfInBounds i true) && planOK tab ops r true (fuel + 1) listed
  | _, _, _, _ => false

def mkPlan (tab : Nat → Option Spec) (ops : Array Oper) : Nat → Array Bool → Plan
  | 0, _ => .nil
  | f + 1, listed => match (Region.ready .any ops listed).find? (firstOK tab ops listed) with
    | some i => .first i (mkPlan tab ops f (listed.setIfInBounds i true))
    | none => (Region.ready .any ops listed).foldr (fun i r => .alt i (mkPlan tab ops f (listed.setIfInBounds i true)) r) .nil

def planOK' (tab : Nat → Option Spec) (ops : Array Oper) (p : Plan) : Bool := Region.noSelect ops && planOK tab ops p false ops.size (Array.replicate ops.size false)

section
variable (tt : Nat → Option TI) (tab : Nat → Option Spec)
def stepW (ops : Array Oper) (i : Nat) (s : St) (k : St → Prop) : Prop :=
  match nthL ops.toList i with
  | some o => guardW ops o s (fun s => opW tt tab o s k) (fun s => dstOK s.nt o.dst ∧ k (s.put o.dst (.c .und)))
  | none => False

def planW (ops : Array Oper) (K : St → Prop) : Plan → Bool → St → Prop
  | .nil, false, s => K s
  | .nil, true, _ => True
  | .first i p, _, s => stepW tt tab ops i s fun s => planW ops K p false s
  | .alt i p r, _, s => (stepW tt tab ops i s fun s => planW ops K p false s) ∧ planW ops K r true s

def drawW (ops : Array Oper) (s : St) (K : St → Prop) : Prop := ∃ p, planOK' tab ops p = true ∧ planW tt tab ops K p false s
end

section
variable {P : Program} {tab : Nat → Option Spec} {ops : Array Oper}

def QN (Q0 : Act → World → Prop) : Exit → Act → World → Prop
  | .normal, a, w => Q0 a w
  | _, _, _ => False

def opI (P : Program) (tab : Nat → Option Spec) (ops : Array Oper) (Q : Exit → Act → World → Prop) (i : Nat) (K : Act → World → (Nat → Prop) → Prop) (a : Act) (w : World) (Rd : Nat → Prop) : Prop :=
  match ops[i]? with
  | none => K a w Rd
  | some o => if Region.wanted o (yielded ops a.tmps) then o.wp P a w (fun a' w' => ∃ Rd', (calmOp tab o.op = true → Fr w Rd w' Rd') ∧ K a' w' Rd') Q else K (a.put o.dst undef) w Rd

def wpI (P : Program) (tab : Nat → Option Spec) (ops : Array Oper) (Q0 : Act → World → Prop) : Nat → Array Bool → Act → World → (Nat → Prop) → Prop
  | 0, listed, a, w, _ => Region.ready .any ops listed = [] ∧ Q0 a w
  | fuel + 1, listed, a, w, Rd => (Region.ready .any ops listed = [] → Q0 a w) ∧ ∀ i ∈ Region.ready .any ops listed, opI P tab ops (QN Q0) i (wpI P tab ops Q0 fuel (listed.setIfInBounds i true)) a w Rd

theorem opI_mono {Q : Exit → Act → World → Prop} {i : Nat} {K K' : Act → World → (Nat → Prop) → Prop} {a : Act} {w : World} {Rd : Nat → Prop} (h : ∀ a w Rd, K a w Rd → K' a w Rd) (hh : opI P tab ops Q i K a w Rd) : opI P tab ops Q i K' a w Rd := by
  unfold opI at *
  split
  · exact h _ _ _ (by simpa [*] using hh)
  · rename_i o ho
    simp only [ho] at hh
    split
    · rename_i hw
      simp only [hw, if_true] at hh
      exact Oper.wp_mono (fun a' w' ⟨Rd', h1, h2⟩ => ⟨Rd', h1, h _ _ _ h2⟩) hh
    · rename_i hw; simp only [hw] at hh; exact h _ _ _ hh

theorem wpAny_of_I {Q0 : Act → World → Prop} : ∀ (fuel : Nat) (listed : Array Bool) (a : Act) (w : World) (Rd : Nat → Prop), wpI P tab ops Q0 fuel listed a w Rd → wpAny P .any ops (QN Q0) fuel listed a w
  | 0, _, _, _, _, h => h
  | fuel + 1, listed, a, w, Rd, h => ⟨h.1, fun i hi => by
      have h2 := h.2 i hi
      unfold opI at h2
      unfold wpOp
      split
      · rename_i ho; simp only [ho] at h2; exact wpAny_of_I fuel _ _ _ _ h2
      · rename_i o ho
        simp only [ho] at h2
        split
        · rename_i hw
          simp only [hw, if_true] at h2
          exact .inl (Oper.wp_mono (fun a' w' ⟨Rd', _, h3⟩ => wpAny_of_I fuel _ _ _ _ h3) h2)
        · rename_i hw; simp only [hw] at h2; exact wpAny_of_I fuel _ _ _ _ h2⟩

def YieldsF (P : Program) (ops : Array Oper) (o : Oper) (v : Value) (a : Act) (w : World) (Rd : Nat → Prop) : Prop :=
  (Region.wanted o (yielded ops a.tmps) = true ∧ ∀ w' Rd', (isLoad o.op = true → Fr w Rd w' Rd') → (execOp a.eval o).run P w' = .ok (.value v) w') ∨ (Region.wanted o (yielded ops a.tmps) = false ∧ v = undef)

theorem YieldsF.opI {Q : Exit → Act → World → Prop} {i : Nat} {o : Oper} {v : Value} {a : Act} {w : World} {Rd : Nat → Prop} (hi : ops[i]? = some o) (hy : YieldsF P ops o v a w Rd) {K : Act → World → (Nat → Prop) → Prop} (h : K (a.put o.dst v) w Rd) : opI P tab ops Q i K a w Rd := by
  unfold VE.opI
  simp only [hi]
  rcases hy with ⟨hw, hv⟩ | ⟨hw, rfl⟩
  · simp only [hw, if_true, Oper.wp, hv w Rd (fun _ => Fr.refl w Rd), Oper.upon]; exact ⟨Rd, fun _ => Fr.refl w Rd, h⟩
  · simp only [hw, Bool.false_eq_true, if_false]; exact h

theorem YieldsF.of_same {o : Oper} {v : Value} {a a' : Act} {w w' : World} {Rd Rd' : Nat → Prop} (hy : YieldsF P ops o v a w Rd) (he : execOp a'.eval o = execOp a.eval o)
    (hw : Region.wanted o (yielded ops a'.tmps) = Region.wanted o (yielded ops a.tmps)) (hf : isLoad o.op = true → Fr w Rd w' Rd') : YieldsF P ops o v a' w' Rd' := by
  rcases hy with ⟨h1, h2⟩ | ⟨h1, h2⟩
  · exact .inl ⟨hw.trans h1, fun w2 Rd2 h3 => by rw [he]; exact h2 w2 Rd2 fun hl => (hf hl).trans (h3 hl)⟩
  · exact .inr ⟨hw.trans h1, h2⟩

theorem opI_put {Q0 : Act → World → Prop} {j : Nat} {oi oj : Oper} {v : Value} (hj : ops[j]? = some oj) (hap : oi.apart ops oj = true) (hcalm : isLoad oi.op = true → calmOp tab oj.op = true)
    (hsi : ∀ cs b, oi.op ≠ .select cs b) (hsj : ∀ cs b, oj.op ≠ .select cs b) {K : Act → World → (Nat → Prop) → Prop} {a : Act} {w : World} {Rd : Nat → Prop}
    (hy : YieldsF P ops oi v a w Rd) (h : opI P tab ops (QN Q0) j K (a.put oi.dst v) w Rd) :
    opI P tab ops (QN Q0) j (fun a' w' Rd' => YieldsF P ops oi v a' w' Rd' ∧ K (a'.put oi.dst v) w' Rd') a w Rd := by
  obtain ⟨h1, h2, h3⟩ := Oper.apart_spec hap
  have keep : ∀ (w' : World) (Rd' : Nat → Prop), (isLoad oi.op = true → Fr w Rd w' Rd') → ∀ u, YieldsF P ops oi v (a.put oj.dst u) w' Rd' := fun w' Rd' hf u =>
    hy.of_same (execOp_put oi hsi a oj.dst u h3) (wanted_put oi a oj.dst u h3) hf
  have keepD : ∀ (w' : World) (Rd' : Nat → Prop) d u, (isLoad oi.op = true → Fr w Rd w' Rd') → YieldsF P ops oi v ({ a with defers := d :: a.defers }.put oj.dst u) w' Rd' := fun w' Rd' d u hf =>
    (hy.of_same (a' := { a with defers := d :: a.defers }) rfl rfl (fun h => Fr.refl w Rd)).of_same (execOp_put oi hsi _ oj.dst u h3) (wanted_put oi _ oj.dst u h3) hf
  unfold opI at *
  simp only [hj] at *
  rw [wanted_put oj a oi.dst v h1] at h
  split
  · rename_i hw
    simp only [hw, if_true] at h
    unfold Oper.wp at *
    rw [execOp_put oj hsj a oi.dst v h1] at h
    generalize (execOp a.eval oj).run P w = r at *
    cases r with
    | ok n w' =>
      cases n <;> simp only [Oper.upon] at h ⊢
      case value u =>
        obtain ⟨Rd', g1, g2⟩ := h
        exact ⟨Rd', g1, keep w' Rd' (fun hl => g1 (hcalm hl)) u, by rw [← Act.put_comm a v u h2]; exact g2⟩
      case skip =>
        obtain ⟨Rd', g1, g2⟩ := h
        exact ⟨Rd', g1, keep w' Rd' (fun hl => g1 (hcalm hl)) _, by rw [← Act.put_comm a v undef h2]; exact g2⟩
      case defer d =>
        obtain ⟨Rd', g1, g2⟩ := h
        refine ⟨Rd', g1, keepD w' Rd' d _ (fun hl => g1 (hcalm hl)), ?_⟩
        rw [← Act.put_comm _ v undef h2, ← Act.put_defers]
        exact g2
      case enter f args =>
        refine Calls.mono h fun e w'' he => ?_
        cases e with
        | returned u =>
          obtain ⟨Rd', g1, g2⟩ := he
          exact ⟨Rd', g1, keep w'' Rd' (fun hl => g1 (hcalm hl)) u, by rw [← Act.put_comm a v u h2]; exact g2⟩
        | panicked c => exact he
        | outgrown => exact he
      case row row args =>
        refine Rows.mono h fun u w'' he => ?_
        obtain ⟨Rd', g1, g2⟩ := he
        exact ⟨Rd', g1, keep w'' Rd' (fun hl => g1 (hcalm hl)) u, by rw [← Act.put_comm a v u h2]; exact g2⟩
    | halt x w' => cases x <;> simp only [Oper.upon] at h ⊢ <;> exact h
  · rename_i hw
    simp only [hw] at h
    exact ⟨keep w Rd (fun _ => Fr.refl w Rd) _, by rw [← Act.put_comm a v undef h2]; exact h⟩

theorem wpI_first {Q0 : Act → World → Prop} {i : Nat} {oi : Oper} {v : Value} (W : Nat → Bool) (hi : ops[i]? = some oi) (hsel : ∀ (j : Nat) (o : Oper) cs b, ops[j]? = some o → o.op ≠ .select cs b)
    (hedge : ∀ j, W j = true → ∃ o e, ops[j]? = some o ∧ e ∈ o.after ∧ Region.binds .any e = true ∧ (e.on = i ∨ W e.on = true)) :
    ∀ (fuel : Nat) (listed : Array Bool) (a : Act) (w : World) (Rd : Nat → Prop),
      (∀ j, W j = true → listed.getD j false = false) →
      (∀ j oj, ops[j]? = some oj → j ≠ i → listed.getD j true = false → W j = false → oi.apart ops oj = true ∧ (isLoad oi.op = true → calmOp tab oj.op = true)) →
      i ∈ Region.ready .any ops listed → YieldsF P ops oi v a w Rd →
      wpI P tab ops Q0 fuel (listed.setIfInBounds i true) (a.put oi.dst v) w Rd → wpI P tab ops Q0 (fuel + 1) listed a w Rd := by
  intro fuel
  induction fuel with
  | zero =>
    intro listed a w Rd _ _ hr hy H
    refine ⟨fun h => (by rw [h] at hr; cases hr), fun j hj => ?_⟩
    by_cases hji : j = i
    · subst hji; exact hy.opI hi H
    · have := ready_mono hj hji
      rw [H.1] at this
      cases this
  | succ fuel ih =>
    intro listed a w Rd hun hfree hr hy H
    refine ⟨fun h => (by rw [h] at hr; cases hr), fun j hj => ?_⟩
    by_cases hji : j = i
    · subst hji; exact hy.opI hi H
    · have h1 := H.2 j (ready_mono hj hji)
      obtain ⟨hjun, oj, hoj, hall⟩ := mem_ready.1 hj
      have hi0 : listed.getD i false = false := by
        have h0 := (mem_ready.1 hr).1
        rcases Nat.lt_or_ge i listed.size with h' | h'
        · simp [h'] at h0 ⊢; exact h0
        · simp [Array.getElem?_eq_none h'] at h0
      have hWj : W j = false := by
        cases hW : W j with
        | false => rfl
        | true =>
          obtain ⟨o, e, k1, k2, k3, k4⟩ := hedge j hW
          rw [hoj] at k1; cases k1
          have k5 := hall e k2 k3
          rcases k4 with k4 | k4
          · rw [k4, hi0] at k5; cases k5
          · rw [hun _ k4] at k5; cases k5
      obtain ⟨hap, hcalm⟩ := hfree j oj hoj hji hjun hWj
      have h2 := opI_put hoj hap hcalm (fun cs b => hsel i oi cs b hi) (fun cs b => hsel j oj cs b hoj) hy h1
      have hun' : ∀ k, W k = true → (listed.setIfInBounds j true).getD k false = false := fun k hk => by
        have hne : j ≠ k := by rintro rfl; rw [hWj] at hk; cases hk
        rw [getD_set_ne false hne]; exact hun k hk
      have hfree' : ∀ k ok, ops[k]? = some ok → k ≠ i → (listed.setIfInBounds j true).getD k true = false → W k = false → oi.apart ops ok = true ∧ (isLoad oi.op = true → calmOp tab ok.op = true) := fun k ok hk hki hu hw => by
        refine hfree k ok hk hki ?_ hw
        by_cases hjk : j = k
        · subst hjk; exact hjun
        · rw [getD_set_ne true hjk] at hu; exact hu
      refine opI_mono (fun a' w' Rd' h3 => ih (listed.setIfInBounds j true) a' w' Rd' hun' hfree' (ready_mono hr (Ne.symm hji)) h3.1 ?_) h2
      rw [Array.setIfInBounds_comm _ _ hji]
      exact h3.2
end

section
variable {P : Program} {tt : Nat → Option TI} {tab : Nat → Option Spec} {X : Cx} {ops : Array Oper}

theorem stepW_sound (htt : TTok P tt) (htab : TabOK P X.rt tab) {i : Nat} {s : St} {a : Act} {w : World} {β : Nat → Option Nat} {cp : Nat → Nat} {Rd : Nat → Prop} (h : Good X s a w β cp Rd) {k : St → Prop} (hp : stepW tt tab ops i s k)
    {Q : Exit → Act → World → Prop} {K : Act → World → (Nat → Prop) → Prop} (hK : ∀ s' a' w' β' cp' Rd', k s' → Good X s' a' w' β' cp' Rd' → K a' w' Rd') : opI P tab ops Q i K a w Rd := by
  unfold stepW at hp
  rw [nthL_eq, Array.getElem?_toList] at hp
  unfold opI
  cases hi : ops[i]? with
  | none => rw [hi] at hp; exact hp.elim
  | some o =>
    rw [hi] at hp
    simp only at hp ⊢
    rcases guard_good h hp with ⟨hw, s1, h1, hd, h2, h3⟩ | ⟨hw, s1, h1, hd, h2⟩
    · rw [if_pos hw]
      exact opS_sound (nid := s1.nx) htt htab (h1.bump 8) hd (fun j _ hk => by have := h1.fresh _ hk; omega) (Nat.le_refl _) h2 fun s' a' w' g1 ⟨β', cp', Rd', g2, g3⟩ => ⟨Rd', g3, hK s' a' w' β' cp' Rd' (h3 s' g1) g2⟩
    · rw [if_neg (by rw [hw]; simp)]
      exact hK _ _ _ β cp Rd h2 (h1.put (x := .c .und) hd rfl)

theorem stepW_pure (htt : TTok P tt) {i : Nat} {oi : Oper} (hi : ops[i]? = some oi) (hpure : pureOp oi.op = true) {s : St} {a : Act} {w : World} {β : Nat → Option Nat} {cp : Nat → Nat} {Rd : Nat → Prop} (h : Good X s a w β cp Rd) {k : St → Prop} (hp : stepW tt tab ops i s k) :
    ∃ v s', YieldsF P ops oi v a w Rd ∧ k s' ∧ Good X s' (a.put oi.dst v) w β cp Rd := by
  unfold stepW at hp
  rw [nthL_eq, Array.getElem?_toList, hi] at hp
  simp only at hp
  rcases guard_good h hp with ⟨hw, s1, h1, hd, h2, h3⟩ | ⟨hw, s1, h1, hd, h2⟩
  · obtain ⟨u, g1, s', g2, g3⟩ := opP_sound (tab := tab) (nid := s1.nx) htt (h1.bump 8) hd hpure h2
    exact ⟨u, s', .inl ⟨hw, g1⟩, h3 s' g2, g3⟩
  · exact ⟨undef, _, .inr ⟨hw, rfl⟩, h2, h1.put (x := .c .und) hd rfl⟩

theorem firstOK_spec {listed : Array Bool} {i : Nat} (h : firstOK tab ops listed i = true) : ∃ oi, ops[i]? = some oi ∧ i ∈ Region.ready .any ops listed ∧ pureOp oi.op = true ∧
    (∀ j, waits ops i j = true → ∃ o e, ops[j]? = some o ∧ e ∈ o.after ∧ Region.binds .any e = true ∧ (e.on = i ∨ waits ops i e.on = true)) ∧
    (∀ j, waits ops i j = true → listed.getD j false = false) ∧
    (∀ j oj, ops[j]? = some oj → j ≠ i → listed.getD j true = false → waits ops i j = false → oi.apart ops oj = true ∧ (isLoad oi.op = true → calmOp tab oj.op = true)) := by
  unfold firstOK at h
  cases hi : ops[i]? with
  | none => rw [hi] at h; cases h
  | some oi =>
    rw [hi] at h
    simp only [Bool.and_eq_true, List.all_eq_true, List.mem_range, beq_iff_eq] at h
    obtain ⟨⟨⟨h1, h2⟩, hsz⟩, h3⟩ := h
    have hin : ∀ j, waits ops i j = true → j < ops.size := by
      intro j hj
      unfold waits at hj
      rcases Nat.lt_or_ge j ops.size with h' | h'
      · exact h'
      · rw [List.getD_eq_getElem?_getD, List.getElem?_eq_none (by omega)] at hj; cases hj
    refine ⟨oi, rfl, by simpa using h1, h2, fun j hj => ?_, fun j hj => ?_, fun j oj hoj hji hun hw => ?_⟩
    · have h4 := h3 j (hin j hj)
      have hoj : ops[j]? = some (ops[j]'(hin j hj)) := Array.getElem?_eq_getElem (hin j hj)
      rw [hoj] at h4
      simp only [hj, Bool.not_true, Bool.false_or, Bool.and_eq_true] at h4
      obtain ⟨e, he, hb⟩ := Array.any_eq_true'.1 h4.1.2
      simp only [Bool.and_eq_true, Bool.or_eq_true, beq_iff_eq] at hb
      exact ⟨_, e, hoj, he, hb.1, hb.2⟩
    · have h4 := h3 j (hin j hj)
      have hoj : ops[j]? = some (ops[j]'(hin j hj)) := Array.getElem?_eq_getElem (hin j hj)
      rw [hoj] at h4
      simp only [hj, Bool.not_true, Bool.false_or, Bool.and_eq_true, Bool.not_eq_true'] at h4
      exact h4.1.1
    · have h4 := h3 j (Array.getElem?_eq_some_iff.1 hoj).1
      rw [hoj] at h4
      simp only [hw, Bool.not_false, Bool.true_or, Bool.true_and, Bool.or_eq_true, beq_iff_eq, hji, hun, false_or, Bool.false_eq_true, Bool.and_eq_true, Bool.not_eq_true'] at h4
      exact ⟨h4.1, fun hl => h4.2.resolve_left (by rw [hl]; simp)⟩

theorem planW_sound (htt : TTok P tt) (htab : TabOK P X.rt tab) (hs : Region.noSelect ops = true) {K : St → Prop} {Q0 : Act → World → Prop} (hK : ∀ s' a' w', K s' → Rel X s' a' w' → Q0 a' w') :
    ∀ (p : Plan) (m : Bool) (fuel : Nat) (listed : Array Bool) (s : St) (a : Act) (w : World) (β : Nat → Option Nat) (cp : Nat → Nat) (Rd : Nat → Prop), planOK tab ops p m fuel listed = true → Good X s a w β cp Rd → planW tt tab ops K p m s →
      (m = false → wpI P tab ops Q0 fuel listed a w Rd) ∧ (m = true → ∀ i ∈ p.ids, opI P tab ops (QN Q0) i (wpI P tab ops Q0 (fuel - 1) (listed.setIfInBounds i true)) a w Rd) := by
  intro p
  induction p with
  | nil =>
    intro m fuel listed s a w β cp Rd hok h hp
    cases m with
    | true => exact ⟨fun h => (by cases h), fun _ i hi => by cases hi⟩
    | false =>
      have hr : Region.ready .any ops listed = [] := by simpa [planOK] using hok
      refine ⟨fun _ => ?_, fun h => by cases h⟩
      have hq : Q0 a w := hK s a w hp ⟨β, cp, Rd, h⟩
      cases fuel with
      | zero => exact ⟨hr, hq⟩
      | succ f => exact ⟨fun _ => hq, by rw [hr]; simp⟩
  | first i p ih =>
    intro m fuel listed s a w β cp Rd hok h hp
    cases m with
    | true => cases fuel <;> simp [planOK] at hok
    | false =>
      cases fuel with
      | zero => simp [planOK] at hok
      | succ f =>
        simp only [planOK, Bool.and_eq_true] at hok
        obtain ⟨oi, hi, hr, hpure, he, hu, hf⟩ := firstOK_spec hok.1
        obtain ⟨v, s', hy, hk, hG⟩ := stepW_pure htt hi hpure h hp
        exact ⟨fun _ => wpI_first (waits ops i) hi (Region.noSelect_spec hs) he f listed a w Rd hu hf hr hy ((ih false f _ s' _ w β cp Rd hok.2 hG hk).1 rfl), fun h => by cases h⟩
  | alt i p r ihp ihr =>
    intro m fuel listed s a w β cp Rd hok h hp
    cases fuel with
    | zero => cases m <;> simp [planOK] at hok
    | succ f =>
      simp only [planOK, Bool.and_eq_true] at hok
      obtain ⟨⟨hcov, hokp⟩, hokr⟩ := hok
      obtain ⟨hp1, hp2⟩ := hp
      have hall : ∀ k ∈ (Plan.alt i p r).ids, opI P tab ops (QN Q0) k (wpI P tab ops Q0 f (listed.setIfInBounds k true)) a w Rd := by
        intro k hk
        simp only [Plan.ids, List.mem_cons] at hk
        rcases hk with rfl | hk
        · exact stepW_sound htt htab h hp1 fun s' a' w' β' cp' Rd' h1 h2 => (ihp false f _ s' a' w' β' cp' Rd' hokp h2 h1).1 rfl
        · exact (ihr true (f + 1) listed s a w β cp Rd hokr h hp2).2 rfl k hk
      refine ⟨fun hm => ⟨fun hr => ?_, fun k hk => ?_⟩, fun _ => hall⟩
      · -- the region's end: the plan would be over
        exfalso
        subst hm
        rw [hr] at hcov
        simp at hcov
      · subst hm
        simp only [Bool.false_or, Bool.and_eq_true, List.all_eq_true, Bool.or_eq_true, beq_iff_eq, List.contains_iff_mem] at hcov
        exact hall k (List.mem_cons.2 (hcov.2 k hk))

theorem Good.sameHeap {s : St} {a : Act} {w w' : World} {β : Nat → Option Nat} {cp : Nat → Nat} {Rd : Nat → Prop} (h : Good X s a w β cp Rd) (hos : w'.os = w.os) (htape : w'.tape = w.tape) (hout : w'.output = w.output) (hh : w'.heap = w.heap) : Good X s a w' β cp Rd := by
  refine h.re rfl rfl rfl h.fresh hos htape hout (by rw [hh]; exact Nat.le_refl _) (fun g _ _ _ => by rw [hh]) (fun _ h => h) (fun _ h => .inl h) (fun _ h => .inl h) (fun b bx g h1 h2 => .inl ⟨bx, h1, h2⟩) h.own_rd
    (fun g hg => ?_) h.inj (fun _ _ h => h) (fun _ _ h => h) ?_ (fun b bx hb => ?_)
  · obtain ⟨_, bv, p, bs, h1, _⟩ := h.rdok g (h.rd0 g hg)
    exact ⟨bv, p, p, h1, h1.congr (by rw [hh])⟩
  · exact h.rdok.mono (fun g _ _ => by rw [hh]) (by rw [hh]; exact Nat.le_refl _) (fun _ _ h => h) (fun g _ => by rw [hh]) (Nat.le_refl _)
  · exact ((h.boxes b bx hb).heap (w' := w') fun g _ => by rw [hh]).mono fun v c hc => hc.mono (K := fun _ => True) (fun g _ _ => by rw [hh]) (by rw [hh]; exact Nat.le_refl _) (fun _ _ h => h) (fun _ h => h) (cIds_all c) (fun _ _ _ _ _ _ h => h)

theorem drawW_ok (hm : P.follows .mixedOrders = true) (htt : TTok P tt) (htab : TabOK P X.rt tab) (id : Nat) (ops : Array Oper) : DrawOK P X (fun _ => drawW tt tab) id ops := by
  intro s K Q a w hp h hK
  obtain ⟨p, hok, hp⟩ := hp
  simp only [planOK', Bool.and_eq_true] at hok
  obtain ⟨β, cp, Rd, G⟩ := h
  have h1 := (planW_sound (Q0 := Q .normal) htt htab hok.1 hK p false ops.size _ s a { w with drawn := w.drawn + 1 } β cp Rd hok.2 (G.sameHeap rfl rfl rfl rfl) hp).1 rfl
  exact wp_mono (wp_region_any hm (wpAny_of_I _ _ _ _ _ h1)) fun e a w hq => by
    cases e <;> first | exact hq | exact hq.elim

/-- The order of the text. -/
def linP (tab : Nat → Option Spec) (ops : Array Oper) : Nat → Nat → Array Bool → Plan
  | 0, _, _ => .nil
  | f + 1, i, listed => bif firstOK tab ops listed i then .first i (linP tab ops f (i + 1) (listed.setIfInBounds i true)) else .alt i (linP tab ops f (i + 1) (listed.setIfInBounds i true)) .nil
def seqOK (tab : Nat → Option Spec) (ops : Array Oper) : Bool := planOK' tab ops (linP tab ops ops.size 0 (Array.replicate ops.size false))
theorem guardW_mono {ops : Array Oper} {o : Oper} {s : St} {yes yes' no no' : St → Prop} (h1 : ∀ s, yes s → yes' s) (h2 : ∀ s, no s → no' s) (hg : guardW ops o s yes no) : guardW ops o s yes' no' := by
  unfold guardW guardB at *
  cases hgd : o.guard with
  | none => simp only [hgd] at hg ⊢; exact h1 _ hg
  | some jw =>
    obtain ⟨j, want⟩ := jw
    simp only [hgd] at hg ⊢
    cases hb : (nthL ops.toList j).bind (·.dst) with
    | none => simp only [hb] at hg ⊢; exact h2 _ hg
    | some g =>
      simp only [hb] at hg ⊢
      generalize s.get g = x at hg ⊢
      cases x with
      | c c =>
        cases c with
        | und => exact h2 _ hg
        | v v =>
          cases v with
          | bool t => cases want <;> exact ⟨fun ht => by first | exact h1 _ (hg.1 ht) | exact h2 _ (hg.1 ht), fun ht => by first | exact h1 _ (hg.2 ht) | exact h2 _ (hg.2 ht)⟩
          | _ => exact hg.elim
        | _ => exact hg.elim
      | _ => exact hg.elim
theorem linP_ok (tt : Nat → Option TI) (tab : Nat → Option Spec) (ops : Array Oper) (K : St → Prop) : ∀ (f i : Nat) (listed : Array Bool) (s : St), i + f = ops.size → opsW tt tab ops (ops.toList.drop i) s K → planW tt tab ops K (linP tab ops f i listed) false s
  | 0, i, listed, s, hf, h => by
    have : ops.toList.drop i = [] := List.drop_eq_nil_of_le (by simp; omega)
    rw [this] at h
    exact h
  | f + 1, i, listed, s, hf, h => by
    have hi : i < ops.toList.length := by simp; omega
    rw [List.drop_eq_getElem_cons hi] at h
    have hstep : stepW tt tab ops i s fun s => planW tt tab ops K (linP tab ops f (i + 1) (listed.setIfInBounds i true)) false s := by
      unfold stepW
      rw [nthL_eq, List.getElem?_eq_getElem hi]
      simp only [opsW] at h
      simp only
      refine guardW_mono (fun s hs => ?_) (fun s hs => ⟨hs.1, linP_ok tt tab ops K f (i + 1) _ _ (by omega) hs.2⟩) h
      obtain ⟨h1, h2, h3⟩ := hs
      exact ⟨h1, h2, fun s' hs' => linP_ok tt tab ops K f (i + 1) _ _ (by omega) (h3 s' hs')⟩
    unfold linP
    cases firstOK tab ops listed i with
    | true => exact hstep
    | false => exact ⟨hstep, trivial⟩

/-- Regions that draw: in the order of the text, where that is all. -/
def dwS (tt : Nat → Option TI) (tab : Nat → Option Spec) (sq : Nat → Bool) (id : Nat) (ops : Array Oper) (s : St) (K : St → Prop) : Prop :=
  match sq id with
  | true => opsW tt tab ops ops.toList s K
  | false => drawW tt tab ops s K
def dwOK (tab : Nat → Option Spec) (sq : Nat → Bool) (id : Nat) (ops : Array Oper) : Bool := !sq id || seqOK tab ops
theorem dwS_ok (hm : P.follows .mixedOrders = true) (htt : TTok P tt) (htab : TabOK P X.rt tab) {sq : Nat → Bool} {c : Code} (h : allDB (dwOK tab sq) c = true) : allD (DrawOK P X (dwS tt tab sq)) c := by
  refine allDB_ok (fun id ops hp => ?_) c h
  intro s K Q a w hd hR hK
  refine drawW_ok hm htt htab id ops s K Q a w ?_ hR hK
  unfold dwS at hd
  cases hs : sq id with
  | false => rw [hs] at hd; exact hd
  | true =>
    rw [hs] at hd
    simp only [dwOK, hs, Bool.not_true, Bool.false_or] at hp
    exact ⟨_, hp, linP_ok tt tab ops K ops.size 0 _ s (by omega) (by simpa using hd)⟩
end
end Go.VE
