/- The law FnExactFrameFrom of the program vectorraster answers true for every input, and the input reads behind the call as it read before. No conditions. -/
import Derived.Test.YtofelomoieamoaaQ1X8
import Derived.Test.YtofelomoieamoaaW38
import Derived.ProofKit
import Derived.OpenShut
import Derived.ChangeOld
import Derived.Below
namespace Go.Proofs.Ytofelomoieamoaa.FnExactFrameFrom
open Go.ChangeShapes Go.WideShapes Go.ChangeAt Go.RowKit Go.VE
set_option linter.unusedVariables false

theorem own : ownKnob Try.prog.godebug = none := by kernel_rfl
theorem laidOut : laidOutB Try.prog = true := by kernel_rfl
theorem op_co {H : Type} (enc : TypeId × Value → H) (w : World) : Opens enc Try.prog w 80 Colr coC (fun _ => True) :=
  opens_map (opens_struct Try.underlying80 rfl (by kernel_rfl) (opensF_cons (k1 := 1) (opens_int Try.underlying3) rfl (by kernel_rfl) (fun _ => rfl) (opensF_cons (k1 := 1) (opens_int Try.underlying3) rfl (by kernel_rfl) (fun _ => rfl) (opensF_cons (k1 := 1) (opens_int Try.underlying3) rfl (by kernel_rfl) (fun _ => rfl) (opensF_cons (k1 := 1) (opens_int Try.underlying3) rfl (by kernel_rfl) (fun _ => rfl) (opensF_nil _)))))) (fun x => (⟨x.1, x.2.1, x.2.2.1, x.2.2.2.1⟩ : Colr)) (fun _ => rfl) (fun _ _ => trivial)
theorem op_rn {H : Type} (enc : TypeId × Value → H) (w : World) : Opens enc Try.prog w 82 Rn rnC (fun _ => True) :=
  opens_map (opens_struct Try.underlying82 rfl (by kernel_rfl) (opensF_cons (k1 := 4) (op_co enc w) rfl (by kernel_rfl) (fun _ => rfl) (opensF_cons (k1 := 1) (opens_int Try.underlying3) rfl (by kernel_rfl) (fun _ => rfl) (opensF_nil _)))) (fun x => (⟨x.1, x.2.1⟩ : Rn)) (fun _ => rfl) (fun _ _ => trivial)
theorem walk (v0 : Value) (v1 : Value) (v2 : Value) (x0 : Int) (x1 : Int) (x2 : List Rn) (w : World) (q0 : (Lit.int .i64 x0).wf = true) (q1 : (Lit.int .i64 x1).wf = true) (q2 : x2.length ≤ maxLen ∧ ∀ a ∈ x2, True) (h0 : ArgOK w v0 (I x0)) (h1 : ArgOK w v1 (I x1)) (h2 : ArgOK w v2 (.c (.sl false (x2.map rnC)))) :
    Calls Try.prog 11 #[v0, v1, v2] w fun e w' => e = .returned (.bool true) ∧ Below w.heap.size w w' := by
  refine law_args sat_laws_FnExactFrameFrom_0 [I x0, I x1, .c (.sl false (x2.map rnC))] #[v0, v1, v2] w rfl (fun j x hj => ?_) ⟨rfl, ?_⟩ (fun r out h => ?_) (Nat.le_of_ble_eq_true rfl)
  · match j, hj with
    | 0, hj => simp only [List.getElem?_cons_zero, List.getElem?_cons_succ, Option.some.injEq] at hj; subst hj; exact h0
    | 1, hj => simp only [List.getElem?_cons_zero, List.getElem?_cons_succ, Option.some.injEq] at hj; subst hj; exact h1
    | 2, hj => simp only [List.getElem?_cons_zero, List.getElem?_cons_succ, Option.some.injEq] at hj; subst hj; exact h2
    | (n + 3), hj => simp at hj
  · simp only [go_sem, famPre, spLawFF_A, spLawFF_pre, and_true, true_and]
    exact Nat.le_trans q2.1 (by decide)
  · simp only [go_sem, spLawFF_q, famPost, spLawFF_A, spLawFF_post] at h
    exact h.1

set_option maxRecDepth 100000 in
theorem lifted (os : Os) (started : os.Started) (H : Type) (enc : TypeId × Value → H) :
    ReturnsInHanded {} Try.checked os 11 .any (Rows.fnExactFrameFromSpec.pre6 enc Try.prog Try.f11 Rows.fnExactFrameFromRow.domain false) (Rows.fnExactFrameFromSpec.post enc Try.prog Try.f11 false true false false) := by
  refine returnsInHanded_of_change (C := Try.checked) own started (by kernel_rfl) Try.func11
    (ChangeSpec.witness6 (enc := enc) (C := Try.checked) false ⟨#[], #[.int .i64 0, .int .i64 0, .slice none 0 0], []⟩ 8 (by kernel_rfl) (by kernel_rfl) (by kernel_rfl) (by kernel_rfl)) ?_
  intro W base args ds gs before hval0 hW hcnd _
  have hval : ∀ (j : Nat) t v, Try.f11.params[j]? = some t → args[j]? = some v → Value.okWide Try.prog W .any base t v := hval0
  have hW' := hW
  obtain ⟨p, q, hA0, hV, rfl, hfz, hnd⟩ := hW
  have hA : DataW.TrodAll enc Try.prog W 0 (fun _ => true) true Try.f11.params.toList args.toList ds p := hA0
  rw [Try.params11] at hA hval
  obtain ⟨v0, vs0, d0, ds0, p0, q0, hargs0, rfl, rfl, h0, r0⟩ := trodAll_cons hA
  obtain ⟨v1, vs1, d1, ds1, p1, q1, hargs1, rfl, rfl, h1, r1⟩ := trodAll_cons r0
  obtain ⟨v2, vs2, d2, ds2, p2, q2, hargs2, rfl, rfl, h2, r2⟩ := trodAll_cons r1
  obtain ⟨rfl, rfl, rfl⟩ := trodAll_nil r2
  obtain rfl : args = #[v0, v1, v2] := by cases args; simp_all
  obtain ⟨rfl, rfl⟩ := trodVars_none hV
  have k0 := h0
  have lt0 : ∀ x ∈ p0, x.block < W.heap.size := by obtain ⟨m, hm⟩ := k0; exact DataW.trod_lt m _ _ _ hm
  obtain ⟨x0, e0, w0⟩ := arg_one (g := fun n => C.v (.int .i64 n)) (cells_int Try.underlying3 (hval 0 3 v0 rfl rfl)) (opens_int Try.underlying3) h0
  have k1 := h1
  have lt1 : ∀ x ∈ p1, x.block < W.heap.size := by obtain ⟨m, hm⟩ := k1; exact DataW.trod_lt m _ _ _ hm
  obtain ⟨x1, e1, w1⟩ := arg_one (g := fun n => C.v (.int .i64 n)) (cells_int Try.underlying3 (hval 1 3 v1 rfl rfl)) (opens_int Try.underlying3) h1
  have k2 := h2
  have lt2 : ∀ x ∈ p2, x.block < W.heap.size := by obtain ⟨m, hm⟩ := k2; exact DataW.trod_lt m _ _ _ hm
  obtain ⟨x2, e2, w2⟩ := arg_one (g := fun (l : List Rn) => C.sl false (l.map rnC)) (cells_slice Try.underlying53 (hval 2 53 v2 rfl rfl)) (opens_slice (k := 5) Try.underlying53 (by kernel_rfl) (by decide) (fun _ => rfl) (op_rn enc W)) h2
  clear hA0 hval0
  refine (walk v0 v1 v2 x0 x1 x2 W e0 e1 e2 w0 w1 w2).mono fun e W' ⟨he, bel⟩ => ?_
  subst he
  exact ⟨_, rfl, _, _, _, [], _, [], hW', trodAll_mk1 (shut_bool Try.underlying4 _), (trodAll_cons_mk (Below.trod laidOut (by kernel_rfl) (of_decide_eq_true (by kernel_rfl)) k0 bel lt0) (trodAll_cons_mk (Below.trod laidOut (by kernel_rfl) (of_decide_eq_true (by kernel_rfl)) k1 bel lt1) (trodAll_cons_mk (Below.trod laidOut (by kernel_rfl) (of_decide_eq_true (by kernel_rfl)) k2 bel lt2) trodAll_mk0))), rfl, bel.frame _, fun h => by cases h⟩

theorem over : Rows.fnExactFrameFromRow.holds Try.pinned (OpenSpec.ofChange Rows.fnExactFrameFromSpec) :=
  OpenClaim.holds_of_wide 11 Try.f11 rfl rfl rfl rfl rfl rfl rfl ⟨rfl, rfl, rfl, rfl, rfl⟩ rfl rfl rfl rfl rfl (by kernel_rfl) Try.func11 (by kernel_rfl)
    (of_decide_eq_true (by kernel_rfl)) (by unfold Func.isWrapper; first | (rw [if_pos (by decide +kernel)]; kernel_rfl) | (rw [if_neg (by decide +kernel)]; exact ⟨rfl, rfl⟩))
    (fun os started H enc _ => lifted os started H enc)

theorem proved : Rows.FnExactFrameFromSaid := over
#print axioms proved
end Go.Proofs.Ytofelomoieamoaa.FnExactFrameFrom
