/- The law FnExactRunsOf of the program vectorraster answers true for every input, and the input reads behind the call as it read before. No conditions. -/
import Derived.Test.YtofelomoieamoaaQ1X6
import Derived.Test.YtofelomoieamoaaW38
import Derived.ProofKit
import Derived.OpenShut
import Derived.ChangeOld
import Derived.Below
namespace Go.Proofs.Ytofelomoieamoaa.FnExactRunsOf
open Go.ChangeShapes Go.WideShapes Go.ChangeAt Go.RowKit Go.VE
set_option linter.unusedVariables false

theorem own : ownKnob Try.prog.godebug = none := by kernel_rfl
theorem laidOut : laidOutB Try.prog = true := by kernel_rfl
theorem op_co {H : Type} (enc : TypeId × Value → H) (w : World) : Opens enc Try.prog w 80 Colr coC (fun _ => True) :=
  opens_map (opens_struct Try.underlying80 rfl (by kernel_rfl) (opensF_cons (k1 := 1) (opens_int Try.underlying3) rfl (by kernel_rfl) (fun _ => rfl) (opensF_cons (k1 := 1) (opens_int Try.underlying3) rfl (by kernel_rfl) (fun _ => rfl) (opensF_cons (k1 := 1) (opens_int Try.underlying3) rfl (by kernel_rfl) (fun _ => rfl) (opensF_cons (k1 := 1) (opens_int Try.underlying3) rfl (by kernel_rfl) (fun _ => rfl) (opensF_nil _)))))) (fun x => (⟨x.1, x.2.1, x.2.2.1, x.2.2.2.1⟩ : Colr)) (fun _ => rfl) (fun _ _ => trivial)
theorem op_fr {H : Type} (enc : TypeId × Value → H) (w : World) : Opens enc Try.prog w 35 Frm frC (fun f => f.px.length ≤ maxLen) :=
  opens_map (opens_struct Try.underlying35 rfl (by kernel_rfl) (opensF_cons (k1 := 1) (opens_int Try.underlying3) rfl (by kernel_rfl) (fun _ => rfl) (opensF_cons (k1 := 1) (opens_int Try.underlying3) rfl (by kernel_rfl) (fun _ => rfl) (opensF_cons (k1 := 1) (opens_slice (k := 4) Try.underlying33 (by kernel_rfl) (by decide) (fun _ => rfl) (op_co enc w)) rfl (by kernel_rfl) (fun _ => rfl) (opensF_nil _))))) (fun x => (⟨x.1, x.2.1, x.2.2.1⟩ : Frm)) (fun _ => rfl) (fun _ h => h.2.2.1.1)
theorem walk (v0 : Value) (x0 : Frm) (w : World) (q0 : x0.px.length ≤ maxLen) (h0 : ArgOK w v0 (.agg (frC x0))) :
    Calls Try.prog 8 #[v0] w fun e w' => e = .returned (.bool true) ∧ Below w.heap.size w w' := by
  refine law_args sat_laws_FnExactRunsOf_0 [.agg (frC x0)] #[v0] w rfl (fun j x hj => ?_) ⟨rfl, ?_⟩ (fun r out h => ?_) (Nat.le_of_ble_eq_true rfl)
  · match j, hj with
    | 0, hj => simp only [List.getElem?_cons_zero, List.getElem?_cons_succ, Option.some.injEq] at hj; subst hj; exact h0
    | (n + 1), hj => simp at hj
  · simp only [go_sem, famPre, spLawF_A, spLawF_pre, and_true, true_and]
    exact Nat.le_trans q0 (by decide)
  · simp only [go_sem, spLawF_q, famPost, spLawF_A, spLawF_post] at h
    exact h.1

set_option maxRecDepth 100000 in
theorem lifted (os : Os) (started : os.Started) (H : Type) (enc : TypeId × Value → H) :
    ReturnsInHanded {} Try.checked os 8 .any (Rows.fnExactRunsOfSpec.pre6 enc Try.prog Try.f8 Rows.fnExactRunsOfRow.domain false) (Rows.fnExactRunsOfSpec.post enc Try.prog Try.f8 false true false false) := by
  refine returnsInHanded_of_change (C := Try.checked) own started (by kernel_rfl) Try.func8
    (ChangeSpec.witness6 (enc := enc) (C := Try.checked) false ⟨#[], #[.agg #[.int .i64 0, .int .i64 0, .slice none 0 0]], []⟩ 8 (by kernel_rfl) (by kernel_rfl) (by kernel_rfl) (by kernel_rfl)) ?_
  intro W base args ds gs before hval0 hW hcnd _
  have hval : ∀ (j : Nat) t v, Try.f8.params[j]? = some t → args[j]? = some v → Value.okWide Try.prog W .any base t v := hval0
  have hW' := hW
  obtain ⟨p, q, hA0, hV, rfl, hfz, hnd⟩ := hW
  have hA : DataW.TrodAll enc Try.prog W 0 (fun _ => true) true Try.f8.params.toList args.toList ds p := hA0
  rw [Try.params8] at hA hval
  obtain ⟨v0, vs0, d0, ds0, p0, q0, hargs0, rfl, rfl, h0, r0⟩ := trodAll_cons hA
  obtain ⟨rfl, rfl, rfl⟩ := trodAll_nil r0
  obtain rfl : args = #[v0] := by cases args; simp_all
  obtain ⟨rfl, rfl⟩ := trodVars_none hV
  have k0 := h0
  have lt0 : ∀ x ∈ p0, x.block < W.heap.size := by obtain ⟨m, hm⟩ := k0; exact DataW.trod_lt m _ _ _ hm
  obtain ⟨x0, e0, w0⟩ := arg_struct Try.underlying35 (hval 0 35 v0 rfl rfl) (op_fr enc W) h0
  clear hA0 hval0
  refine (walk v0 x0 W e0 w0).mono fun e W' ⟨he, bel⟩ => ?_
  subst he
  exact ⟨_, rfl, _, _, _, [], _, [], hW', trodAll_mk1 (shut_bool Try.underlying4 _), (trodAll_cons_mk (Below.trod laidOut (by kernel_rfl) (of_decide_eq_true (by kernel_rfl)) k0 bel lt0) trodAll_mk0), rfl, bel.frame _, fun h => by cases h⟩

theorem over : Rows.fnExactRunsOfRow.holds Try.pinned (OpenSpec.ofChange Rows.fnExactRunsOfSpec) :=
  OpenClaim.holds_of_wide 8 Try.f8 rfl rfl rfl rfl rfl rfl rfl ⟨rfl, rfl, rfl, rfl, rfl⟩ rfl rfl rfl rfl rfl (by kernel_rfl) Try.func8 (by kernel_rfl)
    (of_decide_eq_true (by kernel_rfl)) (by unfold Func.isWrapper; first | (rw [if_pos (by decide +kernel)]; kernel_rfl) | (rw [if_neg (by decide +kernel)]; exact ⟨rfl, rfl⟩))
    (fun os started H enc _ => lifted os started H enc)

theorem proved : Rows.FnExactRunsOfSaid := over
#print axioms proved
end Go.Proofs.Ytofelomoieamoaa.FnExactRunsOf
