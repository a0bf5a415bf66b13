/- The law FnExactFormatPath of the program vectorraster answers true for every input, and the input reads behind the call as it read before. Conditions: the listed variables of packages start as the program's text lays them (the card ties them). -/
import Derived.Test.YthphndhiacikaaaDoorPT
import Derived.Test.YthphndhiacikaaaDoorW41
import Derived.Test.YthphndhiacikaaaDoorCards
import Derived.Test.YthphndhiacikaaaDoorTie
import Derived.SevenTiedAt
import Derived.ChangeOld
import Derived.Below
namespace Go.Proofs.YthphndhiacikaaaDoor.FnExactFormatPathCard
open Go.ChangeShapes Go.WideShapes Go.ChangeAt Go.RowKit Go.VE
set_option linter.unusedVariables false

theorem own : ownKnob Tryd.prog.godebug = none := by kernel_rfl
theorem laidOut : laidOutB Tryd.prog = true := by kernel_rfl
theorem op_pt {H : Type} (enc : TypeId × Value → H) (w : World) : Opens enc Tryd.prog w 91 Pt ptC (fun _ => True) :=
  opens_map (opens_struct Tryd.underlying91 rfl (by kernel_rfl) (opensF_cons (k1 := 1) (opens_int Tryd.underlying3) rfl (by kernel_rfl) (fun _ => rfl) (opensF_cons (k1 := 1) (opens_int Tryd.underlying3) rfl (by kernel_rfl) (fun _ => rfl) (opensF_nil _)))) (fun x => (⟨x.1, x.2.1⟩ : Pt)) (fun _ => rfl) (fun _ _ => trivial)
theorem op_vb {H : Type} (enc : TypeId × Value → H) (w : World) : Opens enc Tryd.prog w 40 Verb vbC (fun v => v.ps.length ≤ maxLen) :=
  opens_map (opens_struct Tryd.underlying40 rfl (by kernel_rfl) (opensF_cons (k1 := 1) (opens_int Tryd.underlying3) rfl (by kernel_rfl) (fun _ => rfl) (opensF_cons (k1 := 1) (opens_slice (k := 2) Tryd.underlying38 (by kernel_rfl) (by decide) (fun _ => rfl) (op_pt enc w)) rfl (by kernel_rfl) (fun _ => rfl) (opensF_nil _)))) (fun x => (⟨x.1, x.2.1⟩ : Verb)) (fun _ => rfl) (fun _ h => h.2.1.1)
theorem gM : Tryd.prog.globalNamed "internal/bytealg.MaxLen" = some 0 := by kernel_rfl
theorem tab_eq : (Rows.laid_internal_strconv_uint64pow10 : DataW Unit) = Lib.tabData .u64 Lib.pow10Tab := rfl
theorem rtok {W : World} (hsh : W.ShapedOpen Tryd.prog) (hL0 : laidMetH Tryd.prog Rows.fnExactFormatPathRow.laid W) : rt0.ok W ∧ ∀ g ∈ rt0.F, g < W.heap.size := by
  rw [MakeChecks.laidMetH_plain _ _ _ (by kernel_rfl)] at hL0
  obtain ⟨m, hm⟩ := shaped_int (g := 0) (t := 3) (k := .i64) (zero := #[.int .i64 0]) hsh (of_decide_eq_true (by kernel_rfl)) (by kernel_rfl) rfl (by kernel_rfl) (by kernel_rfl) (by kernel_rfl)
  have h2 := hL0.tail.tail
  have hT : Lib.TabIs Tryd.prog W "internal/strconv.uint64pow10" .u64 Lib.pow10Tab := Lib.tabIs_of_head (rest := Rows.fnExactFormatPathRow.laid.drop 3) glob3 (t := 134) (e := 112) (n := 20) (by kernel_rfl) (by kernel_rfl) (by kernel_rfl) (by kernel_rfl) (by kernel_rfl) (by rw [← tab_eq]; exact h2)
  have lM := cell_lt hm
  have lT := var_lt glob3 hT
  refine ⟨⟨⟨m, hm⟩, trivial, trivial, hT⟩, fun g hg => ?_⟩
  simp only [rt0, List.mem_cons, List.not_mem_nil, or_false] at hg
  rcases hg with rfl | rfl <;> assumption
theorem door_met (os : Os) (args : Array Value) : laidMetH Tryd.prog Rows.fnExactFormatPathRow.laid ((World.doorLaid Tryd.prog 72 os).forCall (fun _ _ => 0) ⟨#[], args, []⟩).memory :=
  laidMetH_of_parts3 (fuel := 8) (laidMet_of_run' 8 (by kernel_rfl) (by kernel_rfl)) (by kernel_rfl) (by kernel_rfl)
theorem walk (v0 : Value) (x0 : List Verb) (w : World) (hg : rt0.ok w ∧ ∀ g ∈ rt0.F, g < w.heap.size) (q0 : x0.length ≤ maxLen ∧ ∀ a ∈ x0, a.ps.length ≤ maxLen) (h0 : ArgOK w v0 (.c (.sl false (x0.map vbC)))) :
    Calls Tryd.prog 3 #[v0] w fun e w' => e = .returned (.bool true) ∧ Below w.heap.size w w' := by
  refine law_args sat_laws_FnExactFormatPath_0 [.c (.sl false (x0.map vbC))] #[v0] w rfl (fun j x hj => ?_) ⟨rfl, ?_⟩ (fun r out h => ?_) (Nat.le_of_ble_eq_true rfl) hg
  · match j, hj with
    | 0, hj => simp only [List.getElem?_cons_zero, List.getElem?_cons_succ, Option.some.injEq] at hj; subst hj; exact h0
    | (n + 1), hj => simp at hj
  · simp only [go_sem, famPre, spLawV_A, spLawV_pre, and_true, true_and]
    exact ⟨Nat.le_trans q0.1 (by decide), fun v hv => Nat.le_trans (q0.2 v hv) (by decide)⟩
  · simp only [go_sem, spLawV_q, famPost, spLawV_A, spLawV_post] at h
    exact h.1

set_option maxRecDepth 100000 in
theorem lifted (os : Os) (started : os.Started) (H : Type) (enc : TypeId × Value → H) :
    ReturnsInHanded {} Tryd.checked os 3 .any (fun w args => (Rows.fnExactFormatPathSpec.pre enc Tryd.prog Tryd.f3 [] false w args ∧ laidMetH Tryd.prog Rows.fnExactFormatPathRow.laid w) ∧ sizedMet enc Tryd.prog Tryd.f3 (OpenSpec.ofChange Rows.fnExactFormatPathSpec) false w args) (Rows.fnExactFormatPathSpec.post enc Tryd.prog Tryd.f3 false true false false) := by
  refine returnsInHanded_of_change_and_shaped (C := Tryd.checked) (X := fun w _ => laidMetH Tryd.prog Rows.fnExactFormatPathRow.laid w) (fun _ _ _ hh h => h.of_heap hh) own started (by kernel_rfl) Tryd.func3
    (ChangeSpec.witness_shaped (enc := enc) (C := Tryd.checked) (os := os) (X := fun w _ => laidMetH Tryd.prog Rows.fnExactFormatPathRow.laid w) false (World.doorLaid Tryd.prog 72 os) #[.slice none 0 0] 8 rfl (World.shaped_of_RefB (by kernel_rfl) (by kernel_rfl)) (by kernel_rfl) (by kernel_rfl) (by kernel_rfl) (door_met os _)) ?_
  intro W base args ds gs before hval0 hW hcnd hL hsh _
  have hval : ∀ (j : Nat) t v, Tryd.f3.params[j]? = some t → args[j]? = some v → Value.okWide Tryd.prog W .any base t v := hval0
  have hW' := hW
  obtain ⟨p, q, hA0, hV, rfl, hfz, hnd⟩ := hW
  have hA : DataW.TrodAll enc Tryd.prog W 0 (fun _ => true) true Tryd.f3.params.toList args.toList ds p := hA0
  rw [Tryd.params3] at hA hval
  obtain ⟨v0, vs0, d0, ds0, p0, q0, hargs0, rfl, rfl, h0, r0⟩ := trodAll_cons hA
  obtain ⟨rfl, rfl, rfl⟩ := trodAll_nil r0
  obtain rfl : args = #[v0] := by cases args; simp_all
  obtain ⟨rfl, rfl⟩ := trodVars_none hV
  have k0 := h0
  have lt0 : ∀ x ∈ p0, x.block < W.heap.size := by obtain ⟨m, hm⟩ := k0; exact DataW.trod_lt m _ _ _ hm
  obtain ⟨x0, e0, w0⟩ := arg_one (g := fun (l : List Verb) => C.sl false (l.map vbC)) (cells_slice Tryd.underlying22 (hval 0 22 v0 rfl rfl)) (opens_slice (k := 2) Tryd.underlying22 (by kernel_rfl) (by decide) (fun _ => rfl) (op_vb enc W)) h0
  clear hA0 hval0
  refine (walk v0 x0 W (rtok hsh hL) e0 w0).mono fun e W' ⟨he, bel⟩ => ?_
  subst he
  exact ⟨_, rfl, _, _, _, [], _, [], hW', trodAll_mk1 (shut_bool Tryd.underlying4 _), (trodAll_cons_mk (Below.trod laidOut (by kernel_rfl) (of_decide_eq_true (by kernel_rfl)) k0 bel lt0) trodAll_mk0), rfl, bel.frame _, fun h => by cases h⟩

theorem over : Rows.fnExactFormatPathRow.holds Tryd.pinned (OpenSpec.ofChange Rows.fnExactFormatPathSpec) :=
  OpenClaim.holds_of_wide 3 Tryd.f3 rfl rfl rfl rfl rfl rfl rfl ⟨rfl, rfl, rfl, rfl, rfl⟩ rfl rfl rfl rfl rfl (by kernel_rfl) Tryd.func3 (by kernel_rfl)
    (of_decide_eq_true (by kernel_rfl)) (by unfold Func.isWrapper; first | (rw [if_pos (by decide +kernel)]; kernel_rfl) | (rw [if_neg (by decide +kernel)]; exact ⟨rfl, rfl⟩))
    (fun os started H enc _ => lifted os started H enc)

theorem proved : Rows.FnExactFormatPathCardSaid :=
  Claim7.holds_tied_plain_at .later [] [.data, .data, .data] true (true, "2e57377e29252e3d6288cffbd56b5f455b638e2dbca733367b50cb04b0e6f4ea") true
    over (fun _ h => by cases h) (by kernel_rfl) (fun _ h => by cases h) fnExactFormatPath_row_tie rfl ⟨rfl, rfl⟩ (by kernel_rfl) rfl
    (fun f fn hf hfn => by
      obtain rfl : f = 3 := Option.some.inj ((show Tryd.prog.funcNamed Rows.fnExactFormatPathRow.func = some 3 by kernel_rfl).symm.trans hf) |>.symm
      obtain rfl : fn = Tryd.f3 := (Option.some.inj (Tryd.func3.symm.trans hfn)).symm
      exact ⟨by kernel_rfl, fun j t ht => by
        rw [Tryd.params3] at ht
        have h3 : t = 22 := by
          rcases j with _ | j
          · simpa using ht.symm
          · simp at ht
        subst h3
        exact (show Tryd.prog.wantsStandIn 22 = false by kernel_rfl)⟩)
    (by kernel_rfl)
#print axioms proved
end Go.Proofs.YthphndhiacikaaaDoor.FnExactFormatPathCard
