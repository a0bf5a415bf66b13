/- The law FnExactParsePath of the program vectorraster answers true for every input, and the input reads behind the call as it read before. Conditions: the listed variables of packages start as the program's text lays them (the card ties them). -/
import Derived.Test.YthphndhiacikaaaDoorPXB
import Derived.Test.YthphndhiacikaaaDoorW41
import Derived.Test.YthphndhiacikaaaDoorCards
import Derived.Test.YthphndhiacikaaaDoorTie
import Derived.SevenTiedAt
import Derived.ChangeOld
import Derived.Below
import Derived.Lay
namespace Go.Proofs.YthphndhiacikaaaDoor.FnExactParsePathCard
open Go.ChangeShapes Go.WideShapes Go.ChangeAt Go.RowKit Go.VE
set_option linter.unusedVariables false

theorem own : ownKnob Tryd.prog.godebug = none := by kernel_rfl
theorem laidOut : laidOutB Tryd.prog = true := by kernel_rfl
theorem gM : Tryd.prog.globalNamed "internal/bytealg.MaxLen" = some 0 := by kernel_rfl
theorem tab_eq : (Rows.laid_internal_strconv_uint64pow10 : DataW Unit) = Lib.tabData .u64 Lib.pow10Tab := rfl
theorem gS : Tryd.prog.globalNamed "strconv.ErrSyntax" = some 1 := by kernel_rfl
theorem gR : Tryd.prog.globalNamed "strconv.ErrRange" = some 2 := by kernel_rfl
theorem star : ("*" ++ "errors.errorString") = "*errors.errorString" := rfl
theorem rowE (u : TypeId) (h : Tryd.prog.typeName? 3 u = some "*errors.errorString") : u = 138 :=
  typeName_ptr_named (nm := "errors.errorString") (by rw [star]; kernel_rfl) (by kernel_rfl) (by decide) u (by rw [star]; exact h)
theorem rtok {W : World} (hsh : W.ShapedOpen Tryd.prog) (hL0 : laidMetH Tryd.prog Rows.fnExactParsePathRow.laid W) : rt0.ok W ∧ ∀ g ∈ rt0.F, g < W.heap.size := by
  rw [MakeChecks.laidMetH_plain _ _ _ (by kernel_rfl)] at hL0
  obtain ⟨m, hm⟩ := shaped_int (g := 0) (t := 3) (k := .i64) (zero := #[.int .i64 0]) hsh (of_decide_eq_true (by kernel_rfl)) (by kernel_rfl) rfl (by kernel_rfl) (by kernel_rfl) (by kernel_rfl)
  have h2 := hL0.tail.tail
  have hT : Lib.TabIs Tryd.prog W "internal/strconv.uint64pow10" .u64 Lib.pow10Tab := Lib.tabIs_of_head (rest := Rows.fnExactParsePathRow.laid.drop 3) glob3 (t := 134) (e := 112) (n := 20) (by kernel_rfl) (by kernel_rfl) (by kernel_rfl) (by kernel_rfl) (by kernel_rfl) (by rw [← tab_eq]; exact h2)
  have lM := cell_lt hm
  have lT := var_lt glob3 hT
  obtain ⟨aR, sR, hvR, _, _, _⟩ := laid_sentinel (r := Rows.fnExactParsePathRow.laid.drop 5) (by exact hL0.tail.tail.tail.tail) gR (ti := 62) (tp := 138) (te := 140) (ts := 9) (by kernel_rfl) Tryd.underlying62 rowE Tryd.underlying138 Tryd.underlying140 rfl rfl Tryd.underlying9 (by kernel_rfl) (by kernel_rfl)
  have cR : W.cell? ⟨2, 0, none⟩ = some (.iface 138 (.pointer (some aR))) := by simpa using World.var?_cell gR hvR 0
  have lR := cell_lt cR
  obtain ⟨aS, sS, hvS, _, _, _⟩ := laid_sentinel (r := Rows.fnExactParsePathRow.laid.drop 6) (by exact hL0.tail.tail.tail.tail.tail) gS (ti := 62) (tp := 138) (te := 140) (ts := 9) (by kernel_rfl) Tryd.underlying62 rowE Tryd.underlying138 Tryd.underlying140 rfl rfl Tryd.underlying9 (by kernel_rfl) (by kernel_rfl)
  have cS : W.cell? ⟨1, 0, none⟩ = some (.iface 138 (.pointer (some aS))) := by simpa using World.var?_cell gS hvS 0
  have lS := cell_lt cS
  refine ⟨⟨⟨m, hm⟩, ⟨_, cS, .inr ⟨_, _, rfl⟩⟩, ⟨_, cR, .inr ⟨_, _, rfl⟩⟩, hT⟩, fun g hg => ?_⟩
  simp only [rt0, List.mem_cons, List.not_mem_nil, or_false] at hg
  rcases hg with rfl | rfl | rfl | rfl <;> assumption
theorem door_met (os : Os) (args : Array Value) : laidMetH Tryd.prog Rows.fnExactParsePathRow.laid ((World.laidAll Tryd.prog os Rows.fnExactParsePathRow.laid).forCall (fun _ _ => 0) ⟨#[], args, []⟩).memory := by
  rw [MakeChecks.laidMetH_plain _ _ _ (by kernel_rfl)]
  exact laidMet_laidAll _ (by kernel_rfl) (by kernel_rfl)
theorem walk (v0 : Value) (x0 : ByteArray) (w : World) (hg : rt0.ok w ∧ ∀ g ∈ rt0.F, g < w.heap.size) (q0 : (x0).size ≤ maxLen) (h0 : ArgOK w v0 (.c (.v (.string x0)))) :
    Calls Tryd.prog 5 #[v0] w fun e w' => e = .returned (.bool true) ∧ Below w.heap.size w w' := by
  refine law_args sat_laws_FnExactParsePath_0 [.c (.v (.string x0))] #[v0] w rfl (fun j x hj => ?_) ⟨rfl, ?_⟩ (fun r out h => ?_) (Nat.le_of_ble_eq_true rfl) hg
  · match j, hj with
    | 0, hj => simp only [List.getElem?_cons_zero, List.getElem?_cons_succ, Option.some.injEq] at hj; subst hj; exact h0
    | (n + 1), hj => simp at hj
  · simp only [go_sem, famPre, spLawP_A, spLawP_pre, and_true, true_and]
    exact Nat.le_trans q0 (by decide)
  · simp only [go_sem, spLawP_q, famPost, spLawP_A, spLawP_post] at h
    exact h.1

set_option maxRecDepth 100000 in
theorem lifted (os : Os) (started : os.Started) (H : Type) (enc : TypeId × Value → H) :
    ReturnsInHanded {} Tryd.checked os 5 .any (fun w args => (Rows.fnExactParsePathSpec.pre enc Tryd.prog Tryd.f5 [] false w args ∧ laidMetH Tryd.prog Rows.fnExactParsePathRow.laid w) ∧ sizedMet enc Tryd.prog Tryd.f5 (OpenSpec.ofChange Rows.fnExactParsePathSpec) false w args) (Rows.fnExactParsePathSpec.post enc Tryd.prog Tryd.f5 false true false false) := by
  refine returnsInHanded_of_change_and_shaped (C := Tryd.checked) (X := fun w _ => laidMetH Tryd.prog Rows.fnExactParsePathRow.laid w) (fun _ _ _ hh h => h.of_heap hh) own started (by kernel_rfl) Tryd.func5
    (ChangeSpec.witness_shaped (enc := enc) (C := Tryd.checked) (os := os) (X := fun w _ => laidMetH Tryd.prog Rows.fnExactParsePathRow.laid w) false (World.laidAll Tryd.prog os Rows.fnExactParsePathRow.laid) #[.string ⟨#[]⟩] 8 (World.laidAll_os _ _ _) (World.shaped_of_ZipB (by kernel_rfl) (by kernel_rfl)) (by kernel_rfl) (by kernel_rfl) (by kernel_rfl) (door_met os _)) ?_
  intro W base args ds gs before hval0 hW hcnd hL hsh _
  have hval : ∀ (j : Nat) t v, Tryd.f5.params[j]? = some t → args[j]? = some v → Value.okWide Tryd.prog W .any base t v := hval0
  have hW' := hW
  obtain ⟨p, q, hA0, hV, rfl, hfz, hnd⟩ := hW
  have hA : DataW.TrodAll enc Tryd.prog W 0 (fun _ => true) true Tryd.f5.params.toList args.toList ds p := hA0
  rw [Tryd.params5] at hA hval
  obtain ⟨v0, vs0, d0, ds0, p0, q0, hargs0, rfl, rfl, h0, r0⟩ := trodAll_cons hA
  obtain ⟨rfl, rfl, rfl⟩ := trodAll_nil r0
  obtain rfl : args = #[v0] := by cases args; simp_all
  obtain ⟨rfl, rfl⟩ := trodVars_none hV
  have k0 := h0
  have lt0 : ∀ x ∈ p0, x.block < W.heap.size := by obtain ⟨m, hm⟩ := k0; exact DataW.trod_lt m _ _ _ hm
  obtain ⟨x0, e0, w0⟩ := arg_one (g := fun (x : ByteArray) => C.v (.string x)) (cells_string Tryd.underlying9 (hval 0 9 v0 rfl rfl)) (opens_string Tryd.underlying9) h0
  clear hA0 hval0
  refine (walk v0 x0 W (rtok hsh hL) e0 w0).mono fun e W' ⟨he, bel⟩ => ?_
  subst he
  exact ⟨_, rfl, _, _, _, [], _, [], hW', trodAll_mk1 (shut_bool Tryd.underlying4 _), (trodAll_cons_mk (Below.trod laidOut (by kernel_rfl) (of_decide_eq_true (by kernel_rfl)) k0 bel lt0) trodAll_mk0), rfl, bel.frame _, fun h => by cases h⟩

theorem over : Rows.fnExactParsePathRow.holds Tryd.pinned (OpenSpec.ofChange Rows.fnExactParsePathSpec) :=
  OpenClaim.holds_of_wide 5 Tryd.f5 rfl rfl rfl rfl rfl rfl rfl ⟨rfl, rfl, rfl, rfl, rfl⟩ rfl rfl rfl rfl rfl (by kernel_rfl) Tryd.func5 (by kernel_rfl)
    (of_decide_eq_true (by kernel_rfl)) (by unfold Func.isWrapper; first | (rw [if_pos (by decide +kernel)]; kernel_rfl) | (rw [if_neg (by decide +kernel)]; exact ⟨rfl, rfl⟩))
    (fun os started H enc _ => lifted os started H enc)

theorem proved : Rows.FnExactParsePathCardSaid :=
  Claim7.holds_tied_plain_at .later [] [.data, .data, .data, .data, .sentinel, .sentinel, .pinned] true (true, "2e57377e29252e3d6288cffbd56b5f455b638e2dbca733367b50cb04b0e6f4ea") true
    over (fun _ h => by cases h) (by kernel_rfl) (fun _ h => by cases h) fnExactParsePath_row_tie rfl ⟨rfl, rfl⟩ (by kernel_rfl) rfl
    (fun f fn hf hfn => by
      obtain rfl : f = 5 := Option.some.inj ((show Tryd.prog.funcNamed Rows.fnExactParsePathRow.func = some 5 by kernel_rfl).symm.trans hf) |>.symm
      obtain rfl : fn = Tryd.f5 := (Option.some.inj (Tryd.func5.symm.trans hfn)).symm
      exact ⟨by kernel_rfl, fun j t ht => by
        rw [Tryd.params5] at ht
        have h3 : t = 9 := by
          rcases j with _ | j
          · simpa using ht.symm
          · simp at ht
        subst h3
        exact (show Tryd.prog.wantsStandIn 9 = false by kernel_rfl)⟩)
    (by kernel_rfl)
#print axioms proved
end Go.Proofs.YthphndhiacikaaaDoor.FnExactParsePathCard
