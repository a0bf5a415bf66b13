/- Contracts of functions of the program vectorraster, each proved for all states that fit its description. No conditions. -/
import Derived.Test.YthphndhiacikaaaGreatDoorT3SEH
import Derived.Test.YthphndhiacikaaaGreatDoorEI
import Derived.Test.YthphndhiacikaaaGreatDoorCards
import Derived.Test.YthphndhiacikaaaGreatDoorTie
import Derived.SevenTiedAt
import Derived.ChangeOld
import Derived.Below
import Derived.Lay
set_option linter.unusedSimpArgs false
set_option linter.unusedVariables false
/- The law FnSessionFill of the program vectorraster answers true for every input, and the input reads behind the call as it read before. Conditions: the listed variables of packages start as the program's text lays them (the card ties them). -/
namespace Go.Proofs.YthphndhiacikaaaGreatDoor.FnSessionFillCard
open Go.ChangeShapes Go.WideShapes Go.ChangeAt Go.RowKit Go.VE
set_option linter.unusedVariables false
theorem own : ownKnob Tryz.prog.godebug = none := by kernel_rfl
theorem laidOut : laidOutB Tryz.prog = true := by kernel_rfl
theorem gM : Tryz.prog.globalNamed "internal/bytealg.MaxLen" = some 0 := by kernel_rfl
theorem tab_eq : (Rows.laid_internal_strconv_uint64pow10 : DataW Unit) = Lib.tabData .u64 Lib.pow10Tab := rfl
theorem gS : Tryz.prog.globalNamed "strconv.ErrSyntax" = some 1 := by kernel_rfl
theorem gR : Tryz.prog.globalNamed "strconv.ErrRange" = some 2 := by kernel_rfl
theorem star : ("*" ++ "errors.errorString") = "*errors.errorString" := rfl
theorem rowE (u : TypeId) (h : Tryz.prog.typeName? 3 u = some "*errors.errorString") : u = 179 :=
  typeName_ptr_named (nm := "errors.errorString") (by rw [star]; kernel_rfl) (by kernel_rfl) (by decide) u (by rw [star]; exact h)
theorem rtok {W : World} (hsh : W.ShapedOpen Tryz.prog) (hL0 : laidMetH Tryz.prog Rows.fnSessionFillRow.laid W) : rt0.ok W ∧ ∀ g ∈ rt0.F, g < W.heap.size := by
  rw [MakeChecks.laidMetH_plain _ _ _ (by kernel_rfl)] at hL0
  obtain ⟨m, hm⟩ := shaped_int (g := 0) (t := 3) (k := .i64) (zero := #[.int .i64 0]) hsh (of_decide_eq_true (by kernel_rfl)) (by kernel_rfl) rfl (by kernel_rfl) (by kernel_rfl) (by kernel_rfl)
  have h2 := hL0.tail.tail
  have hT : Lib.TabIs Tryz.prog W "internal/strconv.uint64pow10" .u64 Lib.pow10Tab := Lib.tabIs_of_head (rest := Rows.fnSessionFillRow.laid.drop 3) glob3 (t := 182) (e := 151) (n := 20) (by kernel_rfl) (by kernel_rfl) (by kernel_rfl) (by kernel_rfl) (by kernel_rfl) (by rw [← tab_eq]; exact h2)
  have lM := cell_lt hm
  have lT := var_lt glob3 hT
  obtain ⟨aR, sR, hvR, _, _, _⟩ := laid_sentinel (r := Rows.fnSessionFillRow.laid.drop 5) (by exact hL0.tail.tail.tail.tail) gR (ti := 51) (tp := 179) (te := 181) (ts := 9) (by kernel_rfl) Tryz.underlying51 rowE Tryz.underlying179 Tryz.underlying181 rfl rfl Tryz.underlying9 (by kernel_rfl) (by kernel_rfl)
  have cR : W.cell? ⟨2, 0, none⟩ = some (.iface 179 (.pointer (some aR))) := by simpa using World.var?_cell gR hvR 0
  have lR := cell_lt cR
  obtain ⟨aS, sS, hvS, _, _, _⟩ := laid_sentinel (r := Rows.fnSessionFillRow.laid.drop 6) (by exact hL0.tail.tail.tail.tail.tail) gS (ti := 51) (tp := 179) (te := 181) (ts := 9) (by kernel_rfl) Tryz.underlying51 rowE Tryz.underlying179 Tryz.underlying181 rfl rfl Tryz.underlying9 (by kernel_rfl) (by kernel_rfl)
  have cS : W.cell? ⟨1, 0, none⟩ = some (.iface 179 (.pointer (some aS))) := by simpa using World.var?_cell gS hvS 0
  have lS := cell_lt cS
  refine ⟨⟨⟨m, hm⟩, ⟨_, cS, .inr ⟨_, _, rfl⟩⟩, ⟨_, cR, .inr ⟨_, _, rfl⟩⟩, hT⟩, fun g hg => ?_⟩
  simp only [rt0, List.mem_cons, List.not_mem_nil, or_false] at hg
  rcases hg with rfl | rfl | rfl | rfl <;> assumption
theorem door_met (os : Os) (args : Array Value) : laidMetH Tryz.prog Rows.fnSessionFillRow.laid ((World.laidAll Tryz.prog os Rows.fnSessionFillRow.laid).forCall (fun _ _ => 0) ⟨#[], args, []⟩).memory := by
  rw [MakeChecks.laidMetH_plain _ _ _ (by kernel_rfl)]
  exact laidMet_laidAll _ (by kernel_rfl) (by kernel_rfl)
theorem walk (a0 : Option Addr) (len0 cap0 : Nat) (w : World) (hg : rt0.ok w ∧ ∀ g ∈ rt0.F, g < w.heap.size) (w0 : IsBytes w a0 len0 cap0) :
    Calls Tryz.prog 4 #[.slice a0 len0 cap0] w fun e w' => e = .returned (.bool true) ∧ Below w.heap.size w w' := by
  refine law_bytes sat_laws_FnSessionFill_0 (fun bs _ => ⟨rfl, ?_⟩) (fun bs r out h => ?_) (Nat.le_of_ble_eq_true rfl) a0 len0 cap0 w hg w0
  · simp only [go_sem, famPre, spLaw_A, spLaw_pre, and_self]
  · simp only [go_sem, spLaw_q, famPost, spLaw_post] at h
    exact h.1
set_option maxRecDepth 100000 in
theorem lifted (os : Os) (started : os.Started) (H : Type) (enc : TypeId × Value → H) :
    ReturnsInHanded {} Tryz.checked os 4 .any (fun w args => (Rows.fnSessionFillSpec.pre enc Tryz.prog Tryz.f4 [] false w args ∧ laidMetH Tryz.prog Rows.fnSessionFillRow.laid w) ∧ sizedMet enc Tryz.prog Tryz.f4 (OpenSpec.ofChange Rows.fnSessionFillSpec) false w args) (Rows.fnSessionFillSpec.post enc Tryz.prog Tryz.f4 false true false false) := by
  refine returnsInHanded_of_change_and_shaped (C := Tryz.checked) (X := fun w _ => laidMetH Tryz.prog Rows.fnSessionFillRow.laid w) (fun _ _ _ hh h => h.of_heap hh) own started (by kernel_rfl) Tryz.func4
    (ChangeSpec.witness_shaped (enc := enc) (C := Tryz.checked) (os := os) (X := fun w _ => laidMetH Tryz.prog Rows.fnSessionFillRow.laid w) false (World.laidAll Tryz.prog os Rows.fnSessionFillRow.laid) #[.slice none 0 0] 8 (World.laidAll_os _ _ _) (World.shaped_of_ZipB (by kernel_rfl) (by kernel_rfl)) (by kernel_rfl) (by kernel_rfl) (by kernel_rfl) (door_met os _)) ?_
  intro W base args ds gs before hval0 hW hcnd hL hsh _
  have hval : ∀ (j : Nat) t v, Tryz.f4.params[j]? = some t → args[j]? = some v → Value.okWide Tryz.prog W .any base t v := hval0
  have hW' := hW
  obtain ⟨p, q, hA0, hV, rfl, hfz, hnd⟩ := hW
  have hA : DataW.TrodAll enc Tryz.prog W 0 (fun _ => true) true Tryz.f4.params.toList args.toList ds p := hA0
  rw [Tryz.params4] at hA hval
  obtain ⟨v0, vs0, d0, ds0, p0, q0, hargs0, rfl, rfl, h0, r0⟩ := trodAll_cons hA
  obtain ⟨rfl, rfl, rfl⟩ := trodAll_nil r0
  obtain rfl : args = #[v0] := by cases args; simp_all
  obtain ⟨rfl, rfl⟩ := trodVars_none hV
  obtain ⟨a0, len0, cap0, rfl⟩ := okWide_slice Tryz.underlying22 (hval 0 22 v0 rfl rfl)
  have k0 := h0
  have lt0 : ∀ x ∈ p0, x.block < W.heap.size := by obtain ⟨m, hm⟩ := k0; exact DataW.trod_lt m _ _ _ hm
  have w0 : IsBytes W a0 len0 cap0 := by
    obtain ⟨fuel, hf⟩ := h0
    rcases open_ints Tryz.underlying22 Tryz.underlying5 (by kernel_rfl) hf with ⟨hcs, _⟩ | ⟨x, l, c, zs, hcs, _, hl, hm, hz, _, hcell, hwz⟩
    · simp [Value.cells] at hcs
      obtain ⟨rfl, rfl, rfl⟩ := hcs
      exact .inl ⟨rfl, rfl, rfl⟩
    · simp [Value.cells] at hcs
      obtain ⟨rfl, rfl, rfl⟩ := hcs
      exact .inr ⟨_, zs, rfl, hl, hm, by simpa using hz, hcell, hwz⟩
  clear hA0 hval0
  refine (walk a0 len0 cap0 W (rtok hsh hL) w0).mono fun e W' ⟨he, bel⟩ => ?_
  subst he
  exact ⟨_, rfl, _, _, _, [], _, [], hW', trodAll_mk1 (shut_bool Tryz.underlying4 _), (trodAll_cons_mk (Below.trod laidOut (by kernel_rfl) (of_decide_eq_true (by kernel_rfl)) k0 bel lt0) trodAll_mk0), rfl, bel.frame _, fun h => by cases h⟩
theorem over : Rows.fnSessionFillRow.holds Tryz.pinned (OpenSpec.ofChange Rows.fnSessionFillSpec) :=
  OpenClaim.holds_of_wide 4 Tryz.f4 rfl rfl rfl rfl rfl rfl rfl ⟨rfl, rfl, rfl, rfl, rfl⟩ rfl rfl rfl rfl rfl (by kernel_rfl) Tryz.func4 (by kernel_rfl)
    (of_decide_eq_true (by kernel_rfl)) (by unfold Func.isWrapper; first | (rw [if_pos (by decide +kernel)]; kernel_rfl) | (rw [if_neg (by decide +kernel)]; exact ⟨rfl, rfl⟩))
    (fun os started H enc _ => lifted os started H enc)
theorem proved : Rows.FnSessionFillCardSaid :=
  Claim7.holds_tied_plain_at .later [] [.data, .data, .data, .data, .sentinel, .sentinel, .pinned] true (true, "c94e4644071dd41270cc9248470f6ab7c83bc215a032629aea4d4b8aac037ec6") true
    over (fun _ h => by cases h) (by kernel_rfl) (fun _ h => by cases h) fnSessionFill_row_tie rfl ⟨rfl, rfl⟩ (by kernel_rfl) rfl
    (fun f fn hf hfn => by
      obtain rfl : f = 4 := Option.some.inj ((show Tryz.prog.funcNamed Rows.fnSessionFillRow.func = some 4 by kernel_rfl).symm.trans hf) |>.symm
      obtain rfl : fn = Tryz.f4 := (Option.some.inj (Tryz.func4.symm.trans hfn)).symm
      exact ⟨by kernel_rfl, fun j t ht => by
        rw [Tryz.params4] at ht
        have h3 : t = 22 := by
          rcases j with _ | j
          · simpa using ht.symm
          · simp at ht
        subst h3
        exact (show Tryz.prog.wantsStandIn 22 = false by kernel_rfl)⟩)
    (by kernel_rfl)
#print axioms proved
end Go.Proofs.YthphndhiacikaaaGreatDoor.FnSessionFillCard
