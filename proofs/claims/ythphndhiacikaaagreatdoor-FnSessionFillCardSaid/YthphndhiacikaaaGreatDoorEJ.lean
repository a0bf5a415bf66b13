/- Contracts of functions of the program vectorraster, each proved for all states that fit its description. No conditions. -/
import Derived.Test.YthphndhiacikaaaGreatDoorEH
import Derived.Test.YthphndhiacikaaaGreatDoorEI
import Derived.Test.YthphndhiacikaaaGreatDoorEB
import Derived.Shelf.Strings.Builder1
set_option linter.unusedSimpArgs false
set_option linter.unusedVariables false
section
namespace Go.VE
open Go
/-- A loop whose first turn is walked apart: behind it the state is told by a family. -/
theorem loopS1 {tt : Nat → Option TI} {tab : Nat → Option Spec} {sq : Nat → Bool} {c : Code} {s : St} {Q : Ex → St → Prop} {α : Type} (wk : Bool) (dead : List Nat) (bd : St → List Nat) (up : St → α → List (Nat × AV)) (ub : St → α → List (Nat × Option Box)) (ck : α → Nat) (D : St → α) (R : St → St → List (Nat × Nat)) (Inv : α → Prop) (m : α → Nat) (M : Nat) (S0 : St → St)
    (h : EntL wk (fun _ => []) s (S0 s) ∧ runW tt tab Ent (dwS tt tab sq) c (S0 s) (seqK Q fun s' => Inv (D s') ∧ m (D s') < M ∧ EntL wk (R s) s' (famS s (up s (D s')) dead (ub s (D s')) (bd s) (s.pk + ck (D s')))) ∧
      ∀ x, Inv x → runW tt tab Ent (dwS tt tab sq) c (famS s (up s x) dead (ub s x) (bd s) (s.pk + ck x)) (seqK Q fun s' => Inv (D s') ∧ m (D s') < m x ∧ EntL wk (R s) s' (famS s (up s (D s')) dead (ub s (D s')) (bd s) (s.pk + ck (D s'))))) :
    runW tt tab Ent (dwS tt tab sq) (.loop c) s Q := by
  refine ⟨Option α, fun x => match x with | none => S0 s | some x => famS s (up s x) dead (ub s x) (bd s) (s.pk + ck x), fun x => match x with | none => True | some x => Inv x, fun x => match x with | none => M | some x => m x, none, trivial, h.1.ent, fun x hx => ?_⟩
  cases x with
  | none =>
    refine runW_mono c _ (fun e s' hs => ?_) h.2.1
    cases e with
    | normal => exact ⟨some (D s'), hs.1, hs.2.1, hs.2.2.ent⟩
    | exit i => exact hs
    | ret => exact hs
  | some x =>
    refine runW_mono c _ (fun e s' hs => ?_) (h.2.2 x hx)
    cases e with
    | normal => exact ⟨some (D s'), hs.1, hs.2.1, hs.2.2.ent⟩
    | exit i => exact hs
    | ret => exact hs
end Go.VE
end
section
namespace Go.VE
open Go Go.Lib
section
variable {P : Program} {w : World}
/-- What an append of a string leaves: the row, where it lies, and what else is as it was. -/
structure AppS (P : Program) (w : World) (t u e : TypeId) (v : Value) (g : Option Nat) (cur : Array Value) (n : Nat) (s : ByteArray) (v2 : Value) (w2 : World) : Prop where
  run : ∀ ty, (Builtin.append_ #[t, u] ty #[v, .string s]).run P w = .ok v2 w2
  keeps : Keeps (fun x => g = some x) w w2
  row : ∃ g' cap cp cur', v2 = .slice (some ⟨g', 0, none⟩) (n + s.size) cap ∧ (w.heap.size ≤ g' ∨ g = some g') ∧ w2.heap[g']? = some (.cells cur' e (0, 0)) ∧ cur'.size = cp ∧ n + s.size ≤ cap ∧ cap ≤ cp ∧ cp ≤ maxLen ∧
    (∀ q, q < n → cur'.getD q undef = cur.getD q undef) ∧ ∀ (q : Nat) b, s.data.toList[q]? = some b → cur'.getD (n + q) undef = .int .u8 b.toNat
theorem strCells_at {s : ByteArray} {q : Nat} {b : UInt8} (h : s.data.toList[q]? = some b) : (strCells s)[q]? = some (.int .u8 b.toNat) := by
  simp only [strCells, List.getElem?_map, h, Option.map_some]
theorem appS_nil {t u e : TypeId} {i : TypeInfo} (ht : P.underlying t = some (.slice e)) (hu : P.underlying u = some .string) (hi : P.info? e = some i) (hz : i.zero = some (.int .u8 0)) (hby : i.bytes = 1) (s : ByteArray) (h0 : 0 < s.size) (hs : s.size ≤ 1000000000) :
    ∃ v2 w2, AppS P w t u e (.slice none 0 0) none #[] 0 s v2 w2 := by
  have hz1 : (Value.int IntKind.u8 0).cells.size = 1 := rfl
  have hge := grownCap_ge w s.size 0 e
  have hcm : grownCap w s.size 0 e ≤ maxLen := grownCap_le_maxLen w s.size 0 e (by unfold maxLen; omega)
  refine ⟨_, _, fun ty => run_append_nil_string (P := P) w t u ty e i (.int .u8 0) ht hu hi hz s h0 (by omega) (by rw [hby]; omega), ⟨rfl, rfl, ⟨rfl, trivial⟩, by simp, fun x hx _ => heap_alloc_old w.drew _ hx⟩, _, _, _, _, by rw [Nat.zero_add], .inl (Nat.le_refl _), heap_alloc_new w.drew _, rfl, by omega, ?_, ?_, fun q hq => by omega, fun q b hb => ?_⟩
  · simp only [Array.size_append, Array.size_map, size_zeroCells, hz1]
    have : s.data.size = s.size := rfl
    omega
  · simp only [Array.size_append, Array.size_map, size_zeroCells, hz1]
    have : s.data.size = s.size := rfl
    omega
  · have hl := (List.getElem?_eq_some_iff.1 hb).1
    rw [Nat.zero_add, Array.getD_eq_getD_getElem?, Array.getElem?_append_left (by rw [Array.size_map]; simpa using hl), Array.getElem?_map]
    rw [Array.getElem?_toList] at hb
    rw [hb]; rfl
theorem appS_own {t u e : TypeId} {i : TypeInfo} (ht : P.underlying t = some (.slice e)) (hu : P.underlying u = some .string) (hi : P.info? e = some i) (hz : i.zero = some (.int .u8 0)) (hsz : i.size = 1) (hby : i.bytes = 1) (s : ByteArray) {g n c0 cp0 : Nat} {cur : Array Value}
    (hg : w.heap[g]? = some (.cells cur e (0, 0))) (hcs : cur.size = cp0) (hn : n ≤ c0) (hc0 : c0 ≤ cp0) (hcp : cp0 ≤ maxLen) (hs : n + s.size ≤ 1000000000) :
    ∃ v2 w2, AppS P w t u e (.slice (some ⟨g, 0, none⟩) n c0) (some g) cur n s v2 w2 := by
  have hz1 : (Value.int IntKind.u8 0).cells.size = 1 := rfl
  have hlen : cur.toList.length = cp0 := by simpa using hcs
  by_cases hroom : n + s.size ≤ c0
  · refine ⟨_, _, fun ty => run_append_room_string (P := P) w t u ty e i ht hu hi hsz g n c0 cur hg s hroom (by omega), ⟨rfl, rfl, ⟨rfl, trivial⟩, by simp, fun x _ hx => setRow_other w g x _ fun e => hx (by rw [e])⟩, g, c0, cp0, _, rfl, .inr rfl, setRow_heap w g cur _ e _ hg, ?_, hroom, hc0, hcp, fun q hq => ?_, fun q b hb => ?_⟩
    · simp only [List.size_toArray, List.length_append, List.length_take, List.length_drop, strCells_length, hlen]
      omega
    · simp only [Array.getD_eq_getD_getElem?, List.getElem?_toArray, List.getElem?_append, List.length_append, List.length_take, strCells_length, hlen]
      rw [if_pos (by omega), if_pos (by omega), List.getElem?_take, if_pos hq]
      simp
    · have hl := (List.getElem?_eq_some_iff.1 hb).1
      have hss : s.data.toList.length = s.size := by simp
      have h2 := strCells_at hb
      simp only [Array.getD_eq_getD_getElem?, List.getElem?_toArray, List.getElem?_append, List.length_append, List.length_take, strCells_length, hlen]
      rw [if_pos (by omega), if_neg (by omega), show n + q - min n cp0 = q by omega, h2]
      rfl
  · have hge := grownCap_ge w (n + s.size) c0 e
    have hcm : grownCap w (n + s.size) c0 e ≤ maxLen := grownCap_le_maxLen w (n + s.size) c0 e (by unfold maxLen; omega)
    have holds : ∀ j u, (cur.toList.take n)[j]? = some u → w.cell? ((⟨g, 0, none⟩ : Addr).add j) = some u := by
      intro j u hj
      rw [List.getElem?_take] at hj
      split at hj
      · rw [addr_add, cell_of_row w g _ cur e (0, 0) hg]
        simpa using hj
      · cases hj
    have hol : (cur.toList.take n).length = n := by rw [List.length_take, hlen]; omega
    refine ⟨_, _, fun ty => run_append_grow_string (P := P) w t u ty e i (.int .u8 0) ht hu hi hz ⟨g, 0, none⟩ n c0 (cur.toList.take n) (by rw [hsz]; simpa using hol) holds s (by omega) (by omega) (by rw [hby]; exact growslice_fits (by omega) (by omega)), ⟨rfl, rfl, ⟨rfl, trivial⟩, by simp, fun x hx _ => heap_alloc_old w.drew _ hx⟩, _, _, _, _, rfl, .inl (Nat.le_refl _), heap_alloc_new w.drew _, rfl, hge, ?_, ?_, fun q hq => ?_, fun q b hb => ?_⟩
    · simp only [Array.size_append, List.size_toArray, size_zeroCells, hz1, hol, strCells_length]
      omega
    · simp only [Array.size_append, List.size_toArray, size_zeroCells, hz1, hol, strCells_length]
      omega
    · simp only [Array.getD_eq_getD_getElem?, Array.getElem?_append, Array.size_append, List.size_toArray, hol, strCells_length]
      rw [if_pos (by omega), if_pos (by omega)]
      simp [List.getElem?_take, hq]
    · have hl := (List.getElem?_eq_some_iff.1 hb).1
      have hss : s.data.toList.length = s.size := by simp
      have h2 := strCells_at hb
      simp only [Array.getD_eq_getD_getElem?, Array.getElem?_append, Array.size_append, List.size_toArray, hol, strCells_length]
      rw [if_pos (by omega), if_neg (by omega), Nat.add_sub_cancel_left]
      simp [h2]
end
end Go.VE
end
section
namespace Go.VE
open Go Go.Proofs Go.Shelf Go.RowKit
theorem wpList_append_run {P : Program} {ops : Array Oper} {rest : List Oper} {o : Oper} {a : Act} {w w2 : World} {v v2 : Value} {Q : Exit → Act → World → Prop} (hgd : o.guard = none) (sl x : Operand) (t u : TypeId)
    (ho : o.op = .call { callee := .builtin .append, args := #[sl, x], argTypes := #[t, u] }) (hs : a.eval sl = v) (s : ByteArray) (hx : a.eval x = .string s)
    (hr : ∀ ty, (Builtin.append_ #[t, u] ty #[v, .string s]).run P w = .ok v2 w2) (h : wpList P ops Q rest (a.put o.dst v2) w2) : wpList P ops Q (o :: rest) a w := by
  refine wpList_plain hgd fun K hK => ?_
  unfold Oper.wp execOp
  simp only [ho, resolve, invoke, builtin, Sem.run_bind, Sem.run_pure, Result.andThen_ok, List.map_toArray, List.map_cons, List.map_nil, hs, hx, hr]
  exact hK _ _ h
theorem lies_self {P : Program} {T count : Nat} (hC : P.cellsOf T = 2) (hD : P.depth ≠ 0) (h : 1 ≤ count) : liesAt P P.depth T count 0 T 1 = true := by
  cases hd : P.depth with
  | zero => exact absurd hd hD
  | succ d =>
    have h1 : rowAt P (sameLayout P P.depth · T) P.depth T count 0 1 = true := by
      rw [hd]
      simp [rowAt, hC, sameLayout, h]
    unfold liesAt
    rw [h1]; rfl
set_option maxHeartbeats 1000000 in
set_option maxRecDepth 100000 in
/-- copyCheck at a fresh builder, whatever lies behind it in its block. -/
theorem copyCheck_fresh2 {P : Program} {ρ : Ren} (L : Lays.n240 P ρ) (X : Builder.X72 P ρ) (hC : P.cellsOf (ρ.t 72) = 2) (hD : P.depth ≠ 0) (b m : Nat) (w : World) (h0 : w.cell? ⟨b, 0, none⟩ = some (.pointer none)) (hsh : w.shape? b = some ((ρ.t 72), m)) (hm : 2 ≤ m) (hfz : w.frozen? ⟨b, 0, none⟩ = false) :
    Calls P (ρ.f 240) #[.pointer (some ⟨b, 0, none⟩)] w fun e w' => e = .returned (.tuple #[]) ∧ w' = w.setCell ⟨b, 0, none⟩ (.pointer (some ⟨b, 0, none⟩)) := by
  obtain ⟨j, hj, hjs⟩ := Option.map_eq_some_iff.1 X.sizeBuilder
  have hl : liesAt P P.depth (ρ.t 72) (m / P.cellsOf (ρ.t 72)) 0 (ρ.t 72) 1 = true := lies_self hC hD (by rw [hC]; omega)
  have mixed := L.mixed
  have t72 := L.t72; have a72 := L.a72; have z72 := L.z72; have v72 := L.v72; have u72 := run_underlying L.t72
  have t70 := L.t70; have a70 := L.a70; have z70 := L.z70; have v70 := L.v70; have u70 := run_underlying L.t70
  have t9 := L.t9; have a9 := L.a9; have z9 := L.z9; have v9 := L.v9; have u9 := run_underlying L.t9
  have t4 := L.t4; have a4 := L.a4; have z4 := L.z4; have v4 := L.v4; have u4 := run_underlying L.t4
  have t164 := L.t164; have a164 := L.a164; have z164 := L.z164; have v164 := L.v164; have u164 := run_underlying L.t164
  go_enter L.f240, Body.n240_ntmps ρ
  go_wp2
  rw [Lib.run_to_unsafe w ⟨b, 0, none⟩ L.t70 L.t164 hj (by rw [hjs]; decide) hsh (by simp only; omega)]
  simp only [Result.andThen]
  rw [Oper.upon_value]
  go_wp2
  rw [run_callFunc_extern L.f276 (by kernel_rfl) (by kernel_rfl) (by kernel_rfl) (e := Extern.AbiNoEscape.same) (by kernel_rfl)]
  rw [Lib.run_noEscape]
  simp only [Result.andThen]
  rw [Oper.upon_value]
  go_wp2
  rw [Lib.run_from_unsafe w ⟨b, 0, none⟩ L.t164 L.t70 hj hsh hl]
  simp only [Result.andThen]
  rw [Oper.upon_value]
  go_wp2
  go_end0
  exact ⟨rfl, rfl⟩
set_option maxHeartbeats 2000000 in
set_option maxRecDepth 100000 in
/-- (*strings.Builder).WriteString, its world written out. -/
theorem WriteString_x {P : Program} {ρ : Ren} (L : Lays.n166 P ρ) (X : Builder.Extra P ρ) (hC : P.cellsOf (ρ.t 72) = 2) (hD : P.depth ≠ 0) (cs : Array Value) (b : Nat) (p : Value) (ao : Option Addr) (n0 c0 : Nat) (v2 : Value) (g : Option Nat) (cur : Array Value) (n : Nat) (s : ByteArray) (w w1 w2 : World)
    (hb : w.heap[b]? = some (.cells cs (ρ.t 72) (0, 0))) (hp0 : cs[0]? = some p) (hp1 : cs[1]? = some (.slice ao n0 c0))
    (hw : (p = .pointer none ∧ w1 = w.setCell ⟨b, 0, none⟩ (.pointer (some ⟨b, 0, none⟩))) ∨ (p = .pointer (some ⟨b, 0, none⟩) ∧ w1 = w))
    (hA : AppS P w1 (ρ.t 37) (ρ.t 9) (ρ.t 5) (.slice ao n0 c0) g cur n s v2 w2) (hg : g ≠ some b) :
    Calls P (ρ.f 166) #[.pointer (some ⟨b, 0, none⟩), .string s] w fun e w' => e = .returned (.tuple #[.int .i64 s.size, .nilIface]) ∧ w' = w2.setCell ⟨b, 1, none⟩ v2 := by
  have mixed := L.mixed
  have t72 := L.t72; have a72 := L.a72; have z72 := L.z72; have v72 := L.v72; have u72 := run_underlying L.t72
  have t70 := L.t70; have a70 := L.a70; have z70 := L.z70; have v70 := L.v70; have u70 := run_underlying L.t70
  have t37 := L.t37; have a37 := L.a37; have z37 := L.z37; have v37 := L.v37; have u37 := run_underlying L.t37
  have t3 := L.t3; have a3 := L.a3; have z3 := L.z3; have v3 := L.v3; have u3 := run_underlying L.t3
  have t9 := L.t9; have a9 := L.a9; have z9 := L.z9; have v9 := L.v9; have u9 := run_underlying L.t9
  have t4 := L.t4; have a4 := L.a4; have z4 := L.z4; have v4 := L.v4; have u4 := run_underlying L.t4
  have t164 := L.t164; have a164 := L.a164; have z164 := L.z164; have v164 := L.v164; have u164 := run_underlying L.t164
  have t5 := X.t5; have a5 := X.a5; have z5 := X.z5; have v5 := X.v5; have u5 := run_underlying X.t5
  have e240 : ∀ args w, (callFunc (ρ.f 240) args).run P w = .ok (.enter (ρ.f 240) args) w := enters_of L.f240 (by kernel_rfl) rfl
  have hcc : Calls P (ρ.f 240) #[.pointer (some ⟨b, 0, none⟩)] w fun e w' => e = .returned (.tuple #[]) ∧ w' = w1 := by
    rcases hw with ⟨rfl, rfl⟩ | ⟨rfl, rfl⟩
    · exact copyCheck_fresh2 { L with } X.toX72 hC hD b cs.size w (by rw [Lib.cell_of_heap hb]; exact hp0) (by simp [World.shape?, hb]) (by have := (Array.getElem?_eq_some_iff.1 hp1).1; omega) (Lib.frozen_of_heap hb 0)
    · exact Any.Builder_copyCheck_used { L with } X.toX72 b w1 (by rw [Lib.cell_of_heap hb]; exact hp0)
  obtain ⟨cs1, hb1, hc1⟩ : ∃ cs1, w1.heap[b]? = some (.cells cs1 (ρ.t 72) (0, 0)) ∧ cs1[1]? = some (.slice ao n0 c0) := by
    rcases hw with ⟨rfl, rfl⟩ | ⟨rfl, rfl⟩
    · refine ⟨cs.setIfInBounds 0 (.pointer (some ⟨b, 0, none⟩)), by simp [World.setCell, Array.getElem?_modify, hb], ?_⟩
      rw [Array.getElem?_setIfInBounds_ne (by decide)]; exact hp1
    · exact ⟨cs, hb, hp1⟩
  have c1 : w1.cell? ⟨b, 1, none⟩ = some (.slice ao n0 c0) := by rw [Lib.cell_of_heap hb1]; exact hc1
  have hlt : b < w1.heap.size := (Array.getElem?_eq_some_iff.1 hb1).1
  have hb2 : w2.heap[b]? = some (.cells cs1 (ρ.t 72) (0, 0)) := by
    rw [hA.keeps.block b hlt hg]; exact hb1
  have d1 : w2.cell? ⟨b, 1, none⟩ = some (.slice ao n0 c0) := by rw [Lib.cell_of_heap hb2]; exact hc1
  have f1 : w2.frozen? ⟨b, 1, none⟩ = false := Lib.frozen_of_heap hb2 1
  obtain ⟨g', cap, cp, cur', rfl, _⟩ := hA.row
  go_enter L.f166, Body.n166_ntmps ρ
  go_wp2_with (go_at_fn (ρ.f 240); refine hcc.mono ?_)
  rintro e w' ⟨rfl, rfl⟩
  go_wp2_with (at_builtin; refine wpList_append_run rfl _ _ (ρ.t 37) (ρ.t 9) rfl rfl s rfl hA.run ?_)
  go_wp2
  go_ret2
  exact ⟨rfl, rfl⟩
end Go.VE
end
section
namespace Go.VE
open Go Go.Proofs Go.Shelf Go.RowKit
/-! A builder of strings: its variable, and its buffer. -/
def wsOut (TB T8 : Nat) (L : List UInt8) : List Box := [⟨[[.ptr 0 1 0 0, .own 1 L.length false]], 2, TB, false, false⟩, ⟨byC L, 1, T8, true, false⟩]
def wsA (p : Option (List UInt8) × ByteArray) : List AV := [.c (.ptr 0 1 0 0), .c (.v (.string p.2))]
def wsB (TB T8 : Nat) : Option (List UInt8) × ByteArray → List Box
  | (none, _) => [⟨[[.v (.pointer none), .sl true []]], 2, TB, false, false⟩]
  | (some l, _) => wsOut TB T8 l
def wsD : List AV → List Box → Option (Option (List UInt8) × ByteArray)
  | [.c (.ptr 0 1 0 0), .c (.v (.string x))], [⟨[[.v (.pointer none), .sl true []]], _, _, _, _⟩] => some (none, x)
  | [.c (.ptr 0 1 0 0), .c (.v (.string x))], [⟨[[.ptr 0 1 0 0, .own 1 _ _]], _, _, _, _⟩, ⟨es, _, _, _, _⟩] => match decAll byD es with
    | some l => some (some l, x)
    | none => none
  | _, _ => none
def wsL (p : Option (List UInt8) × ByteArray) : List UInt8 := p.1.getD []
def wsPre (p : Option (List UInt8) × ByteArray) : Prop := 0 < p.2.size ∧ (wsL p).length + p.2.size ≤ 1000000000 ∧ p.1 ≠ some []
def wsPost (TB T8 : Nat) (p : Option (List UInt8) × ByteArray) (r : AV) (bs : List Box) : Prop := r = .tup [.c (.v (.int .i64 p.2.size)), .c (.v .nilIface)] ∧ bs = wsOut TB T8 (wsL p ++ p.2.data.toList)
def spWS (TB T8 : Nat) : VE.Spec := famSpecM wsA (wsB TB T8) wsD wsPre (wsPost TB T8) 0 false [true] false
/-- What a call of WriteString leaves. -/
theorem ws_gives {rt : RT} {w W : World} {Av Rd : Nat → Prop} {pk : Nat} {args : List AV} {vs : Array Value} {ins : List Box} {β0 : Nat → Option Nat} {cp0 : Nat → Nat} (T : Takes rt w Av Rd pk args vs ins β0 cp0) {sp : VE.Spec} {TB T8 : Nat} (hcost : sp.cost = 0) (hflat : sp.flat = false)
    {bx0 : Box} {rest : List Box} (hins : ins = bx0 :: rest) (hrl : rest.length ≤ 1) (hk0 : bx0.k = 2) (hl0 : bx0.es.length = 1) {gB : Nat} (hβ : β0 0 = some gB) (hK : Keeps (has (expSt ins) β0) w W)
    {cs : Array Value} (hB : W.heap[gB]? = some (.cells cs TB (0, 0))) (hcs : cs.size = cp0 0 * 2) (hc1 : 1 ≤ cp0 0) (hc2 : cp0 0 ≤ maxLen) (h0 : cs.getD 0 undef = .pointer (some ⟨gB, 0, none⟩)) {L : List UInt8} {g' c2 cp' : Nat} (h1 : cs.getD 1 undef = .slice (some ⟨g', 0, none⟩) L.length c2)
    {cur : Array Value} (hR : W.heap[g']? = some (.cells cur T8 (0, 0))) (hcur : cur.size = cp') (hm1 : L.length ≤ c2) (hm2 : c2 ≤ cp') (hm3 : cp' ≤ maxLen) (hL : ∀ (i : Nat) b, L[i]? = some b → cur.getD i undef = .int .u8 b.toNat)
    (horg : w.heap.size ≤ g' ∨ (1 < ins.length ∧ β0 1 = some g')) (hne : g' ≠ gB) (hpin : ∀ bx1, ins[1]? = some bx1 → bx1.es.length < L.length) (v : Value) {r : AV} (hv : ∀ M Rd H, MA W M Rd H v r) :
    Gives rt sp w W Av Rd pk ins β0 cp0 v r (wsOut TB T8 L) (fun b => if b = 0 then some gB else if b = 1 then some g' else none) (fun b => if b = 0 then cp0 0 else cp') Rd := by
  subst hins
  have hasB : has (expSt (bx0 :: rest)) β0 gB := ⟨0, bx0, by rw [exp_box]; rfl, hβ⟩
  have hlt : ∀ g, Rd g → g < w.heap.size := fun g h => T.avlt g (T.rdav g h)
  have hrdno : ∀ g, Rd g → ¬ has (expSt (bx0 :: rest)) β0 g := fun g h hh => T.pasav g hh (T.rdav g h)
  have out : ∀ (b : Nat) bx, (wsOut TB T8 L)[b]? = some bx → (b = 0 ∧ bx = ⟨[[.ptr 0 1 0 0, .own 1 L.length false]], 2, TB, false, false⟩) ∨ (b = 1 ∧ bx = ⟨byC L, 1, T8, true, false⟩) := by
    intro b bx h
    match b, h with
    | 0, h => exact .inl ⟨rfl, by simpa [wsOut] using h.symm⟩
    | 1, h => exact .inr ⟨rfl, by simpa [wsOut] using h.symm⟩
    | b + 2, h => simp [wsOut] at h
  have has1 : 1 < (bx0 :: rest).length → β0 1 = some g' → has (expSt (bx0 :: rest)) β0 g' := fun h hh => by
    obtain ⟨bx1, h1⟩ : ∃ bx1, (bx0 :: rest)[1]? = some bx1 := ⟨_, List.getElem?_eq_getElem h⟩
    exact ⟨1, bx1, by rw [exp_box]; exact h1, hh⟩
  have hav : ∀ g, g < w.heap.size → avoid Av (wsOut TB T8 L) (fun b => if b = 0 then some gB else if b = 1 then some g' else none) Rd false w.heap.size g → avIn Av (bx0 :: rest) β0 g := by
    rintro g hg (h | ⟨b, bx, h, hb⟩ | h | h)
    · exact .inl h
    · rw [exp_box] at h
      rcases out b bx h with ⟨rfl, rfl⟩ | ⟨rfl, rfl⟩
      · simp only [if_true, Option.some.injEq] at hb
        subst hb; exact .inr hasB
      · simp only [Nat.one_ne_zero, if_false, if_true, Option.some.injEq] at hb
        subst hb
        rcases horg with h2 | ⟨h2, h3⟩
        · omega
        · exact .inr (has1 h2 h3)
    · exact .inl (T.rdav g h)
    · cases h.1
  have hkb : ∀ g, g < w.heap.size → ¬ has (expSt (bx0 :: rest)) β0 g → W.heap[g]? = w.heap[g]? := hK.block
  exact {
    keeps := hK.mono fun g _ h => .inr h
    few := by simp [wsOut]
    long := by simp only [List.length_cons, wsOut, List.length_nil]; omega
    rd := fun g h => h
    rdge := fun g h => .inl h
    same := fun g hg => by
      obtain ⟨_, bv, p, bs, h1, _⟩ := T.rdok g hg
      exact ⟨bv, p, p, h1, h1.congr (hkb g (hlt g hg) (hrdno g hg))⟩
    rdok := T.rdok.mono (fun g hg h => hkb g hg fun hh => h (.inr hh)) hK.size hav (fun g hg => hkb g (hlt g hg) (hrdno g hg)) (by omega)
    rdnew := fun g h1 h2 => absurd h1 h2
    value := hv _ _ _
    boxes := fun b bx hbx => by
      rcases out b bx hbx with ⟨rfl, rfl⟩ | ⟨rfl, rfl⟩
      · refine ⟨rfl, .inl (.inr ⟨gB, cs, rfl, hB, by simpa using hcs, by simpa using hc1, by simpa using hc2, by simp, (fun h => by cases h), fun i j e c he hc => ?_⟩)⟩
        have hi : i = 0 := by have := (List.getElem?_eq_some_iff.1 he).1; simpa using this
        subst hi
        simp only [List.getElem?_cons_zero, Option.some.injEq] at he
        subst he
        match j, hc with
        | 0, hc =>
          simp only [List.getElem?_cons_zero, Option.some.injEq] at hc
          subst hc
          rw [show 0 * 2 + 0 = 0 from rfl, h0]
          exact ⟨rfl, hOf.mk (bx := ⟨[[.ptr 0 1 0 0, .own 1 L.length false]], 2, TB, false, false⟩) rfl (by rw [exp_box]; rfl) (by simp) fun _ => ⟨gB, rfl, rfl⟩⟩
        | 1, hc =>
          simp only [List.getElem?_cons_succ, List.getElem?_cons_zero, Option.some.injEq] at hc
          subst hc
          rw [show 0 * 2 + 1 = 1 from rfl, h1]
          exact ⟨rfl, hOf.mk (bx := ⟨byC L, 1, T8, true, false⟩) rfl (by rw [exp_box]; rfl) (by simp [byC]) fun _ => .inr ⟨g', c2, rfl, rfl, hm1, by simpa using hm2, fun h => by cases h⟩⟩
        | j + 2, hc => simp at hc
      · refine ⟨rfl, .inl (.inr ⟨g', cur, rfl, hR, by simpa using hcur, by simp [byC]; omega, by simpa using hm3, fun e he => ?_, fun _ e he c hc => ?_, fun i j e c he hc => ?_⟩)⟩
        · simp only [byC, List.mem_map] at he
          obtain ⟨_, _, rfl⟩ := he
          rfl
        · simp only [byC, List.mem_map] at he
          obtain ⟨_, _, rfl⟩ := he
          simp only [List.mem_singleton] at hc
          subst hc; rfl
        · simp only [byC, List.getElem?_map, Option.map_eq_some_iff] at he
          obtain ⟨b, hb, rfl⟩ := he
          have hj : j = 0 := by have := (List.getElem?_eq_some_iff.1 hc).1; simpa using this
          subst hj
          simp only [List.getElem?_cons_zero, Option.some.injEq] at hc
          subst hc
          simp only [Nat.mul_one, Nat.add_zero]
          rw [hL i b hb]
          exact RC.v _ rfl
    org := fun b bx g hbx hg => by
      rcases out b bx hbx with ⟨rfl, rfl⟩ | ⟨rfl, rfl⟩
      · simp only [if_true, Option.some.injEq] at hg
        subst hg
        exact ⟨.inr ⟨by simp, hβ⟩, fun h => hrdno _ h hasB⟩
      · simp only [Nat.one_ne_zero, if_false, if_true, Option.some.injEq] at hg
        subst hg
        rcases horg with h2 | ⟨h2, h3⟩
        · exact ⟨.inl h2, fun h => by have := hlt _ h; omega⟩
        · exact ⟨.inr ⟨h2, h3⟩, fun h => hrdno _ h (has1 h2 h3)⟩
    inj := fun b b' bx bx' g hb hb' hg hg' => by
      rcases out b bx hb with ⟨rfl, rfl⟩ | ⟨rfl, rfl⟩ <;> rcases out b' bx' hb' with ⟨rfl, rfl⟩ | ⟨rfl, rfl⟩
      · rfl
      · simp at hg hg'; exact absurd (hg'.trans hg.symm) hne
      · simp at hg hg'; exact absurd (hg.trans hg'.symm) hne
      · rfl
    pins := fun i b0 bx hi hb => by
      rcases out i bx hb with ⟨rfl, rfl⟩ | ⟨rfl, rfl⟩
      · simp only [List.getElem?_cons_zero, Option.some.injEq] at hi
        subst hi
        refine ⟨by rw [hl0]; simp, fun _ => ⟨by simp [hβ], by simp, hk0.symm⟩⟩
      · have := hpin b0 hi
        refine ⟨by simp [byC]; omega, fun h => ?_⟩
        simp [byC] at h
        omega }
end Go.VE
end
section
namespace Go.VE
open Go Go.Proofs Go.Shelf Go.RowKit
theorem appS_0 {P : Program} {w : World} {t u e : TypeId} {i : TypeInfo} (ht : P.underlying t = some (.slice e)) (hu : P.underlying u = some .string) (hi : P.info? e = some i) (hz : i.zero = some (.int .u8 0)) (hsz : i.size = 1) (hby : i.bytes = 1) (A : Option Addr) (s : ByteArray) (h0 : 0 < s.size) (hs : s.size ≤ 1000000000) :
    ∃ v2 w2, AppS P w t u e (.slice A 0 0) none #[] 0 s v2 w2 := by
  cases A with
  | none => exact appS_nil ht hu hi hz hby s h0 hs
  | some ad =>
    have hz1 : (Value.int IntKind.u8 0).cells.size = 1 := rfl
    have hge := grownCap_ge w (0 + s.size) 0 e
    have hcm : grownCap w (0 + s.size) 0 e ≤ maxLen := grownCap_le_maxLen w (0 + s.size) 0 e (by unfold maxLen; omega)
    have hss : s.data.toList.length = s.size := by simp
    refine ⟨_, _, fun ty => Lib.run_append_grow_string (P := P) w t u ty e i (.int .u8 0) ht hu hi hz ad 0 0 [] (by simp) (by simp) s (by omega) (by omega) (by rw [hby]; exact growslice_fits (by omega) (by omega)), ⟨rfl, rfl, ⟨rfl, trivial⟩, by simp, fun x hx _ => heap_alloc_old w.drew _ hx⟩, _, _, _, _, rfl, .inl (Nat.le_refl _), heap_alloc_new w.drew _, rfl, hge, ?_, ?_, fun q hq => by omega, fun q b hb => ?_⟩
    · simp only [Array.size_append, List.size_toArray, size_zeroCells, hz1, List.length_nil, Lib.strCells_length]
      omega
    · simp only [Array.size_append, List.size_toArray, size_zeroCells, hz1, List.length_nil, Lib.strCells_length]
      omega
    · have hl := (List.getElem?_eq_some_iff.1 hb).1
      have h2 := strCells_at hb
      simp only [Array.getD_eq_getD_getElem?, Array.getElem?_append, Array.size_append, List.size_toArray, List.length_nil, Lib.strCells_length]
      rw [if_pos (by omega), if_neg (by omega)]
      simp [h2]
theorem getD_some {cs : Array Value} {i : Nat} {v : Value} (h : cs.getD i undef = v) (hi : i < cs.size) : cs[i]? = some v := by
  rw [Array.getD_eq_getD_getElem?, Array.getElem?_eq_getElem hi] at h
  rw [Array.getElem?_eq_getElem hi]
  simpa using h
theorem setCell_same {w : World} {b j : Nat} {cs : Array Value} {T : TypeId} {fr : Nat × Nat} (hb : w.heap[b]? = some (.cells cs T fr)) (v : Value) : (w.setCell ⟨b, j, none⟩ v).heap[b]? = some (.cells (cs.setIfInBounds j v) T fr) := by
  simp [World.setCell, Array.getElem?_modify, hb]
theorem keeps_setCell {w : World} {b j : Nat} (v : Value) : Keeps (fun x => x = b) w (w.setCell ⟨b, j, none⟩ v) := ⟨rfl, rfl, ⟨rfl, trivial⟩, by simp [World.setCell], fun k _ hk => Below.heap_setCell _ _ _ _ hk⟩
/-- WriteString, from what is known of the two blocks. -/
theorem ws_call {P : Program} {ρ : Ren} (L : Lays.n166 P ρ) (X : Builder.Extra P ρ) (hC : P.cellsOf (ρ.t 72) = 2) (hD : P.depth ≠ 0) {rt : RT} {w : World} {Av Rd : Nat → Prop} {pk : Nat} {args : List AV} {vs : Array Value} {ins : List Box} {β0 : Nat → Option Nat} {cp0 : Nat → Nat} (T : Takes rt w Av Rd pk args vs ins β0 cp0) {sp : VE.Spec} (hcost : sp.cost = 0) (hflat : sp.flat = false)
    {bx0 : Box} {rest : List Box} (hins : ins = bx0 :: rest) (hrl : rest.length ≤ 1) (hk0 : bx0.k = 2) (hl0 : bx0.es.length = 1) {gB : Nat} (hβ : β0 0 = some gB)
    {cs : Array Value} (hB : w.heap[gB]? = some (.cells cs (ρ.t 72) (0, 0))) (hcs : cs.size = cp0 0 * 2) (hc1 : 1 ≤ cp0 0) (hc2 : cp0 0 ≤ maxLen) (hp : cs.getD 0 undef = .pointer none ∨ cs.getD 0 undef = .pointer (some ⟨gB, 0, none⟩)) {A : Option Addr} {n0 c0 : Nat} (h1 : cs.getD 1 undef = .slice A n0 c0)
    {l : List UInt8} {x : ByteArray} {g : Option Nat} {cur : Array Value} (hl : ∀ (i : Nat) b, l[i]? = some b → cur.getD i undef = .int .u8 b.toNat) (hg : g = none ∨ ∃ g1, g = some g1 ∧ β0 1 = some g1 ∧ 1 < ins.length ∧ g1 ≠ gB)
    (hpin : ∀ bx1, ins[1]? = some bx1 → bx1.es.length < (l ++ x.data.toList).length)
    (hA : ∀ w1 : World, w1.heap.size = w.heap.size → (∀ k, k ≠ gB → w1.heap[k]? = w.heap[k]?) → ∃ v2 w2, AppS P w1 (ρ.t 37) (ρ.t 9) (ρ.t 5) (.slice A n0 c0) g cur l.length x v2 w2)
    (hvs : vs = #[.pointer (some ⟨gB, 0, none⟩), .string x]) :
    Calls P (ρ.f 166) vs w fun e w' => ∃ v bs β cp Rd', e = .returned v ∧ bs = wsOut (ρ.t 72) (ρ.t 5) (l ++ x.data.toList) ∧ Gives rt sp w w' Av Rd pk ins β0 cp0 v (.tup [.c (.v (.int .i64 x.size)), .c (.v .nilIface)]) bs β cp Rd' := by
  obtain ⟨w1, hw, hs1, ho1, cs1, hB1, hsz1, q0, q1⟩ : ∃ w1 : World, ((cs.getD 0 undef = .pointer none ∧ w1 = w.setCell ⟨gB, 0, none⟩ (.pointer (some ⟨gB, 0, none⟩))) ∨ (cs.getD 0 undef = .pointer (some ⟨gB, 0, none⟩) ∧ w1 = w)) ∧ w1.heap.size = w.heap.size ∧ (∀ k, k ≠ gB → w1.heap[k]? = w.heap[k]?) ∧
      ∃ cs1, w1.heap[gB]? = some (.cells cs1 (ρ.t 72) (0, 0)) ∧ cs1.size = cs.size ∧ cs1.getD 0 undef = .pointer (some ⟨gB, 0, none⟩) ∧ cs1.getD 1 undef = cs.getD 1 undef := by
    rcases hp with hp | hp
    · refine ⟨_, .inl ⟨hp, rfl⟩, by simp [World.setCell], fun k hk => Below.heap_setCell _ _ _ _ hk, _, setCell_same hB _, by simp, ?_, ?_⟩
      · rw [Array.getD_eq_getD_getElem?, Array.getElem?_setIfInBounds_self_of_lt (by omega)]; rfl
      · rw [Array.getD_eq_getD_getElem?, Array.getD_eq_getD_getElem?, Array.getElem?_setIfInBounds_ne (by decide)]
    · exact ⟨w, .inr ⟨hp, rfl⟩, rfl, fun _ _ => rfl, cs, hB, rfl, hp, rfl⟩
  have K1 : Keeps (fun k => k = gB) w w1 := by
    rcases hw with ⟨_, rfl⟩ | ⟨_, rfl⟩
    · exact keeps_setCell _
    · exact Keeps.refl _ _
  obtain ⟨v2, w2, hAp⟩ := hA w1 hs1 ho1
  have hgb : g ≠ some gB := by
    rcases hg with rfl | ⟨g1, rfl, _, _, hn⟩
    · simp
    · simpa using hn
  obtain ⟨g', cap, cp', cur', rfl, r2, r3, r4, r5, r6, r7, r8, r9⟩ := hAp.row
  have hBlt : gB < w1.heap.size := (Array.getElem?_eq_some_iff.1 hB1).1
  have hne : g' ≠ gB := by
    rcases r2 with r2 | r2
    · omega
    · rintro rfl; exact hgb r2
  have hB2 : w2.heap[gB]? = some (.cells cs1 (ρ.t 72) (0, 0)) := by
    rw [hAp.keeps.block gB hBlt hgb]; exact hB1
  subst hvs
  refine (WriteString_x L X hC hD cs gB _ A n0 c0 _ g cur l.length x w w1 w2 hB (getD_some rfl (by omega)) (getD_some h1 (by omega)) hw hAp hgb).mono ?_
  rintro e w' ⟨rfl, rfl⟩
  have hss : x.data.toList.length = x.size := by simp
  refine ⟨_, _, _, _, Rd, rfl, rfl, ws_gives T hcost hflat hins hrl hk0 hl0 hβ ?_ (setCell_same hB2 _) (by simp [hsz1, hcs]) hc1 hc2 ?_ (L := l ++ x.data.toList) (c2 := cap) (g' := g') ?_ (by rw [Below.heap_setCell _ _ _ _ hne]; exact r3) r4 (by rw [List.length_append, hss]; exact r5) r6 r7 (fun i b hb => ?_) ?_ hne hpin _ fun M Rd H => ?_⟩
  · have hasB : has (expSt ins) β0 gB := ⟨0, bx0, by rw [exp_box, hins]; rfl, hβ⟩
    refine (K1.trans (M2 := fun k => g = some k) (M := has (expSt ins) β0) hAp.keeps (fun k _ hk => hk ▸ hasB) (fun k _ hk => ?_)).trans (M2 := fun k => k = gB) (keeps_setCell _) (fun k _ hk => hk) fun k _ hk => hk ▸ hasB
    rcases hg with rfl | ⟨g1, rfl, h2, h3, _⟩
    · cases hk
    · cases hk
      obtain ⟨bx1, h4⟩ : ∃ bx1, ins[1]? = some bx1 := ⟨_, List.getElem?_eq_getElem h3⟩
      exact ⟨1, bx1, by rw [exp_box]; exact h4, h2⟩
  · rw [Array.getD_eq_getD_getElem?, Array.getElem?_setIfInBounds_ne (by decide), ← Array.getD_eq_getD_getElem?]; exact q0
  · rw [Array.getD_eq_getD_getElem?, Array.getElem?_setIfInBounds_self_of_lt (by omega), List.length_append, hss]; rfl
  · rw [List.getElem?_append] at hb
    split at hb
    · rename_i hi
      rw [r8 i hi]; exact hl i b hb
    · rename_i hi
      have := r9 _ _ hb
      rwa [show l.length + (i - l.length) = i by omega] at this
  · rcases r2 with r2 | r2
    · exact .inl (by omega)
    · rcases hg with rfl | ⟨g1, rfl, h2, h3, _⟩
      · cases r2
      · cases r2; exact .inr ⟨h3, h2⟩
  · refine ⟨_, rfl, rfl, fun j y hj => ?_⟩
    match j, hj with
    | 0, hj => simp only [List.getElem?_cons_zero, Option.some.injEq] at hj; subst hj; exact RC.v _ rfl
    | 1, hj => simp only [List.getElem?_cons_succ, List.getElem?_cons_zero, Option.some.injEq] at hj; subst hj; exact RC.v _ rfl
    | j + 2, hj => simp at hj
end Go.VE
end
section
namespace Go.VE
open Go Go.Proofs Go.Shelf Go.RowKit
theorem spWS_q (TB T8 : Nat) : (spWS TB T8).flat = false ∧ (spWS TB T8).mt = [true] ∧ (spWS TB T8).shut = false ∧ (spWS TB T8).cost = 0 ∧ (∀ a i, (spWS TB T8).pre a i = famPreM wsD wsA (wsB TB T8) wsPre a i) ∧ ∀ a i r b, (spWS TB T8).post a i r b = famPostM wsD (wsPost TB T8) a i r b := ⟨rfl, rfl, rfl, rfl, fun _ _ => rfl, fun _ _ _ _ => rfl⟩
theorem ptr_is {w : World} {M Rd : Nat → Prop} {ins : List Box} {β0 : Nat → Option Nat} {cp0 : Nat → Nat} {bx : Box} (hb : ins[0]? = some bx) (hl : bx.es.length = 1) {v : Value} (h : MC w M Rd (hOf (expSt ins) β0 cp0) v (.ptr 0 1 0 0)) : ∃ g, β0 0 = some g ∧ v = .pointer (some ⟨g, 0, none⟩) := by
  obtain ⟨_, b, n, hk, _, hh⟩ := h
  cases hk
  obtain ⟨_, h2⟩ := hh bx (by rw [exp_box]; exact hb)
  obtain ⟨g, h3, h4⟩ := h2 hl.symm
  exact ⟨g, h3, by rw [h4]; simp⟩
/-- (*strings.Builder).WriteString, as a contract. -/
theorem sat_ws {P : Program} {ρ : Ren} {rt : RT} (L : Lays.n166 P ρ) (X : Builder.Extra P ρ) (hC : P.cellsOf (ρ.t 72) = 2) (hD : P.depth ≠ 0) : Sat P rt (ρ.f 166) (spWS (ρ.t 72) (ρ.t 5)) := by
  intro w Av Rd pk args vs ins β0 cp0 T hpre hpk
  obtain ⟨⟨o, x⟩, rfl, rfl, ⟨hx0, hsz, hne⟩, hdec⟩ := famPreM_ex hpre
  obtain ⟨i, hi, hz0, hz1, hz2⟩ := info_parts X.infoByte
  have hss : x.data.toList.length = x.size := by simp
  have fin : ∀ {e w'}, (∃ v bs β cp Rd', e = Ending.returned v ∧ bs = wsOut (ρ.t 72) (ρ.t 5) (wsL (o, x) ++ x.data.toList) ∧ Gives rt (spWS (ρ.t 72) (ρ.t 5)) w w' Av Rd pk (wsB (ρ.t 72) (ρ.t 5) (o, x)) β0 cp0 v (.tup [.c (.v (.int .i64 x.size)), .c (.v .nilIface)]) bs β cp Rd') →
      ∃ v r bs β cp Rd', e = Ending.returned v ∧ (spWS (ρ.t 72) (ρ.t 5)).post (wsA (o, x)) (wsB (ρ.t 72) (ρ.t 5) (o, x)) r bs ∧ Gives rt (spWS (ρ.t 72) (ρ.t 5)) w w' Av Rd pk (wsB (ρ.t 72) (ρ.t 5) (o, x)) β0 cp0 v r bs β cp Rd' := by
    rintro e w' ⟨v, bs, β, cp, Rd', he, hb, hg⟩
    refine ⟨v, _, bs, β, cp, Rd', he, ?_, hg⟩
    show famPostM wsD (wsPost (ρ.t 72) (ρ.t 5)) _ _ _ _
    unfold famPostM
    rw [hdec]
    exact ⟨rfl, hb⟩
  have e1 : vs.getD 1 undef = .string x := arg_v (T.args 1 _ rfl)
  have a0 : MC w (avIn Av (wsB (ρ.t 72) (ρ.t 5) (o, x)) β0) Rd (hOf (expSt (wsB (ρ.t 72) (ρ.t 5) (o, x))) β0 cp0) (vs.getD 0 undef) (.ptr 0 1 0 0) := T.args 0 (.c (.ptr 0 1 0 0)) rfl
  cases o with
  | none =>
    obtain ⟨gB, hβ, e0⟩ := ptr_is (ins := wsB (ρ.t 72) (ρ.t 5) (none, x)) (bx := ⟨[[.v (.pointer none), .sl true []]], 2, ρ.t 72, false, false⟩) rfl rfl a0
    have hvs := args2 T.size e0 e1
    rcases ((T.boxes 0 _ rfl).2).two (.inr (by simp)) with ⟨_, h, _⟩ | ⟨g, cs, hg, hB, hcs, hle, hmx, _, _, hc⟩
    · cases h
    rw [hβ] at hg
    cases hg
    have c0 := hc 0 0 _ (.v (.pointer none)) rfl rfl
    have c1 := hc 0 1 _ (.sl true []) rfl rfl
    simp only [Nat.zero_mul, Nat.zero_add] at c0 c1
    have p0 : cs.getD 0 undef = .pointer none := by generalize cs.getD 0 undef = v at c0; cases c0; rfl
    obtain ⟨A, p1⟩ : ∃ A, cs.getD 1 undef = .slice A 0 0 := by
      generalize cs.getD 1 undef = v at c1
      cases c1 with
      | sl _ _ k a p m cap hn ht hle hmax hk ha u hc hr =>
        have h0 : m = 0 := by simpa using hn
        subst h0
        have h1 := ht rfl
        subst h1
        exact ⟨a, rfl⟩
    have hsz2 : (wsL (none, x)).length + x.size ≤ 1000000000 := hsz
    refine (ws_call (l := []) (x := x) (g := none) (cur := #[]) L X hC hD T rfl rfl (rest := []) rfl (by simp) rfl rfl hβ hB hcs hle hmx (.inl p0) p1 (fun i b hb => by simp at hb) (.inl rfl) (fun bx1 h => by simp [wsB] at h) (fun w1 _ _ => appS_0 L.t37 L.t9 hi hz0 hz1 hz2 A x hx0 (by omega)) hvs).mono fun e w' h => fin h
  | some l =>
    have hl0 : l ≠ [] := fun e => hne (by rw [e])
    obtain ⟨gB, hβ, e0⟩ := ptr_is (ins := wsB (ρ.t 72) (ρ.t 5) (some l, x)) (bx := ⟨[[.ptr 0 1 0 0, .own 1 l.length false]], 2, ρ.t 72, false, false⟩) rfl rfl a0
    have hvs := args2 T.size e0 e1
    rcases ((T.boxes 0 _ rfl).2).two (.inr (by simp)) with ⟨_, h, _⟩ | ⟨g, cs, hg, hB, hcs, hle, hmx, _, _, hc⟩
    · cases h
    rw [hβ] at hg
    cases hg
    have c0 := hc 0 0 _ (.ptr 0 1 0 0) rfl rfl
    have c1 := hc 0 1 _ (.own 1 l.length false) rfl rfl
    simp only [Nat.zero_mul, Nat.zero_add] at c0 c1
    obtain ⟨gB', hβ', p0⟩ := ptr_is (ins := wsB (ρ.t 72) (ρ.t 5) (some l, x)) (bx := ⟨[[.ptr 0 1 0 0, .own 1 l.length false]], 2, ρ.t 72, false, false⟩) rfl rfl c0
    rw [hβ] at hβ'
    cases hβ'
    obtain ⟨_, b, n, hk, _, hh⟩ := c1
    cases hk
    obtain ⟨_, h2⟩ := hh ⟨byC l, 1, ρ.t 5, true, false⟩ (by rw [exp_box]; rfl)
    have hll : 0 < l.length := List.length_pos_iff.2 hl0
    rcases h2 (by simp [byC]) with ⟨_, h3, _⟩ | ⟨g1, c, hβ1, p1, hc1, hc2, _⟩
    · omega
    rcases ((T.boxes 1 _ rfl).2).two (.inl rfl) with ⟨h, _, _⟩ | ⟨g2, cur, hg2, hR, hcur, hle2, hmx2, _, _, hcc⟩
    · rw [hβ1] at h; cases h
    rw [hβ1] at hg2
    cases hg2
    have hgne : g1 ≠ gB := fun e => by
      have := T.inj 0 1 _ _ gB rfl rfl hβ (by rw [hβ1, e])
      omega
    have hlc : ∀ (j : Nat) b, l[j]? = some b → cur.getD j undef = .int .u8 b.toNat := fun j b hb => by
      have := hcc j 0 [.v (.int .u8 b.toNat)] _ (by simp [byC, hb]) rfl
      simp only [Nat.mul_one, Nat.add_zero] at this
      generalize cur.getD j undef = v at this
      cases this; rfl
    have hsz2 : l.length + x.size ≤ 1000000000 := hsz
    refine (ws_call (l := l) (x := x) (g := some g1) (cur := cur) L X hC hD T rfl rfl (rest := [⟨byC l, 1, ρ.t 5, true, false⟩]) rfl (by simp) rfl rfl hβ hB hcs hle hmx (.inr p0) p1 hlc (.inr ⟨g1, rfl, hβ1, by simp [wsB, wsOut], hgne⟩) (fun bx1 h => ?_) (fun w1 _ ho => appS_own L.t37 L.t9 hi hz0 hz1 hz2 x (by rw [ho g1 hgne]; exact hR) (by simpa using hcur) hc1 hc2 hmx2 hsz2) hvs).mono fun e w' h => fin h
    simp only [wsB, wsOut, List.getElem?_cons_succ, List.getElem?_cons_zero, Option.some.injEq] at h
    subst h
    simp [byC]; omega
end Go.VE
end
section
namespace Go.VE
open Go Go.Proofs Go.Shelf Go.RowKit
/-- How many parts. -/
inductive Parts where
  | none
  | one (r : Parts)
/-- What stands behind the first parts of a text. -/
def tailC : Parts → Code → Code
  | .none, c => c
  | .one n, .seq _ y => tailC n y
  | .one _, c => c
section
variable (tt : Nat → Option TI) (tab : Nat → Option Spec) (dw : Nat → Array Oper → St → (St → Prop) → Prop)
/-- The first parts of a text are walked; what stands behind them is left. -/
def handW : Parts → Code → St → (St → Prop) → Prop
  | .none, _, s, K => K s
  | .one n, .seq x y, s, K => runW tt tab Ent dw x s (seqK (fun _ _ => False) fun s' => handW n y s' K)
  | .one _, _, _, _ => False
theorem handW_none (c : Code) (s : St) (K : St → Prop) : handW tt tab dw .none c s K = K s := rfl
theorem handW_one (n : Parts) (x y : Code) (s : St) (K : St → Prop) : handW tt tab dw (.one n) (.seq x y) s K = runW tt tab Ent dw x s (seqK (fun _ _ => False) fun s' => handW tt tab dw n y s' K) := rfl
end
theorem handW_sound {P : Program} {X : Cx} {tt : Nat → Option TI} {tab : Nat → Option Spec} (htt : TTok P tt) (htab : TabOK P X.rt tab) {dw : Nat → Array Oper → St → (St → Prop) → Prop} {Q : Exit → Act → World → Prop} {K : St → Prop} : ∀ (n : Parts) (c : Code), allD (DrawOK P X dw) c → ∀ (s : St) (a : Act) (w : World),
    Rel X s a w → handW tt tab dw n c s K → (∀ s' a' w', K s' → Rel X s' a' w' → (tailC n c).wp P Q a' w') → c.wp P Q a w
  | .none, c, _, s, a, w, h, hp, hK => hK s a w hp h
  | .one n, c, hd, s, a, w, h, hp, hK => by
    cases c with
    | seq x y =>
      refine wp_seq (runW_sound htt htab x hd.1 s a w _ _ h hp ⟨fun s' a' w' h1 h2 => ?_, fun i s' a' w' h1 h2 => h1.elim, fun s' a' w' h1 h2 => h1.elim⟩)
      exact handW_sound htt htab n y hd.2 s' a' w' h2 h1 hK
    | _ => exact hp.elim
set_option maxHeartbeats 1000000 in
set_option maxRecDepth 100000 in
/-- (*strings.Builder).String at a builder that holds bytes. -/
theorem String_x {P : Program} {ρ : Ren} (L : Lays.n169 P ρ) (X : Builder.Extra P ρ) (B b : Nat) (l : List UInt8) (w : World) {cs cur : Array Value} {g cap : Nat} (hb : w.heap[b]? = some (.cells cs (ρ.t 72) (0, 0))) (h1 : cs[1]? = some (.slice (some ⟨g, 0, none⟩) l.length cap)) (hg : w.heap[g]? = some (.cells cur (ρ.t 5) (0, 0)))
    (hl : ∀ (i : Nat) x, l[i]? = some x → cur.getD i undef = .int .u8 x.toNat) (hcs : l.length ≤ cur.size) (hcap : l.length ≤ cap) (hcm : l.length ≤ maxLen) (h0 : l ≠ []) (hBg : B ≤ g) :
    Calls P (ρ.f 169) #[.pointer (some ⟨b, 0, none⟩)] w fun e w' => e = .returned (.string ⟨l.toArray⟩) ∧ Below B w w' := by
  have hl0 : l.length ≠ 0 := by simpa using h0
  have c1 : w.drew.cell? ⟨b, 1, none⟩ = some (.slice (some ⟨g, 0, none⟩) l.length cap) := by
    have : w.drew.heap[b]? = some (.cells cs (ρ.t 72) (0, 0)) := hb
    rw [Lib.cell_of_heap this]; exact h1
  have hSD : (Builtin.unsafeSliceData_ #[(ρ.t 37)] (ρ.t 127) #[.slice (some ⟨g, 0, none⟩) l.length cap]).run P w.drew = .ok (.pointer (some ⟨g, 0, none⟩)) w.drew :=
    Lib.run_unsafeSliceData_row _ _ _ _ _ _ (by omega)
  have hUS : (Builtin.unsafeString_ #[(ρ.t 127), (ρ.t 3)] (ρ.t 9) #[.pointer (some ⟨g, 0, none⟩), .int .i64 l.length]).run P w.drew = .ok (.string ⟨l.toArray⟩) (w.drew.freeze ⟨g, 0, none⟩ l.length) := by
    refine Lib.run_unsafeString_row w.drew (ρ.t 127) (ρ.t 3) (ρ.t 9) (ρ.t 5) L.t127 X.cellsByte g cur.size (by have hg' : w.drew.heap[g]? = some (.cells cur (ρ.t 5) (0, 0)) := hg; simp [World.shape?, hg']) l h0 (by omega) (by unfold maxLen at hcm; omega) ?_
    intro j x hx
    have hg' : w.drew.heap[g]? = some (.cells cur (ρ.t 5) (0, 0)) := hg
    have hj := (List.getElem?_eq_some_iff.1 hx).1
    rw [addr_add, cell_of_row w.drew g _ cur (ρ.t 5) (0, 0) hg', Nat.zero_add]
    exact getD_some (hl j x hx) (Nat.lt_of_lt_of_le hj hcs)
  have mixed := L.mixed
  have t72 := L.t72; have a72 := L.a72; have z72 := L.z72; have v72 := L.v72; have u72 := run_underlying L.t72
  have t70 := L.t70; have a70 := L.a70; have z70 := L.z70; have v70 := L.v70; have u70 := run_underlying L.t70
  have t37 := L.t37; have a37 := L.a37; have z37 := L.z37; have v37 := L.v37; have u37 := run_underlying L.t37
  have t127 := L.t127; have a127 := L.a127; have z127 := L.z127; have v127 := L.v127; have u127 := run_underlying L.t127
  have t3 := L.t3; have a3 := L.a3; have z3 := L.z3; have v3 := L.v3; have u3 := run_underlying L.t3
  have t9 := L.t9; have a9 := L.a9; have z9 := L.z9; have v9 := L.v9; have u9 := run_underlying L.t9
  have t5 := X.t5; have a5 := X.a5; have z5 := X.z5; have v5 := X.v5; have u5 := run_underlying X.t5
  go_enter L.f169, Body.n169_ntmps ρ
  go_wp2
  go_region_o
  all_goals (go_wp2; go_ret; exact ⟨rfl, Lib.below_freeze (Below.drew (Below.refl B w)) (p := ⟨g, 0, none⟩) hBg _⟩)
set_option maxHeartbeats 2000000 in
set_option maxRecDepth 100000 in
theorem String_n {P : Program} {ρ : Ren} (L : Lays.n169 P ρ) (X : Builder.Extra P ρ) (B b : Nat) (w : World) {cs : Array Value} (hb : w.heap[b]? = some (.cells cs (ρ.t 72) (0, 0))) (h1 : cs[1]? = some (.slice none 0 0)) :
    Calls P (ρ.f 169) #[.pointer (some ⟨b, 0, none⟩)] w fun e w' => e = .returned (.string ⟨#[]⟩) ∧ Below B w w' := by
  have hUS := Any.unsafeString_none L X
  have c1 : w.drew.cell? ⟨b, 1, none⟩ = some (.slice none 0 0) := by
    have : w.drew.heap[b]? = some (.cells cs (ρ.t 72) (0, 0)) := hb
    rw [Lib.cell_of_heap this]; exact h1
  have hSD : (Builtin.unsafeSliceData_ #[(ρ.t 37)] (ρ.t 127) #[.slice none 0 0]).run P w.drew = .ok (.pointer none) w.drew := rfl
  have mixed := L.mixed
  have t72 := L.t72; have a72 := L.a72; have z72 := L.z72; have v72 := L.v72; have u72 := run_underlying L.t72
  have t70 := L.t70; have a70 := L.a70; have z70 := L.z70; have v70 := L.v70; have u70 := run_underlying L.t70
  have t37 := L.t37; have a37 := L.a37; have z37 := L.z37; have v37 := L.v37; have u37 := run_underlying L.t37
  have t127 := L.t127; have a127 := L.a127; have z127 := L.z127; have v127 := L.v127; have u127 := run_underlying L.t127
  have t3 := L.t3; have a3 := L.a3; have z3 := L.z3; have v3 := L.v3; have u3 := run_underlying L.t3
  have t9 := L.t9; have a9 := L.a9; have z9 := L.z9; have v9 := L.v9; have u9 := run_underlying L.t9
  have t5 := X.t5; have a5 := X.a5; have z5 := X.z5; have v5 := X.v5; have u5 := run_underlying X.t5
  go_enter L.f169, Body.n169_ntmps ρ
  go_wp2
  go_region_o
  all_goals (go_wp2; go_ret; exact ⟨rfl, Below.drew (Below.refl B w)⟩)
end Go.VE
end
section
namespace Go.VE
open Go Go.Proofs Go.Shelf Go.RowKit
/-- A function's contract, where the end of its text is walked by hand. -/
theorem fn_hand {P : Program} {tt : Nat → Option TI} {tab : Nat → Option Spec} {rt : RT} (hm : P.follows .mixedOrders = true) (htt : TTok P tt) (htab : TabOK P rt tab) {f : FuncId} {fn : Func} {c : Code} (hf : P.funcs[f]? = some fn) (hb : fn.body = some c) {nt : Nat} (hnt : fn.ntmps = nt)
    {sq : Nat → Bool} (hsq : allDB (dwOK tab sq) c = true) {sp : Spec} (n : Parts) (K : List AV → St → Prop) (hin : ∀ a i, sp.pre a i → i = [])
    (noR : ∀ args, sp.pre args [] → ∀ (w : World) (M Rd : Nat → Prop) (H : C → Value → Prop) v x, x ∈ args → MA w M Rd H v x → MA w M (fun _ => False) H v x)
    (body : ∀ args, sp.pre args [] → args.length ≤ nt ∧ handW tt tab (dwS tt tab sq) n c (entSt nt args [] 0) (K args))
    (tail : ∀ args (w0 w : World) (X : Cx) (s : St) (a : Act) (β : Nat → Option Nat) (cp : Nat → Nat) (Rd : Nat → Prop), sp.pre args [] → K args s → X.w0 = w0 → X.ds = [] → Good X s a w β cp Rd → Keeps (fun _ => False) w0 w → (∀ b bx g, s.box b = some bx → β b = some g → w0.heap.size ≤ g) →
      (tailC n c).wp P (bodyPost P fn fun e w' => ∃ v r, e = .returned v ∧ sp.post args [] r [] ∧ Keeps (fun _ => False) w0 w' ∧ ∀ (M Rd : Nat → Prop) (H : C → Value → Prop), MA w' M Rd H v r) a w) : Sat P rt f sp := by
  refine sat_calm hin fun w Av Rd pk args vs β0 cp0 T hpre => ?_
  obtain ⟨hlen, hrun⟩ := body args hpre
  subst hnt
  have hno : ∀ g, ¬ has (expSt []) β0 g := fun g ⟨b, bx, h1, _⟩ => by rw [exp_box] at h1; simp at h1
  have T2 : Takes rt w Av (fun _ => False) 0 args vs [] β0 cp0 := {
    glob := ⟨T.glob.1, fun g hg => ⟨(T.glob.2 g hg).1, fun h => h, (T.glob.2 g hg).2.2⟩⟩
    rdav := fun g h => h.elim
    avlt := T.avlt
    pasav := T.pasav
    rdok := fun g h => h.elim
    size := T.size
    args := fun j x hj => noR args hpre _ _ _ _ _ _ (List.mem_of_getElem? hj) (T.args j x hj)
    boxes := fun b bx h => by simp at h
    inj := fun b b' bx bx' g h => by simp at h }
  refine (calls_of_wp (R := fun e w' => ∃ v r, e = .returned v ∧ sp.post args [] r [] ∧ Keeps (fun _ => False) w w' ∧ ∀ (M Rd : Nat → Prop) (H : C → Value → Prop), MA w' M Rd H v r) hf hb ?_).mono fun e w' h => ?_
  · have hG := good_entry (nt := fn.ntmps) T2 hlen
    refine handW_sound (X := ⟨rt, w, Av, fun _ => False, entPins [] β0 cp0, [], w, fun _ => False⟩) htt htab n c (dwS_ok hm htt htab hsq) _ _ _ ⟨_, _, _, hG⟩ hrun fun s a w' hK ⟨β, cp, Rd', G⟩ => ?_
    refine tail args w w' _ s a β cp Rd' hpre hK rfl rfl G (G.keeps.mono fun g _ hg => ?_) fun b bx g hbx hg => ?_
    · rcases hg with hg | ⟨i, q, hq, _⟩
      · exact hg
      · obtain ⟨bx, p1, _⟩ := entPins_get hq
        simp at p1
    · rcases G.org b bx g hbx hg with h | ⟨q, h, _⟩
      · exact h
      · obtain ⟨bx, p1, _⟩ := entPins_get h
        simp at p1
  · obtain ⟨v, r, h1, h2, h3, h4⟩ := h
    exact ⟨v, r, h1, h2, h3, fun M Rd H _ => h4 M Rd H⟩
/-- The end of a text that hands back what a call has given. -/
theorem str_tail {P : Program} {fn : Func} {R : Ending → World → Prop} {F p d1 d2 id : Nat} {ts : Array Nat} {y1 y2 : Nat} {p1 p2 : String} {a1 a2 : Array Edge} {a : Act} {w : World} {z : ByteArray} {W : World → Prop} (hrow : FnRow P F) {v : Value} (hev : a.eval (.tmp p) = v)
    (hcall : Calls P F #[v] w fun e w' => e = .returned (.string z) ∧ W w') (h1 : d1 < a.tmps.size) (h2 : d2 < a.tmps.size) (hdf : a.defers = []) (hres : fn.results = #[.tmp d2]) (hR : ∀ w', W w' → R (.returned (.string z)) w') :
    (Code.seq (.region id #[⟨some d1, .call ⟨.value (.func F), #[.tmp p], ts⟩, y1, p1, a1, none⟩, ⟨some d2, .assign (.tmp d1), y2, p2, a2, none⟩] false) .ret).wp P (bodyPost P fn R) a w := by
  refine wp_seq (wp_region_list ?_)
  refine wpList_plain rfl fun K hK => ?_
  unfold Oper.wp
  rw [run_call_func hrow ⟨some d1, .call ⟨.value (.func F), #[.tmp p], ts⟩, y1, p1, a1, none⟩ #[.tmp p] ts rfl]
  simp only [Oper.upon, List.map_toArray, List.map_cons, List.map_nil, hev]
  refine hcall.mono ?_
  rintro e w' ⟨rfl, hw⟩
  refine hK _ _ ?_
  refine wpList_plain rfl fun K2 hK2 => ?_
  unfold Oper.wp
  refine hK2 _ _ (wp_ret ⟨hdf, .string z, ?_, hR w' hw⟩)
  have e1 : (a.put (some d1) (.string z)).eval (.tmp d1) = .string z := by simp [Act.put, Act.eval, h1]
  rw [e1]
  simp [results, hres, Act.put, h1, h2]
attribute [go_sem] handW_none handW_one
end Go.VE
end
