/- Contracts of functions of the program vectorraster, each proved for all states that fit its description. No conditions. -/
import Derived.Test.YthphndhiacikaaaDoorEC
import Derived.Shelf.Spec.SlicesGrow
set_option linter.unusedSimpArgs false
set_option linter.unusedVariables false
section
namespace Go.VE
open Go

section
variable {P : Program} {tt : Nat → Option TI} {rt : RT}

/-- A contract of a function whose calls are known otherwise: what is left when it returns is told as a state. -/
theorem sat_lift (htt : TTok P tt) {f : FuncId} {sp : Spec} {fn : Func} {ts : List RV} (hres : fn.results = (ts.map RV.var).toArray)
    (body : ∀ (w : World) (Av Rd : Nat → Prop) (pk : Nat) (args : List AV) (vs : Array Value) (ins : List Box) (β0 : Nat → Option Nat) (cp0 : Nat → Nat), Takes rt w Av Rd pk args vs ins β0 cp0 → sp.pre args ins → pk + sp.cost ≤ pickLimit →
      Calls P f vs w fun e w' => ∃ v s a, e = .returned v ∧ (results fn a.tmps).run P w' = .ok v w' ∧ Rel ⟨rt, w, Av, Rd, entPins ins β0 cp0, [], w, fun _ => False⟩ s a w' ∧ retW tt sp args ins ts pk s) : Sat P rt f sp := by
  intro w Av Rd pk args vs ins β0 cp0 T hpre hpk
  refine (body w Av Rd pk args vs ins β0 cp0 T hpre hpk).mono ?_
  rintro e w' ⟨v, s, a, rfl, hv, hR, hret⟩
  obtain ⟨_, v', hv', h⟩ := ret_gives htt hres hR hret
  rw [hv] at hv'
  cases hv'
  exact h

/-- The world draws and lays a block. -/
theorem Good.drewRow {X : Cx} {s : St} {a : Act} {w : World} {β : Nat → Option Nat} {cp : Nat → Nat} {Rd : Nat → Prop} (h : Good X s a w β cp Rd) {nid : Nat} (hf : ¬ s.keyed nid) (hnx : nid < s.nx) {k ty cap : Nat} {cur : Array Value}
    (hcs : cur.size = cap * k) (hmax : cap ≤ maxLen) :
    Good X (s.setBox nid (some ⟨[], k, ty, true, false⟩)) a (w.drew.alloc (.cells cur ty)) (VE.upd β nid (some w.heap.size)) (VE.upd cp nid cap) Rd :=
  h.upd nid ⟨[], k, ty, true, false⟩ _ _ hnx (.inl hf) ⟨rfl, rfl, ⟨rfl, trivial⟩, by simp, fun x hx _ => heap_alloc_old w.drew _ hx⟩ (fun g hg => by cases hg; exact .inl (Nat.le_refl _))
    (.inr ⟨w.heap.size, cur, rfl, heap_alloc_new w.drew _, hcs, Nat.zero_le _, hmax, (by simp), (fun _ e he => by cases he), (fun i j e c he => by simp at he)⟩)
end
end Go.VE
end
section
namespace Go.VE
open Go Go.Shelf Go.Proofs

def fnR : Func := { name := "R", origin := "R", params := #[], resultTypes := #[], nfree := 0, ntmps := 3, tmpNames := #[], results := #[.tmp 2], body := none, norace := false }

/-- slices.Grow of nil. -/
def spGrow (sz ty B : Nat) : VE.Spec := ⟨fun a i => i = [] ∧ ∃ n : Int, (0 ≤ n ∧ n ≤ B) ∧ a = [.c (.sl true []), .c (.v (.int .i64 n))], fun _ _ r bs => r = .c (.own 0 0 false) ∧ bs = [⟨[], sz, ty, true, false⟩], 0, false, [], false⟩
theorem spGrow_q (sz ty B : Nat) : (spGrow sz ty B).flat = false ∧ (spGrow sz ty B).mt = [] ∧ (spGrow sz ty B).shut = false ∧ (spGrow sz ty B).cost = 0 ∧ (∀ a i, (spGrow sz ty B).pre a i = (i = [] ∧ ∃ n : Int, (0 ≤ n ∧ n ≤ B) ∧ a = [.c (.sl true []), .c (.v (.int .i64 n))])) ∧ ∀ a i r b, (spGrow sz ty B).post a i r b = (r = .c (.own 0 0 false) ∧ b = [⟨[], sz, ty, true, false⟩]) := ⟨rfl, rfl, rfl, rfl, fun _ _ => rfl, fun _ _ _ _ => rfl⟩

theorem sat_grow {P : Program} {ρ : Ren} {tt : Nat → Option TI} {rt : RT} (L : Lays8.n4 P ρ) (htt : TTok P tt) {te : TI} {B : Nat} (hte : tt (ρ.t 25) = some te) (hpos : 0 < te.sz) (hb : B * te.bytes ≤ 140737488355328) (hB : B ≤ 4611686018427387904) : Sat P rt (ρ.f 4) (spGrow te.sz (ρ.t 25) B) := by
  refine sat_lift htt (fn := fnR) (ts := [.tmp 2]) rfl fun w Av Rd pk args vs ins β0 cp0 T hpre hpk => ?_
  obtain ⟨rfl, n, ⟨h0, h1⟩, rfl⟩ := hpre
  obtain ⟨i, z, hi, hs, hby, hz, hzl⟩ := (htt _ _ hte).info
  have hzs : z.cells.size = te.sz := by rw [← (htt _ _ hte).zlen, ← hzl]; simp
  have a0 := T.args 0 _ rfl
  have a1 := T.args 1 _ rfl
  obtain ⟨A, e0⟩ : ∃ A, vs.getD 0 undef = .slice A 0 0 := by
    generalize vs.getD 0 undef = v at a0
    cases a0 with
    | sl _ _ k a p m cap hn ht hle hmax hk ha u hc hr =>
      have h0 : m = 0 := by simpa using hn
      subst h0
      have h1 := ht rfl
      subst h1
      exact ⟨a, rfl⟩
  have hvs : vs = #[.slice A 0 0, .int .i64 n] := by
    have hsz := T.size
    have e1 : vs.getD 1 undef = .int .i64 n := by
      generalize vs.getD 1 undef = v at a1
      cases a1; rfl
    refine Array.ext (by simpa using hsz) fun k hk1 hk2 => ?_
    simp only [List.size_toArray, List.length_cons, List.length_nil] at hk2
    match k, hk2 with
    | 0, _ => simpa [Array.getD_eq_getD_getElem?, hk1] using e0
    | 1, _ => simpa [Array.getD_eq_getD_getElem?, hk1] using e1
  subst hvs
  have G := (good_entry (nt := 3) T (Nat.le_of_ble_eq_true rfl)).bump 1
  have hk : ¬ ({ entSt 3 [.c (.sl true []), .c (.v (.int .i64 n))] [] pk with nx := (entSt 3 [.c (.sl true []), .c (.v (.int .i64 n))] [] pk).nx + 1 } : St).keyed 0 := by
    simp [St.keyed, entSt, expHp, lkB]
  have e3 : ((n.toNat : Nat) : Int) = n := Int.toNat_of_nonneg h0
  have hret : ∀ (s : St), s.hp = [(0, some ⟨[], te.sz, ρ.t 25, true, false⟩)] → s.pk = pk → s.get 2 = .c (.own 0 0 false) → retW tt (spGrow te.sz (ρ.t 25) B) [.c (.sl true []), .c (.v (.int .i64 n))] [] [.tmp 2] pk s := by
    intro s hs1 hs2 hs3
    have hb : s.box 0 = some ⟨[], te.sz, ρ.t 25, true, false⟩ := by simp [St.box, hs1, lkB]
    refine ⟨⟨trivial, trivial⟩, ?_⟩
    have hr : resAV tt s [.tmp 2] = .c (.own 0 0 false) := hs3
    rw [hr]
    obtain ⟨snt, snp, senv, shp, snx, spk⟩ := s
    simp only at hs1 hs2 hs3
    subst hs1 hs2
    simp [retE, xids, allCells, numsOf, gather, varCells, VE.isVar, memN, hkey, expOks, expOk, expOk0, expBs, St.box, lkB, distN, expA, expA1, expC, expC0, expBoxes, expB, boxN, spGrow, idxOf, rowIds, renOk0, renOk, pureV, pureEs, FUEL, setId, unfz, sealOk, renIns, renC0, mapC0, renC, renB]
  have hx : ∀ (w' : World) (v : Value) (s : St) (β : Nat → Option Nat) (cp : Nat → Nat), Good ⟨rt, w, Av, Rd, entPins [] β0 cp0, [], w, fun _ => False⟩ s ((({ tmps := #[.slice A 0 0, .int .i64 n] ++ Array.replicate (3 - 2) undef, defers := [] } : Act)).put (some 2) v) w' β cp Rd → s.hp = [(0, some ⟨[], te.sz, ρ.t 25, true, false⟩)] → s.pk = pk → s.get 2 = .c (.own 0 0 false) →
      ∃ v' s a, Ending.returned v = .returned v' ∧ (results fnR a.tmps).run P w' = .ok v' w' ∧ Rel ⟨rt, w, Av, Rd, entPins [] β0 cp0, [], w, fun _ => False⟩ s a w' ∧ retW tt (spGrow te.sz (ρ.t 25) B) [.c (.sl true []), .c (.v (.int .i64 n))] [] [.tmp 2] pk s := by
    intro w' v s β cp hG h1 h2 h3
    refine ⟨v, s, _, rfl, ?_, ⟨β, cp, Rd, hG⟩, hret s h1 h2 h3⟩
    simp [results, fnR, Act.put]
  by_cases hn : n = 0
  · subst hn
    refine (Any8.slices_Grow_room L A 0 0 0 w (by omega) (by omega) (by omega) (by omega)).mono ?_
    rintro e w' ⟨rfl, rfl⟩
    have G1 := G.upd (w' := w') 0 ⟨[], te.sz, ρ.t 25, true, false⟩ none 0 (Nat.le_of_ble_eq_true rfl) (.inl hk) (Keeps.refl _ _) (fun g hg => by cases hg) (.inl ⟨rfl, rfl, rfl⟩)
    refine hx _ _ _ _ _ (G1.put (d := some 2) (v := .slice A 0 0) (x := .c (.own 0 0 false)) (Nat.le_of_ble_eq_true rfl : 2 < 3) ⟨rfl, hOf.mk rfl (St.box_set_same _ _ _) (by simp) fun _ => ?_⟩) rfl rfl rfl
    exact .inl ⟨upd_same _ _ _, rfl, A, rfl⟩
  · rw [← e3]
    have hg := Any8.slices_Grow_grow L i z hi hz (by omega) A 0 0 n.toNat [] w (by omega) (by omega) (by rw [hby, Nat.zero_add]; exact Nat.le_trans (Nat.mul_le_mul_right _ (by omega)) hb) (by omega) (by simp) (fun _ => rfl) (by simp)
    refine hg.mono ?_
    have hge := grownCap_ge w (0 + n.toNat) 0 (ρ.t 25)
    have hmx := grownCap_le_maxLen w (0 + n.toNat) 0 (ρ.t 25) (by unfold maxLen; omega)
    generalize grownCap w (0 + n.toNat) 0 (ρ.t 25) = cap at hge hmx ⊢
    rintro e w' ⟨rfl, rfl⟩
    have G1 := G.drewRow (nid := 0) hk (Nat.le_of_ble_eq_true rfl) (k := te.sz) (ty := ρ.t 25) (cap := cap) (cur := (([] : List Value).toArray ++ Builtin.zeroCells z.cells (0 + n.toNat - 0) ++ Builtin.zeroCells z.cells (cap - (0 + n.toNat)))) (by simp only [Array.size_append, List.size_toArray, size_zeroCells, List.length_nil, Nat.zero_add, Nat.sub_zero, ← Nat.add_mul, hzs]; congr 1; omega) hmx
    rw [e3]
    exact hx _ _ _ _ _ (G1.put (d := some 2) (v := .slice (some ⟨w.heap.size, 0, none⟩) 0 cap) (x := .c (.own 0 0 false)) (Nat.le_of_ble_eq_true rfl : 2 < 3) ⟨rfl, hOf.mk rfl (St.box_set_same _ _ _) (by simp) fun _ => .inr ⟨_, cap, upd_same _ _ _, rfl, by omega, by rw [upd_same]; exact Nat.le_refl _, fun h => by cases h⟩⟩) rfl rfl rfl
end Go.VE
end
