/- Contracts of functions of the program vectorraster, each proved for all states that fit its description. No conditions. -/
import Derived.Test.YtcejoknapbhloaaGreatKK
set_option linter.unusedSimpArgs false
set_option linter.unusedVariables false
set_option maxRecDepth 100000
namespace Go.Proofs.YtcejoknapbhloaaGreat
open Go Go.VE
structure Colr where
  r : Int
  g : Int
  b : Int
  a : Int
deriving DecidableEq, Inhabited
def coC (x : Colr) : List C := C.v (.int .i64 x.r) :: C.v (.int .i64 x.g) :: C.v (.int .i64 x.b) :: [C.v (.int .i64 x.a)]
def coCd : List C → Option Colr
  | [.v (.int .i64 r0), .v (.int .i64 g0), .v (.int .i64 b0), .v (.int .i64 a0)] => some ⟨r0, g0, b0, a0⟩
  | _ => none
theorem coC_dec (k : Colr) : coCd (coC k) = some k := rfl
theorem coC_wk (k : Colr) : wkCs (coC k) = coC k := by simp [coC, wkCs, wkC, List.cons_append, List.nil_append]
theorem coC_wks (l : List Colr) : wkEs (l.map coC) = l.map coC := by simp [wkEs_map, coC_wk]
theorem coC_ds (l : List Colr) : decAll coCd (l.map coC) = some l := decAll_map (g := coC) coC_dec l
theorem coC_len (k : Colr) : (coC k).length = 4 := rfl
theorem coC_takeN (k : Colr) : List.take 4 (coC k) = coC k := rfl
theorem coC_takeA (k : Colr) (l : List C) : List.take 4 (coC k ++ l) = coC k := rfl
theorem coC_dropA (k : Colr) (l : List C) : List.drop 4 (coC k ++ l) = l := rfl
theorem coC_takeB (k : Colr) (m : Nat) (l : List C) : List.take (m + 4) (coC k ++ l) = coC k ++ List.take m l := rfl
theorem coC_dropB (k : Colr) (m : Nat) (l : List C) : List.drop (m + 4) (coC k ++ l) = List.drop m l := rfl
theorem coC_dropN (k : Colr) : List.drop 4 (coC k) = [] := rfl
theorem coC_all (l : List Colr) : (∀ e ∈ l.map coC, e.length = 4) = True := all_len coC_len l
theorem coC_strip (k : Colr) : List.map strip (coC k) = coC k := rfl
theorem coC_seal (s : St) (k : Colr) : List.map (sealC s) (coC k) = coC k := rfl
theorem coC_ren (s : St) (i : List Nat) (k : Colr) : List.map (renC s i) (coC k) = coC k := rfl
theorem coC_exp (s : St) (i : List Nat) (k : Colr) : List.map (expC s i) (coC k) = coC k := rfl
theorem coC_map (f : Nat → Nat) (k : Colr) : List.map (mapC f) (coC k) = coC k := rfl
theorem coC_gat (s : St) (i : List Nat) (k : Colr) : gather s 64 i (coC k) = i := rfl
theorem coC_rok (s : St) (l i : List Nat) (k : Colr) : renOks s l i (coC k) = True := eq_true (by repeat' constructor)
theorem coC_row (k : Colr) : rowIds (coC k) = [] := rfl
theorem coC_eok (s : St) (i : List Nat) (k : Colr) : expOks s i (coC k) = True := eq_true (by repeat' constructor)
theorem coC_sok (s : St) (k : Colr) : sealOks s (coC k) = True := eq_true (by repeat' constructor)
theorem coC_okR (k : Colr) : okRs (coC k) = True := eq_true (by repeat' constructor)
theorem coC_okC (k : Colr) : okCs (coC k) = True := eq_true (by repeat' constructor)
theorem coC_okR0 (k : Colr) : okR0s (coC k) = True := eq_true (by repeat' constructor)
theorem coC_inj (a b : Colr) : (coC a = coC b) = (a = b) := by
  refine propext ⟨fun h => ?_, fun h => by rw [h]⟩
  have := congrArg coCd h
  rw [coC_dec, coC_dec] at this
  exact Option.some.inj this
theorem coC_minj (a b : List Colr) : (a.map coC = b.map coC) = (a = b) := by
  refine propext ⟨fun h => ?_, fun h => by rw [h]⟩
  have := congrArg (decAll coCd) h
  rw [coC_ds, coC_ds] at this
  exact Option.some.inj this
theorem coC_le (s : St) (ρ : List (Nat × Nat)) (hp : List (Nat × Option Box)) (k : Colr) : leCs s ρ hp (coC k) (coC k) = True := eq_true (by repeat' first | constructor | (intro h; cases h))
theorem coC_okV (k : Colr) : ∀ c ∈ coC k, okV c = true := by
  have : (coC k).all okV = true := rfl
  exact List.all_eq_true.1 this
theorem coC_pure (l : List Colr) : pureV (l.map coC) = True := pureV_map coC_okV l
theorem coC_fok (s : St) (i : List Nat) (k : Colr) : flatOks s i (coC k) = True := eq_true (by repeat' constructor)
theorem coC_okVT (k : Colr) : (∀ c ∈ coC k, okV c = true) = True := eq_true (coC_okV k)
theorem coC_mk (r1 : Int) (g1 : Int) (b1 : Int) (a1 : Int) : coC ⟨r1, g1, b1, a1⟩ = C.v (.int .i64 r1) :: C.v (.int .i64 g1) :: C.v (.int .i64 b1) :: [C.v (.int .i64 a1)] := rfl
theorem coC_ex (r1 : Int) (g1 : Int) (b1 : Int) (a1 : Int) (Q : Colr → Prop) : (∃ p, C.v (.int .i64 r1) :: C.v (.int .i64 g1) :: C.v (.int .i64 b1) :: [C.v (.int .i64 a1)] = coC p ∧ Q p) = Q ⟨r1, g1, b1, a1⟩ := by
  rw [← coC_mk]; simp only [coC_inj, exists_eq_left']
theorem coC_t1 (k : Colr) : List.take 1 (coC k) = [C.v (.int .i64 k.r)] := rfl
theorem coC_d1 (k : Colr) : List.drop 1 (coC k) = C.v (.int .i64 k.g) :: C.v (.int .i64 k.b) :: [C.v (.int .i64 k.a)] := rfl
theorem coC_t2 (k : Colr) : List.take 2 (coC k) = C.v (.int .i64 k.r) :: [C.v (.int .i64 k.g)] := rfl
theorem coC_d2 (k : Colr) : List.drop 2 (coC k) = C.v (.int .i64 k.b) :: [C.v (.int .i64 k.a)] := rfl
theorem coC_t3 (k : Colr) : List.take 3 (coC k) = C.v (.int .i64 k.r) :: C.v (.int .i64 k.g) :: [C.v (.int .i64 k.b)] := rfl
theorem coC_d3 (k : Colr) : List.drop 3 (coC k) = [C.v (.int .i64 k.a)] := rfl
theorem coC_ints (k : Colr) : ints (coC k) = True := eq_true (by repeat' constructor)
theorem coC_ieq (k l : Colr) : ieq (coC k) (coC l) = decide (k = l) := by
  obtain ⟨kr, kg, kb, ka⟩ := k
  obtain ⟨lr, lg, lb, la⟩ := l
  simp [coC, ieq, Bool.decide_and, Bool.and_assoc]
structure Stp where
  w : Int
  c : Colr
deriving DecidableEq, Inhabited
def stC (x : Stp) : List C := C.v (.int .i64 x.w) :: coC x.c
def stCd : List C → Option Stp
  | [.v (.int .i64 w0), .v (.int .i64 c0_r), .v (.int .i64 c0_g), .v (.int .i64 c0_b), .v (.int .i64 c0_a)] => some ⟨w0, ⟨c0_r, c0_g, c0_b, c0_a⟩⟩
  | _ => none
theorem stC_dec (k : Stp) : stCd (stC k) = some k := rfl
theorem stC_wk (k : Stp) : wkCs (stC k) = stC k := by simp [stC, wkCs, wkC, List.cons_append, List.nil_append, coC]
theorem stC_wks (l : List Stp) : wkEs (l.map stC) = l.map stC := by simp [wkEs_map, stC_wk]
theorem stC_ds (l : List Stp) : decAll stCd (l.map stC) = some l := decAll_map (g := stC) stC_dec l
theorem stC_len (k : Stp) : (stC k).length = 5 := rfl
theorem stC_takeN (k : Stp) : List.take 5 (stC k) = stC k := rfl
theorem stC_takeA (k : Stp) (l : List C) : List.take 5 (stC k ++ l) = stC k := rfl
theorem stC_dropA (k : Stp) (l : List C) : List.drop 5 (stC k ++ l) = l := rfl
theorem stC_takeB (k : Stp) (m : Nat) (l : List C) : List.take (m + 5) (stC k ++ l) = stC k ++ List.take m l := rfl
theorem stC_dropB (k : Stp) (m : Nat) (l : List C) : List.drop (m + 5) (stC k ++ l) = List.drop m l := rfl
theorem stC_dropN (k : Stp) : List.drop 5 (stC k) = [] := rfl
theorem stC_all (l : List Stp) : (∀ e ∈ l.map stC, e.length = 5) = True := all_len stC_len l
theorem stC_strip (k : Stp) : List.map strip (stC k) = stC k := rfl
theorem stC_seal (s : St) (k : Stp) : List.map (sealC s) (stC k) = stC k := rfl
theorem stC_ren (s : St) (i : List Nat) (k : Stp) : List.map (renC s i) (stC k) = stC k := rfl
theorem stC_exp (s : St) (i : List Nat) (k : Stp) : List.map (expC s i) (stC k) = stC k := rfl
theorem stC_map (f : Nat → Nat) (k : Stp) : List.map (mapC f) (stC k) = stC k := rfl
theorem stC_gat (s : St) (i : List Nat) (k : Stp) : gather s 64 i (stC k) = i := rfl
theorem stC_rok (s : St) (l i : List Nat) (k : Stp) : renOks s l i (stC k) = True := eq_true (by repeat' constructor)
theorem stC_row (k : Stp) : rowIds (stC k) = [] := rfl
theorem stC_eok (s : St) (i : List Nat) (k : Stp) : expOks s i (stC k) = True := eq_true (by repeat' constructor)
theorem stC_sok (s : St) (k : Stp) : sealOks s (stC k) = True := eq_true (by repeat' constructor)
theorem stC_okR (k : Stp) : okRs (stC k) = True := eq_true (by repeat' constructor)
theorem stC_okC (k : Stp) : okCs (stC k) = True := eq_true (by repeat' constructor)
theorem stC_okR0 (k : Stp) : okR0s (stC k) = True := eq_true (by repeat' constructor)
theorem stC_inj (a b : Stp) : (stC a = stC b) = (a = b) := by
  refine propext ⟨fun h => ?_, fun h => by rw [h]⟩
  have := congrArg stCd h
  rw [stC_dec, stC_dec] at this
  exact Option.some.inj this
theorem stC_minj (a b : List Stp) : (a.map stC = b.map stC) = (a = b) := by
  refine propext ⟨fun h => ?_, fun h => by rw [h]⟩
  have := congrArg (decAll stCd) h
  rw [stC_ds, stC_ds] at this
  exact Option.some.inj this
theorem stC_le (s : St) (ρ : List (Nat × Nat)) (hp : List (Nat × Option Box)) (k : Stp) : leCs s ρ hp (stC k) (stC k) = True := eq_true (by repeat' first | constructor | (intro h; cases h))
theorem stC_okV (k : Stp) : ∀ c ∈ stC k, okV c = true := by
  have : (stC k).all okV = true := rfl
  exact List.all_eq_true.1 this
theorem stC_pure (l : List Stp) : pureV (l.map stC) = True := pureV_map stC_okV l
theorem stC_fok (s : St) (i : List Nat) (k : Stp) : flatOks s i (stC k) = True := eq_true (by repeat' constructor)
theorem stC_okVT (k : Stp) : (∀ c ∈ stC k, okV c = true) = True := eq_true (stC_okV k)
theorem stC_fold (w1 : Int) (c1 : Colr) : C.v (.int .i64 w1) :: coC c1 = stC ⟨w1, c1⟩ := rfl
theorem stC_t1 (k : Stp) : List.take 1 (stC k) = [C.v (.int .i64 k.w)] := rfl
theorem stC_d1 (k : Stp) : List.drop 1 (stC k) = coC k.c := rfl
theorem stC_t2 (k : Stp) : List.take 2 (stC k) = C.v (.int .i64 k.w) :: [C.v (.int .i64 k.c.r)] := rfl
theorem stC_d2 (k : Stp) : List.drop 2 (stC k) = C.v (.int .i64 k.c.g) :: C.v (.int .i64 k.c.b) :: [C.v (.int .i64 k.c.a)] := rfl
theorem stC_t3 (k : Stp) : List.take 3 (stC k) = C.v (.int .i64 k.w) :: C.v (.int .i64 k.c.r) :: [C.v (.int .i64 k.c.g)] := rfl
theorem stC_d3 (k : Stp) : List.drop 3 (stC k) = C.v (.int .i64 k.c.b) :: [C.v (.int .i64 k.c.a)] := rfl
theorem stC_t4 (k : Stp) : List.take 4 (stC k) = C.v (.int .i64 k.w) :: C.v (.int .i64 k.c.r) :: C.v (.int .i64 k.c.g) :: [C.v (.int .i64 k.c.b)] := rfl
theorem stC_d4 (k : Stp) : List.drop 4 (stC k) = [C.v (.int .i64 k.c.a)] := rfl
theorem stC_ints (k : Stp) : ints (stC k) = True := eq_true (by repeat' constructor)
theorem stC_ieq (k l : Stp) : ieq (stC k) (stC l) = decide (k = l) := by
  obtain ⟨kw, ⟨kcr, kcg, kcb, kca⟩⟩ := k
  obtain ⟨lw, ⟨lcr, lcg, lcb, lca⟩⟩ := l
  simp [stC, coC, ieq, Bool.decide_and, Bool.and_assoc]
structure Pnt where
  f : Pt
  t : Pt
  ss : List Stp
deriving DecidableEq, Inhabited
def pnC (x : Pnt) : List C := ptC x.f ++ (ptC x.t ++ ([C.sl false (x.ss.map stC)]))
def pnCd : List C → Option Pnt
  | [.v (.int .i64 f0_x), .v (.int .i64 f0_y), .v (.int .i64 t0_x), .v (.int .i64 t0_y), .sl _ ss0] => match decAll stCd ss0 with
    | some ss0L => some ⟨⟨f0_x, f0_y⟩, ⟨t0_x, t0_y⟩, ss0L⟩
    | _ => none
  | _ => none
theorem pnC_dec (k : Pnt) : pnCd (pnC k) = some k := by
  simp [pnC, pnCd, stC_ds, ptC]
theorem pnC_wk (k : Pnt) : wkCs (pnC k) = pnC k := by simp [pnC, wkCs, wkC, List.cons_append, List.nil_append, stC_wks, ptC]
theorem pnC_wks (l : List Pnt) : wkEs (l.map pnC) = l.map pnC := by simp [wkEs_map, pnC_wk]
theorem pnC_ds (l : List Pnt) : decAll pnCd (l.map pnC) = some l := decAll_map (g := pnC) pnC_dec l
theorem pnC_len (k : Pnt) : (pnC k).length = 5 := rfl
theorem pnC_takeN (k : Pnt) : List.take 5 (pnC k) = pnC k := rfl
theorem pnC_takeA (k : Pnt) (l : List C) : List.take 5 (pnC k ++ l) = pnC k := rfl
theorem pnC_dropA (k : Pnt) (l : List C) : List.drop 5 (pnC k ++ l) = l := rfl
theorem pnC_takeB (k : Pnt) (m : Nat) (l : List C) : List.take (m + 5) (pnC k ++ l) = pnC k ++ List.take m l := rfl
theorem pnC_dropB (k : Pnt) (m : Nat) (l : List C) : List.drop (m + 5) (pnC k ++ l) = List.drop m l := rfl
theorem pnC_dropN (k : Pnt) : List.drop 5 (pnC k) = [] := rfl
theorem pnC_all (l : List Pnt) : (∀ e ∈ l.map pnC, e.length = 5) = True := all_len pnC_len l
theorem pnC_strip (k : Pnt) : List.map strip (pnC k) = pnC k := rfl
theorem pnC_seal (s : St) (k : Pnt) : List.map (sealC s) (pnC k) = pnC k := rfl
theorem pnC_ren (s : St) (i : List Nat) (k : Pnt) : List.map (renC s i) (pnC k) = pnC k := rfl
theorem pnC_exp (s : St) (i : List Nat) (k : Pnt) : List.map (expC s i) (pnC k) = pnC k := rfl
theorem pnC_map (f : Nat → Nat) (k : Pnt) : List.map (mapC f) (pnC k) = pnC k := rfl
theorem pnC_gat (s : St) (i : List Nat) (k : Pnt) : gather s 64 i (pnC k) = i := rfl
theorem pnC_rok (s : St) (l i : List Nat) (k : Pnt) : renOks s l i (pnC k) = True := eq_true (by repeat' constructor)
theorem pnC_row (k : Pnt) : rowIds (pnC k) = [] := rfl
theorem pnC_eok (s : St) (i : List Nat) (k : Pnt) : expOks s i (pnC k) = True := eq_true (by repeat' constructor)
theorem pnC_sok (s : St) (k : Pnt) : sealOks s (pnC k) = True := eq_true (by repeat' constructor)
theorem pnC_okR (k : Pnt) : okRs (pnC k) = True := eq_true (by repeat' constructor)
theorem pnC_okC (k : Pnt) : okCs (pnC k) = True := eq_true (by repeat' constructor)
theorem pnC_okR0 (k : Pnt) : okR0s (pnC k) = True := eq_true (by repeat' constructor)
theorem pnC_inj (a b : Pnt) : (pnC a = pnC b) = (a = b) := by
  refine propext ⟨fun h => ?_, fun h => by rw [h]⟩
  have := congrArg pnCd h
  rw [pnC_dec, pnC_dec] at this
  exact Option.some.inj this
theorem pnC_minj (a b : List Pnt) : (a.map pnC = b.map pnC) = (a = b) := by
  refine propext ⟨fun h => ?_, fun h => by rw [h]⟩
  have := congrArg (decAll pnCd) h
  rw [pnC_ds, pnC_ds] at this
  exact Option.some.inj this
theorem pnC_le (s : St) (ρ : List (Nat × Nat)) (hp : List (Nat × Option Box)) (k : Pnt) : leCs s ρ hp (pnC k) (pnC k) = True := eq_true (by repeat' first | constructor | (intro h; cases h))
theorem pnC_fold (f1 : Pt) (t1 : Pt) (ss1 : List Stp) : ptC f1 ++ (ptC t1 ++ ([C.sl false (ss1.map stC)])) = pnC ⟨f1, t1, ss1⟩ := rfl
theorem pnC_t1 (k : Pnt) : List.take 1 (pnC k) = [C.v (.int .i64 k.f.x)] := rfl
theorem pnC_d1 (k : Pnt) : List.drop 1 (pnC k) = C.v (.int .i64 k.f.y) :: (ptC k.t ++ ([C.sl false (k.ss.map stC)])) := rfl
theorem pnC_t2 (k : Pnt) : List.take 2 (pnC k) = ptC k.f := rfl
theorem pnC_d2 (k : Pnt) : List.drop 2 (pnC k) = ptC k.t ++ ([C.sl false (k.ss.map stC)]) := rfl
theorem pnC_t3 (k : Pnt) : List.take 3 (pnC k) = ptC k.f ++ ([C.v (.int .i64 k.t.x)]) := rfl
theorem pnC_d3 (k : Pnt) : List.drop 3 (pnC k) = C.v (.int .i64 k.t.y) :: [C.sl false (k.ss.map stC)] := rfl
theorem pnC_t4 (k : Pnt) : List.take 4 (pnC k) = ptC k.f ++ (ptC k.t) := rfl
theorem pnC_d4 (k : Pnt) : List.drop 4 (pnC k) = [C.sl false (k.ss.map stC)] := rfl
structure Fil where
  p : List Verb
  rl : Int
  pn : Pnt
deriving DecidableEq, Inhabited
def flC (x : Fil) : List C := C.sl false (x.p.map vbC) :: C.v (.int .i64 x.rl) :: pnC x.pn
def flCd : List C → Option Fil
  | [.sl _ p0, .v (.int .i64 rl0), .v (.int .i64 pn0_f_x), .v (.int .i64 pn0_f_y), .v (.int .i64 pn0_t_x), .v (.int .i64 pn0_t_y), .sl _ pn0_ss] => match decAll vbCd p0, decAll stCd pn0_ss with
    | some p0L, some pn0_ssL => some ⟨p0L, rl0, ⟨⟨pn0_f_x, pn0_f_y⟩, ⟨pn0_t_x, pn0_t_y⟩, pn0_ssL⟩⟩
    | _, _ => none
  | _ => none
theorem flC_dec (k : Fil) : flCd (flC k) = some k := by
  simp [flC, flCd, vbC_ds, stC_ds, pnC, ptC]
theorem flC_wk (k : Fil) : wkCs (flC k) = flC k := by simp [flC, wkCs, wkC, List.cons_append, List.nil_append, vbC_wks, pnC, stC_wks, ptC]
theorem flC_wks (l : List Fil) : wkEs (l.map flC) = l.map flC := by simp [wkEs_map, flC_wk]
theorem flC_ds (l : List Fil) : decAll flCd (l.map flC) = some l := decAll_map (g := flC) flC_dec l
theorem flC_len (k : Fil) : (flC k).length = 7 := rfl
theorem flC_takeN (k : Fil) : List.take 7 (flC k) = flC k := rfl
theorem flC_takeA (k : Fil) (l : List C) : List.take 7 (flC k ++ l) = flC k := rfl
theorem flC_dropA (k : Fil) (l : List C) : List.drop 7 (flC k ++ l) = l := rfl
theorem flC_takeB (k : Fil) (m : Nat) (l : List C) : List.take (m + 7) (flC k ++ l) = flC k ++ List.take m l := rfl
theorem flC_dropB (k : Fil) (m : Nat) (l : List C) : List.drop (m + 7) (flC k ++ l) = List.drop m l := rfl
theorem flC_dropN (k : Fil) : List.drop 7 (flC k) = [] := rfl
theorem flC_all (l : List Fil) : (∀ e ∈ l.map flC, e.length = 7) = True := all_len flC_len l
theorem flC_strip (k : Fil) : List.map strip (flC k) = flC k := rfl
theorem flC_seal (s : St) (k : Fil) : List.map (sealC s) (flC k) = flC k := rfl
theorem flC_ren (s : St) (i : List Nat) (k : Fil) : List.map (renC s i) (flC k) = flC k := rfl
theorem flC_exp (s : St) (i : List Nat) (k : Fil) : List.map (expC s i) (flC k) = flC k := rfl
theorem flC_map (f : Nat → Nat) (k : Fil) : List.map (mapC f) (flC k) = flC k := rfl
theorem flC_gat (s : St) (i : List Nat) (k : Fil) : gather s 64 i (flC k) = i := rfl
theorem flC_rok (s : St) (l i : List Nat) (k : Fil) : renOks s l i (flC k) = True := eq_true (by repeat' constructor)
theorem flC_row (k : Fil) : rowIds (flC k) = [] := rfl
theorem flC_eok (s : St) (i : List Nat) (k : Fil) : expOks s i (flC k) = True := eq_true (by repeat' constructor)
theorem flC_sok (s : St) (k : Fil) : sealOks s (flC k) = True := eq_true (by repeat' constructor)
theorem flC_okR (k : Fil) : okRs (flC k) = True := eq_true (by repeat' constructor)
theorem flC_okC (k : Fil) : okCs (flC k) = True := eq_true (by repeat' constructor)
theorem flC_okR0 (k : Fil) : okR0s (flC k) = True := eq_true (by repeat' constructor)
theorem flC_inj (a b : Fil) : (flC a = flC b) = (a = b) := by
  refine propext ⟨fun h => ?_, fun h => by rw [h]⟩
  have := congrArg flCd h
  rw [flC_dec, flC_dec] at this
  exact Option.some.inj this
theorem flC_minj (a b : List Fil) : (a.map flC = b.map flC) = (a = b) := by
  refine propext ⟨fun h => ?_, fun h => by rw [h]⟩
  have := congrArg (decAll flCd) h
  rw [flC_ds, flC_ds] at this
  exact Option.some.inj this
theorem flC_le (s : St) (ρ : List (Nat × Nat)) (hp : List (Nat × Option Box)) (k : Fil) : leCs s ρ hp (flC k) (flC k) = True := eq_true (by repeat' first | constructor | (intro h; cases h))
theorem flC_fold (p1 : List Verb) (rl1 : Int) (pn1 : Pnt) : C.sl false (p1.map vbC) :: C.v (.int .i64 rl1) :: pnC pn1 = flC ⟨p1, rl1, pn1⟩ := rfl
theorem flC_t1 (k : Fil) : List.take 1 (flC k) = [C.sl false (k.p.map vbC)] := rfl
theorem flC_d1 (k : Fil) : List.drop 1 (flC k) = C.v (.int .i64 k.rl) :: pnC k.pn := rfl
theorem flC_t2 (k : Fil) : List.take 2 (flC k) = C.sl false (k.p.map vbC) :: [C.v (.int .i64 k.rl)] := rfl
theorem flC_d2 (k : Fil) : List.drop 2 (flC k) = pnC k.pn := rfl
theorem flC_t3 (k : Fil) : List.take 3 (flC k) = C.sl false (k.p.map vbC) :: C.v (.int .i64 k.rl) :: [C.v (.int .i64 k.pn.f.x)] := rfl
theorem flC_d3 (k : Fil) : List.drop 3 (flC k) = C.v (.int .i64 k.pn.f.y) :: (ptC k.pn.t ++ ([C.sl false (k.pn.ss.map stC)])) := rfl
theorem flC_t4 (k : Fil) : List.take 4 (flC k) = C.sl false (k.p.map vbC) :: C.v (.int .i64 k.rl) :: ptC k.pn.f := rfl
theorem flC_d4 (k : Fil) : List.drop 4 (flC k) = ptC k.pn.t ++ ([C.sl false (k.pn.ss.map stC)]) := rfl
theorem flC_t5 (k : Fil) : List.take 5 (flC k) = C.sl false (k.p.map vbC) :: (C.v (.int .i64 k.rl) :: (ptC k.pn.f ++ ([C.v (.int .i64 k.pn.t.x)]))) := rfl
theorem flC_d5 (k : Fil) : List.drop 5 (flC k) = C.v (.int .i64 k.pn.t.y) :: [C.sl false (k.pn.ss.map stC)] := rfl
theorem flC_t6 (k : Fil) : List.take 6 (flC k) = C.sl false (k.p.map vbC) :: (C.v (.int .i64 k.rl) :: (ptC k.pn.f ++ (ptC k.pn.t))) := rfl
theorem flC_d6 (k : Fil) : List.drop 6 (flC k) = [C.sl false (k.pn.ss.map stC)] := rfl
structure Scn where
  w : Int
  h : Int
  fs : List Fil
deriving DecidableEq, Inhabited
def scC (x : Scn) : List C := C.v (.int .i64 x.w) :: C.v (.int .i64 x.h) :: [C.sl false (x.fs.map flC)]
def scCd : List C → Option Scn
  | [.v (.int .i64 w0), .v (.int .i64 h0), .sl _ fs0] => match decAll flCd fs0 with
    | some fs0L => some ⟨w0, h0, fs0L⟩
    | _ => none
  | _ => none
theorem scC_dec (k : Scn) : scCd (scC k) = some k := by
  simp [scC, scCd, flC_ds]
theorem scC_wk (k : Scn) : wkCs (scC k) = scC k := by simp [scC, wkCs, wkC, List.cons_append, List.nil_append, flC_wks]
theorem scC_wks (l : List Scn) : wkEs (l.map scC) = l.map scC := by simp [wkEs_map, scC_wk]
theorem scC_ds (l : List Scn) : decAll scCd (l.map scC) = some l := decAll_map (g := scC) scC_dec l
theorem scC_len (k : Scn) : (scC k).length = 3 := rfl
theorem scC_takeN (k : Scn) : List.take 3 (scC k) = scC k := rfl
theorem scC_takeA (k : Scn) (l : List C) : List.take 3 (scC k ++ l) = scC k := rfl
theorem scC_dropA (k : Scn) (l : List C) : List.drop 3 (scC k ++ l) = l := rfl
theorem scC_takeB (k : Scn) (m : Nat) (l : List C) : List.take (m + 3) (scC k ++ l) = scC k ++ List.take m l := rfl
theorem scC_dropB (k : Scn) (m : Nat) (l : List C) : List.drop (m + 3) (scC k ++ l) = List.drop m l := rfl
theorem scC_dropN (k : Scn) : List.drop 3 (scC k) = [] := rfl
theorem scC_all (l : List Scn) : (∀ e ∈ l.map scC, e.length = 3) = True := all_len scC_len l
theorem scC_strip (k : Scn) : List.map strip (scC k) = scC k := rfl
theorem scC_seal (s : St) (k : Scn) : List.map (sealC s) (scC k) = scC k := rfl
theorem scC_ren (s : St) (i : List Nat) (k : Scn) : List.map (renC s i) (scC k) = scC k := rfl
theorem scC_exp (s : St) (i : List Nat) (k : Scn) : List.map (expC s i) (scC k) = scC k := rfl
theorem scC_map (f : Nat → Nat) (k : Scn) : List.map (mapC f) (scC k) = scC k := rfl
theorem scC_gat (s : St) (i : List Nat) (k : Scn) : gather s 64 i (scC k) = i := rfl
theorem scC_rok (s : St) (l i : List Nat) (k : Scn) : renOks s l i (scC k) = True := eq_true (by repeat' constructor)
theorem scC_row (k : Scn) : rowIds (scC k) = [] := rfl
theorem scC_eok (s : St) (i : List Nat) (k : Scn) : expOks s i (scC k) = True := eq_true (by repeat' constructor)
theorem scC_sok (s : St) (k : Scn) : sealOks s (scC k) = True := eq_true (by repeat' constructor)
theorem scC_okR (k : Scn) : okRs (scC k) = True := eq_true (by repeat' constructor)
theorem scC_okC (k : Scn) : okCs (scC k) = True := eq_true (by repeat' constructor)
theorem scC_okR0 (k : Scn) : okR0s (scC k) = True := eq_true (by repeat' constructor)
theorem scC_inj (a b : Scn) : (scC a = scC b) = (a = b) := by
  refine propext ⟨fun h => ?_, fun h => by rw [h]⟩
  have := congrArg scCd h
  rw [scC_dec, scC_dec] at this
  exact Option.some.inj this
theorem scC_minj (a b : List Scn) : (a.map scC = b.map scC) = (a = b) := by
  refine propext ⟨fun h => ?_, fun h => by rw [h]⟩
  have := congrArg (decAll scCd) h
  rw [scC_ds, scC_ds] at this
  exact Option.some.inj this
theorem scC_le (s : St) (ρ : List (Nat × Nat)) (hp : List (Nat × Option Box)) (k : Scn) : leCs s ρ hp (scC k) (scC k) = True := eq_true (by repeat' first | constructor | (intro h; cases h))
theorem scC_mk (w1 : Int) (h1 : Int) (fs1 : List Fil) : scC ⟨w1, h1, fs1⟩ = C.v (.int .i64 w1) :: C.v (.int .i64 h1) :: [C.sl false (fs1.map flC)] := rfl
theorem scC_ex (w1 : Int) (h1 : Int) (fs1 : List Fil) (Q : Scn → Prop) : (∃ p, C.v (.int .i64 w1) :: C.v (.int .i64 h1) :: [C.sl false (fs1.map flC)] = scC p ∧ Q p) = Q ⟨w1, h1, fs1⟩ := by
  rw [← scC_mk]; simp only [scC_inj, exists_eq_left']
theorem scC_t1 (k : Scn) : List.take 1 (scC k) = [C.v (.int .i64 k.w)] := rfl
theorem scC_d1 (k : Scn) : List.drop 1 (scC k) = C.v (.int .i64 k.h) :: [C.sl false (k.fs.map flC)] := rfl
theorem scC_t2 (k : Scn) : List.take 2 (scC k) = C.v (.int .i64 k.w) :: [C.v (.int .i64 k.h)] := rfl
theorem scC_d2 (k : Scn) : List.drop 2 (scC k) = [C.sl false (k.fs.map flC)] := rfl
structure Frm where
  w : Int
  h : Int
  px : List Colr
deriving DecidableEq, Inhabited
def frC (x : Frm) : List C := C.v (.int .i64 x.w) :: C.v (.int .i64 x.h) :: [C.sl false (x.px.map coC)]
def frCd : List C → Option Frm
  | [.v (.int .i64 w0), .v (.int .i64 h0), .sl _ px0] => match decAll coCd px0 with
    | some px0L => some ⟨w0, h0, px0L⟩
    | _ => none
  | _ => none
theorem frC_dec (k : Frm) : frCd (frC k) = some k := by
  simp [frC, frCd, coC_ds]
theorem frC_wk (k : Frm) : wkCs (frC k) = frC k := by simp [frC, wkCs, wkC, List.cons_append, List.nil_append, coC_wks]
theorem frC_wks (l : List Frm) : wkEs (l.map frC) = l.map frC := by simp [wkEs_map, frC_wk]
theorem frC_ds (l : List Frm) : decAll frCd (l.map frC) = some l := decAll_map (g := frC) frC_dec l
theorem frC_len (k : Frm) : (frC k).length = 3 := rfl
theorem frC_takeN (k : Frm) : List.take 3 (frC k) = frC k := rfl
theorem frC_takeA (k : Frm) (l : List C) : List.take 3 (frC k ++ l) = frC k := rfl
theorem frC_dropA (k : Frm) (l : List C) : List.drop 3 (frC k ++ l) = l := rfl
theorem frC_takeB (k : Frm) (m : Nat) (l : List C) : List.take (m + 3) (frC k ++ l) = frC k ++ List.take m l := rfl
theorem frC_dropB (k : Frm) (m : Nat) (l : List C) : List.drop (m + 3) (frC k ++ l) = List.drop m l := rfl
theorem frC_dropN (k : Frm) : List.drop 3 (frC k) = [] := rfl
theorem frC_all (l : List Frm) : (∀ e ∈ l.map frC, e.length = 3) = True := all_len frC_len l
theorem frC_strip (k : Frm) : List.map strip (frC k) = frC k := rfl
theorem frC_seal (s : St) (k : Frm) : List.map (sealC s) (frC k) = frC k := rfl
theorem frC_ren (s : St) (i : List Nat) (k : Frm) : List.map (renC s i) (frC k) = frC k := rfl
theorem frC_exp (s : St) (i : List Nat) (k : Frm) : List.map (expC s i) (frC k) = frC k := rfl
theorem frC_map (f : Nat → Nat) (k : Frm) : List.map (mapC f) (frC k) = frC k := rfl
theorem frC_gat (s : St) (i : List Nat) (k : Frm) : gather s 64 i (frC k) = i := rfl
theorem frC_rok (s : St) (l i : List Nat) (k : Frm) : renOks s l i (frC k) = True := eq_true (by repeat' constructor)
theorem frC_row (k : Frm) : rowIds (frC k) = [] := rfl
theorem frC_eok (s : St) (i : List Nat) (k : Frm) : expOks s i (frC k) = True := eq_true (by repeat' constructor)
theorem frC_sok (s : St) (k : Frm) : sealOks s (frC k) = True := eq_true (by repeat' constructor)
theorem frC_okR (k : Frm) : okRs (frC k) = True := eq_true (by repeat' constructor)
theorem frC_okC (k : Frm) : okCs (frC k) = True := eq_true (by repeat' constructor)
theorem frC_okR0 (k : Frm) : okR0s (frC k) = True := eq_true (by repeat' constructor)
theorem frC_inj (a b : Frm) : (frC a = frC b) = (a = b) := by
  refine propext ⟨fun h => ?_, fun h => by rw [h]⟩
  have := congrArg frCd h
  rw [frC_dec, frC_dec] at this
  exact Option.some.inj this
theorem frC_minj (a b : List Frm) : (a.map frC = b.map frC) = (a = b) := by
  refine propext ⟨fun h => ?_, fun h => by rw [h]⟩
  have := congrArg (decAll frCd) h
  rw [frC_ds, frC_ds] at this
  exact Option.some.inj this
theorem frC_le (s : St) (ρ : List (Nat × Nat)) (hp : List (Nat × Option Box)) (k : Frm) : leCs s ρ hp (frC k) (frC k) = True := eq_true (by repeat' first | constructor | (intro h; cases h))
theorem frC_mk (w1 : Int) (h1 : Int) (px1 : List Colr) : frC ⟨w1, h1, px1⟩ = C.v (.int .i64 w1) :: C.v (.int .i64 h1) :: [C.sl false (px1.map coC)] := rfl
theorem frC_ex (w1 : Int) (h1 : Int) (px1 : List Colr) (Q : Frm → Prop) : (∃ p, C.v (.int .i64 w1) :: C.v (.int .i64 h1) :: [C.sl false (px1.map coC)] = frC p ∧ Q p) = Q ⟨w1, h1, px1⟩ := by
  rw [← frC_mk]; simp only [frC_inj, exists_eq_left']
theorem frC_t1 (k : Frm) : List.take 1 (frC k) = [C.v (.int .i64 k.w)] := rfl
theorem frC_d1 (k : Frm) : List.drop 1 (frC k) = C.v (.int .i64 k.h) :: [C.sl false (k.px.map coC)] := rfl
theorem frC_t2 (k : Frm) : List.take 2 (frC k) = C.v (.int .i64 k.w) :: [C.v (.int .i64 k.h)] := rfl
theorem frC_d2 (k : Frm) : List.drop 2 (frC k) = [C.sl false (k.px.map coC)] := rfl
attribute [go_sem] coC_le coC_inj coC_minj coC_dec coC_ds coC_len coC_takeN coC_takeA coC_dropA coC_takeB coC_dropB coC_dropN coC_all coC_strip coC_seal coC_ren coC_exp coC_map coC_gat coC_rok coC_row coC_eok coC_sok coC_okR coC_okR0 coC_okC coC_wk coC_wks coC_pure coC_fok
attribute [go_sem] coC_okVT coC_mk coC_ex coCd.eq_1 coC_t1 coC_d1 coC_t2 coC_d2 coC_t3 coC_d3 coC_ints coC_ieq Colr.mk.injEq stC_le stC_inj stC_minj stC_dec stC_ds stC_len stC_takeN stC_takeA stC_dropA stC_takeB stC_dropB stC_dropN stC_all stC_strip stC_seal stC_ren stC_exp
attribute [go_sem] stC_map stC_gat stC_rok stC_row stC_eok stC_sok stC_okR stC_okR0 stC_okC stC_wk stC_wks stC_pure stC_fok stC_okVT stC_fold stC_t1 stC_d1 stC_t2 stC_d2 stC_t3 stC_d3 stC_t4 stC_d4 stC_ints stC_ieq Stp.mk.injEq pnC_le pnC_inj pnC_minj pnC_dec
attribute [go_sem] pnC_ds pnC_len pnC_takeN pnC_takeA pnC_dropA pnC_takeB pnC_dropB pnC_dropN pnC_all pnC_strip pnC_seal pnC_ren pnC_exp pnC_map pnC_gat pnC_rok pnC_row pnC_eok pnC_sok pnC_okR pnC_okR0 pnC_okC pnC_wk pnC_wks pnC_fold pnC_t1 pnC_d1 pnC_t2 pnC_d2 pnC_t3
attribute [go_sem] pnC_d3 pnC_t4 pnC_d4 Pnt.mk.injEq flC_le flC_inj flC_minj flC_dec flC_ds flC_len flC_takeN flC_takeA flC_dropA flC_takeB flC_dropB flC_dropN flC_all flC_strip flC_seal flC_ren flC_exp flC_map flC_gat flC_rok flC_row flC_eok flC_sok flC_okR flC_okR0 flC_okC
attribute [go_sem] flC_wk flC_wks flC_fold flC_t1 flC_d1 flC_t2 flC_d2 flC_t3 flC_d3 flC_t4 flC_d4 flC_t5 flC_d5 flC_t6 flC_d6 Fil.mk.injEq scC_le scC_inj scC_minj scC_dec scC_ds scC_len scC_takeN scC_takeA scC_dropA scC_takeB scC_dropB scC_dropN scC_all scC_strip
attribute [go_sem] scC_seal scC_ren scC_exp scC_map scC_gat scC_rok scC_row scC_eok scC_sok scC_okR scC_okR0 scC_okC scC_wk scC_wks scC_mk scC_ex scCd.eq_1 scC_t1 scC_d1 scC_t2 scC_d2 Scn.mk.injEq frC_le frC_inj frC_minj frC_dec frC_ds frC_len frC_takeN frC_takeA
attribute [go_sem] frC_dropA frC_takeB frC_dropB frC_dropN frC_all frC_strip frC_seal frC_ren frC_exp frC_map frC_gat frC_rok frC_row frC_eok frC_sok frC_okR frC_okR0 frC_okC frC_wk frC_wks frC_mk frC_ex frCd.eq_1 frC_t1 frC_d1 frC_t2 frC_d2 Frm.mk.injEq
def d_li_i_i : List AV → Option ((List Int) × Int × Int)
  | [.c (.sl _ a0), .c (.v (.int .i64 a1)), .c (.v (.int .i64 a2))] => match decAll intCd a0 with
    | some a0v => some (a0v, a1, a2)
    | _ => none
  | _ => none
def d_co : List AV → Option (Colr)
  | [.agg a0] => match coCd a0 with
    | some a0v => some (a0v)
    | _ => none
  | _ => none
def d_lst : List AV → Option ((List Stp))
  | [.c (.sl _ a0)] => match decAll stCd a0 with
    | some a0v => some (a0v)
    | _ => none
  | _ => none
def d_pn : List AV → Option (Pnt)
  | [.agg a0] => match pnCd a0 with
    | some a0v => some (a0v)
    | _ => none
  | _ => none
def d_fl : List AV → Option (Fil)
  | [.agg a0] => match flCd a0 with
    | some a0v => some (a0v)
    | _ => none
  | _ => none
def d_lfl_f46 : List AV → Option ((List Fil))
  | [.c (.sl _ a0), .c (.fn a1 [])] => match decAll flCd a0, (if a1 = 46 then some () else none) with
    | some a0v, some u1 => some (a0v)
    | _, _ => none
  | _ => none
def d_sc : List AV → Option (Scn)
  | [.agg a0] => match scCd a0 with
    | some a0v => some (a0v)
    | _ => none
  | _ => none
def d_i_i_i_i : List AV → Option (Int × Int × Int × Int)
  | [.c (.v (.int .i64 a0)), .c (.v (.int .i64 a1)), .c (.v (.int .i64 a2)), .c (.v (.int .i64 a3))] => some (a0, a1, a2, a3)
  | _ => none
attribute [go_sem] d_li_i_i d_co d_lst d_pn d_fl d_lfl_f46 d_sc d_i_i_i_i
def d_i_i_qi : List AV → Option (Int × Int × Int)
  | [.c (.v (.int .i64 a0)), .c (.v (.int .i64 a1)), .c (.rp [.v (.int .i64 a2)])] => some (a0, a1, a2)
  | _ => none
def d_i_i_qco : List AV → Option (Int × Int × Colr)
  | [.c (.v (.int .i64 a0)), .c (.v (.int .i64 a1)), .c (.rp a2)] => match coCd a2 with
    | some a2v => some (a0, a1, a2v)
    | _ => none
  | _ => none
def d_co_co_f124qi : List AV → Option (Colr × Colr × Int)
  | [.agg a0, .agg a1, .c (.fn f2 [.rp [.v (.int .i64 a2)]])] => match coCd a0, coCd a1, (if f2 = 124 then some () else none) with
    | some a0v, some a1v, some u2 => some (a0v, a1v, a2)
    | _, _, _ => none
  | _ => none
def d_co_co_f122qco : List AV → Option (Colr × Colr × Colr)
  | [.agg a0, .agg a1, .c (.fn f2 [.rp a2])] => match coCd a0, coCd a1, (if f2 = 122 then some () else none), coCd a2 with
    | some a0v, some a1v, some u2, some a2v => some (a0v, a1v, a2v)
    | _, _, _, _ => none
  | _ => none
def d_co_co_f170qi : List AV → Option (Colr × Colr × Int)
  | [.agg a0, .agg a1, .c (.fn f2 [.rp [.v (.int .i64 a2)]])] => match coCd a0, coCd a1, (if f2 = 170 then some () else none) with
    | some a0v, some a1v, some u2 => some (a0v, a1v, a2)
    | _, _, _ => none
  | _ => none
def d_co_i : List AV → Option (Colr × Int)
  | [.agg a0, .c (.v (.int .i64 a1))] => match coCd a0 with
    | some a0v => some (a0v, a1)
    | _ => none
  | _ => none
def d_co_co : List AV → Option (Colr × Colr)
  | [.agg a0, .agg a1] => match coCd a0, coCd a1 with
    | some a0v, some a1v => some (a0v, a1v)
    | _, _ => none
  | _ => none
def d_co_co_i : List AV → Option (Colr × Colr × Int)
  | [.agg a0, .agg a1, .c (.v (.int .i64 a2))] => match coCd a0, coCd a1 with
    | some a0v, some a1v => some (a0v, a1v, a2)
    | _, _ => none
  | _ => none
def d_co_i_i : List AV → Option (Colr × Int × Int)
  | [.agg a0, .c (.v (.int .i64 a1)), .c (.v (.int .i64 a2))] => match coCd a0 with
    | some a0v => some (a0v, a1, a2)
    | _ => none
  | _ => none
def d_lst_i : List AV → Option ((List Stp) × Int)
  | [.c (.sl _ a0), .c (.v (.int .i64 a1))] => match decAll stCd a0 with
    | some a0v => some (a0v, a1)
    | _ => none
  | _ => none
def d_pn_i_i : List AV → Option (Pnt × Int × Int)
  | [.agg a0, .c (.v (.int .i64 a1)), .c (.v (.int .i64 a2))] => match pnCd a0 with
    | some a0v => some (a0v, a1, a2)
    | _ => none
  | _ => none
def d_sc_i_i : List AV → Option (Scn × Int × Int)
  | [.agg a0, .c (.v (.int .i64 a1)), .c (.v (.int .i64 a2))] => match scCd a0 with
    | some a0v => some (a0v, a1, a2)
    | _ => none
  | _ => none
def d_pt_pt_pt : List AV → Option (Pt × Pt × Pt)
  | [.agg a0, .agg a1, .agg a2] => match ptCd a0, ptCd a1, ptCd a2 with
    | some a0v, some a1v, some a2v => some (a0v, a1v, a2v)
    | _, _, _ => none
  | _ => none
attribute [go_sem] d_i_i_qi d_i_i_qco d_co_co_f124qi d_co_co_f122qco d_co_co_f170qi d_co_i d_co_co d_co_co_i d_co_i_i d_lst_i d_pn_i_i d_sc_i_i d_pt_pt_pt
end Go.Proofs.YtcejoknapbhloaaGreat
