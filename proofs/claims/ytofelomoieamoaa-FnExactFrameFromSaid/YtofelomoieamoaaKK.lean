/- Contracts of functions of the program vectorraster, each proved for all states that fit its description. No conditions. -/
import Derived.Test.YtofelomoieamoaaEC
import Derived.Test.YtofelomoieamoaaRows
set_option linter.unusedSimpArgs false
set_option linter.unusedVariables false
section
set_option maxRecDepth 100000
set_option linter.unusedSimpArgs false
namespace Go.Proofs.Ytofelomoieamoaa
open Go Go.VE
theorem hm : Try.prog.follows .mixedOrders = true := by kernel_rfl
theorem ti3 : TIok Try.prog 3 ⟨.int .i64, 1, 8, [.int .i64 0], false⟩ := tiB_ok (by kernel_rfl) (fun h => by cases h)
theorem e44 (d : Nat) : EqI Try.prog (d + 2) 44 4 := eqB_ok (l := [(3, 1), (3, 1), (3, 1), (3, 1)]) (by kernel_rfl) (by simp; exact fieldEq_int ti3 rfl)
theorem ti44 : TIok Try.prog 44 ⟨.struct [(3, 0, 1), (3, 1, 1), (3, 2, 1), (3, 3, 1)], 4, 32, [.int .i64 0, .int .i64 0, .int .i64 0, .int .i64 0], false⟩ := tiB_ok (by kernel_rfl) (fun h => by cases h)
theorem v44 : EqvOK Try.prog 44 4 := ⟨by kernel_rfl, e44 9998⟩
theorem e46 (d : Nat) : EqI Try.prog (d + 3) 46 5 := eqB_ok (l := [(44, 4), (3, 1)]) (by kernel_rfl) (by simp; exact ⟨fieldEq_struct ti44 rfl (e44 _), fieldEq_int ti3 rfl⟩)
theorem ti46 : TIok Try.prog 46 ⟨.struct [(44, 0, 4), (3, 4, 1)], 5, 40, [.int .i64 0, .int .i64 0, .int .i64 0, .int .i64 0, .int .i64 0], false⟩ := tiB_ok (by kernel_rfl) (fun h => by cases h)
theorem v46 : EqvOK Try.prog 46 5 := ⟨by kernel_rfl, e46 9997⟩
abbrev rt0 : Nat := 84
def tys : List (Nat × TI) := [(3, ⟨.int .i64, 1, 8, [.int .i64 0], false⟩),
  (4, ⟨.bool, 1, 1, [.bool false], false⟩),
  (5, ⟨.int .u8, 1, 1, [.int .u8 0], false⟩),
  (22, ⟨.slice 5, 1, 24, [.slice none 0 0], false⟩),
  (25, ⟨.slice 44, 1, 24, [.slice none 0 0], false⟩),
  (27, ⟨.struct [(3, 0, 1), (3, 1, 1), (25, 2, 1)], 3, 40, [.int .i64 0, .int .i64 0, .slice none 0 0], false⟩),
  (33, ⟨.slice 80, 1, 24, [.slice none 0 0], false⟩),
  (35, ⟨.struct [(3, 0, 1), (3, 1, 1), (33, 2, 1)], 3, 40, [.int .i64 0, .int .i64 0, .slice none 0 0], false⟩),
  (40, ⟨.slice 46, 1, 24, [.slice none 0 0], false⟩),
  (44, ⟨.struct [(3, 0, 1), (3, 1, 1), (3, 2, 1), (3, 3, 1)], 4, 32, [.int .i64 0, .int .i64 0, .int .i64 0, .int .i64 0], true⟩),
  (46, ⟨.struct [(44, 0, 4), (3, 4, 1)], 5, 40, [.int .i64 0, .int .i64 0, .int .i64 0, .int .i64 0, .int .i64 0], true⟩),
  (53, ⟨.slice 82, 1, 24, [.slice none 0 0], false⟩),
  (57, ⟨.other, 1, 8, [.pointer none], false⟩),
  (63, ⟨.map 44, 1, 8, [.map none], false⟩),
  (77, ⟨.slice 3, 1, 24, [.slice none 0 0], false⟩),
  (80, ⟨.struct [(3, 0, 1), (3, 1, 1), (3, 2, 1), (3, 3, 1)], 4, 32, [.int .i64 0, .int .i64 0, .int .i64 0, .int .i64 0], false⟩),
  (82, ⟨.struct [(80, 0, 4), (3, 4, 1)], 5, 40, [.int .i64 0, .int .i64 0, .int .i64 0, .int .i64 0, .int .i64 0], false⟩),
  (84, ⟨.struct [(22, 0, 1), (3, 1, 1)], 2, 32, [.slice none 0 0, .int .i64 0], false⟩),
  (86, ⟨.other, 1, 8, [.nilFunc], false⟩),
  (90, ⟨.int .u64, 1, 8, [.int .u64 0], false⟩),
  (95, ⟨.int .u32, 1, 4, [.int .u32 0], false⟩),
  (98, ⟨.int .u64, 1, 8, [.int .u64 0], false⟩)]
theorem ttok : TTok Try.prog (ttOf tys) := tts_ok (by kernel_rfl) (by simp [tys]; exact ⟨v44, v46⟩)
theorem ty3 : ttOf tys 3 = some ⟨.int .i64, 1, 8, [.int .i64 0], false⟩ := rfl
theorem ty4 : ttOf tys 4 = some ⟨.bool, 1, 1, [.bool false], false⟩ := rfl
theorem ty5 : ttOf tys 5 = some ⟨.int .u8, 1, 1, [.int .u8 0], false⟩ := rfl
theorem ty22 : ttOf tys 22 = some ⟨.slice 5, 1, 24, [.slice none 0 0], false⟩ := rfl
theorem ty25 : ttOf tys 25 = some ⟨.slice 44, 1, 24, [.slice none 0 0], false⟩ := rfl
theorem ty27 : ttOf tys 27 = some ⟨.struct [(3, 0, 1), (3, 1, 1), (25, 2, 1)], 3, 40, [.int .i64 0, .int .i64 0, .slice none 0 0], false⟩ := rfl
theorem ty33 : ttOf tys 33 = some ⟨.slice 80, 1, 24, [.slice none 0 0], false⟩ := rfl
theorem ty35 : ttOf tys 35 = some ⟨.struct [(3, 0, 1), (3, 1, 1), (33, 2, 1)], 3, 40, [.int .i64 0, .int .i64 0, .slice none 0 0], false⟩ := rfl
theorem ty40 : ttOf tys 40 = some ⟨.slice 46, 1, 24, [.slice none 0 0], false⟩ := rfl
theorem ty44 : ttOf tys 44 = some ⟨.struct [(3, 0, 1), (3, 1, 1), (3, 2, 1), (3, 3, 1)], 4, 32, [.int .i64 0, .int .i64 0, .int .i64 0, .int .i64 0], true⟩ := rfl
theorem ty46 : ttOf tys 46 = some ⟨.struct [(44, 0, 4), (3, 4, 1)], 5, 40, [.int .i64 0, .int .i64 0, .int .i64 0, .int .i64 0, .int .i64 0], true⟩ := rfl
theorem ty53 : ttOf tys 53 = some ⟨.slice 82, 1, 24, [.slice none 0 0], false⟩ := rfl
theorem ty57 : ttOf tys 57 = some ⟨.other, 1, 8, [.pointer none], false⟩ := rfl
theorem ty63 : ttOf tys 63 = some ⟨.map 44, 1, 8, [.map none], false⟩ := rfl
theorem ty77 : ttOf tys 77 = some ⟨.slice 3, 1, 24, [.slice none 0 0], false⟩ := rfl
theorem ty80 : ttOf tys 80 = some ⟨.struct [(3, 0, 1), (3, 1, 1), (3, 2, 1), (3, 3, 1)], 4, 32, [.int .i64 0, .int .i64 0, .int .i64 0, .int .i64 0], false⟩ := rfl
theorem ty82 : ttOf tys 82 = some ⟨.struct [(80, 0, 4), (3, 4, 1)], 5, 40, [.int .i64 0, .int .i64 0, .int .i64 0, .int .i64 0, .int .i64 0], false⟩ := rfl
theorem ty84 : ttOf tys 84 = some ⟨.struct [(22, 0, 1), (3, 1, 1)], 2, 32, [.slice none 0 0, .int .i64 0], false⟩ := rfl
theorem ty86 : ttOf tys 86 = some ⟨.other, 1, 8, [.nilFunc], false⟩ := rfl
theorem ty90 : ttOf tys 90 = some ⟨.int .u64, 1, 8, [.int .u64 0], false⟩ := rfl
theorem ty95 : ttOf tys 95 = some ⟨.int .u32, 1, 4, [.int .u32 0], false⟩ := rfl
theorem ty98 : ttOf tys 98 = some ⟨.int .u64, 1, 8, [.int .u64 0], false⟩ := rfl
attribute [go_sem] ty3 ty4 ty5 ty22 ty25 ty27 ty33 ty35 ty40 ty44 ty46 ty53 ty57 ty63 ty77 ty80 ty82 ty84 ty86 ty90 ty95 ty98
end Go.Proofs.Ytofelomoieamoaa
end
section
set_option maxRecDepth 100000
set_option linter.unusedSimpArgs false
set_option linter.unusedVariables false
namespace Go.Proofs.Ytofelomoieamoaa
open Go Go.VE

structure Colr where
  r : Int
  g : Int
  b : Int
  a : Int
deriving DecidableEq, Inhabited
def coC (x : Colr) : List C := C.v (.int .i64 x.r) :: C.v (.int .i64 x.g) :: C.v (.int .i64 x.b) :: [C.v (.int .i64 x.a)]
def coCd : List C → Option Colr
  | [.v (.int .i64 r0), .v (.int .i64 g0), .v (.int .i64 b0), .v (.int .i64 a0)] => some ⟨r0, g0, b0, a0⟩
  | _ => none
theorem coC_dec (k : Colr) : coCd (coC k) = some k := rfl
theorem coC_wk (k : Colr) : wkCs (coC k) = coC k := by simp [coC, wkCs, wkC, List.cons_append, List.nil_append]
theorem coC_wks (l : List Colr) : wkEs (l.map coC) = l.map coC := by simp [wkEs_map, coC_wk]
theorem coC_ds (l : List Colr) : decAll coCd (l.map coC) = some l := decAll_map (g := coC) coC_dec l
theorem coC_len (k : Colr) : (coC k).length = 4 := rfl
theorem coC_takeN (k : Colr) : List.take 4 (coC k) = coC k := rfl
theorem coC_takeA (k : Colr) (l : List C) : List.take 4 (coC k ++ l) = coC k := rfl
theorem coC_dropA (k : Colr) (l : List C) : List.drop 4 (coC k ++ l) = l := rfl
theorem coC_takeB (k : Colr) (m : Nat) (l : List C) : List.take (m + 4) (coC k ++ l) = coC k ++ List.take m l := rfl
theorem coC_dropB (k : Colr) (m : Nat) (l : List C) : List.drop (m + 4) (coC k ++ l) = List.drop m l := rfl
theorem coC_dropN (k : Colr) : List.drop 4 (coC k) = [] := rfl
theorem coC_all (l : List Colr) : (∀ e ∈ l.map coC, e.length = 4) = True := all_len coC_len l
theorem coC_strip (k : Colr) : List.map strip (coC k) = coC k := rfl
theorem coC_seal (s : St) (k : Colr) : List.map (sealC s) (coC k) = coC k := rfl
theorem coC_ren (s : St) (i : List Nat) (k : Colr) : List.map (renC s i) (coC k) = coC k := rfl
theorem coC_exp (s : St) (i : List Nat) (k : Colr) : List.map (expC s i) (coC k) = coC k := rfl
theorem coC_map (f : Nat → Nat) (k : Colr) : List.map (mapC f) (coC k) = coC k := rfl
theorem coC_gat (s : St) (i : List Nat) (k : Colr) : gather s 64 i (coC k) = i := rfl
theorem coC_rok (s : St) (l i : List Nat) (k : Colr) : renOks s l i (coC k) = True := eq_true (by repeat' constructor)
theorem coC_row (k : Colr) : rowIds (coC k) = [] := rfl
theorem coC_eok (s : St) (i : List Nat) (k : Colr) : expOks s i (coC k) = True := eq_true (by repeat' constructor)
theorem coC_sok (s : St) (k : Colr) : sealOks s (coC k) = True := eq_true (by repeat' constructor)
theorem coC_okR (k : Colr) : okRs (coC k) = True := eq_true (by repeat' constructor)
theorem coC_okC (k : Colr) : okCs (coC k) = True := eq_true (by repeat' constructor)
theorem coC_okR0 (k : Colr) : okR0s (coC k) = True := eq_true (by repeat' constructor)
theorem coC_inj (a b : Colr) : (coC a = coC b) = (a = b) := by
  refine propext ⟨fun h => ?_, fun h => by rw [h]⟩
  have := congrArg coCd h
  rw [coC_dec, coC_dec] at this
  exact Option.some.inj this
theorem coC_minj (a b : List Colr) : (a.map coC = b.map coC) = (a = b) := by
  refine propext ⟨fun h => ?_, fun h => by rw [h]⟩
  have := congrArg (decAll coCd) h
  rw [coC_ds, coC_ds] at this
  exact Option.some.inj this
theorem coC_le (s : St) (ρ : List (Nat × Nat)) (hp : List (Nat × Option Box)) (k : Colr) : leCs s ρ hp (coC k) (coC k) = True := eq_true (by repeat' first | constructor | (intro h; cases h))
theorem coC_okV (k : Colr) : ∀ c ∈ coC k, okV c = true := by
  have : (coC k).all okV = true := rfl
  exact List.all_eq_true.1 this
theorem coC_pure (l : List Colr) : pureV (l.map coC) = True := pureV_map coC_okV l
theorem coC_fok (s : St) (i : List Nat) (k : Colr) : flatOks s i (coC k) = True := eq_true (by repeat' constructor)
theorem coC_okVT (k : Colr) : (∀ c ∈ coC k, okV c = true) = True := eq_true (coC_okV k)
theorem coC_mk (r1 : Int) (g1 : Int) (b1 : Int) (a1 : Int) : coC ⟨r1, g1, b1, a1⟩ = C.v (.int .i64 r1) :: C.v (.int .i64 g1) :: C.v (.int .i64 b1) :: [C.v (.int .i64 a1)] := rfl
theorem coC_ex (r1 : Int) (g1 : Int) (b1 : Int) (a1 : Int) (Q : Colr → Prop) : (∃ p, C.v (.int .i64 r1) :: C.v (.int .i64 g1) :: C.v (.int .i64 b1) :: [C.v (.int .i64 a1)] = coC p ∧ Q p) = Q ⟨r1, g1, b1, a1⟩ := by
  rw [← coC_mk]; simp only [coC_inj, exists_eq_left']
theorem coC_t1 (k : Colr) : List.take 1 (coC k) = [C.v (.int .i64 k.r)] := rfl
theorem coC_d1 (k : Colr) : List.drop 1 (coC k) = C.v (.int .i64 k.g) :: C.v (.int .i64 k.b) :: [C.v (.int .i64 k.a)] := rfl
theorem coC_t2 (k : Colr) : List.take 2 (coC k) = C.v (.int .i64 k.r) :: [C.v (.int .i64 k.g)] := rfl
theorem coC_d2 (k : Colr) : List.drop 2 (coC k) = C.v (.int .i64 k.b) :: [C.v (.int .i64 k.a)] := rfl
theorem coC_t3 (k : Colr) : List.take 3 (coC k) = C.v (.int .i64 k.r) :: C.v (.int .i64 k.g) :: [C.v (.int .i64 k.b)] := rfl
theorem coC_d3 (k : Colr) : List.drop 3 (coC k) = [C.v (.int .i64 k.a)] := rfl
theorem coC_ints (k : Colr) : ints (coC k) = True := eq_true (by repeat' constructor)
theorem coC_ieq (k l : Colr) : ieq (coC k) (coC l) = decide (k = l) := by
  obtain ⟨kr, kg, kb, ka⟩ := k
  obtain ⟨lr, lg, lb, la⟩ := l
  simp [coC, ieq, Bool.decide_and, Bool.and_assoc]

structure Rn where
  c : Colr
  m : Int
deriving DecidableEq, Inhabited
def rnC (x : Rn) : List C := coC x.c ++ ([C.v (.int .i64 x.m)])
def rnCd : List C → Option Rn
  | [.v (.int .i64 c0_r), .v (.int .i64 c0_g), .v (.int .i64 c0_b), .v (.int .i64 c0_a), .v (.int .i64 m0)] => some ⟨⟨c0_r, c0_g, c0_b, c0_a⟩, m0⟩
  | _ => none
theorem rnC_dec (k : Rn) : rnCd (rnC k) = some k := rfl
theorem rnC_wk (k : Rn) : wkCs (rnC k) = rnC k := by simp [rnC, wkCs, wkC, List.cons_append, List.nil_append, coC]
theorem rnC_wks (l : List Rn) : wkEs (l.map rnC) = l.map rnC := by simp [wkEs_map, rnC_wk]
theorem rnC_ds (l : List Rn) : decAll rnCd (l.map rnC) = some l := decAll_map (g := rnC) rnC_dec l
theorem rnC_len (k : Rn) : (rnC k).length = 5 := rfl
theorem rnC_takeN (k : Rn) : List.take 5 (rnC k) = rnC k := rfl
theorem rnC_takeA (k : Rn) (l : List C) : List.take 5 (rnC k ++ l) = rnC k := rfl
theorem rnC_dropA (k : Rn) (l : List C) : List.drop 5 (rnC k ++ l) = l := rfl
theorem rnC_takeB (k : Rn) (m : Nat) (l : List C) : List.take (m + 5) (rnC k ++ l) = rnC k ++ List.take m l := rfl
theorem rnC_dropB (k : Rn) (m : Nat) (l : List C) : List.drop (m + 5) (rnC k ++ l) = List.drop m l := rfl
theorem rnC_dropN (k : Rn) : List.drop 5 (rnC k) = [] := rfl
theorem rnC_all (l : List Rn) : (∀ e ∈ l.map rnC, e.length = 5) = True := all_len rnC_len l
theorem rnC_strip (k : Rn) : List.map strip (rnC k) = rnC k := rfl
theorem rnC_seal (s : St) (k : Rn) : List.map (sealC s) (rnC k) = rnC k := rfl
theorem rnC_ren (s : St) (i : List Nat) (k : Rn) : List.map (renC s i) (rnC k) = rnC k := rfl
theorem rnC_exp (s : St) (i : List Nat) (k : Rn) : List.map (expC s i) (rnC k) = rnC k := rfl
theorem rnC_map (f : Nat → Nat) (k : Rn) : List.map (mapC f) (rnC k) = rnC k := rfl
theorem rnC_gat (s : St) (i : List Nat) (k : Rn) : gather s 64 i (rnC k) = i := rfl
theorem rnC_rok (s : St) (l i : List Nat) (k : Rn) : renOks s l i (rnC k) = True := eq_true (by repeat' constructor)
theorem rnC_row (k : Rn) : rowIds (rnC k) = [] := rfl
theorem rnC_eok (s : St) (i : List Nat) (k : Rn) : expOks s i (rnC k) = True := eq_true (by repeat' constructor)
theorem rnC_sok (s : St) (k : Rn) : sealOks s (rnC k) = True := eq_true (by repeat' constructor)
theorem rnC_okR (k : Rn) : okRs (rnC k) = True := eq_true (by repeat' constructor)
theorem rnC_okC (k : Rn) : okCs (rnC k) = True := eq_true (by repeat' constructor)
theorem rnC_okR0 (k : Rn) : okR0s (rnC k) = True := eq_true (by repeat' constructor)
theorem rnC_inj (a b : Rn) : (rnC a = rnC b) = (a = b) := by
  refine propext ⟨fun h => ?_, fun h => by rw [h]⟩
  have := congrArg rnCd h
  rw [rnC_dec, rnC_dec] at this
  exact Option.some.inj this
theorem rnC_minj (a b : List Rn) : (a.map rnC = b.map rnC) = (a = b) := by
  refine propext ⟨fun h => ?_, fun h => by rw [h]⟩
  have := congrArg (decAll rnCd) h
  rw [rnC_ds, rnC_ds] at this
  exact Option.some.inj this
theorem rnC_le (s : St) (ρ : List (Nat × Nat)) (hp : List (Nat × Option Box)) (k : Rn) : leCs s ρ hp (rnC k) (rnC k) = True := eq_true (by repeat' first | constructor | (intro h; cases h))
theorem rnC_okV (k : Rn) : ∀ c ∈ rnC k, okV c = true := by
  have : (rnC k).all okV = true := rfl
  exact List.all_eq_true.1 this
theorem rnC_pure (l : List Rn) : pureV (l.map rnC) = True := pureV_map rnC_okV l
theorem rnC_fok (s : St) (i : List Nat) (k : Rn) : flatOks s i (rnC k) = True := eq_true (by repeat' constructor)
theorem rnC_okVT (k : Rn) : (∀ c ∈ rnC k, okV c = true) = True := eq_true (rnC_okV k)
theorem rnC_fold (c1 : Colr) (m1 : Int) : coC c1 ++ ([C.v (.int .i64 m1)]) = rnC ⟨c1, m1⟩ := rfl
theorem rnC_t1 (k : Rn) : List.take 1 (rnC k) = [C.v (.int .i64 k.c.r)] := rfl
theorem rnC_d1 (k : Rn) : List.drop 1 (rnC k) = C.v (.int .i64 k.c.g) :: C.v (.int .i64 k.c.b) :: C.v (.int .i64 k.c.a) :: [C.v (.int .i64 k.m)] := rfl
theorem rnC_t2 (k : Rn) : List.take 2 (rnC k) = C.v (.int .i64 k.c.r) :: [C.v (.int .i64 k.c.g)] := rfl
theorem rnC_d2 (k : Rn) : List.drop 2 (rnC k) = C.v (.int .i64 k.c.b) :: C.v (.int .i64 k.c.a) :: [C.v (.int .i64 k.m)] := rfl
theorem rnC_t3 (k : Rn) : List.take 3 (rnC k) = C.v (.int .i64 k.c.r) :: C.v (.int .i64 k.c.g) :: [C.v (.int .i64 k.c.b)] := rfl
theorem rnC_d3 (k : Rn) : List.drop 3 (rnC k) = C.v (.int .i64 k.c.a) :: [C.v (.int .i64 k.m)] := rfl
theorem rnC_t4 (k : Rn) : List.take 4 (rnC k) = coC k.c := rfl
theorem rnC_d4 (k : Rn) : List.drop 4 (rnC k) = [C.v (.int .i64 k.m)] := rfl
theorem rnC_ints (k : Rn) : ints (rnC k) = True := eq_true (by repeat' constructor)
theorem rnC_ieq (k l : Rn) : ieq (rnC k) (rnC l) = decide (k = l) := by
  obtain ⟨⟨kcr, kcg, kcb, kca⟩, km⟩ := k
  obtain ⟨⟨lcr, lcg, lcb, lca⟩, lm⟩ := l
  simp [rnC, coC, ieq, Bool.decide_and, Bool.and_assoc]

structure Frm where
  w : Int
  h : Int
  px : List Colr
deriving DecidableEq, Inhabited
def frC (x : Frm) : List C := C.v (.int .i64 x.w) :: C.v (.int .i64 x.h) :: [C.sl false (x.px.map coC)]
def frCd : List C → Option Frm
  | [.v (.int .i64 w0), .v (.int .i64 h0), .sl _ px0] => match decAll coCd px0 with
    | some px0L => some ⟨w0, h0, px0L⟩
    | _ => none
  | _ => none
theorem frC_dec (k : Frm) : frCd (frC k) = some k := by
  simp [frC, frCd, coC_ds]
theorem frC_wk (k : Frm) : wkCs (frC k) = frC k := by simp [frC, wkCs, wkC, List.cons_append, List.nil_append, coC_wks]
theorem frC_wks (l : List Frm) : wkEs (l.map frC) = l.map frC := by simp [wkEs_map, frC_wk]
theorem frC_ds (l : List Frm) : decAll frCd (l.map frC) = some l := decAll_map (g := frC) frC_dec l
theorem frC_len (k : Frm) : (frC k).length = 3 := rfl
theorem frC_takeN (k : Frm) : List.take 3 (frC k) = frC k := rfl
theorem frC_takeA (k : Frm) (l : List C) : List.take 3 (frC k ++ l) = frC k := rfl
theorem frC_dropA (k : Frm) (l : List C) : List.drop 3 (frC k ++ l) = l := rfl
theorem frC_takeB (k : Frm) (m : Nat) (l : List C) : List.take (m + 3) (frC k ++ l) = frC k ++ List.take m l := rfl
theorem frC_dropB (k : Frm) (m : Nat) (l : List C) : List.drop (m + 3) (frC k ++ l) = List.drop m l := rfl
theorem frC_dropN (k : Frm) : List.drop 3 (frC k) = [] := rfl
theorem frC_all (l : List Frm) : (∀ e ∈ l.map frC, e.length = 3) = True := all_len frC_len l
theorem frC_strip (k : Frm) : List.map strip (frC k) = frC k := rfl
theorem frC_seal (s : St) (k : Frm) : List.map (sealC s) (frC k) = frC k := rfl
theorem frC_ren (s : St) (i : List Nat) (k : Frm) : List.map (renC s i) (frC k) = frC k := rfl
theorem frC_exp (s : St) (i : List Nat) (k : Frm) : List.map (expC s i) (frC k) = frC k := rfl
theorem frC_map (f : Nat → Nat) (k : Frm) : List.map (mapC f) (frC k) = frC k := rfl
theorem frC_gat (s : St) (i : List Nat) (k : Frm) : gather s 64 i (frC k) = i := rfl
theorem frC_rok (s : St) (l i : List Nat) (k : Frm) : renOks s l i (frC k) = True := eq_true (by repeat' constructor)
theorem frC_row (k : Frm) : rowIds (frC k) = [] := rfl
theorem frC_eok (s : St) (i : List Nat) (k : Frm) : expOks s i (frC k) = True := eq_true (by repeat' constructor)
theorem frC_sok (s : St) (k : Frm) : sealOks s (frC k) = True := eq_true (by repeat' constructor)
theorem frC_okR (k : Frm) : okRs (frC k) = True := eq_true (by repeat' constructor)
theorem frC_okC (k : Frm) : okCs (frC k) = True := eq_true (by repeat' constructor)
theorem frC_okR0 (k : Frm) : okR0s (frC k) = True := eq_true (by repeat' constructor)
theorem frC_inj (a b : Frm) : (frC a = frC b) = (a = b) := by
  refine propext ⟨fun h => ?_, fun h => by rw [h]⟩
  have := congrArg frCd h
  rw [frC_dec, frC_dec] at this
  exact Option.some.inj this
theorem frC_minj (a b : List Frm) : (a.map frC = b.map frC) = (a = b) := by
  refine propext ⟨fun h => ?_, fun h => by rw [h]⟩
  have := congrArg (decAll frCd) h
  rw [frC_ds, frC_ds] at this
  exact Option.some.inj this
theorem frC_le (s : St) (ρ : List (Nat × Nat)) (hp : List (Nat × Option Box)) (k : Frm) : leCs s ρ hp (frC k) (frC k) = True := eq_true (by repeat' first | constructor | (intro h; cases h))
theorem frC_mk (w1 : Int) (h1 : Int) (px1 : List Colr) : frC ⟨w1, h1, px1⟩ = C.v (.int .i64 w1) :: C.v (.int .i64 h1) :: [C.sl false (px1.map coC)] := rfl
theorem frC_ex (w1 : Int) (h1 : Int) (px1 : List Colr) (Q : Frm → Prop) : (∃ p, C.v (.int .i64 w1) :: C.v (.int .i64 h1) :: [C.sl false (px1.map coC)] = frC p ∧ Q p) = Q ⟨w1, h1, px1⟩ := by
  rw [← frC_mk]; simp only [frC_inj, exists_eq_left']
theorem frC_t1 (k : Frm) : List.take 1 (frC k) = [C.v (.int .i64 k.w)] := rfl
theorem frC_d1 (k : Frm) : List.drop 1 (frC k) = C.v (.int .i64 k.h) :: [C.sl false (k.px.map coC)] := rfl
theorem frC_t2 (k : Frm) : List.take 2 (frC k) = C.v (.int .i64 k.w) :: [C.v (.int .i64 k.h)] := rfl
theorem frC_d2 (k : Frm) : List.drop 2 (frC k) = [C.sl false (k.px.map coC)] := rfl
attribute [go_sem] coC_le coC_inj coC_minj coC_dec coC_ds coC_len coC_takeN coC_takeA coC_dropA coC_takeB coC_dropB coC_dropN coC_all coC_strip coC_seal coC_ren coC_exp coC_map coC_gat coC_rok coC_row coC_eok coC_sok coC_okR coC_okR0 coC_okC coC_wk coC_wks coC_pure coC_fok
attribute [go_sem] coC_okVT coC_mk coC_ex coCd.eq_1 coC_t1 coC_d1 coC_t2 coC_d2 coC_t3 coC_d3 coC_ints coC_ieq Colr.mk.injEq rnC_le rnC_inj rnC_minj rnC_dec rnC_ds rnC_len rnC_takeN rnC_takeA rnC_dropA rnC_takeB rnC_dropB rnC_dropN rnC_all rnC_strip rnC_seal rnC_ren rnC_exp
attribute [go_sem] rnC_map rnC_gat rnC_rok rnC_row rnC_eok rnC_sok rnC_okR rnC_okR0 rnC_okC rnC_wk rnC_wks rnC_pure rnC_fok rnC_okVT rnC_fold rnC_t1 rnC_d1 rnC_t2 rnC_d2 rnC_t3 rnC_d3 rnC_t4 rnC_d4 rnC_ints rnC_ieq Rn.mk.injEq frC_le frC_inj frC_minj frC_dec
attribute [go_sem] frC_ds frC_len frC_takeN frC_takeA frC_dropA frC_takeB frC_dropB frC_dropN frC_all frC_strip frC_seal frC_ren frC_exp frC_map frC_gat frC_rok frC_row frC_eok frC_sok frC_okR frC_okR0 frC_okC frC_wk frC_wks frC_mk frC_ex frCd.eq_1 frC_t1 frC_d1 frC_t2
attribute [go_sem] frC_d2 Frm.mk.injEq
end Go.Proofs.Ytofelomoieamoaa
end
section
set_option maxRecDepth 100000
set_option linter.unusedSimpArgs false
set_option linter.unusedVariables false
namespace Go.Proofs.Ytofelomoieamoaa
open Go Go.VE
def d_i_i_i : List AV → Option (Int × Int × Int)
  | [.c (.v (.int .i64 a0)), .c (.v (.int .i64 a1)), .c (.v (.int .i64 a2))] => some (a0, a1, a2)
  | _ => none
def d_i_i : List AV → Option (Int × Int)
  | [.c (.v (.int .i64 a0)), .c (.v (.int .i64 a1))] => some (a0, a1)
  | _ => none
def d_li_i_i : List AV → Option ((List Int) × Int × Int)
  | [.c (.sl _ a0), .c (.v (.int .i64 a1)), .c (.v (.int .i64 a2))] => match decAll intCd a0 with
    | some a0v => some (a0v, a1, a2)
    | _ => none
  | _ => none
def d_co : List AV → Option (Colr)
  | [.agg a0] => match coCd a0 with
    | some a0v => some (a0v)
    | _ => none
  | _ => none
def d_r_i : List AV → Option (Int)
  | [.c .rdr, .c (.v (.int .i64 a1))] => some (a1)
  | _ => none
def d_r_li : List AV → Option ((List Int))
  | [.c .rdr, .c (.sl _ a1)] => match decAll intCd a1 with
    | some a1v => some (a1v)
    | _ => none
  | _ => none
def d_lco_f64 : List AV → Option ((List Colr))
  | [.c (.sl _ a0), .c (.fn a1 [])] => match decAll coCd a0, (if a1 = 64 then some () else none) with
    | some a0v, some u1 => some (a0v)
    | _, _ => none
  | _ => none
def d_fr : List AV → Option (Frm)
  | [.agg a0] => match frCd a0 with
    | some a0v => some (a0v)
    | _ => none
  | _ => none
def d_i_i_i_i : List AV → Option (Int × Int × Int × Int)
  | [.c (.v (.int .i64 a0)), .c (.v (.int .i64 a1)), .c (.v (.int .i64 a2)), .c (.v (.int .i64 a3))] => some (a0, a1, a2, a3)
  | _ => none
def d_r : List AV → Option (Unit)
  | [.c .rdr] => some ()
  | _ => none
def d_r_i_i : List AV → Option (Int × Int)
  | [.c .rdr, .c (.v (.int .i64 a1)), .c (.v (.int .i64 a2))] => some (a1, a2)
  | _ => none
def d_ly : List AV → Option ((List UInt8))
  | [.c (.sl _ a0)] => match decAll byD a0 with
    | some a0v => some (a0v)
    | _ => none
  | _ => none
attribute [go_sem] d_i_i_i d_i_i d_li_i_i d_co d_r_i d_r_li d_lco_f64 d_fr d_i_i_i_i d_r d_r_i_i d_ly
end Go.Proofs.Ytofelomoieamoaa
end
section
set_option maxRecDepth 100000
set_option linter.unusedSimpArgs false
set_option linter.unusedVariables false
namespace Go.Proofs.Ytofelomoieamoaa
open Go Go.VE
def d_uu : List AV → Option (Int × Int)
  | [.c (.v (.int .u64 a)), .c (.v (.int .u64 b))] => some (a, b)
  | _ => none
def d_lco_i : List AV → Option ((List Colr) × Int)
  | [.c (.sl _ a0), .c (.v (.int .i64 a1))] => match decAll coCd a0 with
    | some a0v => some (a0v, a1)
    | _ => none
  | _ => none
def d_lrn_lrn : List AV → Option ((List Rn) × (List Rn))
  | [.c (.sl _ a0), .c (.sl _ a1)] => match decAll rnCd a0, decAll rnCd a1 with
    | some a0v, some a1v => some (a0v, a1v)
    | _, _ => none
  | _ => none
def d_lco_lco : List AV → Option ((List Colr) × (List Colr))
  | [.c (.sl _ a0), .c (.sl _ a1)] => match decAll coCd a0, decAll coCd a1 with
    | some a0v, some a1v => some (a0v, a1v)
    | _, _ => none
  | _ => none
def d_fr_fr : List AV → Option (Frm × Frm)
  | [.agg a0, .agg a1] => match frCd a0, frCd a1 with
    | some a0v, some a1v => some (a0v, a1v)
    | _, _ => none
  | _ => none
def d_lco : List AV → Option ((List Colr))
  | [.c (.sl _ a0)] => match decAll coCd a0 with
    | some a0v => some (a0v)
    | _ => none
  | _ => none
def d_i_i_lrn : List AV → Option (Int × Int × (List Rn))
  | [.c (.v (.int .i64 a0)), .c (.v (.int .i64 a1)), .c (.sl _ a2)] => match decAll rnCd a2 with
    | some a2v => some (a0, a1, a2v)
    | _ => none
  | _ => none
attribute [go_sem] d_uu d_lco_i d_lrn_lrn d_lco_lco d_fr_fr d_lco d_i_i_lrn
end Go.Proofs.Ytofelomoieamoaa
end
section
set_option maxRecDepth 100000
set_option linter.unusedSimpArgs false
set_option linter.unusedVariables false
namespace Go.Proofs.Ytofelomoieamoaa
open Go Go.VE
def d_b : List AV → Option (Bool)
  | [.c (.v (.bool a0))] => some (a0)
  | _ => none
def d_rn : List AV → Option (Rn)
  | [.agg a0] => match rnCd a0 with
    | some a0v => some (a0v)
    | _ => none
  | _ => none
def d_lrn : List AV → Option ((List Rn))
  | [.c (.sl _ a0)] => match decAll rnCd a0 with
    | some a0v => some (a0v)
    | _ => none
  | _ => none
def d_lrn_i : List AV → Option ((List Rn) × Int)
  | [.c (.sl _ a0), .c (.v (.int .i64 a1))] => match decAll rnCd a0 with
    | some a0v => some (a0v, a1)
    | _ => none
  | _ => none
def d_fr_i : List AV → Option (Frm × Int)
  | [.agg a0, .c (.v (.int .i64 a1))] => match frCd a0 with
    | some a0v => some (a0v, a1)
    | _ => none
  | _ => none
def d_co_co : List AV → Option (Colr × Colr)
  | [.agg a0, .agg a1] => match coCd a0, coCd a1 with
    | some a0v, some a1v => some (a0v, a1v)
    | _, _ => none
  | _ => none
def d_rn_rn : List AV → Option (Rn × Rn)
  | [.agg a0, .agg a1] => match rnCd a0, rnCd a1 with
    | some a0v, some a1v => some (a0v, a1v)
    | _, _ => none
  | _ => none
attribute [go_sem] d_b d_rn d_lrn d_lrn_i d_fr_i d_co_co d_rn_rn
end Go.Proofs.Ytofelomoieamoaa
end
