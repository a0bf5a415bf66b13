/- Contracts of functions of the program vectorraster, each proved for all states that fit its description. No conditions. -/
import Derived.Test.YtcejoknapbhloaaGreatEC
import Derived.Test.YtcejoknapbhloaaGreatRows
set_option linter.unusedSimpArgs false
set_option linter.unusedVariables false
set_option maxRecDepth 100000
namespace Go.Proofs.YtcejoknapbhloaaGreat
open Go Go.VE
theorem hm : Tryz.prog.follows .mixedOrders = true := by kernel_rfl
theorem ti3 : TIok Tryz.prog 3 ⟨.int .i64, 1, 8, [.int .i64 0], false⟩ := tiB_ok (by kernel_rfl) (fun h => by cases h)
theorem e40 (d : Nat) : EqI Tryz.prog (d + 2) 40 2 := eqB_ok (l := [(3, 1), (3, 1)]) (by kernel_rfl) (by simp; exact fieldEq_int ti3 rfl)
theorem ti40 : TIok Tryz.prog 40 ⟨.struct [(3, 0, 1), (3, 1, 1)], 2, 16, [.int .i64 0, .int .i64 0], false⟩ := tiB_ok (by kernel_rfl) (fun h => by cases h)
theorem v40 : EqvOK Tryz.prog 40 2 := ⟨by kernel_rfl, e40 9998⟩
theorem e169 (d : Nat) : EqI Tryz.prog (d + 3) 169 4 := eqB_ok (l := [(40, 2), (40, 2)]) (by kernel_rfl) (by simp; exact fieldEq_struct ti40 rfl (e40 _))
theorem v169 : EqvOK Tryz.prog 169 4 := ⟨by kernel_rfl, e169 9997⟩
theorem e90 (d : Nat) : EqI Tryz.prog (d + 2) 90 4 := eqB_ok (l := [(3, 1), (3, 1), (3, 1), (3, 1)]) (by kernel_rfl) (by simp; exact fieldEq_int ti3 rfl)
theorem v90 : EqvOK Tryz.prog 90 4 := ⟨by kernel_rfl, e90 9998⟩
theorem e66 (d : Nat) : EqI Tryz.prog (d + 2) 66 4 := eqB_ok (l := [(3, 1), (3, 1), (3, 1), (3, 1)]) (by kernel_rfl) (by simp; exact fieldEq_int ti3 rfl)
theorem v66 : EqvOK Tryz.prog 66 4 := ⟨by kernel_rfl, e66 9998⟩
def rt0 : RT := ⟨76, [], fun _ => True, fun _ _ _ h => h⟩
theorem rt0_t : rt0.t = 76 := rfl
def tys : List (Nat × TI) := [(3, ⟨.int .i64, 1, 8, [.int .i64 0], false⟩),
  (4, ⟨.bool, 1, 1, [.bool false], false⟩),
  (5, ⟨.int .u8, 1, 1, [.int .u8 0], false⟩),
  (22, ⟨.slice 5, 1, 24, [.slice none 0 0], false⟩),
  (23, ⟨.slice 45, 1, 24, [.slice none 0 0], false⟩),
  (25, ⟨.struct [(3, 0, 1), (3, 1, 1), (23, 2, 1)], 3, 40, [.int .i64 0, .int .i64 0, .slice none 0 0], false⟩),
  (26, ⟨.slice 81, 1, 24, [.slice none 0 0], false⟩),
  (29, ⟨.slice 66, 1, 24, [.slice none 0 0], false⟩),
  (31, ⟨.struct [(3, 0, 1), (3, 1, 1), (29, 2, 1)], 3, 40, [.int .i64 0, .int .i64 0, .slice none 0 0], false⟩),
  (38, ⟨.slice 133, 1, 24, [.slice none 0 0], false⟩),
  (40, ⟨.struct [(3, 0, 1), (3, 1, 1)], 2, 16, [.int .i64 0, .int .i64 0], true⟩),
  (41, ⟨.slice 145, 1, 24, [.slice none 0 0], false⟩),
  (43, ⟨.struct [(40, 0, 2), (40, 2, 2), (41, 4, 1)], 5, 56, [.int .i64 0, .int .i64 0, .int .i64 0, .int .i64 0, .slice none 0 0], false⟩),
  (45, ⟨.struct [(38, 0, 1), (3, 1, 1), (43, 2, 5)], 7, 88, [.slice none 0 0, .int .i64 0, .int .i64 0, .int .i64 0, .int .i64 0, .int .i64 0, .slice none 0 0], false⟩),
  (49, ⟨.other, 1, 8, [.pointer none], false⟩),
  (56, ⟨.other, 1, 8, [.nilFunc], false⟩),
  (58, ⟨.slice 61, 1, 24, [.slice none 0 0], false⟩),
  (61, ⟨.struct [(3, 0, 1), (3, 1, 1)], 2, 16, [.int .i64 0, .int .i64 0], false⟩),
  (66, ⟨.struct [(3, 0, 1), (3, 1, 1), (3, 2, 1), (3, 3, 1)], 4, 32, [.int .i64 0, .int .i64 0, .int .i64 0, .int .i64 0], true⟩),
  (70, ⟨.slice 3, 1, 24, [.slice none 0 0], false⟩),
  (73, ⟨.other, 1, 8, [.nilFunc], false⟩),
  (76, ⟨.struct [(22, 0, 1), (3, 1, 1)], 2, 32, [.slice none 0 0, .int .i64 0], false⟩),
  (81, ⟨.struct [(3, 0, 1), (3, 1, 1)], 2, 16, [.int .i64 0, .int .i64 0], false⟩),
  (86, ⟨.other, 1, 8, [.nilFunc], false⟩),
  (87, ⟨.slice 70, 1, 24, [.slice none 0 0], false⟩),
  (90, ⟨.struct [(3, 0, 1), (3, 1, 1), (3, 2, 1), (3, 3, 1)], 4, 32, [.int .i64 0, .int .i64 0, .int .i64 0, .int .i64 0], true⟩),
  (94, ⟨.slice 120, 1, 24, [.slice none 0 0], false⟩),
  (105, ⟨.slice 129, 1, 24, [.slice none 0 0], false⟩),
  (120, ⟨.struct [(70, 0, 1), (3, 1, 1), (3, 2, 1)], 3, 40, [.slice none 0 0, .int .i64 0, .int .i64 0], false⟩),
  (129, ⟨.slice 40, 1, 24, [.slice none 0 0], false⟩),
  (133, ⟨.struct [(3, 0, 1), (129, 1, 1)], 2, 32, [.int .i64 0, .slice none 0 0], false⟩),
  (137, ⟨.other, 1, 8, [.nilFunc], false⟩),
  (145, ⟨.struct [(3, 0, 1), (66, 1, 4)], 5, 40, [.int .i64 0, .int .i64 0, .int .i64 0, .int .i64 0, .int .i64 0], false⟩),
  (166, ⟨.slice 169, 1, 24, [.slice none 0 0], false⟩),
  (169, ⟨.struct [(40, 0, 2), (40, 2, 2)], 4, 32, [.int .i64 0, .int .i64 0, .int .i64 0, .int .i64 0], true⟩)]
theorem ttok : TTok Tryz.prog (ttOf tys) := tts_ok (by kernel_rfl) (by simp [tys]; exact ⟨v40, v66, v90, v169⟩)
theorem ty3 : ttOf tys 3 = some ⟨.int .i64, 1, 8, [.int .i64 0], false⟩ := rfl
theorem ty4 : ttOf tys 4 = some ⟨.bool, 1, 1, [.bool false], false⟩ := rfl
theorem ty5 : ttOf tys 5 = some ⟨.int .u8, 1, 1, [.int .u8 0], false⟩ := rfl
theorem ty22 : ttOf tys 22 = some ⟨.slice 5, 1, 24, [.slice none 0 0], false⟩ := rfl
theorem ty23 : ttOf tys 23 = some ⟨.slice 45, 1, 24, [.slice none 0 0], false⟩ := rfl
theorem ty25 : ttOf tys 25 = some ⟨.struct [(3, 0, 1), (3, 1, 1), (23, 2, 1)], 3, 40, [.int .i64 0, .int .i64 0, .slice none 0 0], false⟩ := rfl
theorem ty26 : ttOf tys 26 = some ⟨.slice 81, 1, 24, [.slice none 0 0], false⟩ := rfl
theorem ty29 : ttOf tys 29 = some ⟨.slice 66, 1, 24, [.slice none 0 0], false⟩ := rfl
theorem ty31 : ttOf tys 31 = some ⟨.struct [(3, 0, 1), (3, 1, 1), (29, 2, 1)], 3, 40, [.int .i64 0, .int .i64 0, .slice none 0 0], false⟩ := rfl
theorem ty38 : ttOf tys 38 = some ⟨.slice 133, 1, 24, [.slice none 0 0], false⟩ := rfl
theorem ty40 : ttOf tys 40 = some ⟨.struct [(3, 0, 1), (3, 1, 1)], 2, 16, [.int .i64 0, .int .i64 0], true⟩ := rfl
theorem ty41 : ttOf tys 41 = some ⟨.slice 145, 1, 24, [.slice none 0 0], false⟩ := rfl
theorem ty43 : ttOf tys 43 = some ⟨.struct [(40, 0, 2), (40, 2, 2), (41, 4, 1)], 5, 56, [.int .i64 0, .int .i64 0, .int .i64 0, .int .i64 0, .slice none 0 0], false⟩ := rfl
theorem ty45 : ttOf tys 45 = some ⟨.struct [(38, 0, 1), (3, 1, 1), (43, 2, 5)], 7, 88, [.slice none 0 0, .int .i64 0, .int .i64 0, .int .i64 0, .int .i64 0, .int .i64 0, .slice none 0 0], false⟩ := rfl
theorem ty49 : ttOf tys 49 = some ⟨.other, 1, 8, [.pointer none], false⟩ := rfl
theorem ty56 : ttOf tys 56 = some ⟨.other, 1, 8, [.nilFunc], false⟩ := rfl
theorem ty58 : ttOf tys 58 = some ⟨.slice 61, 1, 24, [.slice none 0 0], false⟩ := rfl
theorem ty61 : ttOf tys 61 = some ⟨.struct [(3, 0, 1), (3, 1, 1)], 2, 16, [.int .i64 0, .int .i64 0], false⟩ := rfl
theorem ty66 : ttOf tys 66 = some ⟨.struct [(3, 0, 1), (3, 1, 1), (3, 2, 1), (3, 3, 1)], 4, 32, [.int .i64 0, .int .i64 0, .int .i64 0, .int .i64 0], true⟩ := rfl
theorem ty70 : ttOf tys 70 = some ⟨.slice 3, 1, 24, [.slice none 0 0], false⟩ := rfl
theorem ty73 : ttOf tys 73 = some ⟨.other, 1, 8, [.nilFunc], false⟩ := rfl
theorem ty76 : ttOf tys 76 = some ⟨.struct [(22, 0, 1), (3, 1, 1)], 2, 32, [.slice none 0 0, .int .i64 0], false⟩ := rfl
theorem ty81 : ttOf tys 81 = some ⟨.struct [(3, 0, 1), (3, 1, 1)], 2, 16, [.int .i64 0, .int .i64 0], false⟩ := rfl
theorem ty86 : ttOf tys 86 = some ⟨.other, 1, 8, [.nilFunc], false⟩ := rfl
theorem ty87 : ttOf tys 87 = some ⟨.slice 70, 1, 24, [.slice none 0 0], false⟩ := rfl
theorem ty90 : ttOf tys 90 = some ⟨.struct [(3, 0, 1), (3, 1, 1), (3, 2, 1), (3, 3, 1)], 4, 32, [.int .i64 0, .int .i64 0, .int .i64 0, .int .i64 0], true⟩ := rfl
theorem ty94 : ttOf tys 94 = some ⟨.slice 120, 1, 24, [.slice none 0 0], false⟩ := rfl
theorem ty105 : ttOf tys 105 = some ⟨.slice 129, 1, 24, [.slice none 0 0], false⟩ := rfl
theorem ty120 : ttOf tys 120 = some ⟨.struct [(70, 0, 1), (3, 1, 1), (3, 2, 1)], 3, 40, [.slice none 0 0, .int .i64 0, .int .i64 0], false⟩ := rfl
theorem ty129 : ttOf tys 129 = some ⟨.slice 40, 1, 24, [.slice none 0 0], false⟩ := rfl
theorem ty133 : ttOf tys 133 = some ⟨.struct [(3, 0, 1), (129, 1, 1)], 2, 32, [.int .i64 0, .slice none 0 0], false⟩ := rfl
theorem ty137 : ttOf tys 137 = some ⟨.other, 1, 8, [.nilFunc], false⟩ := rfl
theorem ty145 : ttOf tys 145 = some ⟨.struct [(3, 0, 1), (66, 1, 4)], 5, 40, [.int .i64 0, .int .i64 0, .int .i64 0, .int .i64 0, .int .i64 0], false⟩ := rfl
theorem ty166 : ttOf tys 166 = some ⟨.slice 169, 1, 24, [.slice none 0 0], false⟩ := rfl
theorem ty169 : ttOf tys 169 = some ⟨.struct [(40, 0, 2), (40, 2, 2)], 4, 32, [.int .i64 0, .int .i64 0, .int .i64 0, .int .i64 0], true⟩ := rfl
attribute [go_sem] ty3 ty4 ty5 ty22 ty23 ty25 ty26 ty29 ty31 ty38 ty40 ty41 ty43 ty45 ty49 ty56 ty58 ty61 ty66 ty70 ty73 ty76 ty81 ty86 ty87 ty90 ty94 ty105 ty120 ty129
attribute [go_sem] ty133 ty137 ty145 ty166 ty169
structure Pt where
  x : Int
  y : Int
deriving DecidableEq, Inhabited
def ptC (x : Pt) : List C := C.v (.int .i64 x.x) :: [C.v (.int .i64 x.y)]
def ptCd : List C → Option Pt
  | [.v (.int .i64 x0), .v (.int .i64 y0)] => some ⟨x0, y0⟩
  | _ => none
theorem ptC_dec (k : Pt) : ptCd (ptC k) = some k := rfl
theorem ptC_wk (k : Pt) : wkCs (ptC k) = ptC k := by simp [ptC, wkCs, wkC, List.cons_append, List.nil_append]
theorem ptC_wks (l : List Pt) : wkEs (l.map ptC) = l.map ptC := by simp [wkEs_map, ptC_wk]
theorem ptC_ds (l : List Pt) : decAll ptCd (l.map ptC) = some l := decAll_map (g := ptC) ptC_dec l
theorem ptC_len (k : Pt) : (ptC k).length = 2 := rfl
theorem ptC_takeN (k : Pt) : List.take 2 (ptC k) = ptC k := rfl
theorem ptC_takeA (k : Pt) (l : List C) : List.take 2 (ptC k ++ l) = ptC k := rfl
theorem ptC_dropA (k : Pt) (l : List C) : List.drop 2 (ptC k ++ l) = l := rfl
theorem ptC_takeB (k : Pt) (m : Nat) (l : List C) : List.take (m + 2) (ptC k ++ l) = ptC k ++ List.take m l := rfl
theorem ptC_dropB (k : Pt) (m : Nat) (l : List C) : List.drop (m + 2) (ptC k ++ l) = List.drop m l := rfl
theorem ptC_dropN (k : Pt) : List.drop 2 (ptC k) = [] := rfl
theorem ptC_all (l : List Pt) : (∀ e ∈ l.map ptC, e.length = 2) = True := all_len ptC_len l
theorem ptC_strip (k : Pt) : List.map strip (ptC k) = ptC k := rfl
theorem ptC_seal (s : St) (k : Pt) : List.map (sealC s) (ptC k) = ptC k := rfl
theorem ptC_ren (s : St) (i : List Nat) (k : Pt) : List.map (renC s i) (ptC k) = ptC k := rfl
theorem ptC_exp (s : St) (i : List Nat) (k : Pt) : List.map (expC s i) (ptC k) = ptC k := rfl
theorem ptC_map (f : Nat → Nat) (k : Pt) : List.map (mapC f) (ptC k) = ptC k := rfl
theorem ptC_gat (s : St) (i : List Nat) (k : Pt) : gather s 64 i (ptC k) = i := rfl
theorem ptC_rok (s : St) (l i : List Nat) (k : Pt) : renOks s l i (ptC k) = True := eq_true (by repeat' constructor)
theorem ptC_row (k : Pt) : rowIds (ptC k) = [] := rfl
theorem ptC_eok (s : St) (i : List Nat) (k : Pt) : expOks s i (ptC k) = True := eq_true (by repeat' constructor)
theorem ptC_sok (s : St) (k : Pt) : sealOks s (ptC k) = True := eq_true (by repeat' constructor)
theorem ptC_okR (k : Pt) : okRs (ptC k) = True := eq_true (by repeat' constructor)
theorem ptC_okC (k : Pt) : okCs (ptC k) = True := eq_true (by repeat' constructor)
theorem ptC_okR0 (k : Pt) : okR0s (ptC k) = True := eq_true (by repeat' constructor)
theorem ptC_inj (a b : Pt) : (ptC a = ptC b) = (a = b) := by
  refine propext ⟨fun h => ?_, fun h => by rw [h]⟩
  have := congrArg ptCd h
  rw [ptC_dec, ptC_dec] at this
  exact Option.some.inj this
theorem ptC_minj (a b : List Pt) : (a.map ptC = b.map ptC) = (a = b) := by
  refine propext ⟨fun h => ?_, fun h => by rw [h]⟩
  have := congrArg (decAll ptCd) h
  rw [ptC_ds, ptC_ds] at this
  exact Option.some.inj this
theorem ptC_le (s : St) (ρ : List (Nat × Nat)) (hp : List (Nat × Option Box)) (k : Pt) : leCs s ρ hp (ptC k) (ptC k) = True := eq_true (by repeat' first | constructor | (intro h; cases h))
theorem ptC_okV (k : Pt) : ∀ c ∈ ptC k, okV c = true := by
  have : (ptC k).all okV = true := rfl
  exact List.all_eq_true.1 this
theorem ptC_pure (l : List Pt) : pureV (l.map ptC) = True := pureV_map ptC_okV l
theorem ptC_fok (s : St) (i : List Nat) (k : Pt) : flatOks s i (ptC k) = True := eq_true (by repeat' constructor)
theorem ptC_okVT (k : Pt) : (∀ c ∈ ptC k, okV c = true) = True := eq_true (ptC_okV k)
theorem ptC_mk (x1 : Int) (y1 : Int) : ptC ⟨x1, y1⟩ = C.v (.int .i64 x1) :: [C.v (.int .i64 y1)] := rfl
theorem ptC_ex (x1 : Int) (y1 : Int) (Q : Pt → Prop) : (∃ p, C.v (.int .i64 x1) :: [C.v (.int .i64 y1)] = ptC p ∧ Q p) = Q ⟨x1, y1⟩ := by
  rw [← ptC_mk]; simp only [ptC_inj, exists_eq_left']
theorem ptC_t1 (k : Pt) : List.take 1 (ptC k) = [C.v (.int .i64 k.x)] := rfl
theorem ptC_d1 (k : Pt) : List.drop 1 (ptC k) = [C.v (.int .i64 k.y)] := rfl
theorem ptC_ints (k : Pt) : ints (ptC k) = True := eq_true (by repeat' constructor)
theorem ptC_ieq (k l : Pt) : ieq (ptC k) (ptC l) = decide (k = l) := by
  obtain ⟨kx, ky⟩ := k
  obtain ⟨lx, ly⟩ := l
  simp [ptC, ieq, Bool.decide_and, Bool.and_assoc]
structure Edge where
  p : Pt
  q : Pt
deriving DecidableEq, Inhabited
def edC (x : Edge) : List C := ptC x.p ++ (ptC x.q)
def edCd : List C → Option Edge
  | [.v (.int .i64 p0_x), .v (.int .i64 p0_y), .v (.int .i64 q0_x), .v (.int .i64 q0_y)] => some ⟨⟨p0_x, p0_y⟩, ⟨q0_x, q0_y⟩⟩
  | _ => none
theorem edC_dec (k : Edge) : edCd (edC k) = some k := rfl
theorem edC_wk (k : Edge) : wkCs (edC k) = edC k := by simp [edC, wkCs, wkC, List.cons_append, List.nil_append, ptC]
theorem edC_wks (l : List Edge) : wkEs (l.map edC) = l.map edC := by simp [wkEs_map, edC_wk]
theorem edC_ds (l : List Edge) : decAll edCd (l.map edC) = some l := decAll_map (g := edC) edC_dec l
theorem edC_len (k : Edge) : (edC k).length = 4 := rfl
theorem edC_takeN (k : Edge) : List.take 4 (edC k) = edC k := rfl
theorem edC_takeA (k : Edge) (l : List C) : List.take 4 (edC k ++ l) = edC k := rfl
theorem edC_dropA (k : Edge) (l : List C) : List.drop 4 (edC k ++ l) = l := rfl
theorem edC_takeB (k : Edge) (m : Nat) (l : List C) : List.take (m + 4) (edC k ++ l) = edC k ++ List.take m l := rfl
theorem edC_dropB (k : Edge) (m : Nat) (l : List C) : List.drop (m + 4) (edC k ++ l) = List.drop m l := rfl
theorem edC_dropN (k : Edge) : List.drop 4 (edC k) = [] := rfl
theorem edC_all (l : List Edge) : (∀ e ∈ l.map edC, e.length = 4) = True := all_len edC_len l
theorem edC_strip (k : Edge) : List.map strip (edC k) = edC k := rfl
theorem edC_seal (s : St) (k : Edge) : List.map (sealC s) (edC k) = edC k := rfl
theorem edC_ren (s : St) (i : List Nat) (k : Edge) : List.map (renC s i) (edC k) = edC k := rfl
theorem edC_exp (s : St) (i : List Nat) (k : Edge) : List.map (expC s i) (edC k) = edC k := rfl
theorem edC_map (f : Nat → Nat) (k : Edge) : List.map (mapC f) (edC k) = edC k := rfl
theorem edC_gat (s : St) (i : List Nat) (k : Edge) : gather s 64 i (edC k) = i := rfl
theorem edC_rok (s : St) (l i : List Nat) (k : Edge) : renOks s l i (edC k) = True := eq_true (by repeat' constructor)
theorem edC_row (k : Edge) : rowIds (edC k) = [] := rfl
theorem edC_eok (s : St) (i : List Nat) (k : Edge) : expOks s i (edC k) = True := eq_true (by repeat' constructor)
theorem edC_sok (s : St) (k : Edge) : sealOks s (edC k) = True := eq_true (by repeat' constructor)
theorem edC_okR (k : Edge) : okRs (edC k) = True := eq_true (by repeat' constructor)
theorem edC_okC (k : Edge) : okCs (edC k) = True := eq_true (by repeat' constructor)
theorem edC_okR0 (k : Edge) : okR0s (edC k) = True := eq_true (by repeat' constructor)
theorem edC_inj (a b : Edge) : (edC a = edC b) = (a = b) := by
  refine propext ⟨fun h => ?_, fun h => by rw [h]⟩
  have := congrArg edCd h
  rw [edC_dec, edC_dec] at this
  exact Option.some.inj this
theorem edC_minj (a b : List Edge) : (a.map edC = b.map edC) = (a = b) := by
  refine propext ⟨fun h => ?_, fun h => by rw [h]⟩
  have := congrArg (decAll edCd) h
  rw [edC_ds, edC_ds] at this
  exact Option.some.inj this
theorem edC_le (s : St) (ρ : List (Nat × Nat)) (hp : List (Nat × Option Box)) (k : Edge) : leCs s ρ hp (edC k) (edC k) = True := eq_true (by repeat' first | constructor | (intro h; cases h))
theorem edC_okV (k : Edge) : ∀ c ∈ edC k, okV c = true := by
  have : (edC k).all okV = true := rfl
  exact List.all_eq_true.1 this
theorem edC_pure (l : List Edge) : pureV (l.map edC) = True := pureV_map edC_okV l
theorem edC_fok (s : St) (i : List Nat) (k : Edge) : flatOks s i (edC k) = True := eq_true (by repeat' constructor)
theorem edC_okVT (k : Edge) : (∀ c ∈ edC k, okV c = true) = True := eq_true (edC_okV k)
theorem edC_fold (p1 : Pt) (q1 : Pt) : ptC p1 ++ (ptC q1) = edC ⟨p1, q1⟩ := rfl
theorem edC_t1 (k : Edge) : List.take 1 (edC k) = [C.v (.int .i64 k.p.x)] := rfl
theorem edC_d1 (k : Edge) : List.drop 1 (edC k) = C.v (.int .i64 k.p.y) :: ptC k.q := rfl
theorem edC_t2 (k : Edge) : List.take 2 (edC k) = ptC k.p := rfl
theorem edC_d2 (k : Edge) : List.drop 2 (edC k) = ptC k.q := rfl
theorem edC_t3 (k : Edge) : List.take 3 (edC k) = ptC k.p ++ ([C.v (.int .i64 k.q.x)]) := rfl
theorem edC_d3 (k : Edge) : List.drop 3 (edC k) = [C.v (.int .i64 k.q.y)] := rfl
theorem edC_ints (k : Edge) : ints (edC k) = True := eq_true (by repeat' constructor)
theorem edC_ieq (k l : Edge) : ieq (edC k) (edC l) = decide (k = l) := by
  obtain ⟨⟨kpx, kpy⟩, ⟨kqx, kqy⟩⟩ := k
  obtain ⟨⟨lpx, lpy⟩, ⟨lqx, lqy⟩⟩ := l
  simp [edC, ptC, ieq, Bool.decide_and, Bool.and_assoc]
structure Bx where
  l : Int
  t : Int
  r : Int
  b : Int
deriving DecidableEq, Inhabited
def bxC (x : Bx) : List C := C.v (.int .i64 x.l) :: C.v (.int .i64 x.t) :: C.v (.int .i64 x.r) :: [C.v (.int .i64 x.b)]
def bxCd : List C → Option Bx
  | [.v (.int .i64 l0), .v (.int .i64 t0), .v (.int .i64 r0), .v (.int .i64 b0)] => some ⟨l0, t0, r0, b0⟩
  | _ => none
theorem bxC_dec (k : Bx) : bxCd (bxC k) = some k := rfl
theorem bxC_wk (k : Bx) : wkCs (bxC k) = bxC k := by simp [bxC, wkCs, wkC, List.cons_append, List.nil_append]
theorem bxC_wks (l : List Bx) : wkEs (l.map bxC) = l.map bxC := by simp [wkEs_map, bxC_wk]
theorem bxC_ds (l : List Bx) : decAll bxCd (l.map bxC) = some l := decAll_map (g := bxC) bxC_dec l
theorem bxC_len (k : Bx) : (bxC k).length = 4 := rfl
theorem bxC_takeN (k : Bx) : List.take 4 (bxC k) = bxC k := rfl
theorem bxC_takeA (k : Bx) (l : List C) : List.take 4 (bxC k ++ l) = bxC k := rfl
theorem bxC_dropA (k : Bx) (l : List C) : List.drop 4 (bxC k ++ l) = l := rfl
theorem bxC_takeB (k : Bx) (m : Nat) (l : List C) : List.take (m + 4) (bxC k ++ l) = bxC k ++ List.take m l := rfl
theorem bxC_dropB (k : Bx) (m : Nat) (l : List C) : List.drop (m + 4) (bxC k ++ l) = List.drop m l := rfl
theorem bxC_dropN (k : Bx) : List.drop 4 (bxC k) = [] := rfl
theorem bxC_all (l : List Bx) : (∀ e ∈ l.map bxC, e.length = 4) = True := all_len bxC_len l
theorem bxC_strip (k : Bx) : List.map strip (bxC k) = bxC k := rfl
theorem bxC_seal (s : St) (k : Bx) : List.map (sealC s) (bxC k) = bxC k := rfl
theorem bxC_ren (s : St) (i : List Nat) (k : Bx) : List.map (renC s i) (bxC k) = bxC k := rfl
theorem bxC_exp (s : St) (i : List Nat) (k : Bx) : List.map (expC s i) (bxC k) = bxC k := rfl
theorem bxC_map (f : Nat → Nat) (k : Bx) : List.map (mapC f) (bxC k) = bxC k := rfl
theorem bxC_gat (s : St) (i : List Nat) (k : Bx) : gather s 64 i (bxC k) = i := rfl
theorem bxC_rok (s : St) (l i : List Nat) (k : Bx) : renOks s l i (bxC k) = True := eq_true (by repeat' constructor)
theorem bxC_row (k : Bx) : rowIds (bxC k) = [] := rfl
theorem bxC_eok (s : St) (i : List Nat) (k : Bx) : expOks s i (bxC k) = True := eq_true (by repeat' constructor)
theorem bxC_sok (s : St) (k : Bx) : sealOks s (bxC k) = True := eq_true (by repeat' constructor)
theorem bxC_okR (k : Bx) : okRs (bxC k) = True := eq_true (by repeat' constructor)
theorem bxC_okC (k : Bx) : okCs (bxC k) = True := eq_true (by repeat' constructor)
theorem bxC_okR0 (k : Bx) : okR0s (bxC k) = True := eq_true (by repeat' constructor)
theorem bxC_inj (a b : Bx) : (bxC a = bxC b) = (a = b) := by
  refine propext ⟨fun h => ?_, fun h => by rw [h]⟩
  have := congrArg bxCd h
  rw [bxC_dec, bxC_dec] at this
  exact Option.some.inj this
theorem bxC_minj (a b : List Bx) : (a.map bxC = b.map bxC) = (a = b) := by
  refine propext ⟨fun h => ?_, fun h => by rw [h]⟩
  have := congrArg (decAll bxCd) h
  rw [bxC_ds, bxC_ds] at this
  exact Option.some.inj this
theorem bxC_le (s : St) (ρ : List (Nat × Nat)) (hp : List (Nat × Option Box)) (k : Bx) : leCs s ρ hp (bxC k) (bxC k) = True := eq_true (by repeat' first | constructor | (intro h; cases h))
theorem bxC_okV (k : Bx) : ∀ c ∈ bxC k, okV c = true := by
  have : (bxC k).all okV = true := rfl
  exact List.all_eq_true.1 this
theorem bxC_pure (l : List Bx) : pureV (l.map bxC) = True := pureV_map bxC_okV l
theorem bxC_fok (s : St) (i : List Nat) (k : Bx) : flatOks s i (bxC k) = True := eq_true (by repeat' constructor)
theorem bxC_okVT (k : Bx) : (∀ c ∈ bxC k, okV c = true) = True := eq_true (bxC_okV k)
theorem bxC_mk (l1 : Int) (t1 : Int) (r1 : Int) (b1 : Int) : bxC ⟨l1, t1, r1, b1⟩ = C.v (.int .i64 l1) :: C.v (.int .i64 t1) :: C.v (.int .i64 r1) :: [C.v (.int .i64 b1)] := rfl
theorem bxC_ex (l1 : Int) (t1 : Int) (r1 : Int) (b1 : Int) (Q : Bx → Prop) : (∃ p, C.v (.int .i64 l1) :: C.v (.int .i64 t1) :: C.v (.int .i64 r1) :: [C.v (.int .i64 b1)] = bxC p ∧ Q p) = Q ⟨l1, t1, r1, b1⟩ := by
  rw [← bxC_mk]; simp only [bxC_inj, exists_eq_left']
theorem bxC_t1 (k : Bx) : List.take 1 (bxC k) = [C.v (.int .i64 k.l)] := rfl
theorem bxC_d1 (k : Bx) : List.drop 1 (bxC k) = C.v (.int .i64 k.t) :: C.v (.int .i64 k.r) :: [C.v (.int .i64 k.b)] := rfl
theorem bxC_t2 (k : Bx) : List.take 2 (bxC k) = C.v (.int .i64 k.l) :: [C.v (.int .i64 k.t)] := rfl
theorem bxC_d2 (k : Bx) : List.drop 2 (bxC k) = C.v (.int .i64 k.r) :: [C.v (.int .i64 k.b)] := rfl
theorem bxC_t3 (k : Bx) : List.take 3 (bxC k) = C.v (.int .i64 k.l) :: C.v (.int .i64 k.t) :: [C.v (.int .i64 k.r)] := rfl
theorem bxC_d3 (k : Bx) : List.drop 3 (bxC k) = [C.v (.int .i64 k.b)] := rfl
theorem bxC_ints (k : Bx) : ints (bxC k) = True := eq_true (by repeat' constructor)
theorem bxC_ieq (k l : Bx) : ieq (bxC k) (bxC l) = decide (k = l) := by
  obtain ⟨kl, kt, kr, kb⟩ := k
  obtain ⟨ll, lt, lr, lb⟩ := l
  simp [bxC, ieq, Bool.decide_and, Bool.and_assoc]
def lptC (x : List Pt) : List C := [.sl false (x.map ptC)]
def lptCd : List C → Option (List Pt)
  | [.sl _ es] => decAll ptCd es
  | _ => none
theorem lptC_dec (k : List Pt) : lptCd (lptC k) = some k := ptC_ds k
theorem lptC_wk (k : List Pt) : wkCs (lptC k) = lptC k := by simp [lptC, wkCs, wkC, ptC_wks]
theorem lptC_wks (l : List (List Pt)) : wkEs (l.map lptC) = l.map lptC := by simp [wkEs_map, lptC_wk]
theorem lptC_ds (l : List (List Pt)) : decAll lptCd (l.map lptC) = some l := decAll_map (g := lptC) lptC_dec l
theorem lptC_len (k : (List Pt)) : (lptC k).length = 1 := rfl
theorem lptC_takeN (k : (List Pt)) : List.take 1 (lptC k) = lptC k := rfl
theorem lptC_takeA (k : (List Pt)) (l : List C) : List.take 1 (lptC k ++ l) = lptC k := rfl
theorem lptC_dropA (k : (List Pt)) (l : List C) : List.drop 1 (lptC k ++ l) = l := rfl
theorem lptC_takeB (k : (List Pt)) (m : Nat) (l : List C) : List.take (m + 1) (lptC k ++ l) = lptC k ++ List.take m l := rfl
theorem lptC_dropB (k : (List Pt)) (m : Nat) (l : List C) : List.drop (m + 1) (lptC k ++ l) = List.drop m l := rfl
theorem lptC_dropN (k : (List Pt)) : List.drop 1 (lptC k) = [] := rfl
theorem lptC_all (l : List (List Pt)) : (∀ e ∈ l.map lptC, e.length = 1) = True := all_len lptC_len l
theorem lptC_strip (k : (List Pt)) : List.map strip (lptC k) = lptC k := rfl
theorem lptC_seal (s : St) (k : (List Pt)) : List.map (sealC s) (lptC k) = lptC k := rfl
theorem lptC_ren (s : St) (i : List Nat) (k : (List Pt)) : List.map (renC s i) (lptC k) = lptC k := rfl
theorem lptC_exp (s : St) (i : List Nat) (k : (List Pt)) : List.map (expC s i) (lptC k) = lptC k := rfl
theorem lptC_map (f : Nat → Nat) (k : (List Pt)) : List.map (mapC f) (lptC k) = lptC k := rfl
theorem lptC_gat (s : St) (i : List Nat) (k : (List Pt)) : gather s 64 i (lptC k) = i := rfl
theorem lptC_rok (s : St) (l i : List Nat) (k : (List Pt)) : renOks s l i (lptC k) = True := eq_true (by repeat' constructor)
theorem lptC_row (k : (List Pt)) : rowIds (lptC k) = [] := rfl
theorem lptC_eok (s : St) (i : List Nat) (k : (List Pt)) : expOks s i (lptC k) = True := eq_true (by repeat' constructor)
theorem lptC_sok (s : St) (k : (List Pt)) : sealOks s (lptC k) = True := eq_true (by repeat' constructor)
theorem lptC_okR (k : (List Pt)) : okRs (lptC k) = True := eq_true (by repeat' constructor)
theorem lptC_okC (k : (List Pt)) : okCs (lptC k) = True := eq_true (by repeat' constructor)
theorem lptC_okR0 (k : (List Pt)) : okR0s (lptC k) = True := eq_true (by repeat' constructor)
theorem lptC_inj (a b : (List Pt)) : (lptC a = lptC b) = (a = b) := by
  refine propext ⟨fun h => ?_, fun h => by rw [h]⟩
  have := congrArg lptCd h
  rw [lptC_dec, lptC_dec] at this
  exact Option.some.inj this
theorem lptC_minj (a b : List (List Pt)) : (a.map lptC = b.map lptC) = (a = b) := by
  refine propext ⟨fun h => ?_, fun h => by rw [h]⟩
  have := congrArg (decAll lptCd) h
  rw [lptC_ds, lptC_ds] at this
  exact Option.some.inj this
theorem lptC_le (s : St) (ρ : List (Nat × Nat)) (hp : List (Nat × Option Box)) (k : (List Pt)) : leCs s ρ hp (lptC k) (lptC k) = True := eq_true (by repeat' first | constructor | (intro h; cases h))
structure Verb where
  k : Int
  ps : List Pt
deriving DecidableEq, Inhabited
def vbC (x : Verb) : List C := C.v (.int .i64 x.k) :: [C.sl false (x.ps.map ptC)]
def vbCd : List C → Option Verb
  | [.v (.int .i64 k0), .sl _ ps0] => match decAll ptCd ps0 with
    | some ps0L => some ⟨k0, ps0L⟩
    | _ => none
  | _ => none
theorem vbC_dec (k : Verb) : vbCd (vbC k) = some k := by
  simp [vbC, vbCd, ptC_ds]
theorem vbC_wk (k : Verb) : wkCs (vbC k) = vbC k := by simp [vbC, wkCs, wkC, List.cons_append, List.nil_append, ptC_wks]
theorem vbC_wks (l : List Verb) : wkEs (l.map vbC) = l.map vbC := by simp [wkEs_map, vbC_wk]
theorem vbC_ds (l : List Verb) : decAll vbCd (l.map vbC) = some l := decAll_map (g := vbC) vbC_dec l
theorem vbC_len (k : Verb) : (vbC k).length = 2 := rfl
theorem vbC_takeN (k : Verb) : List.take 2 (vbC k) = vbC k := rfl
theorem vbC_takeA (k : Verb) (l : List C) : List.take 2 (vbC k ++ l) = vbC k := rfl
theorem vbC_dropA (k : Verb) (l : List C) : List.drop 2 (vbC k ++ l) = l := rfl
theorem vbC_takeB (k : Verb) (m : Nat) (l : List C) : List.take (m + 2) (vbC k ++ l) = vbC k ++ List.take m l := rfl
theorem vbC_dropB (k : Verb) (m : Nat) (l : List C) : List.drop (m + 2) (vbC k ++ l) = List.drop m l := rfl
theorem vbC_dropN (k : Verb) : List.drop 2 (vbC k) = [] := rfl
theorem vbC_all (l : List Verb) : (∀ e ∈ l.map vbC, e.length = 2) = True := all_len vbC_len l
theorem vbC_strip (k : Verb) : List.map strip (vbC k) = vbC k := rfl
theorem vbC_seal (s : St) (k : Verb) : List.map (sealC s) (vbC k) = vbC k := rfl
theorem vbC_ren (s : St) (i : List Nat) (k : Verb) : List.map (renC s i) (vbC k) = vbC k := rfl
theorem vbC_exp (s : St) (i : List Nat) (k : Verb) : List.map (expC s i) (vbC k) = vbC k := rfl
theorem vbC_map (f : Nat → Nat) (k : Verb) : List.map (mapC f) (vbC k) = vbC k := rfl
theorem vbC_gat (s : St) (i : List Nat) (k : Verb) : gather s 64 i (vbC k) = i := rfl
theorem vbC_rok (s : St) (l i : List Nat) (k : Verb) : renOks s l i (vbC k) = True := eq_true (by repeat' constructor)
theorem vbC_row (k : Verb) : rowIds (vbC k) = [] := rfl
theorem vbC_eok (s : St) (i : List Nat) (k : Verb) : expOks s i (vbC k) = True := eq_true (by repeat' constructor)
theorem vbC_sok (s : St) (k : Verb) : sealOks s (vbC k) = True := eq_true (by repeat' constructor)
theorem vbC_okR (k : Verb) : okRs (vbC k) = True := eq_true (by repeat' constructor)
theorem vbC_okC (k : Verb) : okCs (vbC k) = True := eq_true (by repeat' constructor)
theorem vbC_okR0 (k : Verb) : okR0s (vbC k) = True := eq_true (by repeat' constructor)
theorem vbC_inj (a b : Verb) : (vbC a = vbC b) = (a = b) := by
  refine propext ⟨fun h => ?_, fun h => by rw [h]⟩
  have := congrArg vbCd h
  rw [vbC_dec, vbC_dec] at this
  exact Option.some.inj this
theorem vbC_minj (a b : List Verb) : (a.map vbC = b.map vbC) = (a = b) := by
  refine propext ⟨fun h => ?_, fun h => by rw [h]⟩
  have := congrArg (decAll vbCd) h
  rw [vbC_ds, vbC_ds] at this
  exact Option.some.inj this
theorem vbC_le (s : St) (ρ : List (Nat × Nat)) (hp : List (Nat × Option Box)) (k : Verb) : leCs s ρ hp (vbC k) (vbC k) = True := eq_true (by repeat' first | constructor | (intro h; cases h))
theorem vbC_mk (k1 : Int) (ps1 : List Pt) : vbC ⟨k1, ps1⟩ = C.v (.int .i64 k1) :: [C.sl false (ps1.map ptC)] := rfl
theorem vbC_ex (k1 : Int) (ps1 : List Pt) (Q : Verb → Prop) : (∃ p, C.v (.int .i64 k1) :: [C.sl false (ps1.map ptC)] = vbC p ∧ Q p) = Q ⟨k1, ps1⟩ := by
  rw [← vbC_mk]; simp only [vbC_inj, exists_eq_left']
theorem vbC_t1 (k : Verb) : List.take 1 (vbC k) = [C.v (.int .i64 k.k)] := rfl
theorem vbC_d1 (k : Verb) : List.drop 1 (vbC k) = [C.sl false (k.ps.map ptC)] := rfl
attribute [go_sem] ptC_le ptC_inj ptC_minj ptC_dec ptC_ds ptC_len ptC_takeN ptC_takeA ptC_dropA ptC_takeB ptC_dropB ptC_dropN ptC_all ptC_strip ptC_seal ptC_ren ptC_exp ptC_map ptC_gat ptC_rok ptC_row ptC_eok ptC_sok ptC_okR ptC_okR0 ptC_okC ptC_wk ptC_wks ptC_pure ptC_fok
attribute [go_sem] ptC_okVT ptC_mk ptC_ex ptCd.eq_1 ptC_t1 ptC_d1 ptC_ints ptC_ieq Pt.mk.injEq edC_le edC_inj edC_minj edC_dec edC_ds edC_len edC_takeN edC_takeA edC_dropA edC_takeB edC_dropB edC_dropN edC_all edC_strip edC_seal edC_ren edC_exp edC_map edC_gat edC_rok edC_row
attribute [go_sem] edC_eok edC_sok edC_okR edC_okR0 edC_okC edC_wk edC_wks edC_pure edC_fok edC_okVT edC_fold edC_t1 edC_d1 edC_t2 edC_d2 edC_t3 edC_d3 edC_ints edC_ieq Edge.mk.injEq bxC_le bxC_inj bxC_minj bxC_dec bxC_ds bxC_len bxC_takeN bxC_takeA bxC_dropA bxC_takeB
attribute [go_sem] bxC_dropB bxC_dropN bxC_all bxC_strip bxC_seal bxC_ren bxC_exp bxC_map bxC_gat bxC_rok bxC_row bxC_eok bxC_sok bxC_okR bxC_okR0 bxC_okC bxC_wk bxC_wks bxC_pure bxC_fok bxC_okVT bxC_mk bxC_ex bxCd.eq_1 bxC_t1 bxC_d1 bxC_t2 bxC_d2 bxC_t3 bxC_d3
attribute [go_sem] bxC_ints bxC_ieq Bx.mk.injEq
attribute [go_sem] lptC_le lptC_inj lptC_minj lptC_dec lptC_ds lptC_len lptC_takeN lptC_takeA lptC_dropA
attribute [go_sem] lptC_takeB lptC_dropB lptC_dropN lptC_all lptC_strip lptC_seal lptC_ren lptC_exp lptC_map lptC_gat lptC_rok lptC_row lptC_eok lptC_sok lptC_okR lptC_okR0 lptC_okC lptC_wk lptC_wks lptC lptCd.eq_1 vbC_le vbC_inj vbC_minj vbC_dec vbC_ds vbC_len vbC_takeN vbC_takeA vbC_dropA
attribute [go_sem] vbC_takeB vbC_dropB vbC_dropN vbC_all vbC_strip vbC_seal vbC_ren vbC_exp vbC_map vbC_gat vbC_rok vbC_row vbC_eok vbC_sok vbC_okR vbC_okR0 vbC_okC vbC_wk vbC_wks vbC_mk vbC_ex vbCd.eq_1 vbC_t1 vbC_d1 Verb.mk.injEq
def d_i_i_i : List AV → Option (Int × Int × Int)
  | [.c (.v (.int .i64 a0)), .c (.v (.int .i64 a1)), .c (.v (.int .i64 a2))] => some (a0, a1, a2)
  | _ => none
def d_i : List AV → Option (Int)
  | [.c (.v (.int .i64 a0))] => some (a0)
  | _ => none
def d_pt : List AV → Option (Pt)
  | [.agg a0] => match ptCd a0 with
    | some a0v => some (a0v)
    | _ => none
  | _ => none
def d_lpt_f150 : List AV → Option ((List Pt))
  | [.c (.sl _ a0), .c (.fn a1 [])] => match decAll ptCd a0, (if a1 = 150 then some () else none) with
    | some a0v, some u1 => some (a0v)
    | _, _ => none
  | _ => none
def d_lpt : List AV → Option ((List Pt))
  | [.c (.sl _ a0)] => match decAll ptCd a0 with
    | some a0v => some (a0v)
    | _ => none
  | _ => none
def d_llpt : List AV → Option ((List (List Pt)))
  | [.c (.sl _ a0)] => match decAll lptCd a0 with
    | some a0v => some (a0v)
    | _ => none
  | _ => none
def d_i_i : List AV → Option (Int × Int)
  | [.c (.v (.int .i64 a0)), .c (.v (.int .i64 a1))] => some (a0, a1)
  | _ => none
def d_b : List AV → Option (Bool)
  | [.c (.v (.bool a0))] => some (a0)
  | _ => none
def d_ed_i : List AV → Option (Edge × Int)
  | [.agg a0, .c (.v (.int .i64 a1))] => match edCd a0 with
    | some a0v => some (a0v, a1)
    | _ => none
  | _ => none
def d_ed_i_i : List AV → Option (Edge × Int × Int)
  | [.agg a0, .c (.v (.int .i64 a1)), .c (.v (.int .i64 a2))] => match edCd a0 with
    | some a0v => some (a0v, a1, a2)
    | _ => none
  | _ => none
def d_pt_pt_i_i : List AV → Option (Pt × Pt × Int × Int)
  | [.agg a0, .agg a1, .c (.v (.int .i64 a2)), .c (.v (.int .i64 a3))] => match ptCd a0, ptCd a1 with
    | some a0v, some a1v => some (a0v, a1v, a2, a3)
    | _, _ => none
  | _ => none
def d_pt_pt : List AV → Option (Pt × Pt)
  | [.agg a0, .agg a1] => match ptCd a0, ptCd a1 with
    | some a0v, some a1v => some (a0v, a1v)
    | _, _ => none
  | _ => none
def d_r_i : List AV → Option (Int)
  | [.c .rdr, .c (.v (.int .i64 a1))] => some (a1)
  | _ => none
def d_r_li : List AV → Option ((List Int))
  | [.c .rdr, .c (.sl _ a1)] => match decAll intCd a1 with
    | some a1v => some (a1v)
    | _ => none
  | _ => none
def d_r : List AV → Option (Unit)
  | [.c .rdr] => some ()
  | _ => none
def d_bx : List AV → Option (Bx)
  | [.agg a0] => match bxCd a0 with
    | some a0v => some (a0v)
    | _ => none
  | _ => none
def d_lpt_i_i : List AV → Option ((List Pt) × Int × Int)
  | [.c (.sl _ a0), .c (.v (.int .i64 a1)), .c (.v (.int .i64 a2))] => match decAll ptCd a0 with
    | some a0v => some (a0v, a1, a2)
    | _ => none
  | _ => none
def d_lvb : List AV → Option ((List Verb))
  | [.c (.sl _ a0)] => match decAll vbCd a0 with
    | some a0v => some (a0v)
    | _ => none
  | _ => none
attribute [go_sem] d_i_i_i d_i d_pt d_lpt_f150 d_lpt d_llpt d_i_i d_b d_ed_i d_ed_i_i d_pt_pt_i_i d_pt_pt d_r_i d_r_li d_r d_bx d_lpt_i_i d_lvb
def d_llpt_i_i : List AV → Option ((List (List Pt)) × Int × Int)
  | [.c (.sl _ a0), .c (.v (.int .i64 a1)), .c (.v (.int .i64 a2))] => match decAll lptCd a0 with
    | some a0v => some (a0v, a1, a2)
    | _ => none
  | _ => none
attribute [go_sem] d_llpt_i_i
def d_llpt_i_i_i : List AV → Option ((List (List Pt)) × Int × Int × Int)
  | [.c (.sl _ a0), .c (.v (.int .i64 a1)), .c (.v (.int .i64 a2)), .c (.v (.int .i64 a3))] => match decAll lptCd a0 with
    | some a0v => some (a0v, a1, a2, a3)
    | _ => none
  | _ => none
attribute [go_sem] d_llpt_i_i_i
def d_ly : List AV → Option ((List UInt8))
  | [.c (.sl _ a0)] => match decAll byD a0 with
    | some a0v => some (a0v)
    | _ => none
  | _ => none
attribute [go_sem] d_ly
end Go.Proofs.YtcejoknapbhloaaGreat
