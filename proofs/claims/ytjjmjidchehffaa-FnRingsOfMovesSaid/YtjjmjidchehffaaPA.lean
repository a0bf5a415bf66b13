/- Contracts of functions of the program vectorraster, each proved for all states that fit its description. No conditions. -/
import Derived.Test.YtjjmjidchehffaaEC
import Derived.Test.YtjjmjidchehffaaRows
set_option linter.unusedSimpArgs false
set_option linter.unusedVariables false
section
set_option maxRecDepth 100000
set_option linter.unusedSimpArgs false
namespace Go.Proofs.Ytjjmjidchehffaa
open Go Go.VE
theorem hm : Try.prog.follows .mixedOrders = true := by kernel_rfl
theorem ti3 : TIok Try.prog 3 ⟨.int .i64, 1, 8, [.int .i64 0], false⟩ := tiB_ok (by kernel_rfl) (fun h => by cases h)
theorem e38 (d : Nat) : EqI Try.prog (d + 2) 38 2 := eqB_ok (l := [(3, 1), (3, 1)]) (by kernel_rfl) (by simp; exact fieldEq_int ti3 rfl)
theorem ti38 : TIok Try.prog 38 ⟨.struct [(3, 0, 1), (3, 1, 1)], 2, 16, [.int .i64 0, .int .i64 0], false⟩ := tiB_ok (by kernel_rfl) (fun h => by cases h)
theorem v38 : EqvOK Try.prog 38 2 := ⟨by kernel_rfl, e38 9998⟩
theorem e40 (d : Nat) : EqI Try.prog (d + 3) 40 4 := eqB_ok (l := [(38, 2), (38, 2)]) (by kernel_rfl) (by simp; exact fieldEq_struct ti38 rfl (e38 _))
theorem ti40 : TIok Try.prog 40 ⟨.struct [(38, 0, 2), (38, 2, 2)], 4, 32, [.int .i64 0, .int .i64 0, .int .i64 0, .int .i64 0], false⟩ := tiB_ok (by kernel_rfl) (fun h => by cases h)
theorem v40 : EqvOK Try.prog 40 4 := ⟨by kernel_rfl, e40 9997⟩
abbrev rt0 : Nat := 95
def tys : List (Nat × TI) := [(3, ⟨.int .i64, 1, 8, [.int .i64 0], false⟩),
  (4, ⟨.bool, 1, 1, [.bool false], false⟩),
  (5, ⟨.int .u8, 1, 1, [.int .u8 0], false⟩),
  (22, ⟨.slice 5, 1, 24, [.slice none 0 0], false⟩),
  (23, ⟨.slice 28, 1, 24, [.slice none 0 0], false⟩),
  (28, ⟨.struct [(3, 0, 1), (3, 1, 1)], 2, 16, [.int .i64 0, .int .i64 0], false⟩),
  (30, ⟨.slice 36, 1, 24, [.slice none 0 0], false⟩),
  (33, ⟨.slice 40, 1, 24, [.slice none 0 0], false⟩),
  (36, ⟨.slice 38, 1, 24, [.slice none 0 0], false⟩),
  (38, ⟨.struct [(3, 0, 1), (3, 1, 1)], 2, 16, [.int .i64 0, .int .i64 0], true⟩),
  (40, ⟨.struct [(38, 0, 2), (38, 2, 2)], 4, 32, [.int .i64 0, .int .i64 0, .int .i64 0, .int .i64 0], true⟩),
  (45, ⟨.slice 51, 1, 24, [.slice none 0 0], false⟩),
  (51, ⟨.struct [(3, 0, 1), (36, 1, 1)], 2, 32, [.int .i64 0, .slice none 0 0], false⟩),
  (63, ⟨.other, 1, 8, [.pointer none], false⟩),
  (67, ⟨.slice 3, 1, 24, [.slice none 0 0], false⟩),
  (72, ⟨.struct [(3, 0, 1), (3, 1, 1), (3, 2, 1), (3, 3, 1)], 4, 32, [.int .i64 0, .int .i64 0, .int .i64 0, .int .i64 0], false⟩),
  (84, ⟨.other, 1, 8, [.nilFunc], false⟩),
  (89, ⟨.other, 1, 8, [.nilFunc], false⟩),
  (95, ⟨.struct [(22, 0, 1), (3, 1, 1)], 2, 32, [.slice none 0 0, .int .i64 0], false⟩),
  (97, ⟨.slice 109, 1, 24, [.slice none 0 0], false⟩),
  (107, ⟨.other, 1, 8, [.nilFunc], false⟩),
  (109, ⟨.struct [(3, 0, 1), (3, 1, 1)], 2, 16, [.int .i64 0, .int .i64 0], false⟩)]
theorem ttok : TTok Try.prog (ttOf tys) := tts_ok (by kernel_rfl) (by simp [tys]; exact ⟨v38, v40⟩)
theorem ty3 : ttOf tys 3 = some ⟨.int .i64, 1, 8, [.int .i64 0], false⟩ := rfl
theorem ty4 : ttOf tys 4 = some ⟨.bool, 1, 1, [.bool false], false⟩ := rfl
theorem ty5 : ttOf tys 5 = some ⟨.int .u8, 1, 1, [.int .u8 0], false⟩ := rfl
theorem ty22 : ttOf tys 22 = some ⟨.slice 5, 1, 24, [.slice none 0 0], false⟩ := rfl
theorem ty23 : ttOf tys 23 = some ⟨.slice 28, 1, 24, [.slice none 0 0], false⟩ := rfl
theorem ty28 : ttOf tys 28 = some ⟨.struct [(3, 0, 1), (3, 1, 1)], 2, 16, [.int .i64 0, .int .i64 0], false⟩ := rfl
theorem ty30 : ttOf tys 30 = some ⟨.slice 36, 1, 24, [.slice none 0 0], false⟩ := rfl
theorem ty33 : ttOf tys 33 = some ⟨.slice 40, 1, 24, [.slice none 0 0], false⟩ := rfl
theorem ty36 : ttOf tys 36 = some ⟨.slice 38, 1, 24, [.slice none 0 0], false⟩ := rfl
theorem ty38 : ttOf tys 38 = some ⟨.struct [(3, 0, 1), (3, 1, 1)], 2, 16, [.int .i64 0, .int .i64 0], true⟩ := rfl
theorem ty40 : ttOf tys 40 = some ⟨.struct [(38, 0, 2), (38, 2, 2)], 4, 32, [.int .i64 0, .int .i64 0, .int .i64 0, .int .i64 0], true⟩ := rfl
theorem ty45 : ttOf tys 45 = some ⟨.slice 51, 1, 24, [.slice none 0 0], false⟩ := rfl
theorem ty51 : ttOf tys 51 = some ⟨.struct [(3, 0, 1), (36, 1, 1)], 2, 32, [.int .i64 0, .slice none 0 0], false⟩ := rfl
theorem ty63 : ttOf tys 63 = some ⟨.other, 1, 8, [.pointer none], false⟩ := rfl
theorem ty67 : ttOf tys 67 = some ⟨.slice 3, 1, 24, [.slice none 0 0], false⟩ := rfl
theorem ty72 : ttOf tys 72 = some ⟨.struct [(3, 0, 1), (3, 1, 1), (3, 2, 1), (3, 3, 1)], 4, 32, [.int .i64 0, .int .i64 0, .int .i64 0, .int .i64 0], false⟩ := rfl
theorem ty84 : ttOf tys 84 = some ⟨.other, 1, 8, [.nilFunc], false⟩ := rfl
theorem ty89 : ttOf tys 89 = some ⟨.other, 1, 8, [.nilFunc], false⟩ := rfl
theorem ty95 : ttOf tys 95 = some ⟨.struct [(22, 0, 1), (3, 1, 1)], 2, 32, [.slice none 0 0, .int .i64 0], false⟩ := rfl
theorem ty97 : ttOf tys 97 = some ⟨.slice 109, 1, 24, [.slice none 0 0], false⟩ := rfl
theorem ty107 : ttOf tys 107 = some ⟨.other, 1, 8, [.nilFunc], false⟩ := rfl
theorem ty109 : ttOf tys 109 = some ⟨.struct [(3, 0, 1), (3, 1, 1)], 2, 16, [.int .i64 0, .int .i64 0], false⟩ := rfl
attribute [go_sem] ty3 ty4 ty5 ty22 ty23 ty28 ty30 ty33 ty36 ty38 ty40 ty45 ty51 ty63 ty67 ty72 ty84 ty89 ty95 ty97 ty107 ty109
end Go.Proofs.Ytjjmjidchehffaa
end
section
set_option maxRecDepth 100000
set_option linter.unusedSimpArgs false
set_option linter.unusedVariables false
namespace Go.Proofs.Ytjjmjidchehffaa
open Go Go.VE

structure Pt where
  x : Int
  y : Int
deriving DecidableEq, Inhabited
def ptC (x : Pt) : List C := C.v (.int .i64 x.x) :: [C.v (.int .i64 x.y)]
def ptCd : List C → Option Pt
  | [.v (.int .i64 x0), .v (.int .i64 y0)] => some ⟨x0, y0⟩
  | _ => none
theorem ptC_dec (k : Pt) : ptCd (ptC k) = some k := rfl
theorem ptC_wk (k : Pt) : wkCs (ptC k) = ptC k := by simp [ptC, wkCs, wkC, List.cons_append, List.nil_append]
theorem ptC_wks (l : List Pt) : wkEs (l.map ptC) = l.map ptC := by simp [wkEs_map, ptC_wk]
theorem ptC_ds (l : List Pt) : decAll ptCd (l.map ptC) = some l := decAll_map (g := ptC) ptC_dec l
theorem ptC_len (k : Pt) : (ptC k).length = 2 := rfl
theorem ptC_takeN (k : Pt) : List.take 2 (ptC k) = ptC k := rfl
theorem ptC_takeA (k : Pt) (l : List C) : List.take 2 (ptC k ++ l) = ptC k := rfl
theorem ptC_dropA (k : Pt) (l : List C) : List.drop 2 (ptC k ++ l) = l := rfl
theorem ptC_takeB (k : Pt) (m : Nat) (l : List C) : List.take (m + 2) (ptC k ++ l) = ptC k ++ List.take m l := rfl
theorem ptC_dropB (k : Pt) (m : Nat) (l : List C) : List.drop (m + 2) (ptC k ++ l) = List.drop m l := rfl
theorem ptC_dropN (k : Pt) : List.drop 2 (ptC k) = [] := rfl
theorem ptC_all (l : List Pt) : (∀ e ∈ l.map ptC, e.length = 2) = True := all_len ptC_len l
theorem ptC_strip (k : Pt) : List.map strip (ptC k) = ptC k := rfl
theorem ptC_seal (s : St) (k : Pt) : List.map (sealC s) (ptC k) = ptC k := rfl
theorem ptC_ren (s : St) (i : List Nat) (k : Pt) : List.map (renC s i) (ptC k) = ptC k := rfl
theorem ptC_exp (s : St) (i : List Nat) (k : Pt) : List.map (expC s i) (ptC k) = ptC k := rfl
theorem ptC_map (f : Nat → Nat) (k : Pt) : List.map (mapC f) (ptC k) = ptC k := rfl
theorem ptC_gat (s : St) (i : List Nat) (k : Pt) : gather s 64 i (ptC k) = i := rfl
theorem ptC_rok (s : St) (l i : List Nat) (k : Pt) : renOks s l i (ptC k) = True := eq_true (by repeat' constructor)
theorem ptC_row (k : Pt) : rowIds (ptC k) = [] := rfl
theorem ptC_eok (s : St) (i : List Nat) (k : Pt) : expOks s i (ptC k) = True := eq_true (by repeat' constructor)
theorem ptC_sok (s : St) (k : Pt) : sealOks s (ptC k) = True := eq_true (by repeat' constructor)
theorem ptC_okR (k : Pt) : okRs (ptC k) = True := eq_true (by repeat' constructor)
theorem ptC_okC (k : Pt) : okCs (ptC k) = True := eq_true (by repeat' constructor)
theorem ptC_inj (a b : Pt) : (ptC a = ptC b) = (a = b) := by
  refine propext ⟨fun h => ?_, fun h => by rw [h]⟩
  have := congrArg ptCd h
  rw [ptC_dec, ptC_dec] at this
  exact Option.some.inj this
theorem ptC_minj (a b : List Pt) : (a.map ptC = b.map ptC) = (a = b) := by
  refine propext ⟨fun h => ?_, fun h => by rw [h]⟩
  have := congrArg (decAll ptCd) h
  rw [ptC_ds, ptC_ds] at this
  exact Option.some.inj this
theorem ptC_le (s : St) (ρ : List (Nat × Nat)) (hp : List (Nat × Option Box)) (k : Pt) : leCs s ρ hp (ptC k) (ptC k) = True := eq_true (by repeat' first | constructor | (intro h; cases h))
theorem ptC_okV (k : Pt) : ∀ c ∈ ptC k, okV c = true := by
  have : (ptC k).all okV = true := rfl
  exact List.all_eq_true.1 this
theorem ptC_pure (l : List Pt) : pureV (l.map ptC) = True := pureV_map ptC_okV l
theorem ptC_fok (s : St) (i : List Nat) (k : Pt) : flatOks s i (ptC k) = True := eq_true (by repeat' constructor)
theorem ptC_okVT (k : Pt) : (∀ c ∈ ptC k, okV c = true) = True := eq_true (ptC_okV k)
theorem ptC_mk (x1 : Int) (y1 : Int) : ptC ⟨x1, y1⟩ = C.v (.int .i64 x1) :: [C.v (.int .i64 y1)] := rfl
theorem ptC_ex (x1 : Int) (y1 : Int) (Q : Pt → Prop) : (∃ p, C.v (.int .i64 x1) :: [C.v (.int .i64 y1)] = ptC p ∧ Q p) = Q ⟨x1, y1⟩ := by
  rw [← ptC_mk]; simp only [ptC_inj, exists_eq_left']
theorem ptC_t1 (k : Pt) : List.take 1 (ptC k) = [C.v (.int .i64 k.x)] := rfl
theorem ptC_d1 (k : Pt) : List.drop 1 (ptC k) = [C.v (.int .i64 k.y)] := rfl
theorem ptC_ints (k : Pt) : ints (ptC k) = True := eq_true (by repeat' constructor)
theorem ptC_ieq (k l : Pt) : ieq (ptC k) (ptC l) = decide (k = l) := by
  obtain ⟨kx, ky⟩ := k
  obtain ⟨lx, ly⟩ := l
  simp [ptC, ieq, Bool.decide_and, Bool.and_assoc]

structure Edge where
  p : Pt
  q : Pt
deriving DecidableEq, Inhabited
def edC (x : Edge) : List C := ptC x.p ++ (ptC x.q)
def edCd : List C → Option Edge
  | [.v (.int .i64 p0_x), .v (.int .i64 p0_y), .v (.int .i64 q0_x), .v (.int .i64 q0_y)] => some ⟨⟨p0_x, p0_y⟩, ⟨q0_x, q0_y⟩⟩
  | _ => none
theorem edC_dec (k : Edge) : edCd (edC k) = some k := rfl
theorem edC_wk (k : Edge) : wkCs (edC k) = edC k := by simp [edC, wkCs, wkC, List.cons_append, List.nil_append, ptC]
theorem edC_wks (l : List Edge) : wkEs (l.map edC) = l.map edC := by simp [wkEs_map, edC_wk]
theorem edC_ds (l : List Edge) : decAll edCd (l.map edC) = some l := decAll_map (g := edC) edC_dec l
theorem edC_len (k : Edge) : (edC k).length = 4 := rfl
theorem edC_takeN (k : Edge) : List.take 4 (edC k) = edC k := rfl
theorem edC_takeA (k : Edge) (l : List C) : List.take 4 (edC k ++ l) = edC k := rfl
theorem edC_dropA (k : Edge) (l : List C) : List.drop 4 (edC k ++ l) = l := rfl
theorem edC_takeB (k : Edge) (m : Nat) (l : List C) : List.take (m + 4) (edC k ++ l) = edC k ++ List.take m l := rfl
theorem edC_dropB (k : Edge) (m : Nat) (l : List C) : List.drop (m + 4) (edC k ++ l) = List.drop m l := rfl
theorem edC_dropN (k : Edge) : List.drop 4 (edC k) = [] := rfl
theorem edC_all (l : List Edge) : (∀ e ∈ l.map edC, e.length = 4) = True := all_len edC_len l
theorem edC_strip (k : Edge) : List.map strip (edC k) = edC k := rfl
theorem edC_seal (s : St) (k : Edge) : List.map (sealC s) (edC k) = edC k := rfl
theorem edC_ren (s : St) (i : List Nat) (k : Edge) : List.map (renC s i) (edC k) = edC k := rfl
theorem edC_exp (s : St) (i : List Nat) (k : Edge) : List.map (expC s i) (edC k) = edC k := rfl
theorem edC_map (f : Nat → Nat) (k : Edge) : List.map (mapC f) (edC k) = edC k := rfl
theorem edC_gat (s : St) (i : List Nat) (k : Edge) : gather s 64 i (edC k) = i := rfl
theorem edC_rok (s : St) (l i : List Nat) (k : Edge) : renOks s l i (edC k) = True := eq_true (by repeat' constructor)
theorem edC_row (k : Edge) : rowIds (edC k) = [] := rfl
theorem edC_eok (s : St) (i : List Nat) (k : Edge) : expOks s i (edC k) = True := eq_true (by repeat' constructor)
theorem edC_sok (s : St) (k : Edge) : sealOks s (edC k) = True := eq_true (by repeat' constructor)
theorem edC_okR (k : Edge) : okRs (edC k) = True := eq_true (by repeat' constructor)
theorem edC_okC (k : Edge) : okCs (edC k) = True := eq_true (by repeat' constructor)
theorem edC_inj (a b : Edge) : (edC a = edC b) = (a = b) := by
  refine propext ⟨fun h => ?_, fun h => by rw [h]⟩
  have := congrArg edCd h
  rw [edC_dec, edC_dec] at this
  exact Option.some.inj this
theorem edC_minj (a b : List Edge) : (a.map edC = b.map edC) = (a = b) := by
  refine propext ⟨fun h => ?_, fun h => by rw [h]⟩
  have := congrArg (decAll edCd) h
  rw [edC_ds, edC_ds] at this
  exact Option.some.inj this
theorem edC_le (s : St) (ρ : List (Nat × Nat)) (hp : List (Nat × Option Box)) (k : Edge) : leCs s ρ hp (edC k) (edC k) = True := eq_true (by repeat' first | constructor | (intro h; cases h))
theorem edC_okV (k : Edge) : ∀ c ∈ edC k, okV c = true := by
  have : (edC k).all okV = true := rfl
  exact List.all_eq_true.1 this
theorem edC_pure (l : List Edge) : pureV (l.map edC) = True := pureV_map edC_okV l
theorem edC_fok (s : St) (i : List Nat) (k : Edge) : flatOks s i (edC k) = True := eq_true (by repeat' constructor)
theorem edC_okVT (k : Edge) : (∀ c ∈ edC k, okV c = true) = True := eq_true (edC_okV k)
theorem edC_fold (p1 : Pt) (q1 : Pt) : ptC p1 ++ (ptC q1) = edC ⟨p1, q1⟩ := rfl
theorem edC_t1 (k : Edge) : List.take 1 (edC k) = [C.v (.int .i64 k.p.x)] := rfl
theorem edC_d1 (k : Edge) : List.drop 1 (edC k) = C.v (.int .i64 k.p.y) :: ptC k.q := rfl
theorem edC_t2 (k : Edge) : List.take 2 (edC k) = ptC k.p := rfl
theorem edC_d2 (k : Edge) : List.drop 2 (edC k) = ptC k.q := rfl
theorem edC_t3 (k : Edge) : List.take 3 (edC k) = ptC k.p ++ ([C.v (.int .i64 k.q.x)]) := rfl
theorem edC_d3 (k : Edge) : List.drop 3 (edC k) = [C.v (.int .i64 k.q.y)] := rfl
theorem edC_ints (k : Edge) : ints (edC k) = True := eq_true (by repeat' constructor)
theorem edC_ieq (k l : Edge) : ieq (edC k) (edC l) = decide (k = l) := by
  obtain ⟨⟨kpx, kpy⟩, ⟨kqx, kqy⟩⟩ := k
  obtain ⟨⟨lpx, lpy⟩, ⟨lqx, lqy⟩⟩ := l
  simp [edC, ptC, ieq, Bool.decide_and, Bool.and_assoc]

structure Bx where
  l : Int
  t : Int
  r : Int
  b : Int
deriving DecidableEq, Inhabited
def bxC (x : Bx) : List C := C.v (.int .i64 x.l) :: C.v (.int .i64 x.t) :: C.v (.int .i64 x.r) :: [C.v (.int .i64 x.b)]
def bxCd : List C → Option Bx
  | [.v (.int .i64 l0), .v (.int .i64 t0), .v (.int .i64 r0), .v (.int .i64 b0)] => some ⟨l0, t0, r0, b0⟩
  | _ => none
theorem bxC_dec (k : Bx) : bxCd (bxC k) = some k := rfl
theorem bxC_wk (k : Bx) : wkCs (bxC k) = bxC k := by simp [bxC, wkCs, wkC, List.cons_append, List.nil_append]
theorem bxC_wks (l : List Bx) : wkEs (l.map bxC) = l.map bxC := by simp [wkEs_map, bxC_wk]
theorem bxC_ds (l : List Bx) : decAll bxCd (l.map bxC) = some l := decAll_map (g := bxC) bxC_dec l
theorem bxC_len (k : Bx) : (bxC k).length = 4 := rfl
theorem bxC_takeN (k : Bx) : List.take 4 (bxC k) = bxC k := rfl
theorem bxC_takeA (k : Bx) (l : List C) : List.take 4 (bxC k ++ l) = bxC k := rfl
theorem bxC_dropA (k : Bx) (l : List C) : List.drop 4 (bxC k ++ l) = l := rfl
theorem bxC_takeB (k : Bx) (m : Nat) (l : List C) : List.take (m + 4) (bxC k ++ l) = bxC k ++ List.take m l := rfl
theorem bxC_dropB (k : Bx) (m : Nat) (l : List C) : List.drop (m + 4) (bxC k ++ l) = List.drop m l := rfl
theorem bxC_dropN (k : Bx) : List.drop 4 (bxC k) = [] := rfl
theorem bxC_all (l : List Bx) : (∀ e ∈ l.map bxC, e.length = 4) = True := all_len bxC_len l
theorem bxC_strip (k : Bx) : List.map strip (bxC k) = bxC k := rfl
theorem bxC_seal (s : St) (k : Bx) : List.map (sealC s) (bxC k) = bxC k := rfl
theorem bxC_ren (s : St) (i : List Nat) (k : Bx) : List.map (renC s i) (bxC k) = bxC k := rfl
theorem bxC_exp (s : St) (i : List Nat) (k : Bx) : List.map (expC s i) (bxC k) = bxC k := rfl
theorem bxC_map (f : Nat → Nat) (k : Bx) : List.map (mapC f) (bxC k) = bxC k := rfl
theorem bxC_gat (s : St) (i : List Nat) (k : Bx) : gather s 64 i (bxC k) = i := rfl
theorem bxC_rok (s : St) (l i : List Nat) (k : Bx) : renOks s l i (bxC k) = True := eq_true (by repeat' constructor)
theorem bxC_row (k : Bx) : rowIds (bxC k) = [] := rfl
theorem bxC_eok (s : St) (i : List Nat) (k : Bx) : expOks s i (bxC k) = True := eq_true (by repeat' constructor)
theorem bxC_sok (s : St) (k : Bx) : sealOks s (bxC k) = True := eq_true (by repeat' constructor)
theorem bxC_okR (k : Bx) : okRs (bxC k) = True := eq_true (by repeat' constructor)
theorem bxC_okC (k : Bx) : okCs (bxC k) = True := eq_true (by repeat' constructor)
theorem bxC_inj (a b : Bx) : (bxC a = bxC b) = (a = b) := by
  refine propext ⟨fun h => ?_, fun h => by rw [h]⟩
  have := congrArg bxCd h
  rw [bxC_dec, bxC_dec] at this
  exact Option.some.inj this
theorem bxC_minj (a b : List Bx) : (a.map bxC = b.map bxC) = (a = b) := by
  refine propext ⟨fun h => ?_, fun h => by rw [h]⟩
  have := congrArg (decAll bxCd) h
  rw [bxC_ds, bxC_ds] at this
  exact Option.some.inj this
theorem bxC_le (s : St) (ρ : List (Nat × Nat)) (hp : List (Nat × Option Box)) (k : Bx) : leCs s ρ hp (bxC k) (bxC k) = True := eq_true (by repeat' first | constructor | (intro h; cases h))
theorem bxC_okV (k : Bx) : ∀ c ∈ bxC k, okV c = true := by
  have : (bxC k).all okV = true := rfl
  exact List.all_eq_true.1 this
theorem bxC_pure (l : List Bx) : pureV (l.map bxC) = True := pureV_map bxC_okV l
theorem bxC_fok (s : St) (i : List Nat) (k : Bx) : flatOks s i (bxC k) = True := eq_true (by repeat' constructor)
theorem bxC_okVT (k : Bx) : (∀ c ∈ bxC k, okV c = true) = True := eq_true (bxC_okV k)
theorem bxC_mk (l1 : Int) (t1 : Int) (r1 : Int) (b1 : Int) : bxC ⟨l1, t1, r1, b1⟩ = C.v (.int .i64 l1) :: C.v (.int .i64 t1) :: C.v (.int .i64 r1) :: [C.v (.int .i64 b1)] := rfl
theorem bxC_ex (l1 : Int) (t1 : Int) (r1 : Int) (b1 : Int) (Q : Bx → Prop) : (∃ p, C.v (.int .i64 l1) :: C.v (.int .i64 t1) :: C.v (.int .i64 r1) :: [C.v (.int .i64 b1)] = bxC p ∧ Q p) = Q ⟨l1, t1, r1, b1⟩ := by
  rw [← bxC_mk]; simp only [bxC_inj, exists_eq_left']
theorem bxC_t1 (k : Bx) : List.take 1 (bxC k) = [C.v (.int .i64 k.l)] := rfl
theorem bxC_d1 (k : Bx) : List.drop 1 (bxC k) = C.v (.int .i64 k.t) :: C.v (.int .i64 k.r) :: [C.v (.int .i64 k.b)] := rfl
theorem bxC_t2 (k : Bx) : List.take 2 (bxC k) = C.v (.int .i64 k.l) :: [C.v (.int .i64 k.t)] := rfl
theorem bxC_d2 (k : Bx) : List.drop 2 (bxC k) = C.v (.int .i64 k.r) :: [C.v (.int .i64 k.b)] := rfl
theorem bxC_t3 (k : Bx) : List.take 3 (bxC k) = C.v (.int .i64 k.l) :: C.v (.int .i64 k.t) :: [C.v (.int .i64 k.r)] := rfl
theorem bxC_d3 (k : Bx) : List.drop 3 (bxC k) = [C.v (.int .i64 k.b)] := rfl
theorem bxC_ints (k : Bx) : ints (bxC k) = True := eq_true (by repeat' constructor)
theorem bxC_ieq (k l : Bx) : ieq (bxC k) (bxC l) = decide (k = l) := by
  obtain ⟨kl, kt, kr, kb⟩ := k
  obtain ⟨ll, lt, lr, lb⟩ := l
  simp [bxC, ieq, Bool.decide_and, Bool.and_assoc]

structure Cross where
  a : Int
  s : Int
deriving DecidableEq, Inhabited
def crC (x : Cross) : List C := C.v (.int .i64 x.a) :: [C.v (.int .i64 x.s)]
def crCd : List C → Option Cross
  | [.v (.int .i64 a0), .v (.int .i64 s0)] => some ⟨a0, s0⟩
  | _ => none
theorem crC_dec (k : Cross) : crCd (crC k) = some k := rfl
theorem crC_wk (k : Cross) : wkCs (crC k) = crC k := by simp [crC, wkCs, wkC, List.cons_append, List.nil_append]
theorem crC_wks (l : List Cross) : wkEs (l.map crC) = l.map crC := by simp [wkEs_map, crC_wk]
theorem crC_ds (l : List Cross) : decAll crCd (l.map crC) = some l := decAll_map (g := crC) crC_dec l
theorem crC_len (k : Cross) : (crC k).length = 2 := rfl
theorem crC_takeN (k : Cross) : List.take 2 (crC k) = crC k := rfl
theorem crC_takeA (k : Cross) (l : List C) : List.take 2 (crC k ++ l) = crC k := rfl
theorem crC_dropA (k : Cross) (l : List C) : List.drop 2 (crC k ++ l) = l := rfl
theorem crC_takeB (k : Cross) (m : Nat) (l : List C) : List.take (m + 2) (crC k ++ l) = crC k ++ List.take m l := rfl
theorem crC_dropB (k : Cross) (m : Nat) (l : List C) : List.drop (m + 2) (crC k ++ l) = List.drop m l := rfl
theorem crC_dropN (k : Cross) : List.drop 2 (crC k) = [] := rfl
theorem crC_all (l : List Cross) : (∀ e ∈ l.map crC, e.length = 2) = True := all_len crC_len l
theorem crC_strip (k : Cross) : List.map strip (crC k) = crC k := rfl
theorem crC_seal (s : St) (k : Cross) : List.map (sealC s) (crC k) = crC k := rfl
theorem crC_ren (s : St) (i : List Nat) (k : Cross) : List.map (renC s i) (crC k) = crC k := rfl
theorem crC_exp (s : St) (i : List Nat) (k : Cross) : List.map (expC s i) (crC k) = crC k := rfl
theorem crC_map (f : Nat → Nat) (k : Cross) : List.map (mapC f) (crC k) = crC k := rfl
theorem crC_gat (s : St) (i : List Nat) (k : Cross) : gather s 64 i (crC k) = i := rfl
theorem crC_rok (s : St) (l i : List Nat) (k : Cross) : renOks s l i (crC k) = True := eq_true (by repeat' constructor)
theorem crC_row (k : Cross) : rowIds (crC k) = [] := rfl
theorem crC_eok (s : St) (i : List Nat) (k : Cross) : expOks s i (crC k) = True := eq_true (by repeat' constructor)
theorem crC_sok (s : St) (k : Cross) : sealOks s (crC k) = True := eq_true (by repeat' constructor)
theorem crC_okR (k : Cross) : okRs (crC k) = True := eq_true (by repeat' constructor)
theorem crC_okC (k : Cross) : okCs (crC k) = True := eq_true (by repeat' constructor)
theorem crC_inj (a b : Cross) : (crC a = crC b) = (a = b) := by
  refine propext ⟨fun h => ?_, fun h => by rw [h]⟩
  have := congrArg crCd h
  rw [crC_dec, crC_dec] at this
  exact Option.some.inj this
theorem crC_minj (a b : List Cross) : (a.map crC = b.map crC) = (a = b) := by
  refine propext ⟨fun h => ?_, fun h => by rw [h]⟩
  have := congrArg (decAll crCd) h
  rw [crC_ds, crC_ds] at this
  exact Option.some.inj this
theorem crC_le (s : St) (ρ : List (Nat × Nat)) (hp : List (Nat × Option Box)) (k : Cross) : leCs s ρ hp (crC k) (crC k) = True := eq_true (by repeat' first | constructor | (intro h; cases h))
theorem crC_okV (k : Cross) : ∀ c ∈ crC k, okV c = true := by
  have : (crC k).all okV = true := rfl
  exact List.all_eq_true.1 this
theorem crC_pure (l : List Cross) : pureV (l.map crC) = True := pureV_map crC_okV l
theorem crC_fok (s : St) (i : List Nat) (k : Cross) : flatOks s i (crC k) = True := eq_true (by repeat' constructor)
theorem crC_okVT (k : Cross) : (∀ c ∈ crC k, okV c = true) = True := eq_true (crC_okV k)
theorem crC_mk (a1 : Int) (s1 : Int) : crC ⟨a1, s1⟩ = C.v (.int .i64 a1) :: [C.v (.int .i64 s1)] := rfl
theorem crC_ex (a1 : Int) (s1 : Int) (Q : Cross → Prop) : (∃ p, C.v (.int .i64 a1) :: [C.v (.int .i64 s1)] = crC p ∧ Q p) = Q ⟨a1, s1⟩ := by
  rw [← crC_mk]; simp only [crC_inj, exists_eq_left']
theorem crC_t1 (k : Cross) : List.take 1 (crC k) = [C.v (.int .i64 k.a)] := rfl
theorem crC_d1 (k : Cross) : List.drop 1 (crC k) = [C.v (.int .i64 k.s)] := rfl
theorem crC_ints (k : Cross) : ints (crC k) = True := eq_true (by repeat' constructor)
theorem crC_ieq (k l : Cross) : ieq (crC k) (crC l) = decide (k = l) := by
  obtain ⟨ka, ks⟩ := k
  obtain ⟨la, ls⟩ := l
  simp [crC, ieq, Bool.decide_and, Bool.and_assoc]

structure Span where
  f : Int
  t : Int
deriving DecidableEq, Inhabited
def spC (x : Span) : List C := C.v (.int .i64 x.f) :: [C.v (.int .i64 x.t)]
def spCd : List C → Option Span
  | [.v (.int .i64 f0), .v (.int .i64 t0)] => some ⟨f0, t0⟩
  | _ => none
theorem spC_dec (k : Span) : spCd (spC k) = some k := rfl
theorem spC_wk (k : Span) : wkCs (spC k) = spC k := by simp [spC, wkCs, wkC, List.cons_append, List.nil_append]
theorem spC_wks (l : List Span) : wkEs (l.map spC) = l.map spC := by simp [wkEs_map, spC_wk]
theorem spC_ds (l : List Span) : decAll spCd (l.map spC) = some l := decAll_map (g := spC) spC_dec l
theorem spC_len (k : Span) : (spC k).length = 2 := rfl
theorem spC_takeN (k : Span) : List.take 2 (spC k) = spC k := rfl
theorem spC_takeA (k : Span) (l : List C) : List.take 2 (spC k ++ l) = spC k := rfl
theorem spC_dropA (k : Span) (l : List C) : List.drop 2 (spC k ++ l) = l := rfl
theorem spC_takeB (k : Span) (m : Nat) (l : List C) : List.take (m + 2) (spC k ++ l) = spC k ++ List.take m l := rfl
theorem spC_dropB (k : Span) (m : Nat) (l : List C) : List.drop (m + 2) (spC k ++ l) = List.drop m l := rfl
theorem spC_dropN (k : Span) : List.drop 2 (spC k) = [] := rfl
theorem spC_all (l : List Span) : (∀ e ∈ l.map spC, e.length = 2) = True := all_len spC_len l
theorem spC_strip (k : Span) : List.map strip (spC k) = spC k := rfl
theorem spC_seal (s : St) (k : Span) : List.map (sealC s) (spC k) = spC k := rfl
theorem spC_ren (s : St) (i : List Nat) (k : Span) : List.map (renC s i) (spC k) = spC k := rfl
theorem spC_exp (s : St) (i : List Nat) (k : Span) : List.map (expC s i) (spC k) = spC k := rfl
theorem spC_map (f : Nat → Nat) (k : Span) : List.map (mapC f) (spC k) = spC k := rfl
theorem spC_gat (s : St) (i : List Nat) (k : Span) : gather s 64 i (spC k) = i := rfl
theorem spC_rok (s : St) (l i : List Nat) (k : Span) : renOks s l i (spC k) = True := eq_true (by repeat' constructor)
theorem spC_row (k : Span) : rowIds (spC k) = [] := rfl
theorem spC_eok (s : St) (i : List Nat) (k : Span) : expOks s i (spC k) = True := eq_true (by repeat' constructor)
theorem spC_sok (s : St) (k : Span) : sealOks s (spC k) = True := eq_true (by repeat' constructor)
theorem spC_okR (k : Span) : okRs (spC k) = True := eq_true (by repeat' constructor)
theorem spC_okC (k : Span) : okCs (spC k) = True := eq_true (by repeat' constructor)
theorem spC_inj (a b : Span) : (spC a = spC b) = (a = b) := by
  refine propext ⟨fun h => ?_, fun h => by rw [h]⟩
  have := congrArg spCd h
  rw [spC_dec, spC_dec] at this
  exact Option.some.inj this
theorem spC_minj (a b : List Span) : (a.map spC = b.map spC) = (a = b) := by
  refine propext ⟨fun h => ?_, fun h => by rw [h]⟩
  have := congrArg (decAll spCd) h
  rw [spC_ds, spC_ds] at this
  exact Option.some.inj this
theorem spC_le (s : St) (ρ : List (Nat × Nat)) (hp : List (Nat × Option Box)) (k : Span) : leCs s ρ hp (spC k) (spC k) = True := eq_true (by repeat' first | constructor | (intro h; cases h))
theorem spC_okV (k : Span) : ∀ c ∈ spC k, okV c = true := by
  have : (spC k).all okV = true := rfl
  exact List.all_eq_true.1 this
theorem spC_pure (l : List Span) : pureV (l.map spC) = True := pureV_map spC_okV l
theorem spC_fok (s : St) (i : List Nat) (k : Span) : flatOks s i (spC k) = True := eq_true (by repeat' constructor)
theorem spC_okVT (k : Span) : (∀ c ∈ spC k, okV c = true) = True := eq_true (spC_okV k)
theorem spC_mk (f1 : Int) (t1 : Int) : spC ⟨f1, t1⟩ = C.v (.int .i64 f1) :: [C.v (.int .i64 t1)] := rfl
theorem spC_ex (f1 : Int) (t1 : Int) (Q : Span → Prop) : (∃ p, C.v (.int .i64 f1) :: [C.v (.int .i64 t1)] = spC p ∧ Q p) = Q ⟨f1, t1⟩ := by
  rw [← spC_mk]; simp only [spC_inj, exists_eq_left']
theorem spC_t1 (k : Span) : List.take 1 (spC k) = [C.v (.int .i64 k.f)] := rfl
theorem spC_d1 (k : Span) : List.drop 1 (spC k) = [C.v (.int .i64 k.t)] := rfl
theorem spC_ints (k : Span) : ints (spC k) = True := eq_true (by repeat' constructor)
theorem spC_ieq (k l : Span) : ieq (spC k) (spC l) = decide (k = l) := by
  obtain ⟨kf, kt⟩ := k
  obtain ⟨lf, lt⟩ := l
  simp [spC, ieq, Bool.decide_and, Bool.and_assoc]

def lptC (x : List Pt) : List C := [.sl false (x.map ptC)]
def lptCd : List C → Option (List Pt)
  | [.sl _ es] => decAll ptCd es
  | _ => none
theorem lptC_dec (k : List Pt) : lptCd (lptC k) = some k := ptC_ds k
theorem lptC_wk (k : List Pt) : wkCs (lptC k) = lptC k := by simp [lptC, wkCs, wkC, ptC_wks]
theorem lptC_wks (l : List (List Pt)) : wkEs (l.map lptC) = l.map lptC := by simp [wkEs_map, lptC_wk]
theorem lptC_ds (l : List (List Pt)) : decAll lptCd (l.map lptC) = some l := decAll_map (g := lptC) lptC_dec l
theorem lptC_len (k : (List Pt)) : (lptC k).length = 1 := rfl
theorem lptC_takeN (k : (List Pt)) : List.take 1 (lptC k) = lptC k := rfl
theorem lptC_takeA (k : (List Pt)) (l : List C) : List.take 1 (lptC k ++ l) = lptC k := rfl
theorem lptC_dropA (k : (List Pt)) (l : List C) : List.drop 1 (lptC k ++ l) = l := rfl
theorem lptC_takeB (k : (List Pt)) (m : Nat) (l : List C) : List.take (m + 1) (lptC k ++ l) = lptC k ++ List.take m l := rfl
theorem lptC_dropB (k : (List Pt)) (m : Nat) (l : List C) : List.drop (m + 1) (lptC k ++ l) = List.drop m l := rfl
theorem lptC_dropN (k : (List Pt)) : List.drop 1 (lptC k) = [] := rfl
theorem lptC_all (l : List (List Pt)) : (∀ e ∈ l.map lptC, e.length = 1) = True := all_len lptC_len l
theorem lptC_strip (k : (List Pt)) : List.map strip (lptC k) = lptC k := rfl
theorem lptC_seal (s : St) (k : (List Pt)) : List.map (sealC s) (lptC k) = lptC k := rfl
theorem lptC_ren (s : St) (i : List Nat) (k : (List Pt)) : List.map (renC s i) (lptC k) = lptC k := rfl
theorem lptC_exp (s : St) (i : List Nat) (k : (List Pt)) : List.map (expC s i) (lptC k) = lptC k := rfl
theorem lptC_map (f : Nat → Nat) (k : (List Pt)) : List.map (mapC f) (lptC k) = lptC k := rfl
theorem lptC_gat (s : St) (i : List Nat) (k : (List Pt)) : gather s 64 i (lptC k) = i := rfl
theorem lptC_rok (s : St) (l i : List Nat) (k : (List Pt)) : renOks s l i (lptC k) = True := eq_true (by repeat' constructor)
theorem lptC_row (k : (List Pt)) : rowIds (lptC k) = [] := rfl
theorem lptC_eok (s : St) (i : List Nat) (k : (List Pt)) : expOks s i (lptC k) = True := eq_true (by repeat' constructor)
theorem lptC_sok (s : St) (k : (List Pt)) : sealOks s (lptC k) = True := eq_true (by repeat' constructor)
theorem lptC_okR (k : (List Pt)) : okRs (lptC k) = True := eq_true (by repeat' constructor)
theorem lptC_okC (k : (List Pt)) : okCs (lptC k) = True := eq_true (by repeat' constructor)
theorem lptC_inj (a b : (List Pt)) : (lptC a = lptC b) = (a = b) := by
  refine propext ⟨fun h => ?_, fun h => by rw [h]⟩
  have := congrArg lptCd h
  rw [lptC_dec, lptC_dec] at this
  exact Option.some.inj this
theorem lptC_minj (a b : List (List Pt)) : (a.map lptC = b.map lptC) = (a = b) := by
  refine propext ⟨fun h => ?_, fun h => by rw [h]⟩
  have := congrArg (decAll lptCd) h
  rw [lptC_ds, lptC_ds] at this
  exact Option.some.inj this
theorem lptC_le (s : St) (ρ : List (Nat × Nat)) (hp : List (Nat × Option Box)) (k : (List Pt)) : leCs s ρ hp (lptC k) (lptC k) = True := eq_true (by repeat' first | constructor | (intro h; cases h))

structure Verb where
  k : Int
  ps : List Pt
deriving DecidableEq, Inhabited
def vbC (x : Verb) : List C := C.v (.int .i64 x.k) :: [C.sl false (x.ps.map ptC)]
def vbCd : List C → Option Verb
  | [.v (.int .i64 k0), .sl _ ps0] => match decAll ptCd ps0 with
    | some ps0L => some ⟨k0, ps0L⟩
    | _ => none
  | _ => none
theorem vbC_dec (k : Verb) : vbCd (vbC k) = some k := by
  simp [vbC, vbCd, ptC_ds]
theorem vbC_wk (k : Verb) : wkCs (vbC k) = vbC k := by simp [vbC, wkCs, wkC, List.cons_append, List.nil_append, ptC_wks]
theorem vbC_wks (l : List Verb) : wkEs (l.map vbC) = l.map vbC := by simp [wkEs_map, vbC_wk]
theorem vbC_ds (l : List Verb) : decAll vbCd (l.map vbC) = some l := decAll_map (g := vbC) vbC_dec l
theorem vbC_len (k : Verb) : (vbC k).length = 2 := rfl
theorem vbC_takeN (k : Verb) : List.take 2 (vbC k) = vbC k := rfl
theorem vbC_takeA (k : Verb) (l : List C) : List.take 2 (vbC k ++ l) = vbC k := rfl
theorem vbC_dropA (k : Verb) (l : List C) : List.drop 2 (vbC k ++ l) = l := rfl
theorem vbC_takeB (k : Verb) (m : Nat) (l : List C) : List.take (m + 2) (vbC k ++ l) = vbC k ++ List.take m l := rfl
theorem vbC_dropB (k : Verb) (m : Nat) (l : List C) : List.drop (m + 2) (vbC k ++ l) = List.drop m l := rfl
theorem vbC_dropN (k : Verb) : List.drop 2 (vbC k) = [] := rfl
theorem vbC_all (l : List Verb) : (∀ e ∈ l.map vbC, e.length = 2) = True := all_len vbC_len l
theorem vbC_strip (k : Verb) : List.map strip (vbC k) = vbC k := rfl
theorem vbC_seal (s : St) (k : Verb) : List.map (sealC s) (vbC k) = vbC k := rfl
theorem vbC_ren (s : St) (i : List Nat) (k : Verb) : List.map (renC s i) (vbC k) = vbC k := rfl
theorem vbC_exp (s : St) (i : List Nat) (k : Verb) : List.map (expC s i) (vbC k) = vbC k := rfl
theorem vbC_map (f : Nat → Nat) (k : Verb) : List.map (mapC f) (vbC k) = vbC k := rfl
theorem vbC_gat (s : St) (i : List Nat) (k : Verb) : gather s 64 i (vbC k) = i := rfl
theorem vbC_rok (s : St) (l i : List Nat) (k : Verb) : renOks s l i (vbC k) = True := eq_true (by repeat' constructor)
theorem vbC_row (k : Verb) : rowIds (vbC k) = [] := rfl
theorem vbC_eok (s : St) (i : List Nat) (k : Verb) : expOks s i (vbC k) = True := eq_true (by repeat' constructor)
theorem vbC_sok (s : St) (k : Verb) : sealOks s (vbC k) = True := eq_true (by repeat' constructor)
theorem vbC_okR (k : Verb) : okRs (vbC k) = True := eq_true (by repeat' constructor)
theorem vbC_okC (k : Verb) : okCs (vbC k) = True := eq_true (by repeat' constructor)
theorem vbC_inj (a b : Verb) : (vbC a = vbC b) = (a = b) := by
  refine propext ⟨fun h => ?_, fun h => by rw [h]⟩
  have := congrArg vbCd h
  rw [vbC_dec, vbC_dec] at this
  exact Option.some.inj this
theorem vbC_minj (a b : List Verb) : (a.map vbC = b.map vbC) = (a = b) := by
  refine propext ⟨fun h => ?_, fun h => by rw [h]⟩
  have := congrArg (decAll vbCd) h
  rw [vbC_ds, vbC_ds] at this
  exact Option.some.inj this
theorem vbC_le (s : St) (ρ : List (Nat × Nat)) (hp : List (Nat × Option Box)) (k : Verb) : leCs s ρ hp (vbC k) (vbC k) = True := eq_true (by repeat' first | constructor | (intro h; cases h))
theorem vbC_mk (k1 : Int) (ps1 : List Pt) : vbC ⟨k1, ps1⟩ = C.v (.int .i64 k1) :: [C.sl false (ps1.map ptC)] := rfl
theorem vbC_ex (k1 : Int) (ps1 : List Pt) (Q : Verb → Prop) : (∃ p, C.v (.int .i64 k1) :: [C.sl false (ps1.map ptC)] = vbC p ∧ Q p) = Q ⟨k1, ps1⟩ := by
  rw [← vbC_mk]; simp only [vbC_inj, exists_eq_left']
theorem vbC_t1 (k : Verb) : List.take 1 (vbC k) = [C.v (.int .i64 k.k)] := rfl
theorem vbC_d1 (k : Verb) : List.drop 1 (vbC k) = [C.sl false (k.ps.map ptC)] := rfl
attribute [go_sem] ptC_le ptC_inj ptC_minj ptC_dec ptC_ds ptC_len ptC_takeN ptC_takeA ptC_dropA ptC_takeB ptC_dropB ptC_dropN ptC_all ptC_strip ptC_seal ptC_ren ptC_exp ptC_map ptC_gat ptC_rok ptC_row ptC_eok ptC_sok ptC_okR ptC_okC ptC_wk ptC_wks ptC_pure ptC_fok ptC_okVT
attribute [go_sem] ptC_mk ptC_ex ptCd.eq_1 ptC_t1 ptC_d1 ptC_ints ptC_ieq Pt.mk.injEq edC_le edC_inj edC_minj edC_dec edC_ds edC_len edC_takeN edC_takeA edC_dropA edC_takeB edC_dropB edC_dropN edC_all edC_strip edC_seal edC_ren edC_exp edC_map edC_gat edC_rok edC_row edC_eok
attribute [go_sem] edC_sok edC_okR edC_okC edC_wk edC_wks edC_pure edC_fok edC_okVT edC_fold edC_t1 edC_d1 edC_t2 edC_d2 edC_t3 edC_d3 edC_ints edC_ieq Edge.mk.injEq bxC_le bxC_inj bxC_minj bxC_dec bxC_ds bxC_len bxC_takeN bxC_takeA bxC_dropA bxC_takeB bxC_dropB bxC_dropN
attribute [go_sem] bxC_all bxC_strip bxC_seal bxC_ren bxC_exp bxC_map bxC_gat bxC_rok bxC_row bxC_eok bxC_sok bxC_okR bxC_okC bxC_wk bxC_wks bxC_pure bxC_fok bxC_okVT bxC_mk bxC_ex bxCd.eq_1 bxC_t1 bxC_d1 bxC_t2 bxC_d2 bxC_t3 bxC_d3 bxC_ints bxC_ieq Bx.mk.injEq
attribute [go_sem] crC_le crC_inj crC_minj crC_dec crC_ds crC_len crC_takeN crC_takeA crC_dropA crC_takeB crC_dropB crC_dropN crC_all crC_strip crC_seal crC_ren crC_exp crC_map crC_gat crC_rok crC_row crC_eok crC_sok crC_okR crC_okC crC_wk crC_wks crC_pure crC_fok crC_okVT
attribute [go_sem] crC_mk crC_ex crCd.eq_1 crC_t1 crC_d1 crC_ints crC_ieq Cross.mk.injEq spC_le spC_inj spC_minj spC_dec spC_ds spC_len spC_takeN spC_takeA spC_dropA spC_takeB spC_dropB spC_dropN spC_all spC_strip spC_seal spC_ren spC_exp spC_map spC_gat spC_rok spC_row spC_eok
attribute [go_sem] spC_sok spC_okR spC_okC spC_wk spC_wks spC_pure spC_fok spC_okVT spC_mk spC_ex spCd.eq_1 spC_t1 spC_d1 spC_ints spC_ieq Span.mk.injEq lptC_le lptC_inj lptC_minj lptC_dec lptC_ds lptC_len lptC_takeN lptC_takeA lptC_dropA lptC_takeB lptC_dropB lptC_dropN lptC_all lptC_strip
attribute [go_sem] lptC_seal lptC_ren lptC_exp lptC_map lptC_gat lptC_rok lptC_row lptC_eok lptC_sok lptC_okR lptC_okC lptC_wk lptC_wks lptC lptCd.eq_1 vbC_le vbC_inj vbC_minj vbC_dec vbC_ds vbC_len vbC_takeN vbC_takeA vbC_dropA vbC_takeB vbC_dropB vbC_dropN vbC_all vbC_strip vbC_seal
attribute [go_sem] vbC_ren vbC_exp vbC_map vbC_gat vbC_rok vbC_row vbC_eok vbC_sok vbC_okR vbC_okC vbC_wk vbC_wks vbC_mk vbC_ex vbCd.eq_1 vbC_t1 vbC_d1 Verb.mk.injEq
end Go.Proofs.Ytjjmjidchehffaa
end
section
set_option maxRecDepth 100000
set_option linter.unusedSimpArgs false
set_option linter.unusedVariables false
namespace Go.Proofs.Ytjjmjidchehffaa
open Go Go.VE
def d_i_i_i : List AV → Option (Int × Int × Int)
  | [.c (.v (.int .i64 a0)), .c (.v (.int .i64 a1)), .c (.v (.int .i64 a2))] => some (a0, a1, a2)
  | _ => none
def d_i : List AV → Option (Int)
  | [.c (.v (.int .i64 a0))] => some (a0)
  | _ => none
def d_pt : List AV → Option (Pt)
  | [.agg a0] => match ptCd a0 with
    | some a0v => some (a0v)
    | _ => none
  | _ => none
def d_lpt_f104 : List AV → Option ((List Pt))
  | [.c (.sl _ a0), .c (.fn a1 [])] => match decAll ptCd a0, (if a1 = 104 then some () else none) with
    | some a0v, some u1 => some (a0v)
    | _, _ => none
  | _ => none
def d_lpt : List AV → Option ((List Pt))
  | [.c (.sl _ a0)] => match decAll ptCd a0 with
    | some a0v => some (a0v)
    | _ => none
  | _ => none
def d_llpt : List AV → Option ((List (List Pt)))
  | [.c (.sl _ a0)] => match decAll lptCd a0 with
    | some a0v => some (a0v)
    | _ => none
  | _ => none
def d_i_i : List AV → Option (Int × Int)
  | [.c (.v (.int .i64 a0)), .c (.v (.int .i64 a1))] => some (a0, a1)
  | _ => none
def d_b : List AV → Option (Bool)
  | [.c (.v (.bool a0))] => some (a0)
  | _ => none
def d_ed_i : List AV → Option (Edge × Int)
  | [.agg a0, .c (.v (.int .i64 a1))] => match edCd a0 with
    | some a0v => some (a0v, a1)
    | _ => none
  | _ => none
def d_ed_i_i : List AV → Option (Edge × Int × Int)
  | [.agg a0, .c (.v (.int .i64 a1)), .c (.v (.int .i64 a2))] => match edCd a0 with
    | some a0v => some (a0v, a1, a2)
    | _ => none
  | _ => none
def d_pt_pt_i_i : List AV → Option (Pt × Pt × Int × Int)
  | [.agg a0, .agg a1, .c (.v (.int .i64 a2)), .c (.v (.int .i64 a3))] => match ptCd a0, ptCd a1 with
    | some a0v, some a1v => some (a0v, a1v, a2, a3)
    | _, _ => none
  | _ => none
def d_pt_pt : List AV → Option (Pt × Pt)
  | [.agg a0, .agg a1] => match ptCd a0, ptCd a1 with
    | some a0v, some a1v => some (a0v, a1v)
    | _, _ => none
  | _ => none
def d_r_i : List AV → Option (Int)
  | [.c .rdr, .c (.v (.int .i64 a1))] => some (a1)
  | _ => none
def d_r_li : List AV → Option ((List Int))
  | [.c .rdr, .c (.sl _ a1)] => match decAll intCd a1 with
    | some a1v => some (a1v)
    | _ => none
  | _ => none
def d_r : List AV → Option (Unit)
  | [.c .rdr] => some ()
  | _ => none
def d_bx : List AV → Option (Bx)
  | [.agg a0] => match bxCd a0 with
    | some a0v => some (a0v)
    | _ => none
  | _ => none
def d_lpt_i_i : List AV → Option ((List Pt) × Int × Int)
  | [.c (.sl _ a0), .c (.v (.int .i64 a1)), .c (.v (.int .i64 a2))] => match decAll ptCd a0 with
    | some a0v => some (a0v, a1, a2)
    | _ => none
  | _ => none
def d_lvb : List AV → Option ((List Verb))
  | [.c (.sl _ a0)] => match decAll vbCd a0 with
    | some a0v => some (a0v)
    | _ => none
  | _ => none
attribute [go_sem] d_i_i_i d_i d_pt d_lpt_f104 d_lpt d_llpt d_i_i d_b d_ed_i d_ed_i_i d_pt_pt_i_i d_pt_pt d_r_i d_r_li d_r d_bx d_lpt_i_i d_lvb
end Go.Proofs.Ytjjmjidchehffaa
end
section
set_option maxRecDepth 100000
set_option linter.unusedSimpArgs false
set_option linter.unusedVariables false
namespace Go.Proofs.Ytjjmjidchehffaa
open Go Go.VE
def spIn_A : Int × Int × Int → List AV
  | (n, lo, hi) => [I n, I lo, I hi]
def spIn_pre : Int × Int × Int → Prop
  | (n, lo, hi) => True
def spIn_post : Int × Int × Int → AV → List Box → Prop
  | (n, lo, hi), r, bs => r = B (decide (lo ≤ n ∧ n ≤ hi)) ∧ bs = []
def spIn : VE.Spec := famSpec spIn_A d_i_i_i spIn_pre spIn_post 0 true
theorem spIn_q : spIn.flat = true ∧ spIn.mt = [] ∧ spIn.shut = false ∧ spIn.cost = 0 ∧ (∀ a i, spIn.pre a i = (i = [] ∧ famPre d_i_i_i spIn_A spIn_pre a)) ∧ ∀ a i r b, spIn.post a i r b = (famPost d_i_i_i spIn_post a r b) := ⟨rfl, rfl, rfl, rfl, fun _ _ => rfl, fun _ _ _ _ => rfl⟩
def tb54 : Nat → Option VE.Spec := tabOf []
theorem tb54_ok : TabOK Try.prog rt0 tb54 := tabOf_nil
set_option maxHeartbeats 4000000 in
theorem sat_impl_in_0 : Sat Try.prog rt0 54 (wkOut spIn) := by
  refine fn_sat hm ttok (tab := tb54) tb54_ok Try.func54 (c := Try.f54.body.getD .skip) (by kernel_rfl) (ts := [.tmp 6]) (by kernel_rfl) Try.ntmps54 (sq := fun _ => true) (by kernel_rfl) ?_
  intro args ins pk hpre0 hpk
  obtain ⟨rfl, hpre0⟩ := hpre0
  obtain ⟨⟨n, lo, hi⟩, rfl, hpre, hdec⟩ := famPre_ex hpre0
  clear hpre0 hdec
  try simp only [spIn_pre] at hpre
  replace hpk : pk + 0 ≤ pickLimit := hpk
  refine ⟨Nat.le_of_ble_eq_true rfl, ?_⟩
  simp (config := { maxSteps := 1000000 }) only [go_sem, ↓ifP_true, ↓ifP_false, ↓ifP_not, Nat.reduceLT, Nat.reduceAdd, Nat.reduceBEq, Nat.reduceSub, Nat.reduceLeDiff, Nat.reduceEqDiff, Nat.reduceMul, Int.reduceToNat, Int.reduceEq, Int.reduceLT, Int.reduceLE, Int.reduceAdd, Int.reduceSub, Int.reduceMul, reduceCtorEq, cond_true, cond_false, forall_eq', forall_eq, forall_const, implies_true, if_true, if_false, exists_eq_left', exists_eq', exists_eq, ne_eq, Try.f54, spIn_q, spIn_A, spIn_pre, spIn_post]
  repeat' (first | apply And.intro | (intro _) | omega | assumption | with_reducible rfl)
  all_goals (first | ((simp only [decide_eq_decide, true_eq_decide_iff, false_eq_decide_iff, Bool.not_eq_eq_eq_not, Bool.not_true, Bool.not_false]; omega); done))
theorem sat_impl_in : Sat Try.prog rt0 54 (wkIn spIn) := sat_in (sat_out sat_impl_in_0)
def tb55 : Nat → Option VE.Spec := tabOf []
theorem tb55_ok : TabOK Try.prog rt0 tb55 := tabOf_nil
set_option maxHeartbeats 4000000 in
theorem sat_spec_inRange_0 : Sat Try.prog rt0 55 (wkOut spIn) := by
  refine fn_sat hm ttok (tab := tb55) tb55_ok Try.func55 (c := Try.f55.body.getD .skip) (by kernel_rfl) (ts := [.tmp 6]) (by kernel_rfl) Try.ntmps55 (sq := fun _ => true) (by kernel_rfl) ?_
  intro args ins pk hpre0 hpk
  obtain ⟨rfl, hpre0⟩ := hpre0
  obtain ⟨⟨n, lo, hi⟩, rfl, hpre, hdec⟩ := famPre_ex hpre0
  clear hpre0 hdec
  try simp only [spIn_pre] at hpre
  replace hpk : pk + 0 ≤ pickLimit := hpk
  refine ⟨Nat.le_of_ble_eq_true rfl, ?_⟩
  simp (config := { maxSteps := 1000000 }) only [go_sem, ↓ifP_true, ↓ifP_false, ↓ifP_not, Nat.reduceLT, Nat.reduceAdd, Nat.reduceBEq, Nat.reduceSub, Nat.reduceLeDiff, Nat.reduceEqDiff, Nat.reduceMul, Int.reduceToNat, Int.reduceEq, Int.reduceLT, Int.reduceLE, Int.reduceAdd, Int.reduceSub, Int.reduceMul, reduceCtorEq, cond_true, cond_false, forall_eq', forall_eq, forall_const, implies_true, if_true, if_false, exists_eq_left', exists_eq', exists_eq, ne_eq, Try.f55, spIn_q, spIn_A, spIn_pre, spIn_post]
  repeat' (first | apply And.intro | (intro _) | omega | assumption | with_reducible rfl)
  all_goals (first | ((simp only [decide_eq_decide, true_eq_decide_iff, false_eq_decide_iff, Bool.not_eq_eq_eq_not, Bool.not_true, Bool.not_false]; omega); done))
theorem sat_spec_inRange : Sat Try.prog rt0 55 (wkIn spIn) := sat_in (sat_out sat_spec_inRange_0)
def isU (n : Int) : Bool := decide (-1000 ≤ n ∧ n ≤ 1000)
theorem isU_iff {n : Int} : isU n = true ↔ -1000 ≤ n ∧ n ≤ 1000 := by simp [isU]
def vPt (p : Pt) : Bool := isU p.x && isU p.y
def vPts (l : List Pt) : Bool := decide (l.length ≤ 40) && l.all vPt
def spIsU_A : Int → List AV
  | n => [I n]
def spIsU_pre : Int → Prop
  | n => True
def spIsU_post : Int → AV → List Box → Prop
  | n, r, bs => r = B (isU n) ∧ bs = []
def spIsU : VE.Spec := famSpec spIsU_A d_i spIsU_pre spIsU_post 0 true
theorem spIsU_q : spIsU.flat = true ∧ spIsU.mt = [] ∧ spIsU.shut = false ∧ spIsU.cost = 0 ∧ (∀ a i, spIsU.pre a i = (i = [] ∧ famPre d_i spIsU_A spIsU_pre a)) ∧ ∀ a i r b, spIsU.post a i r b = (famPost d_i spIsU_post a r b) := ⟨rfl, rfl, rfl, rfl, fun _ _ => rfl, fun _ _ _ _ => rfl⟩
def tb71 : Nat → Option VE.Spec := tabOf [(54, wkIn spIn)]
theorem tb71_54 : tb71 54 = some (wkIn spIn) := rfl
theorem tb71_ok : TabOK Try.prog rt0 tb71 := (tabOf_cons (by kernel_rfl) sat_impl_in tabOf_nil)
set_option maxHeartbeats 4000000 in
theorem sat_impl_isUnit_0 : Sat Try.prog rt0 71 (wkOut spIsU) := by
  refine fn_sat hm ttok (tab := tb71) tb71_ok Try.func71 (c := Try.f71.body.getD .skip) (by kernel_rfl) (ts := [.tmp 2]) (by kernel_rfl) Try.ntmps71 (sq := fun _ => true) (by kernel_rfl) ?_
  intro args ins pk hpre0 hpk
  obtain ⟨rfl, hpre0⟩ := hpre0
  obtain ⟨n, rfl, hpre, hdec⟩ := famPre_ex hpre0
  clear hpre0 hdec
  try simp only [spIsU_pre] at hpre
  replace hpk : pk + 0 ≤ pickLimit := hpk
  refine ⟨Nat.le_of_ble_eq_true rfl, ?_⟩
  simp (config := { maxSteps := 1000000 }) only [go_sem, ↓ifP_true, ↓ifP_false, ↓ifP_not, Nat.reduceLT, Nat.reduceAdd, Nat.reduceBEq, Nat.reduceSub, Nat.reduceLeDiff, Nat.reduceEqDiff, Nat.reduceMul, Int.reduceToNat, Int.reduceEq, Int.reduceLT, Int.reduceLE, Int.reduceAdd, Int.reduceSub, Int.reduceMul, reduceCtorEq, cond_true, cond_false, forall_eq', forall_eq, forall_const, implies_true, if_true, if_false, exists_eq_left', exists_eq', exists_eq, ne_eq, Try.f71, tb71_54, spIsU_q, spIsU_A, spIsU_pre, spIsU_post, spIn_q, spIn_A, spIn_pre, spIn_post, isU]
  repeat' (first | apply And.intro | (intro _) | omega | assumption | with_reducible rfl)
theorem sat_impl_isUnit : Sat Try.prog rt0 71 (wkIn spIsU) := sat_in (sat_out sat_impl_isUnit_0)
def spVPt_A : Pt → List AV
  | p => [.agg (ptC p)]
def spVPt_pre : Pt → Prop
  | p => True
def spVPt_post : Pt → AV → List Box → Prop
  | p, r, bs => r = B (vPt p) ∧ bs = []
def spVPt : VE.Spec := famSpec spVPt_A d_pt spVPt_pre spVPt_post 0 true
theorem spVPt_q : spVPt.flat = true ∧ spVPt.mt = [] ∧ spVPt.shut = false ∧ spVPt.cost = 0 ∧ (∀ a i, spVPt.pre a i = (i = [] ∧ famPre d_pt spVPt_A spVPt_pre a)) ∧ ∀ a i r b, spVPt.post a i r b = (famPost d_pt spVPt_post a r b) := ⟨rfl, rfl, rfl, rfl, fun _ _ => rfl, fun _ _ _ _ => rfl⟩
def tb105 : Nat → Option VE.Spec := tabOf [(71, wkIn spIsU)]
theorem tb105_71 : tb105 71 = some (wkIn spIsU) := rfl
theorem tb105_ok : TabOK Try.prog rt0 tb105 := (tabOf_cons (by kernel_rfl) sat_impl_isUnit tabOf_nil)
set_option maxHeartbeats 4000000 in
theorem sat_impl_Point_valid_0 : Sat Try.prog rt0 105 (wkOut spVPt) := by
  refine fn_sat hm ttok (tab := tb105) tb105_ok Try.func105 (c := Try.f105.body.getD .skip) (by kernel_rfl) (ts := [.tmp 2]) (by kernel_rfl) Try.ntmps105 (sq := fun _ => true) (by kernel_rfl) ?_
  intro args ins pk hpre0 hpk
  obtain ⟨rfl, hpre0⟩ := hpre0
  obtain ⟨p, rfl, hpre, hdec⟩ := famPre_ex hpre0
  clear hpre0 hdec
  try simp only [spVPt_pre] at hpre
  replace hpk : pk + 0 ≤ pickLimit := hpk
  refine ⟨Nat.le_of_ble_eq_true rfl, ?_⟩
  simp (config := { maxSteps := 1000000 }) only [go_sem, ↓ifP_true, ↓ifP_false, ↓ifP_not, Nat.reduceLT, Nat.reduceAdd, Nat.reduceBEq, Nat.reduceSub, Nat.reduceLeDiff, Nat.reduceEqDiff, Nat.reduceMul, Int.reduceToNat, Int.reduceEq, Int.reduceLT, Int.reduceLE, Int.reduceAdd, Int.reduceSub, Int.reduceMul, reduceCtorEq, cond_true, cond_false, forall_eq', forall_eq, forall_const, implies_true, if_true, if_false, exists_eq_left', exists_eq', exists_eq, ne_eq, Try.f105, tb105_71, spVPt_q, spVPt_A, spVPt_pre, spVPt_post, spIsU_q, spIsU_A, spIsU_pre, spIsU_post]
  repeat' (first | apply And.intro | (intro _) | omega | assumption | with_reducible rfl)
  all_goals (first | (simp_all [vPt]; done))
theorem sat_impl_Point_valid : Sat Try.prog rt0 105 (wkIn spVPt) := sat_in (sat_out sat_impl_Point_valid_0)
def tb74 : Nat → Option VE.Spec := tabOf [(55, wkIn spIn)]
theorem tb74_55 : tb74 55 = some (wkIn spIn) := rfl
theorem tb74_ok : TabOK Try.prog rt0 tb74 := (tabOf_cons (by kernel_rfl) sat_spec_inRange tabOf_nil)
set_option maxHeartbeats 4000000 in
theorem sat_spec_validPoint_0 : Sat Try.prog rt0 74 (wkOut spVPt) := by
  refine fn_sat hm ttok (tab := tb74) tb74_ok Try.func74 (c := Try.f74.body.getD .skip) (by kernel_rfl) (ts := [.tmp 2]) (by kernel_rfl) Try.ntmps74 (sq := fun _ => true) (by kernel_rfl) ?_
  intro args ins pk hpre0 hpk
  obtain ⟨rfl, hpre0⟩ := hpre0
  obtain ⟨p, rfl, hpre, hdec⟩ := famPre_ex hpre0
  clear hpre0 hdec
  try simp only [spVPt_pre] at hpre
  replace hpk : pk + 0 ≤ pickLimit := hpk
  refine ⟨Nat.le_of_ble_eq_true rfl, ?_⟩
  simp (config := { maxSteps := 1000000 }) only [go_sem, ↓ifP_true, ↓ifP_false, ↓ifP_not, Nat.reduceLT, Nat.reduceAdd, Nat.reduceBEq, Nat.reduceSub, Nat.reduceLeDiff, Nat.reduceEqDiff, Nat.reduceMul, Int.reduceToNat, Int.reduceEq, Int.reduceLT, Int.reduceLE, Int.reduceAdd, Int.reduceSub, Int.reduceMul, reduceCtorEq, cond_true, cond_false, forall_eq', forall_eq, forall_const, implies_true, if_true, if_false, exists_eq_left', exists_eq', exists_eq, ne_eq, Try.f74, tb74_55, spVPt_q, spVPt_A, spVPt_pre, spVPt_post, spIn_q, spIn_A, spIn_pre, spIn_post]
  repeat' (first | apply And.intro | (intro _) | omega | assumption | with_reducible rfl)
  all_goals (first | (grind [vPt, isU]; done))
theorem sat_spec_validPoint : Sat Try.prog rt0 74 (wkIn spVPt) := sat_in (sat_out sat_spec_validPoint_0)
def spNVPt_A : Pt → List AV
  | p => [.agg (ptC p)]
def spNVPt_pre : Pt → Prop
  | p => True
def spNVPt_post : Pt → AV → List Box → Prop
  | p, r, bs => r = B (!vPt p) ∧ bs = []
def spNVPt : VE.Spec := famSpec spNVPt_A d_pt spNVPt_pre spNVPt_post 0 true
theorem spNVPt_q : spNVPt.flat = true ∧ spNVPt.mt = [] ∧ spNVPt.shut = false ∧ spNVPt.cost = 0 ∧ (∀ a i, spNVPt.pre a i = (i = [] ∧ famPre d_pt spNVPt_A spNVPt_pre a)) ∧ ∀ a i r b, spNVPt.post a i r b = (famPost d_pt spNVPt_post a r b) := ⟨rfl, rfl, rfl, rfl, fun _ _ => rfl, fun _ _ _ _ => rfl⟩
def tb104 : Nat → Option VE.Spec := tabOf [(105, wkIn spVPt)]
theorem tb104_105 : tb104 105 = some (wkIn spVPt) := rfl
theorem tb104_ok : TabOK Try.prog rt0 tb104 := (tabOf_cons (by kernel_rfl) sat_impl_Point_valid tabOf_nil)
set_option maxHeartbeats 4000000 in
theorem sat_impl_pointsValid_1_0 : Sat Try.prog rt0 104 (wkOut spNVPt) := by
  refine fn_sat hm ttok (tab := tb104) tb104_ok Try.func104 (c := Try.f104.body.getD .skip) (by kernel_rfl) (ts := [.tmp 2]) (by kernel_rfl) Try.ntmps104 (sq := fun _ => true) (by kernel_rfl) ?_
  intro args ins pk hpre0 hpk
  obtain ⟨rfl, hpre0⟩ := hpre0
  obtain ⟨p, rfl, hpre, hdec⟩ := famPre_ex hpre0
  clear hpre0 hdec
  try simp only [spNVPt_pre] at hpre
  replace hpk : pk + 0 ≤ pickLimit := hpk
  refine ⟨Nat.le_of_ble_eq_true rfl, ?_⟩
  simp (config := { maxSteps := 1000000 }) only [go_sem, ↓ifP_true, ↓ifP_false, ↓ifP_not, Nat.reduceLT, Nat.reduceAdd, Nat.reduceBEq, Nat.reduceSub, Nat.reduceLeDiff, Nat.reduceEqDiff, Nat.reduceMul, Int.reduceToNat, Int.reduceEq, Int.reduceLT, Int.reduceLE, Int.reduceAdd, Int.reduceSub, Int.reduceMul, reduceCtorEq, cond_true, cond_false, forall_eq', forall_eq, forall_const, implies_true, if_true, if_false, exists_eq_left', exists_eq', exists_eq, ne_eq, Try.f104, tb104_105, spNVPt_q, spNVPt_A, spNVPt_pre, spNVPt_post, spVPt_q, spVPt_A, spVPt_pre, spVPt_post]
  repeat' (first | apply And.intro | (intro _) | omega | assumption | with_reducible rfl)
theorem sat_impl_pointsValid_1 : Sat Try.prog rt0 104 (wkIn spNVPt) := sat_in (sat_out sat_impl_pointsValid_1_0)
def spIdx_A : (List Pt) → List AV
  | l => [.c (.sl false (l.map ptC)), .c (.fn 104 [])]
def spIdx_pre : (List Pt) → Prop
  | l => l.length ≤ 1000000000
def spIdx_post : (List Pt) → AV → List Box → Prop
  | l, r, bs => ∃ m, r = I m ∧ bs = [] ∧ decide (0 ≤ m) = (!l.all vPt)
def spIdx : VE.Spec := famSpec spIdx_A d_lpt_f104 spIdx_pre spIdx_post 0 true
theorem spIdx_q : spIdx.flat = true ∧ spIdx.mt = [] ∧ spIdx.shut = false ∧ spIdx.cost = 0 ∧ (∀ a i, spIdx.pre a i = (i = [] ∧ famPre d_lpt_f104 spIdx_A spIdx_pre a)) ∧ ∀ a i r b, spIdx.post a i r b = (famPost d_lpt_f104 spIdx_post a r b) := ⟨rfl, rfl, rfl, rfl, fun _ _ => rfl, fun _ _ _ _ => rfl⟩
def tb119 : Nat → Option VE.Spec := tabOf [(104, wkIn spNVPt)]
theorem tb119_104 : tb119 104 = some (wkIn spNVPt) := rfl
theorem tb119_ok : TabOK Try.prog rt0 tb119 := (tabOf_cons (by kernel_rfl) sat_impl_pointsValid_1 tabOf_nil)
set_option maxHeartbeats 4000000 in
theorem sat_slices_IndexFunc_impl_Point_impl_Point_0 : Sat Try.prog rt0 119 (wkOut spIdx) := by
  refine fn_sat hm ttok (tab := tb119) tb119_ok Try.func119 (c := Try.f119.body.getD .skip) (by kernel_rfl) (ts := [.tmp 4]) (by kernel_rfl) Try.ntmps119 (sq := fun _ => true) (by kernel_rfl) ?_
  intro args ins pk hpre0 hpk
  obtain ⟨rfl, hpre0⟩ := hpre0
  obtain ⟨l, rfl, hpre, hdec⟩ := famPre_ex hpre0
  clear hpre0 hdec
  try simp only [spIdx_pre] at hpre
  replace hpk : pk + 0 ≤ pickLimit := hpk
  refine ⟨Nat.le_of_ble_eq_true rfl, ?_⟩
  simp (config := { maxSteps := 1000000 }) only [go_sem, ↓ifP_true, ↓ifP_false, ↓ifP_not, Nat.reduceLT, Nat.reduceAdd, Nat.reduceBEq, Nat.reduceSub, Nat.reduceLeDiff, Nat.reduceEqDiff, Nat.reduceMul, Int.reduceToNat, Int.reduceEq, Int.reduceLT, Int.reduceLE, Int.reduceAdd, Int.reduceSub, Int.reduceMul, reduceCtorEq, cond_true, cond_false, forall_eq', forall_eq, forall_const, implies_true, if_true, if_false, exists_eq_left', exists_eq', exists_eq, ne_eq, Try.f119, tb119_104, spIdx_q, spIdx_A, spIdx_pre, spIdx_post, spNVPt_q, spNVPt_A, spNVPt_pre, spNVPt_post]
  repeat' (first | apply And.intro | (intro _) | omega | assumption | with_reducible rfl)
  refine loopS (α := Int) false [2, 3, 4, 5, 6, 8, 9, 10, 11, 12, 13, 14, 15, 16, 17, 18] (fun σ => []) (fun σ x => [(8, I x)]) (fun σ x => []) (fun i => 0) (fun σ => gI (σ.get 8)) (fun σ τ => []) (fun i => 0 ≤ i ∧ i ≤ l.length ∧ (l.take i.toNat).all vPt = true) (fun i => (l.length - i).toNat) ⟨by (simp (config := { maxSteps := 1000000 }) only [go_sem, ↓ifP_true, ↓ifP_false, ↓ifP_not, Nat.reduceLT, Nat.reduceAdd, Nat.reduceBEq, Nat.reduceSub, Nat.reduceLeDiff, Nat.reduceEqDiff, Nat.reduceMul, Int.reduceToNat, Int.reduceEq, Int.reduceLT, Int.reduceLE, Int.reduceAdd, Int.reduceSub, Int.reduceMul, reduceCtorEq, cond_true, cond_false, forall_eq', forall_eq, forall_const, implies_true, if_true, if_false, exists_eq_left', exists_eq', exists_eq, ne_eq, Try.f119, tb119_104, spIdx_q, spIdx_A, spIdx_pre, spIdx_post, spNVPt_q, spNVPt_A, spNVPt_pre, spNVPt_post]; (repeat' (first | apply And.intro | (intro _) | omega | assumption | with_reducible rfl))), ?_⟩
  rintro i hinv
  try dsimp only at hinv
  simp (config := { maxSteps := 1000000 }) only [go_sem, ↓ifP_true, ↓ifP_false, ↓ifP_not, Nat.reduceLT, Nat.reduceAdd, Nat.reduceBEq, Nat.reduceSub, Nat.reduceLeDiff, Nat.reduceEqDiff, Nat.reduceMul, Int.reduceToNat, Int.reduceEq, Int.reduceLT, Int.reduceLE, Int.reduceAdd, Int.reduceSub, Int.reduceMul, reduceCtorEq, cond_true, cond_false, forall_eq', forall_eq, forall_const, implies_true, if_true, if_false, exists_eq_left', exists_eq', exists_eq, ne_eq, Try.f119, tb119_104, spIdx_q, spIdx_A, spIdx_pre, spIdx_post, spNVPt_q, spNVPt_A, spNVPt_pre, spNVPt_post]
  repeat' (first | apply And.intro | (intro _) | omega | assumption | with_reducible rfl)
  all_goals (first | (grind [→ takeN, takeA, all_bad]; done))
theorem sat_slices_IndexFunc_impl_Point_impl_Point : Sat Try.prog rt0 119 (wkIn spIdx) := sat_in (sat_out sat_slices_IndexFunc_impl_Point_impl_Point_0)
end Go.Proofs.Ytjjmjidchehffaa
end
section
set_option maxRecDepth 100000
set_option linter.unusedSimpArgs false
set_option linter.unusedVariables false
namespace Go.Proofs.Ytjjmjidchehffaa
open Go Go.VE
def spHas_A : (List Pt) → List AV
  | l => [.c (.sl false (l.map ptC)), .c (.fn 104 [])]
def spHas_pre : (List Pt) → Prop
  | l => l.length ≤ 1000000000
def spHas_post : (List Pt) → AV → List Box → Prop
  | l, r, bs => r = B (!l.all vPt) ∧ bs = []
def spHas : VE.Spec := famSpec spHas_A d_lpt_f104 spHas_pre spHas_post 0 true
theorem spHas_q : spHas.flat = true ∧ spHas.mt = [] ∧ spHas.shut = false ∧ spHas.cost = 0 ∧ (∀ a i, spHas.pre a i = (i = [] ∧ famPre d_lpt_f104 spHas_A spHas_pre a)) ∧ ∀ a i r b, spHas.post a i r b = (famPost d_lpt_f104 spHas_post a r b) := ⟨rfl, rfl, rfl, rfl, fun _ _ => rfl, fun _ _ _ _ => rfl⟩
def tb103 : Nat → Option VE.Spec := tabOf [(119, wkIn spIdx)]
theorem tb103_119 : tb103 119 = some (wkIn spIdx) := rfl
theorem tb103_ok : TabOK Try.prog rt0 tb103 := (tabOf_cons (by kernel_rfl) sat_slices_IndexFunc_impl_Point_impl_Point tabOf_nil)
set_option maxHeartbeats 4000000 in
theorem sat_slices_ContainsFunc_impl_Point_impl_Point_0 : Sat Try.prog rt0 103 (wkOut spHas) := by
  refine fn_sat hm ttok (tab := tb103) tb103_ok Try.func103 (c := Try.f103.body.getD .skip) (by kernel_rfl) (ts := [.tmp 4]) (by kernel_rfl) Try.ntmps103 (sq := fun _ => true) (by kernel_rfl) ?_
  intro args ins pk hpre0 hpk
  obtain ⟨rfl, hpre0⟩ := hpre0
  obtain ⟨l, rfl, hpre, hdec⟩ := famPre_ex hpre0
  clear hpre0 hdec
  try simp only [spHas_pre] at hpre
  replace hpk : pk + 0 ≤ pickLimit := hpk
  refine ⟨Nat.le_of_ble_eq_true rfl, ?_⟩
  simp (config := { maxSteps := 1000000 }) only [go_sem, ↓ifP_true, ↓ifP_false, ↓ifP_not, Nat.reduceLT, Nat.reduceAdd, Nat.reduceBEq, Nat.reduceSub, Nat.reduceLeDiff, Nat.reduceEqDiff, Nat.reduceMul, Int.reduceToNat, Int.reduceEq, Int.reduceLT, Int.reduceLE, Int.reduceAdd, Int.reduceSub, Int.reduceMul, reduceCtorEq, cond_true, cond_false, forall_eq', forall_eq, forall_const, implies_true, if_true, if_false, exists_eq_left', exists_eq', exists_eq, ne_eq, Try.f103, tb103_119, spHas_q, spHas_A, spHas_pre, spHas_post, spIdx_q, spIdx_A, spIdx_pre, spIdx_post]
  repeat' (first | apply And.intro | (intro _) | omega | assumption | with_reducible rfl)
  all_goals (first | (grind; done))
theorem sat_slices_ContainsFunc_impl_Point_impl_Point : Sat Try.prog rt0 103 (wkIn spHas) := sat_in (sat_out sat_slices_ContainsFunc_impl_Point_impl_Point_0)
def spVPts_A : (List Pt) → List AV
  | l => [.c (.sl false (l.map ptC))]
def spVPts_pre : (List Pt) → Prop
  | l => l.length ≤ 1000000000
def spVPts_post : (List Pt) → AV → List Box → Prop
  | l, r, bs => r = B (vPts l) ∧ bs = []
def spVPts : VE.Spec := famSpec spVPts_A d_lpt spVPts_pre spVPts_post 0 true
theorem spVPts_q : spVPts.flat = true ∧ spVPts.mt = [] ∧ spVPts.shut = false ∧ spVPts.cost = 0 ∧ (∀ a i, spVPts.pre a i = (i = [] ∧ famPre d_lpt spVPts_A spVPts_pre a)) ∧ ∀ a i r b, spVPts.post a i r b = (famPost d_lpt spVPts_post a r b) := ⟨rfl, rfl, rfl, rfl, fun _ _ => rfl, fun _ _ _ _ => rfl⟩
def tb77 : Nat → Option VE.Spec := tabOf [(103, wkIn spHas)]
theorem tb77_103 : tb77 103 = some (wkIn spHas) := rfl
theorem tb77_ok : TabOK Try.prog rt0 tb77 := (tabOf_cons (by kernel_rfl) sat_slices_ContainsFunc_impl_Point_impl_Point tabOf_nil)
set_option maxHeartbeats 4000000 in
theorem sat_impl_pointsValid_0 : Sat Try.prog rt0 77 (wkOut spVPts) := by
  refine fn_sat hm ttok (tab := tb77) tb77_ok Try.func77 (c := Try.f77.body.getD .skip) (by kernel_rfl) (ts := [.tmp 2]) (by kernel_rfl) Try.ntmps77 (sq := fun _ => true) (by kernel_rfl) ?_
  intro args ins pk hpre0 hpk
  obtain ⟨rfl, hpre0⟩ := hpre0
  obtain ⟨l, rfl, hpre, hdec⟩ := famPre_ex hpre0
  clear hpre0 hdec
  try simp only [spVPts_pre] at hpre
  replace hpk : pk + 0 ≤ pickLimit := hpk
  refine ⟨Nat.le_of_ble_eq_true rfl, ?_⟩
  simp (config := { maxSteps := 1000000 }) only [go_sem, ↓ifP_true, ↓ifP_false, ↓ifP_not, Nat.reduceLT, Nat.reduceAdd, Nat.reduceBEq, Nat.reduceSub, Nat.reduceLeDiff, Nat.reduceEqDiff, Nat.reduceMul, Int.reduceToNat, Int.reduceEq, Int.reduceLT, Int.reduceLE, Int.reduceAdd, Int.reduceSub, Int.reduceMul, reduceCtorEq, cond_true, cond_false, forall_eq', forall_eq, forall_const, implies_true, if_true, if_false, exists_eq_left', exists_eq', exists_eq, ne_eq, Try.f77, tb77_103, spVPts_q, spVPts_A, spVPts_pre, spVPts_post, spHas_q, spHas_A, spHas_pre, spHas_post, vPts]
  repeat' (first | apply And.intro | (intro _) | omega | assumption | with_reducible rfl)
  all_goals (first | ((simp only [decide_eq_decide, true_eq_decide_iff, false_eq_decide_iff, Bool.not_eq_eq_eq_not, Bool.not_true, Bool.not_false]; omega); done) | (grind; done))
theorem sat_impl_pointsValid : Sat Try.prog rt0 77 (wkIn spVPts) := sat_in (sat_out sat_impl_pointsValid_0)
def tb97 : Nat → Option VE.Spec := tabOf [(74, wkIn spVPt)]
theorem tb97_74 : tb97 74 = some (wkIn spVPt) := rfl
theorem tb97_ok : TabOK Try.prog rt0 tb97 := (tabOf_cons (by kernel_rfl) sat_spec_validPoint tabOf_nil)
set_option maxHeartbeats 4000000 in
theorem sat_spec_validPoints_0 : Sat Try.prog rt0 97 (wkOut spVPts) := by
  refine fn_sat hm ttok (tab := tb97) tb97_ok Try.func97 (c := Try.f97.body.getD .skip) (by kernel_rfl) (ts := [.tmp 2]) (by kernel_rfl) Try.ntmps97 (sq := fun _ => true) (by kernel_rfl) ?_
  intro args ins pk hpre0 hpk
  obtain ⟨rfl, hpre0⟩ := hpre0
  obtain ⟨l, rfl, hpre, hdec⟩ := famPre_ex hpre0
  clear hpre0 hdec
  try simp only [spVPts_pre] at hpre
  replace hpk : pk + 0 ≤ pickLimit := hpk
  refine ⟨Nat.le_of_ble_eq_true rfl, ?_⟩
  simp (config := { maxSteps := 1000000 }) only [go_sem, ↓ifP_true, ↓ifP_false, ↓ifP_not, Nat.reduceLT, Nat.reduceAdd, Nat.reduceBEq, Nat.reduceSub, Nat.reduceLeDiff, Nat.reduceEqDiff, Nat.reduceMul, Int.reduceToNat, Int.reduceEq, Int.reduceLT, Int.reduceLE, Int.reduceAdd, Int.reduceSub, Int.reduceMul, reduceCtorEq, cond_true, cond_false, forall_eq', forall_eq, forall_const, implies_true, if_true, if_false, exists_eq_left', exists_eq', exists_eq, ne_eq, Try.f97, tb97_74, spVPts_q, spVPts_A, spVPts_pre, spVPts_post, spVPt_q, spVPt_A, spVPt_pre, spVPt_post]
  repeat' (first | apply And.intro | (intro _) | omega | assumption | with_reducible rfl)
  refine loopS (α := Int) false [1, 2, 3, 4, 5, 6, 7, 8, 9, 10, 11, 12, 13, 14, 15] (fun σ => []) (fun σ x => [(3, I x)]) (fun σ x => []) (fun i => 0) (fun σ => gI (σ.get 3)) (fun σ τ => []) (fun i => 0 ≤ i ∧ i ≤ l.length ∧ (l.take i.toNat).all vPt = true) (fun i => (l.length - i).toNat) ⟨by (simp (config := { maxSteps := 1000000 }) only [go_sem, ↓ifP_true, ↓ifP_false, ↓ifP_not, Nat.reduceLT, Nat.reduceAdd, Nat.reduceBEq, Nat.reduceSub, Nat.reduceLeDiff, Nat.reduceEqDiff, Nat.reduceMul, Int.reduceToNat, Int.reduceEq, Int.reduceLT, Int.reduceLE, Int.reduceAdd, Int.reduceSub, Int.reduceMul, reduceCtorEq, cond_true, cond_false, forall_eq', forall_eq, forall_const, implies_true, if_true, if_false, exists_eq_left', exists_eq', exists_eq, ne_eq, Try.f97, tb97_74, spVPts_q, spVPts_A, spVPts_pre, spVPts_post, spVPt_q, spVPt_A, spVPt_pre, spVPt_post]; (repeat' (first | apply And.intro | (intro _) | omega | assumption | with_reducible rfl))), ?_⟩
  rintro i hinv
  try dsimp only at hinv
  simp (config := { maxSteps := 1000000 }) only [go_sem, ↓ifP_true, ↓ifP_false, ↓ifP_not, Nat.reduceLT, Nat.reduceAdd, Nat.reduceBEq, Nat.reduceSub, Nat.reduceLeDiff, Nat.reduceEqDiff, Nat.reduceMul, Int.reduceToNat, Int.reduceEq, Int.reduceLT, Int.reduceLE, Int.reduceAdd, Int.reduceSub, Int.reduceMul, reduceCtorEq, cond_true, cond_false, forall_eq', forall_eq, forall_const, implies_true, if_true, if_false, exists_eq_left', exists_eq', exists_eq, ne_eq, Try.f97, tb97_74, spVPts_q, spVPts_A, spVPts_pre, spVPts_post, spVPt_q, spVPt_A, spVPt_pre, spVPt_post]
  repeat' (first | apply And.intro | (intro _) | omega | assumption | with_reducible rfl)
  all_goals (first | (grind [→ takeN, takeA, all_bad, vPts]; done))
theorem sat_spec_validPoints : Sat Try.prog rt0 97 (wkIn spVPts) := sat_in (sat_out sat_spec_validPoints_0)
def total {α : Type} (L : List (List α)) : Nat := (L.map List.length).sum
theorem total_snoc {α : Type} (L : List (List α)) (l : List α) : total (L ++ [l]) = total L + l.length := by simp [total]
theorem total_take {α : Type} (L : List (List α)) (i : Nat) : total (L.take i) ≤ total L := by
  have h := List.take_append_drop i L
  have : total L = total (L.take i) + total (L.drop i) := by
    conv => lhs; rw [← h]
    simp only [total, List.map_append, List.sum_append]
  omega
def vRing (r : List Pt) : Bool := !r.isEmpty && vPts r
def vRings (L : List (List Pt)) : Bool := L.all vRing && decide (L.length ≤ 8) && decide (total L ≤ 200)
theorem vRing_iff (r : List Pt) : vRing r = (!decide (r.length = 0) && vPts r) := by cases r <;> simp [vRing]
theorem total_mem {α : Type} {L : List (List α)} {i : Nat} {r : List α} (h : L[i]? = some r) : total (L.take i) + r.length ≤ total L := by
  have := total_take L (i + 1)
  rw [List.take_add_one, h] at this
  simp only [Option.toList_some, total_snoc] at this
  exact this
def spVRings_A : (List (List Pt)) → List AV
  | L => [.c (.sl false (L.map lptC))]
def spVRings_pre : (List (List Pt)) → Prop
  | L => L.length ≤ 1000000000 ∧ total L ≤ 1000000000
def spVRings_post : (List (List Pt)) → AV → List Box → Prop
  | L, r, bs => r = B (vRings L) ∧ bs = []
def spVRings : VE.Spec := famSpec spVRings_A d_llpt spVRings_pre spVRings_post 0 true
theorem spVRings_q : spVRings.flat = true ∧ spVRings.mt = [] ∧ spVRings.shut = false ∧ spVRings.cost = 0 ∧ (∀ a i, spVRings.pre a i = (i = [] ∧ famPre d_llpt spVRings_A spVRings_pre a)) ∧ ∀ a i r b, spVRings.post a i r b = (famPost d_llpt spVRings_post a r b) := ⟨rfl, rfl, rfl, rfl, fun _ _ => rfl, fun _ _ _ _ => rfl⟩
def tb25 : Nat → Option VE.Spec := tabOf [(77, wkIn spVPts)]
theorem tb25_77 : tb25 77 = some (wkIn spVPts) := rfl
theorem tb25_ok : TabOK Try.prog rt0 tb25 := (tabOf_cons (by kernel_rfl) sat_impl_pointsValid tabOf_nil)
set_option maxHeartbeats 4000000 in
theorem sat_impl_ValidRings_0 : Sat Try.prog rt0 25 (wkOut spVRings) := by
  refine fn_sat hm ttok (tab := tb25) tb25_ok Try.func25 (c := Try.f25.body.getD .skip) (by kernel_rfl) (ts := [.tmp 2]) (by kernel_rfl) Try.ntmps25 (sq := fun _ => true) (by kernel_rfl) ?_
  intro args ins pk hpre0 hpk
  obtain ⟨rfl, hpre0⟩ := hpre0
  obtain ⟨L, rfl, hpre, hdec⟩ := famPre_ex hpre0
  clear hpre0 hdec
  try simp only [spVRings_pre] at hpre
  replace hpk : pk + 0 ≤ pickLimit := hpk
  refine ⟨Nat.le_of_ble_eq_true rfl, ?_⟩
  simp (config := { maxSteps := 1000000 }) only [go_sem, ↓ifP_true, ↓ifP_false, ↓ifP_not, Nat.reduceLT, Nat.reduceAdd, Nat.reduceBEq, Nat.reduceSub, Nat.reduceLeDiff, Nat.reduceEqDiff, Nat.reduceMul, Int.reduceToNat, Int.reduceEq, Int.reduceLT, Int.reduceLE, Int.reduceAdd, Int.reduceSub, Int.reduceMul, reduceCtorEq, cond_true, cond_false, forall_eq', forall_eq, forall_const, implies_true, if_true, if_false, exists_eq_left', exists_eq', exists_eq, ne_eq, Try.f25, tb25_77, spVRings_q, spVRings_A, spVRings_pre, spVRings_post, spVPts_q, spVPts_A, spVPts_pre, spVPts_post]
  repeat' (first | apply And.intro | (intro _) | omega | assumption | with_reducible rfl)
  refine loopS (α := Int × Int) false [1, 2, 3, 4, 5, 8, 9, 10, 11, 12, 13, 14, 15, 16, 17, 18, 19, 20, 21, 22, 23, 24] (fun σ => []) (fun σ x => [(3, I x.1), (8, I x.2)]) (fun σ x => []) (fun (c, i) => 0) (fun σ => (gI (σ.get 3), gI (σ.get 8))) (fun σ τ => []) (fun (c, i) => 0 ≤ i ∧ i ≤ L.length ∧ (L.take i.toNat).all vRing = true ∧ c = total (L.take i.toNat)) (fun (c, i) => (L.length - i).toNat) ⟨by (simp (config := { maxSteps := 1000000 }) only [go_sem, ↓ifP_true, ↓ifP_false, ↓ifP_not, Nat.reduceLT, Nat.reduceAdd, Nat.reduceBEq, Nat.reduceSub, Nat.reduceLeDiff, Nat.reduceEqDiff, Nat.reduceMul, Int.reduceToNat, Int.reduceEq, Int.reduceLT, Int.reduceLE, Int.reduceAdd, Int.reduceSub, Int.reduceMul, reduceCtorEq, cond_true, cond_false, forall_eq', forall_eq, forall_const, implies_true, if_true, if_false, exists_eq_left', exists_eq', exists_eq, ne_eq, Try.f25, tb25_77, spVRings_q, spVRings_A, spVRings_pre, spVRings_post, spVPts_q, spVPts_A, spVPts_pre, spVPts_post]; (repeat' (first | apply And.intro | (intro _) | omega | assumption | with_reducible rfl)); all_goals (first | grind [total])), ?_⟩
  rintro ⟨c, i⟩ hinv
  try dsimp only at hinv
  simp (config := { maxSteps := 1000000 }) only [go_sem, ↓ifP_true, ↓ifP_false, ↓ifP_not, Nat.reduceLT, Nat.reduceAdd, Nat.reduceBEq, Nat.reduceSub, Nat.reduceLeDiff, Nat.reduceEqDiff, Nat.reduceMul, Int.reduceToNat, Int.reduceEq, Int.reduceLT, Int.reduceLE, Int.reduceAdd, Int.reduceSub, Int.reduceMul, reduceCtorEq, cond_true, cond_false, forall_eq', forall_eq, forall_const, implies_true, if_true, if_false, exists_eq_left', exists_eq', exists_eq, ne_eq, Try.f25, tb25_77, spVRings_q, spVRings_A, spVRings_pre, spVRings_post, spVPts_q, spVPts_A, spVPts_pre, spVPts_post]
  repeat' (first | apply And.intro | (intro _) | omega | assumption | with_reducible rfl)
  all_goals (first | (grind [→ takeN, takeA, all_bad, total_snoc, → total_mem, vRing_iff, vRings]; done))
theorem sat_impl_ValidRings : Sat Try.prog rt0 25 (wkIn spVRings) := sat_in (sat_out sat_impl_ValidRings_0)
end Go.Proofs.Ytjjmjidchehffaa
end
section
set_option maxRecDepth 100000
set_option linter.unusedSimpArgs false
set_option linter.unusedVariables false
namespace Go.Proofs.Ytjjmjidchehffaa
open Go Go.VE
theorem fdiv_eq (a b : Int) : a / b = if 0 < b then (if a.tmod b < 0 then a.tdiv b - 1 else a.tdiv b) else a / b := by
  split
  · rename_i hb
    have e := Int.mul_tdiv_add_tmod a b
    have e1 := Int.mul_ediv_add_emod a b
    have m1 := Int.emod_nonneg a (by omega : b ≠ 0)
    have m2 := Int.emod_lt_of_pos a hb
    have t1 := Int.tmod_lt_of_pos a hb
    have t0 : -b < a.tmod b := by
      rcases Int.lt_or_le a 0 with ha | ha
      · have := Int.tmod_lt_of_pos (-a) hb
        rw [Int.neg_tmod] at this
        omega
      · have := Int.tmod_nonneg b ha
        omega
    generalize a / b = q at *
    generalize a % b = r at *
    generalize a.tdiv b = s at *
    generalize a.tmod b = t at *
    have hk : b * (q - s) = t - r := by rw [Int.mul_sub]; omega
    have h1 : q - s < 1 ∧ -2 < q - s := by
      constructor
      · by_cases h : q - s < 1
        · exact h
        · have := Int.mul_le_mul_of_nonneg_left (show 1 ≤ q - s by omega) (show 0 ≤ b by omega)
          omega
      · by_cases h : -2 < q - s
        · exact h
        · have := Int.mul_le_mul_of_nonneg_left (show q - s ≤ -2 by omega) (show 0 ≤ b by omega)
          omega
    have h2 : q - s = 0 ∨ q - s = -1 := by omega
    rcases h2 with h2 | h2 <;> rw [h2] at hk <;> split <;> omega
  · rfl
def insN (n rule : Int) : Bool := if rule = 1 then decide (n % 2 = 1) else decide (n ≠ 0)
def isRl (n : Int) : Bool := decide (n = 0 ∨ n = 1)
def szd (w h : Int) : Bool := decide ((1 ≤ w ∧ w ≤ 12) ∧ 1 ≤ h ∧ h ≤ 12)
def acr (w : Int) : Int := (w + 3) / 4
def tcnt (w h : Int) : Int := if szd w h = true then acr w * acr h else -1
def isT (w h t : Int) : Bool := szd w h && decide (0 ≤ t ∧ t < acr w * acr h)
def tbox (w h t : Int) : Bx := ⟨t % acr w * 4, t / acr w * 4, min (t % acr w * 4 + 4) w, min (t / acr w * 4 + 4) h⟩
theorem acr_in {w : Int} (h : 1 ≤ w ∧ w ≤ 12) : 1 ≤ acr w ∧ acr w ≤ 3 := by unfold acr; omega
theorem acr_mul {w h : Int} (hs : szd w h = true) : (1 ≤ acr w ∧ acr w ≤ 3) ∧ (1 ≤ acr h ∧ acr h ≤ 3) ∧ 1 ≤ acr w * acr h ∧ acr w * acr h ≤ 9 := by
  simp only [szd, decide_eq_true_eq] at hs
  have h1 := acr_in hs.1
  have h2 := acr_in hs.2
  refine ⟨h1, h2, ?_, ?_⟩
  · have := Int.mul_le_mul h1.1 h2.1 (by omega) (by omega); omega
  · have := Int.mul_le_mul h1.2 h2.2 (by omega) (by omega); omega
theorem tdiv_nn {a b : Int} (h : 0 ≤ a) : a.tdiv b = a / b := Int.tdiv_eq_ediv_of_nonneg h
theorem tmod_nn {a b : Int} (h : 0 ≤ a) : a.tmod b = a % b := Int.tmod_eq_emod_of_nonneg h
theorem tmod2 (n : Int) : n.tmod 2 ≠ 0 ↔ n % 2 = 1 := by
  constructor <;> intro h <;> (have := Int.tmod_eq_emod (a := n) (b := 2); split at this <;> omega)
def spRl_A : Int → List AV
  | n => [I n]
def spRl_pre : Int → Prop
  | n => True
def spRl_post : Int → AV → List Box → Prop
  | n, r, bs => r = B (isRl n) ∧ bs = []
def spRl : VE.Spec := famSpec spRl_A d_i spRl_pre spRl_post 0 true
theorem spRl_q : spRl.flat = true ∧ spRl.mt = [] ∧ spRl.shut = false ∧ spRl.cost = 0 ∧ (∀ a i, spRl.pre a i = (i = [] ∧ famPre d_i spRl_A spRl_pre a)) ∧ ∀ a i r b, spRl.post a i r b = (famPost d_i spRl_post a r b) := ⟨rfl, rfl, rfl, rfl, fun _ _ => rfl, fun _ _ _ _ => rfl⟩
def tb70 : Nat → Option VE.Spec := tabOf []
theorem tb70_ok : TabOK Try.prog rt0 tb70 := tabOf_nil
set_option maxHeartbeats 4000000 in
theorem sat_impl_isRule_0 : Sat Try.prog rt0 70 (wkOut spRl) := by
  refine fn_sat hm ttok (tab := tb70) tb70_ok Try.func70 (c := Try.f70.body.getD .skip) (by kernel_rfl) (ts := [.tmp 2]) (by kernel_rfl) Try.ntmps70 (sq := fun _ => true) (by kernel_rfl) ?_
  intro args ins pk hpre0 hpk
  obtain ⟨rfl, hpre0⟩ := hpre0
  obtain ⟨n, rfl, hpre, hdec⟩ := famPre_ex hpre0
  clear hpre0 hdec
  try simp only [spRl_pre] at hpre
  replace hpk : pk + 0 ≤ pickLimit := hpk
  refine ⟨Nat.le_of_ble_eq_true rfl, ?_⟩
  simp (config := { maxSteps := 1000000 }) only [go_sem, ↓ifP_true, ↓ifP_false, ↓ifP_not, Nat.reduceLT, Nat.reduceAdd, Nat.reduceBEq, Nat.reduceSub, Nat.reduceLeDiff, Nat.reduceEqDiff, Nat.reduceMul, Int.reduceToNat, Int.reduceEq, Int.reduceLT, Int.reduceLE, Int.reduceAdd, Int.reduceSub, Int.reduceMul, reduceCtorEq, cond_true, cond_false, forall_eq', forall_eq, forall_const, implies_true, if_true, if_false, exists_eq_left', exists_eq', exists_eq, ne_eq, Try.f70, spRl_q, spRl_A, spRl_pre, spRl_post]
  repeat' (first | apply And.intro | (intro _) | omega | assumption | with_reducible rfl)
  all_goals (first | ((simp only [isRl]; grind); done))
theorem sat_impl_isRule : Sat Try.prog rt0 70 (wkIn spRl) := sat_in (sat_out sat_impl_isRule_0)
def spIns_A : Int × Int → List AV
  | (n, rl) => [I n, I rl]
def spIns_pre : Int × Int → Prop
  | (n, rl) => -1000000 ≤ n ∧ n ≤ 1000000
def spIns_post : Int × Int → AV → List Box → Prop
  | (n, rl), r, bs => r = B (insN n rl) ∧ bs = []
def spIns : VE.Spec := famSpec spIns_A d_i_i spIns_pre spIns_post 0 true
theorem spIns_q : spIns.flat = true ∧ spIns.mt = [] ∧ spIns.shut = false ∧ spIns.cost = 0 ∧ (∀ a i, spIns.pre a i = (i = [] ∧ famPre d_i_i spIns_A spIns_pre a)) ∧ ∀ a i r b, spIns.post a i r b = (famPost d_i_i spIns_post a r b) := ⟨rfl, rfl, rfl, rfl, fun _ _ => rfl, fun _ _ _ _ => rfl⟩
def tb72 : Nat → Option VE.Spec := tabOf []
theorem tb72_ok : TabOK Try.prog rt0 tb72 := tabOf_nil
set_option maxHeartbeats 4000000 in
theorem sat_impl_inside_0 : Sat Try.prog rt0 72 (wkOut spIns) := by
  refine fn_sat hm ttok (tab := tb72) tb72_ok Try.func72 (c := Try.f72.body.getD .skip) (by kernel_rfl) (ts := [.tmp 4]) (by kernel_rfl) Try.ntmps72 (sq := fun _ => true) (by kernel_rfl) ?_
  intro args ins pk hpre0 hpk
  obtain ⟨rfl, hpre0⟩ := hpre0
  obtain ⟨⟨n, rl⟩, rfl, hpre, hdec⟩ := famPre_ex hpre0
  clear hpre0 hdec
  try simp only [spIns_pre] at hpre
  replace hpk : pk + 0 ≤ pickLimit := hpk
  refine ⟨Nat.le_of_ble_eq_true rfl, ?_⟩
  simp (config := { maxSteps := 1000000 }) only [go_sem, ↓ifP_true, ↓ifP_false, ↓ifP_not, Nat.reduceLT, Nat.reduceAdd, Nat.reduceBEq, Nat.reduceSub, Nat.reduceLeDiff, Nat.reduceEqDiff, Nat.reduceMul, Int.reduceToNat, Int.reduceEq, Int.reduceLT, Int.reduceLE, Int.reduceAdd, Int.reduceSub, Int.reduceMul, reduceCtorEq, cond_true, cond_false, forall_eq', forall_eq, forall_const, implies_true, if_true, if_false, exists_eq_left', exists_eq', exists_eq, ne_eq, Try.f72, spIns_q, spIns_A, spIns_pre, spIns_post]
  repeat' (first | apply And.intro | (intro _) | omega | assumption | with_reducible rfl)
  all_goals (first | ((simp only [insN, ← tmod2]; grind); done))
theorem sat_impl_inside : Sat Try.prog rt0 72 (wkIn spIns) := sat_in (sat_out sat_impl_inside_0)
def spDist_A : Int → List AV
  | n => [I n]
def spDist_pre : Int → Prop
  | n => -1000000000000 ≤ n ∧ n ≤ 1000000000000
def spDist_post : Int → AV → List Box → Prop
  | n, r, bs => r = I (if n < 0 then -n else n) ∧ bs = []
def spDist : VE.Spec := famSpec spDist_A d_i spDist_pre spDist_post 0 true
theorem spDist_q : spDist.flat = true ∧ spDist.mt = [] ∧ spDist.shut = false ∧ spDist.cost = 0 ∧ (∀ a i, spDist.pre a i = (i = [] ∧ famPre d_i spDist_A spDist_pre a)) ∧ ∀ a i r b, spDist.post a i r b = (famPost d_i spDist_post a r b) := ⟨rfl, rfl, rfl, rfl, fun _ _ => rfl, fun _ _ _ _ => rfl⟩
def tb101 : Nat → Option VE.Spec := tabOf []
theorem tb101_ok : TabOK Try.prog rt0 tb101 := tabOf_nil
set_option maxHeartbeats 4000000 in
theorem sat_spec_distance_0 : Sat Try.prog rt0 101 (wkOut spDist) := by
  refine fn_sat hm ttok (tab := tb101) tb101_ok Try.func101 (c := Try.f101.body.getD .skip) (by kernel_rfl) (ts := [.tmp 2]) (by kernel_rfl) Try.ntmps101 (sq := fun _ => true) (by kernel_rfl) ?_
  intro args ins pk hpre0 hpk
  obtain ⟨rfl, hpre0⟩ := hpre0
  obtain ⟨n, rfl, hpre, hdec⟩ := famPre_ex hpre0
  clear hpre0 hdec
  try simp only [spDist_pre] at hpre
  replace hpk : pk + 0 ≤ pickLimit := hpk
  refine ⟨Nat.le_of_ble_eq_true rfl, ?_⟩
  simp (config := { maxSteps := 1000000 }) only [go_sem, ↓ifP_true, ↓ifP_false, ↓ifP_not, Nat.reduceLT, Nat.reduceAdd, Nat.reduceBEq, Nat.reduceSub, Nat.reduceLeDiff, Nat.reduceEqDiff, Nat.reduceMul, Int.reduceToNat, Int.reduceEq, Int.reduceLT, Int.reduceLE, Int.reduceAdd, Int.reduceSub, Int.reduceMul, reduceCtorEq, cond_true, cond_false, forall_eq', forall_eq, forall_const, implies_true, if_true, if_false, exists_eq_left', exists_eq', exists_eq, ne_eq, Try.f101, spDist_q, spDist_A, spDist_pre, spDist_post]
  repeat' (first | apply And.intro | (intro _) | omega | assumption | with_reducible rfl)
  all_goals (first | (grind; done))
theorem sat_spec_distance : Sat Try.prog rt0 101 (wkIn spDist) := sat_in (sat_out sat_spec_distance_0)
def tb133 : Nat → Option VE.Spec := tabOf []
theorem tb133_ok : TabOK Try.prog rt0 tb133 := tabOf_nil
set_option maxHeartbeats 4000000 in
theorem sat_impl_size_0 : Sat Try.prog rt0 133 (wkOut spDist) := by
  refine fn_sat hm ttok (tab := tb133) tb133_ok Try.func133 (c := Try.f133.body.getD .skip) (by kernel_rfl) (ts := [.tmp 2]) (by kernel_rfl) Try.ntmps133 (sq := fun _ => true) (by kernel_rfl) ?_
  intro args ins pk hpre0 hpk
  obtain ⟨rfl, hpre0⟩ := hpre0
  obtain ⟨n, rfl, hpre, hdec⟩ := famPre_ex hpre0
  clear hpre0 hdec
  try simp only [spDist_pre] at hpre
  replace hpk : pk + 0 ≤ pickLimit := hpk
  refine ⟨Nat.le_of_ble_eq_true rfl, ?_⟩
  simp (config := { maxSteps := 1000000 }) only [go_sem, ↓ifP_true, ↓ifP_false, ↓ifP_not, Nat.reduceLT, Nat.reduceAdd, Nat.reduceBEq, Nat.reduceSub, Nat.reduceLeDiff, Nat.reduceEqDiff, Nat.reduceMul, Int.reduceToNat, Int.reduceEq, Int.reduceLT, Int.reduceLE, Int.reduceAdd, Int.reduceSub, Int.reduceMul, reduceCtorEq, cond_true, cond_false, forall_eq', forall_eq, forall_const, implies_true, if_true, if_false, exists_eq_left', exists_eq', exists_eq, ne_eq, Try.f133, spDist_q, spDist_A, spDist_pre, spDist_post]
  repeat' (first | apply And.intro | (intro _) | omega | assumption | with_reducible rfl)
  all_goals (first | (grind; done))
theorem sat_impl_size : Sat Try.prog rt0 133 (wkIn spDist) := sat_in (sat_out sat_impl_size_0)
def tb75 : Nat → Option VE.Spec := tabOf [(101, wkIn spDist)]
theorem tb75_101 : tb75 101 = some (wkIn spDist) := rfl
theorem tb75_ok : TabOK Try.prog rt0 tb75 := (tabOf_cons (by kernel_rfl) sat_spec_distance tabOf_nil)
set_option maxHeartbeats 4000000 in
theorem sat_spec_inside_0 : Sat Try.prog rt0 75 (wkOut spIns) := by
  refine fn_sat hm ttok (tab := tb75) tb75_ok Try.func75 (c := Try.f75.body.getD .skip) (by kernel_rfl) (ts := [.tmp 4]) (by kernel_rfl) Try.ntmps75 (sq := fun _ => true) (by kernel_rfl) ?_
  intro args ins pk hpre0 hpk
  obtain ⟨rfl, hpre0⟩ := hpre0
  obtain ⟨⟨n, rl⟩, rfl, hpre, hdec⟩ := famPre_ex hpre0
  clear hpre0 hdec
  try simp only [spIns_pre] at hpre
  replace hpk : pk + 0 ≤ pickLimit := hpk
  refine ⟨Nat.le_of_ble_eq_true rfl, ?_⟩
  simp (config := { maxSteps := 1000000 }) only [go_sem, ↓ifP_true, ↓ifP_false, ↓ifP_not, Nat.reduceLT, Nat.reduceAdd, Nat.reduceBEq, Nat.reduceSub, Nat.reduceLeDiff, Nat.reduceEqDiff, Nat.reduceMul, Int.reduceToNat, Int.reduceEq, Int.reduceLT, Int.reduceLE, Int.reduceAdd, Int.reduceSub, Int.reduceMul, reduceCtorEq, cond_true, cond_false, forall_eq', forall_eq, forall_const, implies_true, if_true, if_false, exists_eq_left', exists_eq', exists_eq, ne_eq, Try.f75, tb75_101, spIns_q, spIns_A, spIns_pre, spIns_post, spDist_q, spDist_A, spDist_pre, spDist_post]
  repeat' (first | apply And.intro | (intro _) | omega | assumption | with_reducible rfl)
  all_goals (first | ((simp only [insN]; have := Int.tmod_eq_emod_of_nonneg (a := if n < 0 then -n else n) (b := 2) (by grind); grind); done) | (grind; done))
theorem sat_spec_inside : Sat Try.prog rt0 75 (wkIn spIns) := sat_in (sat_out sat_spec_inside_0)
def spToInt_A : Bool → List AV
  | b => [B b]
def spToInt_pre : Bool → Prop
  | b => True
def spToInt_post : Bool → AV → List Box → Prop
  | b, r, bs => r = I (if b then 1 else 0) ∧ bs = []
def spToInt : VE.Spec := famSpec spToInt_A d_b spToInt_pre spToInt_post 0 true
theorem spToInt_q : spToInt.flat = true ∧ spToInt.mt = [] ∧ spToInt.shut = false ∧ spToInt.cost = 0 ∧ (∀ a i, spToInt.pre a i = (i = [] ∧ famPre d_b spToInt_A spToInt_pre a)) ∧ ∀ a i r b, spToInt.post a i r b = (famPost d_b spToInt_post a r b) := ⟨rfl, rfl, rfl, rfl, fun _ _ => rfl, fun _ _ _ _ => rfl⟩
def tb112 : Nat → Option VE.Spec := tabOf []
theorem tb112_ok : TabOK Try.prog rt0 tb112 := tabOf_nil
set_option maxHeartbeats 4000000 in
theorem sat_spec_toInt_0 : Sat Try.prog rt0 112 (wkOut spToInt) := by
  refine fn_sat hm ttok (tab := tb112) tb112_ok Try.func112 (c := Try.f112.body.getD .skip) (by kernel_rfl) (ts := [.tmp 2]) (by kernel_rfl) Try.ntmps112 (sq := fun _ => true) (by kernel_rfl) ?_
  intro args ins pk hpre0 hpk
  obtain ⟨rfl, hpre0⟩ := hpre0
  obtain ⟨b, rfl, hpre, hdec⟩ := famPre_ex hpre0
  clear hpre0 hdec
  try simp only [spToInt_pre] at hpre
  replace hpk : pk + 0 ≤ pickLimit := hpk
  refine ⟨Nat.le_of_ble_eq_true rfl, ?_⟩
  simp (config := { maxSteps := 1000000 }) only [go_sem, ↓ifP_true, ↓ifP_false, ↓ifP_not, Nat.reduceLT, Nat.reduceAdd, Nat.reduceBEq, Nat.reduceSub, Nat.reduceLeDiff, Nat.reduceEqDiff, Nat.reduceMul, Int.reduceToNat, Int.reduceEq, Int.reduceLT, Int.reduceLE, Int.reduceAdd, Int.reduceSub, Int.reduceMul, reduceCtorEq, cond_true, cond_false, forall_eq', forall_eq, forall_const, implies_true, if_true, if_false, exists_eq_left', exists_eq', exists_eq, ne_eq, Try.f112, spToInt_q, spToInt_A, spToInt_pre, spToInt_post]
  repeat' (first | apply And.intro | (intro _) | omega | assumption | with_reducible rfl)
  all_goals (first | (simp_all; done))
theorem sat_spec_toInt : Sat Try.prog rt0 112 (wkIn spToInt) := sat_in (sat_out sat_spec_toInt_0)
def spSamp_A : Int → List AV
  | n => [I n]
def spSamp_pre : Int → Prop
  | n => -1000000 ≤ n ∧ n ≤ 1000000
def spSamp_post : Int → AV → List Box → Prop
  | n, r, bs => r = I (2 + 4 * n) ∧ bs = []
def spSamp : VE.Spec := famSpec spSamp_A d_i spSamp_pre spSamp_post 0 true
theorem spSamp_q : spSamp.flat = true ∧ spSamp.mt = [] ∧ spSamp.shut = false ∧ spSamp.cost = 0 ∧ (∀ a i, spSamp.pre a i = (i = [] ∧ famPre d_i spSamp_A spSamp_pre a)) ∧ ∀ a i r b, spSamp.post a i r b = (famPost d_i spSamp_post a r b) := ⟨rfl, rfl, rfl, rfl, fun _ _ => rfl, fun _ _ _ _ => rfl⟩
def tb111 : Nat → Option VE.Spec := tabOf []
theorem tb111_ok : TabOK Try.prog rt0 tb111 := tabOf_nil
set_option maxHeartbeats 4000000 in
theorem sat_impl_sampleAt_0 : Sat Try.prog rt0 111 (wkOut spSamp) := by
  refine fn_sat hm ttok (tab := tb111) tb111_ok Try.func111 (c := Try.f111.body.getD .skip) (by kernel_rfl) (ts := [.tmp 2]) (by kernel_rfl) Try.ntmps111 (sq := fun _ => true) (by kernel_rfl) ?_
  intro args ins pk hpre0 hpk
  obtain ⟨rfl, hpre0⟩ := hpre0
  obtain ⟨n, rfl, hpre, hdec⟩ := famPre_ex hpre0
  clear hpre0 hdec
  try simp only [spSamp_pre] at hpre
  replace hpk : pk + 0 ≤ pickLimit := hpk
  refine ⟨Nat.le_of_ble_eq_true rfl, ?_⟩
  simp (config := { maxSteps := 1000000 }) only [go_sem, ↓ifP_true, ↓ifP_false, ↓ifP_not, Nat.reduceLT, Nat.reduceAdd, Nat.reduceBEq, Nat.reduceSub, Nat.reduceLeDiff, Nat.reduceEqDiff, Nat.reduceMul, Int.reduceToNat, Int.reduceEq, Int.reduceLT, Int.reduceLE, Int.reduceAdd, Int.reduceSub, Int.reduceMul, reduceCtorEq, cond_true, cond_false, forall_eq', forall_eq, forall_const, implies_true, if_true, if_false, exists_eq_left', exists_eq', exists_eq, ne_eq, Try.f111, spSamp_q, spSamp_A, spSamp_pre, spSamp_post]
  repeat' (first | apply And.intro | (intro _) | omega | assumption | with_reducible rfl)
theorem sat_impl_sampleAt : Sat Try.prog rt0 111 (wkIn spSamp) := sat_in (sat_out sat_impl_sampleAt_0)
def spSzd_A : Int × Int → List AV
  | (w, h) => [I w, I h]
def spSzd_pre : Int × Int → Prop
  | (w, h) => True
def spSzd_post : Int × Int → AV → List Box → Prop
  | (w, h), r, bs => r = B (szd w h) ∧ bs = []
def spSzd : VE.Spec := famSpec spSzd_A d_i_i spSzd_pre spSzd_post 0 true
theorem spSzd_q : spSzd.flat = true ∧ spSzd.mt = [] ∧ spSzd.shut = false ∧ spSzd.cost = 0 ∧ (∀ a i, spSzd.pre a i = (i = [] ∧ famPre d_i_i spSzd_A spSzd_pre a)) ∧ ∀ a i r b, spSzd.post a i r b = (famPost d_i_i spSzd_post a r b) := ⟨rfl, rfl, rfl, rfl, fun _ _ => rfl, fun _ _ _ _ => rfl⟩
def tb117 : Nat → Option VE.Spec := tabOf [(54, wkIn spIn)]
theorem tb117_54 : tb117 54 = some (wkIn spIn) := rfl
theorem tb117_ok : TabOK Try.prog rt0 tb117 := (tabOf_cons (by kernel_rfl) sat_impl_in tabOf_nil)
set_option maxHeartbeats 4000000 in
theorem sat_impl_sized_0 : Sat Try.prog rt0 117 (wkOut spSzd) := by
  refine fn_sat hm ttok (tab := tb117) tb117_ok Try.func117 (c := Try.f117.body.getD .skip) (by kernel_rfl) (ts := [.tmp 4]) (by kernel_rfl) Try.ntmps117 (sq := fun _ => true) (by kernel_rfl) ?_
  intro args ins pk hpre0 hpk
  obtain ⟨rfl, hpre0⟩ := hpre0
  obtain ⟨⟨w, h⟩, rfl, hpre, hdec⟩ := famPre_ex hpre0
  clear hpre0 hdec
  try simp only [spSzd_pre] at hpre
  replace hpk : pk + 0 ≤ pickLimit := hpk
  refine ⟨Nat.le_of_ble_eq_true rfl, ?_⟩
  simp (config := { maxSteps := 1000000 }) only [go_sem, ↓ifP_true, ↓ifP_false, ↓ifP_not, Nat.reduceLT, Nat.reduceAdd, Nat.reduceBEq, Nat.reduceSub, Nat.reduceLeDiff, Nat.reduceEqDiff, Nat.reduceMul, Int.reduceToNat, Int.reduceEq, Int.reduceLT, Int.reduceLE, Int.reduceAdd, Int.reduceSub, Int.reduceMul, reduceCtorEq, cond_true, cond_false, forall_eq', forall_eq, forall_const, implies_true, if_true, if_false, exists_eq_left', exists_eq', exists_eq, ne_eq, Try.f117, tb117_54, spSzd_q, spSzd_A, spSzd_pre, spSzd_post, spIn_q, spIn_A, spIn_pre, spIn_post, szd]
  repeat' (first | apply And.intro | (intro _) | omega | assumption | with_reducible rfl)
  all_goals (first | ((simp only [decide_eq_decide, true_eq_decide_iff, false_eq_decide_iff, Bool.not_eq_eq_eq_not, Bool.not_true, Bool.not_false]; omega); done) | (grind; done))
theorem sat_impl_sized : Sat Try.prog rt0 117 (wkIn spSzd) := sat_in (sat_out sat_impl_sized_0)
def tb64 : Nat → Option VE.Spec := tabOf [(55, wkIn spIn)]
theorem tb64_55 : tb64 55 = some (wkIn spIn) := rfl
theorem tb64_ok : TabOK Try.prog rt0 tb64 := (tabOf_cons (by kernel_rfl) sat_spec_inRange tabOf_nil)
set_option maxHeartbeats 4000000 in
theorem sat_spec_validSize_0 : Sat Try.prog rt0 64 (wkOut spSzd) := by
  refine fn_sat hm ttok (tab := tb64) tb64_ok Try.func64 (c := Try.f64.body.getD .skip) (by kernel_rfl) (ts := [.tmp 4]) (by kernel_rfl) Try.ntmps64 (sq := fun _ => true) (by kernel_rfl) ?_
  intro args ins pk hpre0 hpk
  obtain ⟨rfl, hpre0⟩ := hpre0
  obtain ⟨⟨w, h⟩, rfl, hpre, hdec⟩ := famPre_ex hpre0
  clear hpre0 hdec
  try simp only [spSzd_pre] at hpre
  replace hpk : pk + 0 ≤ pickLimit := hpk
  refine ⟨Nat.le_of_ble_eq_true rfl, ?_⟩
  simp (config := { maxSteps := 1000000 }) only [go_sem, ↓ifP_true, ↓ifP_false, ↓ifP_not, Nat.reduceLT, Nat.reduceAdd, Nat.reduceBEq, Nat.reduceSub, Nat.reduceLeDiff, Nat.reduceEqDiff, Nat.reduceMul, Int.reduceToNat, Int.reduceEq, Int.reduceLT, Int.reduceLE, Int.reduceAdd, Int.reduceSub, Int.reduceMul, reduceCtorEq, cond_true, cond_false, forall_eq', forall_eq, forall_const, implies_true, if_true, if_false, exists_eq_left', exists_eq', exists_eq, ne_eq, Try.f64, tb64_55, spSzd_q, spSzd_A, spSzd_pre, spSzd_post, spIn_q, spIn_A, spIn_pre, spIn_post, szd]
  repeat' (first | apply And.intro | (intro _) | omega | assumption | with_reducible rfl)
  all_goals (first | ((simp only [decide_eq_decide, true_eq_decide_iff, false_eq_decide_iff, Bool.not_eq_eq_eq_not, Bool.not_true, Bool.not_false]; omega); done) | (grind; done))
theorem sat_spec_validSize : Sat Try.prog rt0 64 (wkIn spSzd) := sat_in (sat_out sat_spec_validSize_0)
def spAcr_A : Int → List AV
  | w => [I w]
def spAcr_pre : Int → Prop
  | w => 0 ≤ w ∧ w ≤ 1000000
def spAcr_post : Int → AV → List Box → Prop
  | w, r, bs => r = I (acr w) ∧ bs = []
def spAcr : VE.Spec := famSpec spAcr_A d_i spAcr_pre spAcr_post 0 true
theorem spAcr_q : spAcr.flat = true ∧ spAcr.mt = [] ∧ spAcr.shut = false ∧ spAcr.cost = 0 ∧ (∀ a i, spAcr.pre a i = (i = [] ∧ famPre d_i spAcr_A spAcr_pre a)) ∧ ∀ a i r b, spAcr.post a i r b = (famPost d_i spAcr_post a r b) := ⟨rfl, rfl, rfl, rfl, fun _ _ => rfl, fun _ _ _ _ => rfl⟩
def tb96 : Nat → Option VE.Spec := tabOf []
theorem tb96_ok : TabOK Try.prog rt0 tb96 := tabOf_nil
set_option maxHeartbeats 4000000 in
theorem sat_impl_across_0 : Sat Try.prog rt0 96 (wkOut spAcr) := by
  refine fn_sat hm ttok (tab := tb96) tb96_ok Try.func96 (c := Try.f96.body.getD .skip) (by kernel_rfl) (ts := [.tmp 2]) (by kernel_rfl) Try.ntmps96 (sq := fun _ => true) (by kernel_rfl) ?_
  intro args ins pk hpre0 hpk
  obtain ⟨rfl, hpre0⟩ := hpre0
  obtain ⟨w, rfl, hpre, hdec⟩ := famPre_ex hpre0
  clear hpre0 hdec
  try simp only [spAcr_pre] at hpre
  replace hpk : pk + 0 ≤ pickLimit := hpk
  refine ⟨Nat.le_of_ble_eq_true rfl, ?_⟩
  simp (config := { maxSteps := 1000000 }) only [go_sem, ↓ifP_true, ↓ifP_false, ↓ifP_not, Nat.reduceLT, Nat.reduceAdd, Nat.reduceBEq, Nat.reduceSub, Nat.reduceLeDiff, Nat.reduceEqDiff, Nat.reduceMul, Int.reduceToNat, Int.reduceEq, Int.reduceLT, Int.reduceLE, Int.reduceAdd, Int.reduceSub, Int.reduceMul, reduceCtorEq, cond_true, cond_false, forall_eq', forall_eq, forall_const, implies_true, if_true, if_false, exists_eq_left', exists_eq', exists_eq, ne_eq, Try.f96, spAcr_q, spAcr_A, spAcr_pre, spAcr_post]
  repeat' (first | apply And.intro | (intro _) | omega | assumption | with_reducible rfl)
  all_goals (first | ((simp only [acr]; rw [tdiv_nn (by omega)]; grind); done) | ((rw [tdiv_nn (by omega)]; omega); done))
theorem sat_impl_across : Sat Try.prog rt0 96 (wkIn spAcr) := sat_in (sat_out sat_impl_across_0)
def spTc_A : Int × Int → List AV
  | (w, h) => [I w, I h]
def spTc_pre : Int × Int → Prop
  | (w, h) => True
def spTc_post : Int × Int → AV → List Box → Prop
  | (w, h), r, bs => r = I (tcnt w h) ∧ bs = []
def spTc : VE.Spec := famSpec spTc_A d_i_i spTc_pre spTc_post 0 true
theorem spTc_q : spTc.flat = true ∧ spTc.mt = [] ∧ spTc.shut = false ∧ spTc.cost = 0 ∧ (∀ a i, spTc.pre a i = (i = [] ∧ famPre d_i_i spTc_A spTc_pre a)) ∧ ∀ a i r b, spTc.post a i r b = (famPost d_i_i spTc_post a r b) := ⟨rfl, rfl, rfl, rfl, fun _ _ => rfl, fun _ _ _ _ => rfl⟩
def tb95 : Nat → Option VE.Spec := tabOf [(117, wkIn spSzd), (96, wkIn spAcr)]
theorem tb95_117 : tb95 117 = some (wkIn spSzd) := rfl
theorem tb95_96 : tb95 96 = some (wkIn spAcr) := rfl
theorem tb95_ok : TabOK Try.prog rt0 tb95 := (tabOf_cons (by kernel_rfl) sat_impl_sized (tabOf_cons (by kernel_rfl) sat_impl_across tabOf_nil))
set_option maxHeartbeats 4000000 in
theorem sat_impl_TileCount_0 : Sat Try.prog rt0 95 (wkOut spTc) := by
  refine fn_sat hm ttok (tab := tb95) tb95_ok Try.func95 (c := Try.f95.body.getD .skip) (by kernel_rfl) (ts := [.tmp 4]) (by kernel_rfl) Try.ntmps95 (sq := fun _ => true) (by kernel_rfl) ?_
  intro args ins pk hpre0 hpk
  obtain ⟨rfl, hpre0⟩ := hpre0
  obtain ⟨⟨w, h⟩, rfl, hpre, hdec⟩ := famPre_ex hpre0
  clear hpre0 hdec
  try simp only [spTc_pre] at hpre
  replace hpk : pk + 0 ≤ pickLimit := hpk
  refine ⟨Nat.le_of_ble_eq_true rfl, ?_⟩
  simp (config := { maxSteps := 1000000 }) only [go_sem, ↓ifP_true, ↓ifP_false, ↓ifP_not, Nat.reduceLT, Nat.reduceAdd, Nat.reduceBEq, Nat.reduceSub, Nat.reduceLeDiff, Nat.reduceEqDiff, Nat.reduceMul, Int.reduceToNat, Int.reduceEq, Int.reduceLT, Int.reduceLE, Int.reduceAdd, Int.reduceSub, Int.reduceMul, reduceCtorEq, cond_true, cond_false, forall_eq', forall_eq, forall_const, implies_true, if_true, if_false, exists_eq_left', exists_eq', exists_eq, ne_eq, Try.f95, tb95_117, tb95_96, spTc_q, spTc_A, spTc_pre, spTc_post, spSzd_q, spSzd_A, spSzd_pre, spSzd_post, spAcr_q, spAcr_A, spAcr_pre, spAcr_post]
  repeat' (first | apply And.intro | (intro _) | omega | assumption | with_reducible rfl)
  all_goals (first | ((simp only [szd] at *; grind); done) | ((have := acr_mul ‹_›; omega); done) | (simp_all [tcnt]; done))
theorem sat_impl_TileCount : Sat Try.prog rt0 95 (wkIn spTc) := sat_in (sat_out sat_impl_TileCount_0)
end Go.Proofs.Ytjjmjidchehffaa
end
section
set_option maxRecDepth 100000
set_option linter.unusedSimpArgs false
set_option linter.unusedVariables false
namespace Go.Proofs.Ytjjmjidchehffaa
open Go Go.VE
def spFloor_A : Int × Int → List AV
  | (a, b) => [I a, I b]
def spFloor_pre : Int × Int → Prop
  | (a, b) => 1 ≤ b ∧ b ≤ 1000000000000000 ∧ -1000000000000000 ≤ a ∧ a ≤ 1000000000000000
def spFloor_post : Int × Int → AV → List Box → Prop
  | (a, b), r, bs => r = I (a / b) ∧ bs = []
def spFloor : VE.Spec := famSpec spFloor_A d_i_i spFloor_pre spFloor_post 0 true
theorem spFloor_q : spFloor.flat = true ∧ spFloor.mt = [] ∧ spFloor.shut = false ∧ spFloor.cost = 0 ∧ (∀ a i, spFloor.pre a i = (i = [] ∧ famPre d_i_i spFloor_A spFloor_pre a)) ∧ ∀ a i r b, spFloor.post a i r b = (famPost d_i_i spFloor_post a r b) := ⟨rfl, rfl, rfl, rfl, fun _ _ => rfl, fun _ _ _ _ => rfl⟩
def tb134 : Nat → Option VE.Spec := tabOf []
theorem tb134_ok : TabOK Try.prog rt0 tb134 := tabOf_nil
set_option maxHeartbeats 4000000 in
theorem sat_impl_floor_0 : Sat Try.prog rt0 134 (wkOut spFloor) := by
  refine fn_sat hm ttok (tab := tb134) tb134_ok Try.func134 (c := Try.f134.body.getD .skip) (by kernel_rfl) (ts := [.tmp 4]) (by kernel_rfl) Try.ntmps134 (sq := fun _ => true) (by kernel_rfl) ?_
  intro args ins pk hpre0 hpk
  obtain ⟨rfl, hpre0⟩ := hpre0
  obtain ⟨⟨a, b⟩, rfl, hpre, hdec⟩ := famPre_ex hpre0
  clear hpre0 hdec
  try simp only [spFloor_pre] at hpre
  replace hpk : pk + 0 ≤ pickLimit := hpk
  refine ⟨Nat.le_of_ble_eq_true rfl, ?_⟩
  simp (config := { maxSteps := 1000000 }) only [go_sem, ↓ifP_true, ↓ifP_false, ↓ifP_not, Nat.reduceLT, Nat.reduceAdd, Nat.reduceBEq, Nat.reduceSub, Nat.reduceLeDiff, Nat.reduceEqDiff, Nat.reduceMul, Int.reduceToNat, Int.reduceEq, Int.reduceLT, Int.reduceLE, Int.reduceAdd, Int.reduceSub, Int.reduceMul, reduceCtorEq, cond_true, cond_false, forall_eq', forall_eq, forall_const, implies_true, if_true, if_false, exists_eq_left', exists_eq', exists_eq, ne_eq, Try.f134, spFloor_q, spFloor_A, spFloor_pre, spFloor_post]
  have e := fdiv_eq a b
  rw [if_pos (by omega)] at e
  have h1 : (a.tdiv b).natAbs ≤ a.natAbs := by rw [Int.natAbs_tdiv]; exact Nat.div_le_self _ _
  repeat' (first | apply And.intro | (intro _) | omega | assumption | with_reducible rfl)
  all_goals (first | ((rw [if_pos (by omega)] at e; omega); done) | ((rw [if_neg (by omega)] at e; omega); done))
theorem sat_impl_floor : Sat Try.prog rt0 134 (wkIn spFloor) := sat_in (sat_out sat_impl_floor_0)
def tb137 : Nat → Option VE.Spec := tabOf []
theorem tb137_ok : TabOK Try.prog rt0 tb137 := tabOf_nil
set_option maxHeartbeats 4000000 in
theorem sat_spec_floorDiv_0 : Sat Try.prog rt0 137 (wkOut spFloor) := by
  refine fn_sat hm ttok (tab := tb137) tb137_ok Try.func137 (c := Try.f137.body.getD .skip) (by kernel_rfl) (ts := [.tmp 4]) (by kernel_rfl) Try.ntmps137 (sq := fun _ => true) (by kernel_rfl) ?_
  intro args ins pk hpre0 hpk
  obtain ⟨rfl, hpre0⟩ := hpre0
  obtain ⟨⟨a, b⟩, rfl, hpre, hdec⟩ := famPre_ex hpre0
  clear hpre0 hdec
  try simp only [spFloor_pre] at hpre
  replace hpk : pk + 0 ≤ pickLimit := hpk
  refine ⟨Nat.le_of_ble_eq_true rfl, ?_⟩
  simp (config := { maxSteps := 1000000 }) only [go_sem, ↓ifP_true, ↓ifP_false, ↓ifP_not, Nat.reduceLT, Nat.reduceAdd, Nat.reduceBEq, Nat.reduceSub, Nat.reduceLeDiff, Nat.reduceEqDiff, Nat.reduceMul, Int.reduceToNat, Int.reduceEq, Int.reduceLT, Int.reduceLE, Int.reduceAdd, Int.reduceSub, Int.reduceMul, reduceCtorEq, cond_true, cond_false, forall_eq', forall_eq, forall_const, implies_true, if_true, if_false, exists_eq_left', exists_eq', exists_eq, ne_eq, Try.f137, spFloor_q, spFloor_A, spFloor_pre, spFloor_post]
  have e := fdiv_eq a b
  rw [if_pos (by omega)] at e
  have h1 : (a.tdiv b).natAbs ≤ a.natAbs := by rw [Int.natAbs_tdiv]; exact Nat.div_le_self _ _
  repeat' (first | apply And.intro | (intro _) | omega | assumption | with_reducible rfl)
  all_goals (first | ((rw [if_pos (by omega)] at e; omega); done) | ((rw [if_neg (by omega)] at e; omega); done))
theorem sat_spec_floorDiv : Sat Try.prog rt0 137 (wkIn spFloor) := sat_in (sat_out sat_spec_floorDiv_0)
structure okP (p : Pt) : Prop where
  x0 : -3000 ≤ p.x
  x1 : p.x ≤ 3000
  y0 : -3000 ≤ p.y
  y1 : p.y ≤ 3000
def mid (a b : Pt) : Pt := ⟨(a.x + b.x) / 2, (a.y + b.y) / 2⟩
theorem mul_bd {a b : Int} {m n : Int} (h1 : -m ≤ a) (h2 : a ≤ m) (h3 : -n ≤ b) (h4 : b ≤ n) : -(m * n) ≤ a * b ∧ a * b ≤ m * n := by
  have hm : 0 ≤ m := by omega
  have hn : 0 ≤ n := by omega
  have q : (a * b).natAbs ≤ (m * n).natAbs := by
    rw [Int.natAbs_mul, Int.natAbs_mul]
    exact Nat.mul_le_mul (by omega) (by omega)
  have : 0 ≤ m * n := Int.mul_nonneg hm hn
  omega
def stepE (e : Edge) (y : Int) : Int := if e.p.y ≤ y ∧ y < e.q.y then 1 else if e.q.y ≤ y ∧ y < e.p.y then -1 else 0
def leftE (e : Edge) (x y : Int) : Bool := decide ((if e.q.y - e.p.y < 0 then -((e.q.x - e.p.x) * (y - e.p.y) - (x - e.p.x) * (e.q.y - e.p.y)) else (e.q.x - e.p.x) * (y - e.p.y) - (x - e.p.x) * (e.q.y - e.p.y)) ≤ 0)
def con (e : Edge) (x y : Int) : Int := if leftE e x y = true then stepE e y else 0
def sgn (n : Int) : Int := if 0 < n then 1 else if n < 0 then -1 else 0
def okE (e : Edge) : Prop := okP e.p ∧ okP e.q
def spStep_A : Edge × Int → List AV
  | (e, y) => [.agg (edC e), I y]
def spStep_pre : Edge × Int → Prop
  | (e, y) => True
def spStep_post : Edge × Int → AV → List Box → Prop
  | (e, y), r, bs => r = I (stepE e y) ∧ bs = []
def spStep : VE.Spec := famSpec spStep_A d_ed_i spStep_pre spStep_post 0 true
theorem spStep_q : spStep.flat = true ∧ spStep.mt = [] ∧ spStep.shut = false ∧ spStep.cost = 0 ∧ (∀ a i, spStep.pre a i = (i = [] ∧ famPre d_ed_i spStep_A spStep_pre a)) ∧ ∀ a i r b, spStep.post a i r b = (famPost d_ed_i spStep_post a r b) := ⟨rfl, rfl, rfl, rfl, fun _ _ => rfl, fun _ _ _ _ => rfl⟩
def tb99 : Nat → Option VE.Spec := tabOf []
theorem tb99_ok : TabOK Try.prog rt0 tb99 := tabOf_nil
set_option maxHeartbeats 4000000 in
theorem sat_impl_Edge_step_0 : Sat Try.prog rt0 99 (wkOut spStep) := by
  refine fn_sat hm ttok (tab := tb99) tb99_ok Try.func99 (c := Try.f99.body.getD .skip) (by kernel_rfl) (ts := [.tmp 4]) (by kernel_rfl) Try.ntmps99 (sq := fun _ => true) (by kernel_rfl) ?_
  intro args ins pk hpre0 hpk
  obtain ⟨rfl, hpre0⟩ := hpre0
  obtain ⟨⟨e, y⟩, rfl, hpre, hdec⟩ := famPre_ex hpre0
  clear hpre0 hdec
  try simp only [spStep_pre] at hpre
  replace hpk : pk + 0 ≤ pickLimit := hpk
  refine ⟨Nat.le_of_ble_eq_true rfl, ?_⟩
  simp (config := { maxSteps := 1000000 }) only [go_sem, ↓ifP_true, ↓ifP_false, ↓ifP_not, Nat.reduceLT, Nat.reduceAdd, Nat.reduceBEq, Nat.reduceSub, Nat.reduceLeDiff, Nat.reduceEqDiff, Nat.reduceMul, Int.reduceToNat, Int.reduceEq, Int.reduceLT, Int.reduceLE, Int.reduceAdd, Int.reduceSub, Int.reduceMul, reduceCtorEq, cond_true, cond_false, forall_eq', forall_eq, forall_const, implies_true, if_true, if_false, exists_eq_left', exists_eq', exists_eq, ne_eq, Try.f99, spStep_q, spStep_A, spStep_pre, spStep_post]
  repeat' (first | apply And.intro | (intro _) | omega | assumption | with_reducible rfl)
  all_goals (first | (grind [stepE]; done))
theorem sat_impl_Edge_step : Sat Try.prog rt0 99 (wkIn spStep) := sat_in (sat_out sat_impl_Edge_step_0)
def spLeft_A : Edge × Int × Int → List AV
  | (e, x, y) => [.agg (edC e), I x, I y]
def spLeft_pre : Edge × Int × Int → Prop
  | (e, x, y) => okE e ∧ (-3000 ≤ x ∧ x ≤ 3000) ∧ -3000 ≤ y ∧ y ≤ 3000
def spLeft_post : Edge × Int × Int → AV → List Box → Prop
  | (e, x, y), r, bs => r = B (leftE e x y) ∧ bs = []
def spLeft : VE.Spec := famSpec spLeft_A d_ed_i_i spLeft_pre spLeft_post 0 true
theorem spLeft_q : spLeft.flat = true ∧ spLeft.mt = [] ∧ spLeft.shut = false ∧ spLeft.cost = 0 ∧ (∀ a i, spLeft.pre a i = (i = [] ∧ famPre d_ed_i_i spLeft_A spLeft_pre a)) ∧ ∀ a i r b, spLeft.post a i r b = (famPost d_ed_i_i spLeft_post a r b) := ⟨rfl, rfl, rfl, rfl, fun _ _ => rfl, fun _ _ _ _ => rfl⟩
def tb100 : Nat → Option VE.Spec := tabOf []
theorem tb100_ok : TabOK Try.prog rt0 tb100 := tabOf_nil
set_option maxHeartbeats 4000000 in
theorem sat_impl_Edge_left_0 : Sat Try.prog rt0 100 (wkOut spLeft) := by
  refine fn_sat hm ttok (tab := tb100) tb100_ok Try.func100 (c := Try.f100.body.getD .skip) (by kernel_rfl) (ts := [.tmp 6]) (by kernel_rfl) Try.ntmps100 (sq := fun _ => true) (by kernel_rfl) ?_
  intro args ins pk hpre0 hpk
  obtain ⟨rfl, hpre0⟩ := hpre0
  obtain ⟨⟨e, x, y⟩, rfl, hpre, hdec⟩ := famPre_ex hpre0
  clear hpre0 hdec
  try simp only [spLeft_pre] at hpre
  replace hpk : pk + 0 ≤ pickLimit := hpk
  refine ⟨Nat.le_of_ble_eq_true rfl, ?_⟩
  simp (config := { maxSteps := 1000000 }) only [go_sem, ↓ifP_true, ↓ifP_false, ↓ifP_not, Nat.reduceLT, Nat.reduceAdd, Nat.reduceBEq, Nat.reduceSub, Nat.reduceLeDiff, Nat.reduceEqDiff, Nat.reduceMul, Int.reduceToNat, Int.reduceEq, Int.reduceLT, Int.reduceLE, Int.reduceAdd, Int.reduceSub, Int.reduceMul, reduceCtorEq, cond_true, cond_false, forall_eq', forall_eq, forall_const, implies_true, if_true, if_false, exists_eq_left', exists_eq', exists_eq, ne_eq, Try.f100, spLeft_q, spLeft_A, spLeft_pre, spLeft_post]
  obtain ⟨⟨⟨a1, a2, a3, a4⟩, ⟨b1, b2, b3, b4⟩⟩, ⟨c1, c2⟩, c3, c4⟩ := hpre
  have m1 := mul_bd (a := e.q.x - e.p.x) (b := y - e.p.y) (m := 6000) (n := 6000) (by omega) (by omega) (by omega) (by omega)
  have m2 := mul_bd (a := x - e.p.x) (b := e.q.y - e.p.y) (m := 6000) (n := 6000) (by omega) (by omega) (by omega) (by omega)
  simp only [leftE]
  generalize (e.q.x - e.p.x) * (y - e.p.y) = u at *
  generalize (x - e.p.x) * (e.q.y - e.p.y) = v at *
  repeat' (first | apply And.intro | (intro _) | omega | assumption | with_reducible rfl)
  all_goals (first | ((simp only [decide_eq_decide]; grind); done) | (grind; done))
theorem sat_impl_Edge_left : Sat Try.prog rt0 100 (wkIn spLeft) := sat_in (sat_out sat_impl_Edge_left_0)
def spSide_A : Pt × Pt × Int × Int → List AV
  | (a, b, x, y) => [.agg (ptC a), .agg (ptC b), I x, I y]
def spSide_pre : Pt × Pt × Int × Int → Prop
  | (a, b, x, y) => okP a ∧ okP b ∧ (-3000 ≤ x ∧ x ≤ 3000) ∧ -3000 ≤ y ∧ y ≤ 3000
def spSide_post : Pt × Pt × Int × Int → AV → List Box → Prop
  | (a, b, x, y), r, bs => r = I (sgn ((x - a.x) * (b.y - a.y) - (y - a.y) * (b.x - a.x))) ∧ bs = []
def spSide : VE.Spec := famSpec spSide_A d_pt_pt_i_i spSide_pre spSide_post 0 true
theorem spSide_q : spSide.flat = true ∧ spSide.mt = [] ∧ spSide.shut = false ∧ spSide.cost = 0 ∧ (∀ a i, spSide.pre a i = (i = [] ∧ famPre d_pt_pt_i_i spSide_A spSide_pre a)) ∧ ∀ a i r b, spSide.post a i r b = (famPost d_pt_pt_i_i spSide_post a r b) := ⟨rfl, rfl, rfl, rfl, fun _ _ => rfl, fun _ _ _ _ => rfl⟩
def tb118 : Nat → Option VE.Spec := tabOf [(112, wkIn spToInt)]
theorem tb118_112 : tb118 112 = some (wkIn spToInt) := rfl
theorem tb118_ok : TabOK Try.prog rt0 tb118 := (tabOf_cons (by kernel_rfl) sat_spec_toInt tabOf_nil)
set_option maxHeartbeats 4000000 in
theorem sat_spec_sideOf_0 : Sat Try.prog rt0 118 (wkOut spSide) := by
  refine fn_sat hm ttok (tab := tb118) tb118_ok Try.func118 (c := Try.f118.body.getD .skip) (by kernel_rfl) (ts := [.tmp 8]) (by kernel_rfl) Try.ntmps118 (sq := fun _ => true) (by kernel_rfl) ?_
  intro args ins pk hpre0 hpk
  obtain ⟨rfl, hpre0⟩ := hpre0
  obtain ⟨⟨a, b, x, y⟩, rfl, hpre, hdec⟩ := famPre_ex hpre0
  clear hpre0 hdec
  try simp only [spSide_pre] at hpre
  replace hpk : pk + 0 ≤ pickLimit := hpk
  refine ⟨Nat.le_of_ble_eq_true rfl, ?_⟩
  simp (config := { maxSteps := 1000000 }) only [go_sem, ↓ifP_true, ↓ifP_false, ↓ifP_not, Nat.reduceLT, Nat.reduceAdd, Nat.reduceBEq, Nat.reduceSub, Nat.reduceLeDiff, Nat.reduceEqDiff, Nat.reduceMul, Int.reduceToNat, Int.reduceEq, Int.reduceLT, Int.reduceLE, Int.reduceAdd, Int.reduceSub, Int.reduceMul, reduceCtorEq, cond_true, cond_false, forall_eq', forall_eq, forall_const, implies_true, if_true, if_false, exists_eq_left', exists_eq', exists_eq, ne_eq, Try.f118, tb118_112, spSide_q, spSide_A, spSide_pre, spSide_post, spToInt_q, spToInt_A, spToInt_pre, spToInt_post]
  obtain ⟨⟨a1, a2, a3, a4⟩, ⟨b1, b2, b3, b4⟩, ⟨c1, c2⟩, c3, c4⟩ := hpre
  have m1 := mul_bd (a := x - a.x) (b := b.y - a.y) (m := 6000) (n := 6000) (by omega) (by omega) (by omega) (by omega)
  have m2 := mul_bd (a := y - a.y) (b := b.x - a.x) (m := 6000) (n := 6000) (by omega) (by omega) (by omega) (by omega)
  generalize (x - a.x) * (b.y - a.y) = u at *
  generalize (y - a.y) * (b.x - a.x) = v at *
  repeat' (first | apply And.intro | (intro _) | omega | assumption | with_reducible rfl)
  all_goals (first | (grind [sgn]; done))
theorem sat_spec_sideOf : Sat Try.prog rt0 118 (wkIn spSide) := sat_in (sat_out sat_spec_sideOf_0)
theorem con_side (e : Edge) (x y : Int) : con e x y = if e.p.y ≤ y ∧ y < e.q.y ∧ 0 ≤ sgn ((x - e.p.x) * (e.q.y - e.p.y) - (y - e.p.y) * (e.q.x - e.p.x)) then 1 else if e.q.y ≤ y ∧ y < e.p.y ∧ 0 ≤ sgn ((x - e.q.x) * (e.p.y - e.q.y) - (y - e.q.y) * (e.p.x - e.q.x)) then -1 else 0 := by
  have h1 : (x - e.q.x) * (e.p.y - e.q.y) - (y - e.q.y) * (e.p.x - e.q.x) = -((x - e.p.x) * (e.q.y - e.p.y) - (y - e.p.y) * (e.q.x - e.p.x)) := by grind
  have h2 : (e.q.x - e.p.x) * (y - e.p.y) - (x - e.p.x) * (e.q.y - e.p.y) = -((x - e.p.x) * (e.q.y - e.p.y) - (y - e.p.y) * (e.q.x - e.p.x)) := by grind
  rw [h1]
  simp only [con, leftE, stepE, h2, sgn, decide_eq_true_eq]
  generalize (x - e.p.x) * (e.q.y - e.p.y) - (y - e.p.y) * (e.q.x - e.p.x) = u
  grind
def spStepOf_A : Pt × Pt × Int × Int → List AV
  | (a, b, x, y) => [.agg (ptC a), .agg (ptC b), I x, I y]
def spStepOf_pre : Pt × Pt × Int × Int → Prop
  | (a, b, x, y) => okP a ∧ okP b ∧ (-3000 ≤ x ∧ x ≤ 3000) ∧ -3000 ≤ y ∧ y ≤ 3000
def spStepOf_post : Pt × Pt × Int × Int → AV → List Box → Prop
  | (a, b, x, y), r, bs => r = I (con ⟨a, b⟩ x y) ∧ bs = []
def spStepOf : VE.Spec := famSpec spStepOf_A d_pt_pt_i_i spStepOf_pre spStepOf_post 0 true
theorem spStepOf_q : spStepOf.flat = true ∧ spStepOf.mt = [] ∧ spStepOf.shut = false ∧ spStepOf.cost = 0 ∧ (∀ a i, spStepOf.pre a i = (i = [] ∧ famPre d_pt_pt_i_i spStepOf_A spStepOf_pre a)) ∧ ∀ a i r b, spStepOf.post a i r b = (famPost d_pt_pt_i_i spStepOf_post a r b) := ⟨rfl, rfl, rfl, rfl, fun _ _ => rfl, fun _ _ _ _ => rfl⟩
def tb102 : Nat → Option VE.Spec := tabOf [(118, wkIn spSide)]
theorem tb102_118 : tb102 118 = some (wkIn spSide) := rfl
theorem tb102_ok : TabOK Try.prog rt0 tb102 := (tabOf_cons (by kernel_rfl) sat_spec_sideOf tabOf_nil)
set_option maxHeartbeats 4000000 in
theorem sat_spec_stepOf_0 : Sat Try.prog rt0 102 (wkOut spStepOf) := by
  refine fn_sat hm ttok (tab := tb102) tb102_ok Try.func102 (c := Try.f102.body.getD .skip) (by kernel_rfl) (ts := [.tmp 8]) (by kernel_rfl) Try.ntmps102 (sq := fun _ => true) (by kernel_rfl) ?_
  intro args ins pk hpre0 hpk
  obtain ⟨rfl, hpre0⟩ := hpre0
  obtain ⟨⟨a, b, x, y⟩, rfl, hpre, hdec⟩ := famPre_ex hpre0
  clear hpre0 hdec
  try simp only [spStepOf_pre] at hpre
  replace hpk : pk + 0 ≤ pickLimit := hpk
  refine ⟨Nat.le_of_ble_eq_true rfl, ?_⟩
  simp (config := { maxSteps := 1000000 }) only [go_sem, ↓ifP_true, ↓ifP_false, ↓ifP_not, Nat.reduceLT, Nat.reduceAdd, Nat.reduceBEq, Nat.reduceSub, Nat.reduceLeDiff, Nat.reduceEqDiff, Nat.reduceMul, Int.reduceToNat, Int.reduceEq, Int.reduceLT, Int.reduceLE, Int.reduceAdd, Int.reduceSub, Int.reduceMul, reduceCtorEq, cond_true, cond_false, forall_eq', forall_eq, forall_const, implies_true, if_true, if_false, exists_eq_left', exists_eq', exists_eq, ne_eq, Try.f102, tb102_118, spStepOf_q, spStepOf_A, spStepOf_pre, spStepOf_post, spSide_q, spSide_A, spSide_pre, spSide_post]
  rw [con_side]
  obtain ⟨ha, hb, ⟨c1, c2⟩, c3, c4⟩ := hpre
  repeat' (first | apply And.intro | (intro _) | omega | assumption | with_reducible rfl)
  all_goals (first | (grind; done))
theorem sat_spec_stepOf : Sat Try.prog rt0 102 (wkIn spStepOf) := sat_in (sat_out sat_spec_stepOf_0)
end Go.Proofs.Ytjjmjidchehffaa
end
section
set_option maxRecDepth 100000
set_option linter.unusedSimpArgs false
set_option linter.unusedVariables false
namespace Go.Proofs.Ytjjmjidchehffaa
open Go Go.VE
def spMid_A : Pt × Pt → List AV
  | (a, b) => [.agg (ptC a), .agg (ptC b)]
def spMid_pre : Pt × Pt → Prop
  | (a, b) => okP a ∧ okP b
def spMid_post : Pt × Pt → AV → List Box → Prop
  | (a, b), r, bs => r = .agg (ptC (mid a b)) ∧ bs = []
def spMid : VE.Spec := famSpec spMid_A d_pt_pt spMid_pre spMid_post 0 true
theorem spMid_q : spMid.flat = true ∧ spMid.mt = [] ∧ spMid.shut = false ∧ spMid.cost = 0 ∧ (∀ a i, spMid.pre a i = (i = [] ∧ famPre d_pt_pt spMid_A spMid_pre a)) ∧ ∀ a i r b, spMid.post a i r b = (famPost d_pt_pt spMid_post a r b) := ⟨rfl, rfl, rfl, rfl, fun _ _ => rfl, fun _ _ _ _ => rfl⟩
def tb136 : Nat → Option VE.Spec := tabOf [(137, wkIn spFloor)]
theorem tb136_137 : tb136 137 = some (wkIn spFloor) := rfl
theorem tb136_ok : TabOK Try.prog rt0 tb136 := (tabOf_cons (by kernel_rfl) sat_spec_floorDiv tabOf_nil)
set_option maxHeartbeats 4000000 in
theorem sat_spec_middle_0 : Sat Try.prog rt0 136 (wkOut spMid) := by
  refine fn_sat hm ttok (tab := tb136) tb136_ok Try.func136 (c := Try.f136.body.getD .skip) (by kernel_rfl) (ts := [.cell 4 38]) (by kernel_rfl) Try.ntmps136 (sq := fun id => !(id == 1)) (by kernel_rfl) ?_
  intro args ins pk hpre0 hpk
  obtain ⟨rfl, hpre0⟩ := hpre0
  obtain ⟨⟨a, b⟩, rfl, hpre, hdec⟩ := famPre_ex hpre0
  clear hpre0 hdec
  try simp only [spMid_pre] at hpre
  replace hpk : pk + 0 ≤ pickLimit := hpk
  refine ⟨Nat.le_of_ble_eq_true rfl, ?_⟩
  simp (config := { maxSteps := 1000000 }) only [go_sem, ↓ifP_true, ↓ifP_false, ↓ifP_not, Nat.reduceLT, Nat.reduceAdd, Nat.reduceBEq, Nat.reduceSub, Nat.reduceLeDiff, Nat.reduceEqDiff, Nat.reduceMul, Int.reduceToNat, Int.reduceEq, Int.reduceLT, Int.reduceLE, Int.reduceAdd, Int.reduceSub, Int.reduceMul, reduceCtorEq, cond_true, cond_false, forall_eq', forall_eq, forall_const, implies_true, if_true, if_false, exists_eq_left', exists_eq', exists_eq, ne_eq, Try.f136, tb136_137, spMid_q, spMid_A, spMid_pre, spMid_post, spFloor_q, spFloor_A, spFloor_pre, spFloor_post, mid]
  obtain ⟨⟨a1, a2, a3, a4⟩, ⟨b1, b2, b3, b4⟩⟩ := hpre
  repeat' (first | apply And.intro | (intro _) | omega | assumption | with_reducible rfl)
  all_goals try (refine drawI (VE.Plan.first 0 (VE.Plan.first 1 (VE.Plan.first 2 (VE.Plan.first 3 (VE.Plan.first 4 (VE.Plan.first 6 (VE.Plan.first 7 (VE.Plan.first 8 (VE.Plan.first 9 (VE.Plan.first 10 (VE.Plan.alt 5 (VE.Plan.alt 11 (VE.Plan.first 12 (VE.Plan.alt 13 VE.Plan.nil VE.Plan.nil)) VE.Plan.nil) VE.Plan.nil))))))))))) (by decide +kernel) ?_; simp (config := { maxSteps := 1000000 }) only [go_sem, ↓ifP_true, ↓ifP_false, ↓ifP_not, Nat.reduceLT, Nat.reduceAdd, Nat.reduceBEq, Nat.reduceSub, Nat.reduceLeDiff, Nat.reduceEqDiff, Nat.reduceMul, Int.reduceToNat, Int.reduceEq, Int.reduceLT, Int.reduceLE, Int.reduceAdd, Int.reduceSub, Int.reduceMul, reduceCtorEq, cond_true, cond_false, forall_eq', forall_eq, forall_const, implies_true, if_true, if_false, exists_eq_left', exists_eq', exists_eq, ne_eq, planW, stepW, Try.f136, tb136_137, spMid_q, spMid_A, spMid_pre, spMid_post, spFloor_q, spFloor_A, spFloor_pre, spFloor_post, mid]; repeat' (first | apply And.intro | (intro _) | omega | assumption | with_reducible rfl))
  all_goals (first | (grind; done))
theorem sat_spec_middle : Sat Try.prog rt0 136 (wkIn spMid) := sat_in (sat_out sat_spec_middle_0)
def bnd1 (b : Bx) (p : Pt) : Bx := ⟨min b.l p.x, min b.t p.y, max b.r p.x, max b.b p.y⟩
def bnd (l : List Pt) : Bx := match l with
  | [] => ⟨0, 0, 0, 0⟩
  | p :: _ => l.foldl bnd1 ⟨p.x, p.y, p.x, p.y⟩
theorem bnd_self (b : Bx) (p : Pt) (h1 : b.l ≤ p.x) (h2 : b.t ≤ p.y) (h3 : p.x ≤ b.r) (h4 : p.y ≤ b.b) : bnd1 b p = b := by
  obtain ⟨l, t, r, b⟩ := b
  simp only [bnd1, Bx.mk.injEq] at *
  omega
end Go.Proofs.Ytjjmjidchehffaa
end
