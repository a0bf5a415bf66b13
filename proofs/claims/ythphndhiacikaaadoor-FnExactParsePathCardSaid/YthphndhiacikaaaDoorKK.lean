/- Contracts of functions of the program vectorraster, each proved for all states that fit its description. No conditions. -/
import Derived.Test.YthphndhiacikaaaDoorEC
import Derived.Shelf.Strconv.Itoa3
import Derived.Test.YthphndhiacikaaaDoorRows
set_option linter.unusedSimpArgs false
set_option linter.unusedVariables false
section
set_option maxRecDepth 100000
set_option linter.unusedSimpArgs false
namespace Go.Proofs.YthphndhiacikaaaDoor
open Go Go.VE
theorem hm : Tryd.prog.follows .mixedOrders = true := by kernel_rfl
theorem ti3 : TIok Tryd.prog 3 ⟨.int .i64, 1, 8, [.int .i64 0], false⟩ := tiB_ok (by kernel_rfl) (fun h => by cases h)
theorem e47 (d : Nat) : EqI Tryd.prog (d + 2) 47 2 := eqB_ok (l := [(3, 1), (3, 1)]) (by kernel_rfl) (by simp; exact fieldEq_int ti3 rfl)
theorem ti47 : TIok Tryd.prog 47 ⟨.struct [(3, 0, 1), (3, 1, 1)], 2, 16, [.int .i64 0, .int .i64 0], false⟩ := tiB_ok (by kernel_rfl) (fun h => by cases h)
theorem v47 : EqvOK Tryd.prog 47 2 := ⟨by kernel_rfl, e47 9998⟩
/-- What the run leans on of variables of packages. -/
def okG (w : World) : Prop := (∃ m, w.cell? ⟨0, 0, none⟩ = some (.int .i64 m)) ∧ (∃ ev, w.cell? ⟨1, 0, none⟩ = some ev ∧ (ev = .nilIface ∨ ∃ te pe, ev = .iface te pe)) ∧ (∃ ev, w.cell? ⟨2, 0, none⟩ = some ev ∧ (ev = .nilIface ∨ ∃ te pe, ev = .iface te pe)) ∧ Lib.TabIs Tryd.prog w "internal/strconv.uint64pow10" .u64 Lib.pow10Tab
theorem glob3 : Tryd.prog.globalNamed "internal/strconv.uint64pow10" = some 3 := by kernel_rfl
theorem okG_stay (w w' : World) (h : ∀ g ∈ [0, 1, 2, 3], w'.heap[g]? = w.heap[g]?) (hw : okG w) : okG w' := by
  have c : ∀ g, g ∈ [0, 1, 2, 3] → w'.cell? ⟨g, 0, none⟩ = w.cell? ⟨g, 0, none⟩ := fun g hg => World.cell?_of_block (w := w) (a := ⟨g, 0, none⟩) (h g hg)
  obtain ⟨h1, h2, h3, h4⟩ := hw
  refine ⟨by rw [c _ (by simp)]; exact h1, by rw [c _ (by simp)]; exact h2, by rw [c _ (by simp)]; exact h3, ?_⟩
  unfold Lib.TabIs World.var? at h4 ⊢
  rw [glob3] at h4 ⊢
  simp only [Option.bind_some] at h4 ⊢
  rw [h 3 (by simp)]
  exact h4
def rt0 : RT := ⟨83, [0, 1, 2, 3], okG, okG_stay⟩
theorem rt0_t : rt0.t = 83 := rfl
def tys : List (Nat × TI) := [(3, ⟨.int .i64, 1, 8, [.int .i64 0], false⟩),
  (4, ⟨.bool, 1, 1, [.bool false], false⟩),
  (5, ⟨.int .u8, 1, 1, [.int .u8 0], false⟩),
  (9, ⟨.string, 1, 16, [.string ByteArray.empty], false⟩),
  (22, ⟨.slice 40, 1, 24, [.slice none 0 0], false⟩),
  (25, ⟨.slice 43, 1, 24, [.slice none 0 0], false⟩),
  (29, ⟨.slice 5, 1, 24, [.slice none 0 0], false⟩),
  (38, ⟨.slice 91, 1, 24, [.slice none 0 0], false⟩),
  (40, ⟨.struct [(3, 0, 1), (38, 1, 1)], 2, 32, [.int .i64 0, .slice none 0 0], false⟩),
  (41, ⟨.slice 47, 1, 24, [.slice none 0 0], false⟩),
  (43, ⟨.struct [(3, 0, 1), (41, 1, 1)], 2, 32, [.int .i64 0, .slice none 0 0], false⟩),
  (45, ⟨.slice 9, 1, 24, [.slice none 0 0], false⟩),
  (47, ⟨.struct [(3, 0, 1), (3, 1, 1)], 2, 16, [.int .i64 0, .int .i64 0], true⟩),
  (52, ⟨.other, 1, 8, [.pointer none], false⟩),
  (54, ⟨.slice 3, 1, 24, [.slice none 0 0], false⟩),
  (62, ⟨.iface, 1, 16, [.nilIface], false⟩),
  (83, ⟨.struct [(29, 0, 1), (3, 1, 1)], 2, 32, [.slice none 0 0, .int .i64 0], false⟩),
  (86, ⟨.other, 1, 8, [.nilFunc], false⟩),
  (91, ⟨.struct [(3, 0, 1), (3, 1, 1)], 2, 16, [.int .i64 0, .int .i64 0], false⟩),
  (97, ⟨.struct [(3, 0, 1), (3, 1, 1), (3, 2, 1), (3, 3, 1)], 4, 32, [.int .i64 0, .int .i64 0, .int .i64 0, .int .i64 0], false⟩)]
theorem ttok : TTok Tryd.prog (ttOf tys) := tts_ok (by kernel_rfl) (by simp [tys]; exact v47)
theorem ty3 : ttOf tys 3 = some ⟨.int .i64, 1, 8, [.int .i64 0], false⟩ := rfl
theorem ty4 : ttOf tys 4 = some ⟨.bool, 1, 1, [.bool false], false⟩ := rfl
theorem ty5 : ttOf tys 5 = some ⟨.int .u8, 1, 1, [.int .u8 0], false⟩ := rfl
theorem ty9 : ttOf tys 9 = some ⟨.string, 1, 16, [.string ByteArray.empty], false⟩ := rfl
theorem ty22 : ttOf tys 22 = some ⟨.slice 40, 1, 24, [.slice none 0 0], false⟩ := rfl
theorem ty25 : ttOf tys 25 = some ⟨.slice 43, 1, 24, [.slice none 0 0], false⟩ := rfl
theorem ty29 : ttOf tys 29 = some ⟨.slice 5, 1, 24, [.slice none 0 0], false⟩ := rfl
theorem ty38 : ttOf tys 38 = some ⟨.slice 91, 1, 24, [.slice none 0 0], false⟩ := rfl
theorem ty40 : ttOf tys 40 = some ⟨.struct [(3, 0, 1), (38, 1, 1)], 2, 32, [.int .i64 0, .slice none 0 0], false⟩ := rfl
theorem ty41 : ttOf tys 41 = some ⟨.slice 47, 1, 24, [.slice none 0 0], false⟩ := rfl
theorem ty43 : ttOf tys 43 = some ⟨.struct [(3, 0, 1), (41, 1, 1)], 2, 32, [.int .i64 0, .slice none 0 0], false⟩ := rfl
theorem ty45 : ttOf tys 45 = some ⟨.slice 9, 1, 24, [.slice none 0 0], false⟩ := rfl
theorem ty47 : ttOf tys 47 = some ⟨.struct [(3, 0, 1), (3, 1, 1)], 2, 16, [.int .i64 0, .int .i64 0], true⟩ := rfl
theorem ty52 : ttOf tys 52 = some ⟨.other, 1, 8, [.pointer none], false⟩ := rfl
theorem ty54 : ttOf tys 54 = some ⟨.slice 3, 1, 24, [.slice none 0 0], false⟩ := rfl
theorem ty62 : ttOf tys 62 = some ⟨.iface, 1, 16, [.nilIface], false⟩ := rfl
theorem ty83 : ttOf tys 83 = some ⟨.struct [(29, 0, 1), (3, 1, 1)], 2, 32, [.slice none 0 0, .int .i64 0], false⟩ := rfl
theorem ty86 : ttOf tys 86 = some ⟨.other, 1, 8, [.nilFunc], false⟩ := rfl
theorem ty91 : ttOf tys 91 = some ⟨.struct [(3, 0, 1), (3, 1, 1)], 2, 16, [.int .i64 0, .int .i64 0], false⟩ := rfl
theorem ty97 : ttOf tys 97 = some ⟨.struct [(3, 0, 1), (3, 1, 1), (3, 2, 1), (3, 3, 1)], 4, 32, [.int .i64 0, .int .i64 0, .int .i64 0, .int .i64 0], false⟩ := rfl
attribute [go_sem] ty3 ty4 ty5 ty9 ty22 ty25 ty29 ty38 ty40 ty41 ty43 ty45 ty47 ty52 ty54 ty62 ty83 ty86 ty91 ty97
end Go.Proofs.YthphndhiacikaaaDoor
end
section
set_option maxRecDepth 100000
set_option linter.unusedSimpArgs false
set_option linter.unusedVariables false
namespace Go.Proofs.YthphndhiacikaaaDoor
open Go Go.VE

structure Pt where
  x : Int
  y : Int
deriving DecidableEq, Inhabited
def ptC (x : Pt) : List C := C.v (.int .i64 x.x) :: [C.v (.int .i64 x.y)]
def ptCd : List C → Option Pt
  | [.v (.int .i64 x0), .v (.int .i64 y0)] => some ⟨x0, y0⟩
  | _ => none
theorem ptC_dec (k : Pt) : ptCd (ptC k) = some k := rfl
theorem ptC_wk (k : Pt) : wkCs (ptC k) = ptC k := by simp [ptC, wkCs, wkC, List.cons_append, List.nil_append]
theorem ptC_wks (l : List Pt) : wkEs (l.map ptC) = l.map ptC := by simp [wkEs_map, ptC_wk]
theorem ptC_ds (l : List Pt) : decAll ptCd (l.map ptC) = some l := decAll_map (g := ptC) ptC_dec l
theorem ptC_len (k : Pt) : (ptC k).length = 2 := rfl
theorem ptC_takeN (k : Pt) : List.take 2 (ptC k) = ptC k := rfl
theorem ptC_takeA (k : Pt) (l : List C) : List.take 2 (ptC k ++ l) = ptC k := rfl
theorem ptC_dropA (k : Pt) (l : List C) : List.drop 2 (ptC k ++ l) = l := rfl
theorem ptC_takeB (k : Pt) (m : Nat) (l : List C) : List.take (m + 2) (ptC k ++ l) = ptC k ++ List.take m l := rfl
theorem ptC_dropB (k : Pt) (m : Nat) (l : List C) : List.drop (m + 2) (ptC k ++ l) = List.drop m l := rfl
theorem ptC_dropN (k : Pt) : List.drop 2 (ptC k) = [] := rfl
theorem ptC_all (l : List Pt) : (∀ e ∈ l.map ptC, e.length = 2) = True := all_len ptC_len l
theorem ptC_strip (k : Pt) : List.map strip (ptC k) = ptC k := rfl
theorem ptC_seal (s : St) (k : Pt) : List.map (sealC s) (ptC k) = ptC k := rfl
theorem ptC_ren (s : St) (i : List Nat) (k : Pt) : List.map (renC s i) (ptC k) = ptC k := rfl
theorem ptC_exp (s : St) (i : List Nat) (k : Pt) : List.map (expC s i) (ptC k) = ptC k := rfl
theorem ptC_map (f : Nat → Nat) (k : Pt) : List.map (mapC f) (ptC k) = ptC k := rfl
theorem ptC_gat (s : St) (i : List Nat) (k : Pt) : gather s 64 i (ptC k) = i := rfl
theorem ptC_rok (s : St) (l i : List Nat) (k : Pt) : renOks s l i (ptC k) = True := eq_true (by repeat' constructor)
theorem ptC_row (k : Pt) : rowIds (ptC k) = [] := rfl
theorem ptC_eok (s : St) (i : List Nat) (k : Pt) : expOks s i (ptC k) = True := eq_true (by repeat' constructor)
theorem ptC_sok (s : St) (k : Pt) : sealOks s (ptC k) = True := eq_true (by repeat' constructor)
theorem ptC_okR (k : Pt) : okRs (ptC k) = True := eq_true (by repeat' constructor)
theorem ptC_okC (k : Pt) : okCs (ptC k) = True := eq_true (by repeat' constructor)
theorem ptC_okR0 (k : Pt) : okR0s (ptC k) = True := eq_true (by repeat' constructor)
theorem ptC_inj (a b : Pt) : (ptC a = ptC b) = (a = b) := by
  refine propext ⟨fun h => ?_, fun h => by rw [h]⟩
  have := congrArg ptCd h
  rw [ptC_dec, ptC_dec] at this
  exact Option.some.inj this
theorem ptC_minj (a b : List Pt) : (a.map ptC = b.map ptC) = (a = b) := by
  refine propext ⟨fun h => ?_, fun h => by rw [h]⟩
  have := congrArg (decAll ptCd) h
  rw [ptC_ds, ptC_ds] at this
  exact Option.some.inj this
theorem ptC_le (s : St) (ρ : List (Nat × Nat)) (hp : List (Nat × Option Box)) (k : Pt) : leCs s ρ hp (ptC k) (ptC k) = True := eq_true (by repeat' first | constructor | (intro h; cases h))
theorem ptC_okV (k : Pt) : ∀ c ∈ ptC k, okV c = true := by
  have : (ptC k).all okV = true := rfl
  exact List.all_eq_true.1 this
theorem ptC_pure (l : List Pt) : pureV (l.map ptC) = True := pureV_map ptC_okV l
theorem ptC_fok (s : St) (i : List Nat) (k : Pt) : flatOks s i (ptC k) = True := eq_true (by repeat' constructor)
theorem ptC_okVT (k : Pt) : (∀ c ∈ ptC k, okV c = true) = True := eq_true (ptC_okV k)
theorem ptC_mk (x1 : Int) (y1 : Int) : ptC ⟨x1, y1⟩ = C.v (.int .i64 x1) :: [C.v (.int .i64 y1)] := rfl
theorem ptC_ex (x1 : Int) (y1 : Int) (Q : Pt → Prop) : (∃ p, C.v (.int .i64 x1) :: [C.v (.int .i64 y1)] = ptC p ∧ Q p) = Q ⟨x1, y1⟩ := by
  rw [← ptC_mk]; simp only [ptC_inj, exists_eq_left']
theorem ptC_t1 (k : Pt) : List.take 1 (ptC k) = [C.v (.int .i64 k.x)] := rfl
theorem ptC_d1 (k : Pt) : List.drop 1 (ptC k) = [C.v (.int .i64 k.y)] := rfl
theorem ptC_ints (k : Pt) : ints (ptC k) = True := eq_true (by repeat' constructor)
theorem ptC_ieq (k l : Pt) : ieq (ptC k) (ptC l) = decide (k = l) := by
  obtain ⟨kx, ky⟩ := k
  obtain ⟨lx, ly⟩ := l
  simp [ptC, ieq, Bool.decide_and, Bool.and_assoc]

structure Edge where
  p : Pt
  q : Pt
deriving DecidableEq, Inhabited
def edC (x : Edge) : List C := ptC x.p ++ (ptC x.q)
def edCd : List C → Option Edge
  | [.v (.int .i64 p0_x), .v (.int .i64 p0_y), .v (.int .i64 q0_x), .v (.int .i64 q0_y)] => some ⟨⟨p0_x, p0_y⟩, ⟨q0_x, q0_y⟩⟩
  | _ => none
theorem edC_dec (k : Edge) : edCd (edC k) = some k := rfl
theorem edC_wk (k : Edge) : wkCs (edC k) = edC k := by simp [edC, wkCs, wkC, List.cons_append, List.nil_append, ptC]
theorem edC_wks (l : List Edge) : wkEs (l.map edC) = l.map edC := by simp [wkEs_map, edC_wk]
theorem edC_ds (l : List Edge) : decAll edCd (l.map edC) = some l := decAll_map (g := edC) edC_dec l
theorem edC_len (k : Edge) : (edC k).length = 4 := rfl
theorem edC_takeN (k : Edge) : List.take 4 (edC k) = edC k := rfl
theorem edC_takeA (k : Edge) (l : List C) : List.take 4 (edC k ++ l) = edC k := rfl
theorem edC_dropA (k : Edge) (l : List C) : List.drop 4 (edC k ++ l) = l := rfl
theorem edC_takeB (k : Edge) (m : Nat) (l : List C) : List.take (m + 4) (edC k ++ l) = edC k ++ List.take m l := rfl
theorem edC_dropB (k : Edge) (m : Nat) (l : List C) : List.drop (m + 4) (edC k ++ l) = List.drop m l := rfl
theorem edC_dropN (k : Edge) : List.drop 4 (edC k) = [] := rfl
theorem edC_all (l : List Edge) : (∀ e ∈ l.map edC, e.length = 4) = True := all_len edC_len l
theorem edC_strip (k : Edge) : List.map strip (edC k) = edC k := rfl
theorem edC_seal (s : St) (k : Edge) : List.map (sealC s) (edC k) = edC k := rfl
theorem edC_ren (s : St) (i : List Nat) (k : Edge) : List.map (renC s i) (edC k) = edC k := rfl
theorem edC_exp (s : St) (i : List Nat) (k : Edge) : List.map (expC s i) (edC k) = edC k := rfl
theorem edC_map (f : Nat → Nat) (k : Edge) : List.map (mapC f) (edC k) = edC k := rfl
theorem edC_gat (s : St) (i : List Nat) (k : Edge) : gather s 64 i (edC k) = i := rfl
theorem edC_rok (s : St) (l i : List Nat) (k : Edge) : renOks s l i (edC k) = True := eq_true (by repeat' constructor)
theorem edC_row (k : Edge) : rowIds (edC k) = [] := rfl
theorem edC_eok (s : St) (i : List Nat) (k : Edge) : expOks s i (edC k) = True := eq_true (by repeat' constructor)
theorem edC_sok (s : St) (k : Edge) : sealOks s (edC k) = True := eq_true (by repeat' constructor)
theorem edC_okR (k : Edge) : okRs (edC k) = True := eq_true (by repeat' constructor)
theorem edC_okC (k : Edge) : okCs (edC k) = True := eq_true (by repeat' constructor)
theorem edC_okR0 (k : Edge) : okR0s (edC k) = True := eq_true (by repeat' constructor)
theorem edC_inj (a b : Edge) : (edC a = edC b) = (a = b) := by
  refine propext ⟨fun h => ?_, fun h => by rw [h]⟩
  have := congrArg edCd h
  rw [edC_dec, edC_dec] at this
  exact Option.some.inj this
theorem edC_minj (a b : List Edge) : (a.map edC = b.map edC) = (a = b) := by
  refine propext ⟨fun h => ?_, fun h => by rw [h]⟩
  have := congrArg (decAll edCd) h
  rw [edC_ds, edC_ds] at this
  exact Option.some.inj this
theorem edC_le (s : St) (ρ : List (Nat × Nat)) (hp : List (Nat × Option Box)) (k : Edge) : leCs s ρ hp (edC k) (edC k) = True := eq_true (by repeat' first | constructor | (intro h; cases h))
theorem edC_okV (k : Edge) : ∀ c ∈ edC k, okV c = true := by
  have : (edC k).all okV = true := rfl
  exact List.all_eq_true.1 this
theorem edC_pure (l : List Edge) : pureV (l.map edC) = True := pureV_map edC_okV l
theorem edC_fok (s : St) (i : List Nat) (k : Edge) : flatOks s i (edC k) = True := eq_true (by repeat' constructor)
theorem edC_okVT (k : Edge) : (∀ c ∈ edC k, okV c = true) = True := eq_true (edC_okV k)
theorem edC_fold (p1 : Pt) (q1 : Pt) : ptC p1 ++ (ptC q1) = edC ⟨p1, q1⟩ := rfl
theorem edC_t1 (k : Edge) : List.take 1 (edC k) = [C.v (.int .i64 k.p.x)] := rfl
theorem edC_d1 (k : Edge) : List.drop 1 (edC k) = C.v (.int .i64 k.p.y) :: ptC k.q := rfl
theorem edC_t2 (k : Edge) : List.take 2 (edC k) = ptC k.p := rfl
theorem edC_d2 (k : Edge) : List.drop 2 (edC k) = ptC k.q := rfl
theorem edC_t3 (k : Edge) : List.take 3 (edC k) = ptC k.p ++ ([C.v (.int .i64 k.q.x)]) := rfl
theorem edC_d3 (k : Edge) : List.drop 3 (edC k) = [C.v (.int .i64 k.q.y)] := rfl
theorem edC_ints (k : Edge) : ints (edC k) = True := eq_true (by repeat' constructor)
theorem edC_ieq (k l : Edge) : ieq (edC k) (edC l) = decide (k = l) := by
  obtain ⟨⟨kpx, kpy⟩, ⟨kqx, kqy⟩⟩ := k
  obtain ⟨⟨lpx, lpy⟩, ⟨lqx, lqy⟩⟩ := l
  simp [edC, ptC, ieq, Bool.decide_and, Bool.and_assoc]

structure Bx where
  l : Int
  t : Int
  r : Int
  b : Int
deriving DecidableEq, Inhabited
def bxC (x : Bx) : List C := C.v (.int .i64 x.l) :: C.v (.int .i64 x.t) :: C.v (.int .i64 x.r) :: [C.v (.int .i64 x.b)]
def bxCd : List C → Option Bx
  | [.v (.int .i64 l0), .v (.int .i64 t0), .v (.int .i64 r0), .v (.int .i64 b0)] => some ⟨l0, t0, r0, b0⟩
  | _ => none
theorem bxC_dec (k : Bx) : bxCd (bxC k) = some k := rfl
theorem bxC_wk (k : Bx) : wkCs (bxC k) = bxC k := by simp [bxC, wkCs, wkC, List.cons_append, List.nil_append]
theorem bxC_wks (l : List Bx) : wkEs (l.map bxC) = l.map bxC := by simp [wkEs_map, bxC_wk]
theorem bxC_ds (l : List Bx) : decAll bxCd (l.map bxC) = some l := decAll_map (g := bxC) bxC_dec l
theorem bxC_len (k : Bx) : (bxC k).length = 4 := rfl
theorem bxC_takeN (k : Bx) : List.take 4 (bxC k) = bxC k := rfl
theorem bxC_takeA (k : Bx) (l : List C) : List.take 4 (bxC k ++ l) = bxC k := rfl
theorem bxC_dropA (k : Bx) (l : List C) : List.drop 4 (bxC k ++ l) = l := rfl
theorem bxC_takeB (k : Bx) (m : Nat) (l : List C) : List.take (m + 4) (bxC k ++ l) = bxC k ++ List.take m l := rfl
theorem bxC_dropB (k : Bx) (m : Nat) (l : List C) : List.drop (m + 4) (bxC k ++ l) = List.drop m l := rfl
theorem bxC_dropN (k : Bx) : List.drop 4 (bxC k) = [] := rfl
theorem bxC_all (l : List Bx) : (∀ e ∈ l.map bxC, e.length = 4) = True := all_len bxC_len l
theorem bxC_strip (k : Bx) : List.map strip (bxC k) = bxC k := rfl
theorem bxC_seal (s : St) (k : Bx) : List.map (sealC s) (bxC k) = bxC k := rfl
theorem bxC_ren (s : St) (i : List Nat) (k : Bx) : List.map (renC s i) (bxC k) = bxC k := rfl
theorem bxC_exp (s : St) (i : List Nat) (k : Bx) : List.map (expC s i) (bxC k) = bxC k := rfl
theorem bxC_map (f : Nat → Nat) (k : Bx) : List.map (mapC f) (bxC k) = bxC k := rfl
theorem bxC_gat (s : St) (i : List Nat) (k : Bx) : gather s 64 i (bxC k) = i := rfl
theorem bxC_rok (s : St) (l i : List Nat) (k : Bx) : renOks s l i (bxC k) = True := eq_true (by repeat' constructor)
theorem bxC_row (k : Bx) : rowIds (bxC k) = [] := rfl
theorem bxC_eok (s : St) (i : List Nat) (k : Bx) : expOks s i (bxC k) = True := eq_true (by repeat' constructor)
theorem bxC_sok (s : St) (k : Bx) : sealOks s (bxC k) = True := eq_true (by repeat' constructor)
theorem bxC_okR (k : Bx) : okRs (bxC k) = True := eq_true (by repeat' constructor)
theorem bxC_okC (k : Bx) : okCs (bxC k) = True := eq_true (by repeat' constructor)
theorem bxC_okR0 (k : Bx) : okR0s (bxC k) = True := eq_true (by repeat' constructor)
theorem bxC_inj (a b : Bx) : (bxC a = bxC b) = (a = b) := by
  refine propext ⟨fun h => ?_, fun h => by rw [h]⟩
  have := congrArg bxCd h
  rw [bxC_dec, bxC_dec] at this
  exact Option.some.inj this
theorem bxC_minj (a b : List Bx) : (a.map bxC = b.map bxC) = (a = b) := by
  refine propext ⟨fun h => ?_, fun h => by rw [h]⟩
  have := congrArg (decAll bxCd) h
  rw [bxC_ds, bxC_ds] at this
  exact Option.some.inj this
theorem bxC_le (s : St) (ρ : List (Nat × Nat)) (hp : List (Nat × Option Box)) (k : Bx) : leCs s ρ hp (bxC k) (bxC k) = True := eq_true (by repeat' first | constructor | (intro h; cases h))
theorem bxC_okV (k : Bx) : ∀ c ∈ bxC k, okV c = true := by
  have : (bxC k).all okV = true := rfl
  exact List.all_eq_true.1 this
theorem bxC_pure (l : List Bx) : pureV (l.map bxC) = True := pureV_map bxC_okV l
theorem bxC_fok (s : St) (i : List Nat) (k : Bx) : flatOks s i (bxC k) = True := eq_true (by repeat' constructor)
theorem bxC_okVT (k : Bx) : (∀ c ∈ bxC k, okV c = true) = True := eq_true (bxC_okV k)
theorem bxC_mk (l1 : Int) (t1 : Int) (r1 : Int) (b1 : Int) : bxC ⟨l1, t1, r1, b1⟩ = C.v (.int .i64 l1) :: C.v (.int .i64 t1) :: C.v (.int .i64 r1) :: [C.v (.int .i64 b1)] := rfl
theorem bxC_ex (l1 : Int) (t1 : Int) (r1 : Int) (b1 : Int) (Q : Bx → Prop) : (∃ p, C.v (.int .i64 l1) :: C.v (.int .i64 t1) :: C.v (.int .i64 r1) :: [C.v (.int .i64 b1)] = bxC p ∧ Q p) = Q ⟨l1, t1, r1, b1⟩ := by
  rw [← bxC_mk]; simp only [bxC_inj, exists_eq_left']
theorem bxC_t1 (k : Bx) : List.take 1 (bxC k) = [C.v (.int .i64 k.l)] := rfl
theorem bxC_d1 (k : Bx) : List.drop 1 (bxC k) = C.v (.int .i64 k.t) :: C.v (.int .i64 k.r) :: [C.v (.int .i64 k.b)] := rfl
theorem bxC_t2 (k : Bx) : List.take 2 (bxC k) = C.v (.int .i64 k.l) :: [C.v (.int .i64 k.t)] := rfl
theorem bxC_d2 (k : Bx) : List.drop 2 (bxC k) = C.v (.int .i64 k.r) :: [C.v (.int .i64 k.b)] := rfl
theorem bxC_t3 (k : Bx) : List.take 3 (bxC k) = C.v (.int .i64 k.l) :: C.v (.int .i64 k.t) :: [C.v (.int .i64 k.r)] := rfl
theorem bxC_d3 (k : Bx) : List.drop 3 (bxC k) = [C.v (.int .i64 k.b)] := rfl
theorem bxC_ints (k : Bx) : ints (bxC k) = True := eq_true (by repeat' constructor)
theorem bxC_ieq (k l : Bx) : ieq (bxC k) (bxC l) = decide (k = l) := by
  obtain ⟨kl, kt, kr, kb⟩ := k
  obtain ⟨ll, lt, lr, lb⟩ := l
  simp [bxC, ieq, Bool.decide_and, Bool.and_assoc]

structure Cross where
  a : Int
  s : Int
deriving DecidableEq, Inhabited
def crC (x : Cross) : List C := C.v (.int .i64 x.a) :: [C.v (.int .i64 x.s)]
def crCd : List C → Option Cross
  | [.v (.int .i64 a0), .v (.int .i64 s0)] => some ⟨a0, s0⟩
  | _ => none
theorem crC_dec (k : Cross) : crCd (crC k) = some k := rfl
theorem crC_wk (k : Cross) : wkCs (crC k) = crC k := by simp [crC, wkCs, wkC, List.cons_append, List.nil_append]
theorem crC_wks (l : List Cross) : wkEs (l.map crC) = l.map crC := by simp [wkEs_map, crC_wk]
theorem crC_ds (l : List Cross) : decAll crCd (l.map crC) = some l := decAll_map (g := crC) crC_dec l
theorem crC_len (k : Cross) : (crC k).length = 2 := rfl
theorem crC_takeN (k : Cross) : List.take 2 (crC k) = crC k := rfl
theorem crC_takeA (k : Cross) (l : List C) : List.take 2 (crC k ++ l) = crC k := rfl
theorem crC_dropA (k : Cross) (l : List C) : List.drop 2 (crC k ++ l) = l := rfl
theorem crC_takeB (k : Cross) (m : Nat) (l : List C) : List.take (m + 2) (crC k ++ l) = crC k ++ List.take m l := rfl
theorem crC_dropB (k : Cross) (m : Nat) (l : List C) : List.drop (m + 2) (crC k ++ l) = List.drop m l := rfl
theorem crC_dropN (k : Cross) : List.drop 2 (crC k) = [] := rfl
theorem crC_all (l : List Cross) : (∀ e ∈ l.map crC, e.length = 2) = True := all_len crC_len l
theorem crC_strip (k : Cross) : List.map strip (crC k) = crC k := rfl
theorem crC_seal (s : St) (k : Cross) : List.map (sealC s) (crC k) = crC k := rfl
theorem crC_ren (s : St) (i : List Nat) (k : Cross) : List.map (renC s i) (crC k) = crC k := rfl
theorem crC_exp (s : St) (i : List Nat) (k : Cross) : List.map (expC s i) (crC k) = crC k := rfl
theorem crC_map (f : Nat → Nat) (k : Cross) : List.map (mapC f) (crC k) = crC k := rfl
theorem crC_gat (s : St) (i : List Nat) (k : Cross) : gather s 64 i (crC k) = i := rfl
theorem crC_rok (s : St) (l i : List Nat) (k : Cross) : renOks s l i (crC k) = True := eq_true (by repeat' constructor)
theorem crC_row (k : Cross) : rowIds (crC k) = [] := rfl
theorem crC_eok (s : St) (i : List Nat) (k : Cross) : expOks s i (crC k) = True := eq_true (by repeat' constructor)
theorem crC_sok (s : St) (k : Cross) : sealOks s (crC k) = True := eq_true (by repeat' constructor)
theorem crC_okR (k : Cross) : okRs (crC k) = True := eq_true (by repeat' constructor)
theorem crC_okC (k : Cross) : okCs (crC k) = True := eq_true (by repeat' constructor)
theorem crC_okR0 (k : Cross) : okR0s (crC k) = True := eq_true (by repeat' constructor)
theorem crC_inj (a b : Cross) : (crC a = crC b) = (a = b) := by
  refine propext ⟨fun h => ?_, fun h => by rw [h]⟩
  have := congrArg crCd h
  rw [crC_dec, crC_dec] at this
  exact Option.some.inj this
theorem crC_minj (a b : List Cross) : (a.map crC = b.map crC) = (a = b) := by
  refine propext ⟨fun h => ?_, fun h => by rw [h]⟩
  have := congrArg (decAll crCd) h
  rw [crC_ds, crC_ds] at this
  exact Option.some.inj this
theorem crC_le (s : St) (ρ : List (Nat × Nat)) (hp : List (Nat × Option Box)) (k : Cross) : leCs s ρ hp (crC k) (crC k) = True := eq_true (by repeat' first | constructor | (intro h; cases h))
theorem crC_okV (k : Cross) : ∀ c ∈ crC k, okV c = true := by
  have : (crC k).all okV = true := rfl
  exact List.all_eq_true.1 this
theorem crC_pure (l : List Cross) : pureV (l.map crC) = True := pureV_map crC_okV l
theorem crC_fok (s : St) (i : List Nat) (k : Cross) : flatOks s i (crC k) = True := eq_true (by repeat' constructor)
theorem crC_okVT (k : Cross) : (∀ c ∈ crC k, okV c = true) = True := eq_true (crC_okV k)
theorem crC_mk (a1 : Int) (s1 : Int) : crC ⟨a1, s1⟩ = C.v (.int .i64 a1) :: [C.v (.int .i64 s1)] := rfl
theorem crC_ex (a1 : Int) (s1 : Int) (Q : Cross → Prop) : (∃ p, C.v (.int .i64 a1) :: [C.v (.int .i64 s1)] = crC p ∧ Q p) = Q ⟨a1, s1⟩ := by
  rw [← crC_mk]; simp only [crC_inj, exists_eq_left']
theorem crC_t1 (k : Cross) : List.take 1 (crC k) = [C.v (.int .i64 k.a)] := rfl
theorem crC_d1 (k : Cross) : List.drop 1 (crC k) = [C.v (.int .i64 k.s)] := rfl
theorem crC_ints (k : Cross) : ints (crC k) = True := eq_true (by repeat' constructor)
theorem crC_ieq (k l : Cross) : ieq (crC k) (crC l) = decide (k = l) := by
  obtain ⟨ka, ks⟩ := k
  obtain ⟨la, ls⟩ := l
  simp [crC, ieq, Bool.decide_and, Bool.and_assoc]

structure Span where
  f : Int
  t : Int
deriving DecidableEq, Inhabited
def spC (x : Span) : List C := C.v (.int .i64 x.f) :: [C.v (.int .i64 x.t)]
def spCd : List C → Option Span
  | [.v (.int .i64 f0), .v (.int .i64 t0)] => some ⟨f0, t0⟩
  | _ => none
theorem spC_dec (k : Span) : spCd (spC k) = some k := rfl
theorem spC_wk (k : Span) : wkCs (spC k) = spC k := by simp [spC, wkCs, wkC, List.cons_append, List.nil_append]
theorem spC_wks (l : List Span) : wkEs (l.map spC) = l.map spC := by simp [wkEs_map, spC_wk]
theorem spC_ds (l : List Span) : decAll spCd (l.map spC) = some l := decAll_map (g := spC) spC_dec l
theorem spC_len (k : Span) : (spC k).length = 2 := rfl
theorem spC_takeN (k : Span) : List.take 2 (spC k) = spC k := rfl
theorem spC_takeA (k : Span) (l : List C) : List.take 2 (spC k ++ l) = spC k := rfl
theorem spC_dropA (k : Span) (l : List C) : List.drop 2 (spC k ++ l) = l := rfl
theorem spC_takeB (k : Span) (m : Nat) (l : List C) : List.take (m + 2) (spC k ++ l) = spC k ++ List.take m l := rfl
theorem spC_dropB (k : Span) (m : Nat) (l : List C) : List.drop (m + 2) (spC k ++ l) = List.drop m l := rfl
theorem spC_dropN (k : Span) : List.drop 2 (spC k) = [] := rfl
theorem spC_all (l : List Span) : (∀ e ∈ l.map spC, e.length = 2) = True := all_len spC_len l
theorem spC_strip (k : Span) : List.map strip (spC k) = spC k := rfl
theorem spC_seal (s : St) (k : Span) : List.map (sealC s) (spC k) = spC k := rfl
theorem spC_ren (s : St) (i : List Nat) (k : Span) : List.map (renC s i) (spC k) = spC k := rfl
theorem spC_exp (s : St) (i : List Nat) (k : Span) : List.map (expC s i) (spC k) = spC k := rfl
theorem spC_map (f : Nat → Nat) (k : Span) : List.map (mapC f) (spC k) = spC k := rfl
theorem spC_gat (s : St) (i : List Nat) (k : Span) : gather s 64 i (spC k) = i := rfl
theorem spC_rok (s : St) (l i : List Nat) (k : Span) : renOks s l i (spC k) = True := eq_true (by repeat' constructor)
theorem spC_row (k : Span) : rowIds (spC k) = [] := rfl
theorem spC_eok (s : St) (i : List Nat) (k : Span) : expOks s i (spC k) = True := eq_true (by repeat' constructor)
theorem spC_sok (s : St) (k : Span) : sealOks s (spC k) = True := eq_true (by repeat' constructor)
theorem spC_okR (k : Span) : okRs (spC k) = True := eq_true (by repeat' constructor)
theorem spC_okC (k : Span) : okCs (spC k) = True := eq_true (by repeat' constructor)
theorem spC_okR0 (k : Span) : okR0s (spC k) = True := eq_true (by repeat' constructor)
theorem spC_inj (a b : Span) : (spC a = spC b) = (a = b) := by
  refine propext ⟨fun h => ?_, fun h => by rw [h]⟩
  have := congrArg spCd h
  rw [spC_dec, spC_dec] at this
  exact Option.some.inj this
theorem spC_minj (a b : List Span) : (a.map spC = b.map spC) = (a = b) := by
  refine propext ⟨fun h => ?_, fun h => by rw [h]⟩
  have := congrArg (decAll spCd) h
  rw [spC_ds, spC_ds] at this
  exact Option.some.inj this
theorem spC_le (s : St) (ρ : List (Nat × Nat)) (hp : List (Nat × Option Box)) (k : Span) : leCs s ρ hp (spC k) (spC k) = True := eq_true (by repeat' first | constructor | (intro h; cases h))
theorem spC_okV (k : Span) : ∀ c ∈ spC k, okV c = true := by
  have : (spC k).all okV = true := rfl
  exact List.all_eq_true.1 this
theorem spC_pure (l : List Span) : pureV (l.map spC) = True := pureV_map spC_okV l
theorem spC_fok (s : St) (i : List Nat) (k : Span) : flatOks s i (spC k) = True := eq_true (by repeat' constructor)
theorem spC_okVT (k : Span) : (∀ c ∈ spC k, okV c = true) = True := eq_true (spC_okV k)
theorem spC_mk (f1 : Int) (t1 : Int) : spC ⟨f1, t1⟩ = C.v (.int .i64 f1) :: [C.v (.int .i64 t1)] := rfl
theorem spC_ex (f1 : Int) (t1 : Int) (Q : Span → Prop) : (∃ p, C.v (.int .i64 f1) :: [C.v (.int .i64 t1)] = spC p ∧ Q p) = Q ⟨f1, t1⟩ := by
  rw [← spC_mk]; simp only [spC_inj, exists_eq_left']
theorem spC_t1 (k : Span) : List.take 1 (spC k) = [C.v (.int .i64 k.f)] := rfl
theorem spC_d1 (k : Span) : List.drop 1 (spC k) = [C.v (.int .i64 k.t)] := rfl
theorem spC_ints (k : Span) : ints (spC k) = True := eq_true (by repeat' constructor)
theorem spC_ieq (k l : Span) : ieq (spC k) (spC l) = decide (k = l) := by
  obtain ⟨kf, kt⟩ := k
  obtain ⟨lf, lt⟩ := l
  simp [spC, ieq, Bool.decide_and, Bool.and_assoc]

def lptC (x : List Pt) : List C := [.sl false (x.map ptC)]
def lptCd : List C → Option (List Pt)
  | [.sl _ es] => decAll ptCd es
  | _ => none
theorem lptC_dec (k : List Pt) : lptCd (lptC k) = some k := ptC_ds k
theorem lptC_wk (k : List Pt) : wkCs (lptC k) = lptC k := by simp [lptC, wkCs, wkC, ptC_wks]
theorem lptC_wks (l : List (List Pt)) : wkEs (l.map lptC) = l.map lptC := by simp [wkEs_map, lptC_wk]
theorem lptC_ds (l : List (List Pt)) : decAll lptCd (l.map lptC) = some l := decAll_map (g := lptC) lptC_dec l
theorem lptC_len (k : (List Pt)) : (lptC k).length = 1 := rfl
theorem lptC_takeN (k : (List Pt)) : List.take 1 (lptC k) = lptC k := rfl
theorem lptC_takeA (k : (List Pt)) (l : List C) : List.take 1 (lptC k ++ l) = lptC k := rfl
theorem lptC_dropA (k : (List Pt)) (l : List C) : List.drop 1 (lptC k ++ l) = l := rfl
theorem lptC_takeB (k : (List Pt)) (m : Nat) (l : List C) : List.take (m + 1) (lptC k ++ l) = lptC k ++ List.take m l := rfl
theorem lptC_dropB (k : (List Pt)) (m : Nat) (l : List C) : List.drop (m + 1) (lptC k ++ l) = List.drop m l := rfl
theorem lptC_dropN (k : (List Pt)) : List.drop 1 (lptC k) = [] := rfl
theorem lptC_all (l : List (List Pt)) : (∀ e ∈ l.map lptC, e.length = 1) = True := all_len lptC_len l
theorem lptC_strip (k : (List Pt)) : List.map strip (lptC k) = lptC k := rfl
theorem lptC_seal (s : St) (k : (List Pt)) : List.map (sealC s) (lptC k) = lptC k := rfl
theorem lptC_ren (s : St) (i : List Nat) (k : (List Pt)) : List.map (renC s i) (lptC k) = lptC k := rfl
theorem lptC_exp (s : St) (i : List Nat) (k : (List Pt)) : List.map (expC s i) (lptC k) = lptC k := rfl
theorem lptC_map (f : Nat → Nat) (k : (List Pt)) : List.map (mapC f) (lptC k) = lptC k := rfl
theorem lptC_gat (s : St) (i : List Nat) (k : (List Pt)) : gather s 64 i (lptC k) = i := rfl
theorem lptC_rok (s : St) (l i : List Nat) (k : (List Pt)) : renOks s l i (lptC k) = True := eq_true (by repeat' constructor)
theorem lptC_row (k : (List Pt)) : rowIds (lptC k) = [] := rfl
theorem lptC_eok (s : St) (i : List Nat) (k : (List Pt)) : expOks s i (lptC k) = True := eq_true (by repeat' constructor)
theorem lptC_sok (s : St) (k : (List Pt)) : sealOks s (lptC k) = True := eq_true (by repeat' constructor)
theorem lptC_okR (k : (List Pt)) : okRs (lptC k) = True := eq_true (by repeat' constructor)
theorem lptC_okC (k : (List Pt)) : okCs (lptC k) = True := eq_true (by repeat' constructor)
theorem lptC_okR0 (k : (List Pt)) : okR0s (lptC k) = True := eq_true (by repeat' constructor)
theorem lptC_inj (a b : (List Pt)) : (lptC a = lptC b) = (a = b) := by
  refine propext ⟨fun h => ?_, fun h => by rw [h]⟩
  have := congrArg lptCd h
  rw [lptC_dec, lptC_dec] at this
  exact Option.some.inj this
theorem lptC_minj (a b : List (List Pt)) : (a.map lptC = b.map lptC) = (a = b) := by
  refine propext ⟨fun h => ?_, fun h => by rw [h]⟩
  have := congrArg (decAll lptCd) h
  rw [lptC_ds, lptC_ds] at this
  exact Option.some.inj this
theorem lptC_le (s : St) (ρ : List (Nat × Nat)) (hp : List (Nat × Option Box)) (k : (List Pt)) : leCs s ρ hp (lptC k) (lptC k) = True := eq_true (by repeat' first | constructor | (intro h; cases h))

structure Verb where
  k : Int
  ps : List Pt
deriving DecidableEq, Inhabited
def vbC (x : Verb) : List C := C.v (.int .i64 x.k) :: [C.sl false (x.ps.map ptC)]
def vbCd : List C → Option Verb
  | [.v (.int .i64 k0), .sl _ ps0] => match decAll ptCd ps0 with
    | some ps0L => some ⟨k0, ps0L⟩
    | _ => none
  | _ => none
theorem vbC_dec (k : Verb) : vbCd (vbC k) = some k := by
  simp [vbC, vbCd, ptC_ds]
theorem vbC_wk (k : Verb) : wkCs (vbC k) = vbC k := by simp [vbC, wkCs, wkC, List.cons_append, List.nil_append, ptC_wks]
theorem vbC_wks (l : List Verb) : wkEs (l.map vbC) = l.map vbC := by simp [wkEs_map, vbC_wk]
theorem vbC_ds (l : List Verb) : decAll vbCd (l.map vbC) = some l := decAll_map (g := vbC) vbC_dec l
theorem vbC_len (k : Verb) : (vbC k).length = 2 := rfl
theorem vbC_takeN (k : Verb) : List.take 2 (vbC k) = vbC k := rfl
theorem vbC_takeA (k : Verb) (l : List C) : List.take 2 (vbC k ++ l) = vbC k := rfl
theorem vbC_dropA (k : Verb) (l : List C) : List.drop 2 (vbC k ++ l) = l := rfl
theorem vbC_takeB (k : Verb) (m : Nat) (l : List C) : List.take (m + 2) (vbC k ++ l) = vbC k ++ List.take m l := rfl
theorem vbC_dropB (k : Verb) (m : Nat) (l : List C) : List.drop (m + 2) (vbC k ++ l) = List.drop m l := rfl
theorem vbC_dropN (k : Verb) : List.drop 2 (vbC k) = [] := rfl
theorem vbC_all (l : List Verb) : (∀ e ∈ l.map vbC, e.length = 2) = True := all_len vbC_len l
theorem vbC_strip (k : Verb) : List.map strip (vbC k) = vbC k := rfl
theorem vbC_seal (s : St) (k : Verb) : List.map (sealC s) (vbC k) = vbC k := rfl
theorem vbC_ren (s : St) (i : List Nat) (k : Verb) : List.map (renC s i) (vbC k) = vbC k := rfl
theorem vbC_exp (s : St) (i : List Nat) (k : Verb) : List.map (expC s i) (vbC k) = vbC k := rfl
theorem vbC_map (f : Nat → Nat) (k : Verb) : List.map (mapC f) (vbC k) = vbC k := rfl
theorem vbC_gat (s : St) (i : List Nat) (k : Verb) : gather s 64 i (vbC k) = i := rfl
theorem vbC_rok (s : St) (l i : List Nat) (k : Verb) : renOks s l i (vbC k) = True := eq_true (by repeat' constructor)
theorem vbC_row (k : Verb) : rowIds (vbC k) = [] := rfl
theorem vbC_eok (s : St) (i : List Nat) (k : Verb) : expOks s i (vbC k) = True := eq_true (by repeat' constructor)
theorem vbC_sok (s : St) (k : Verb) : sealOks s (vbC k) = True := eq_true (by repeat' constructor)
theorem vbC_okR (k : Verb) : okRs (vbC k) = True := eq_true (by repeat' constructor)
theorem vbC_okC (k : Verb) : okCs (vbC k) = True := eq_true (by repeat' constructor)
theorem vbC_okR0 (k : Verb) : okR0s (vbC k) = True := eq_true (by repeat' constructor)
theorem vbC_inj (a b : Verb) : (vbC a = vbC b) = (a = b) := by
  refine propext ⟨fun h => ?_, fun h => by rw [h]⟩
  have := congrArg vbCd h
  rw [vbC_dec, vbC_dec] at this
  exact Option.some.inj this
theorem vbC_minj (a b : List Verb) : (a.map vbC = b.map vbC) = (a = b) := by
  refine propext ⟨fun h => ?_, fun h => by rw [h]⟩
  have := congrArg (decAll vbCd) h
  rw [vbC_ds, vbC_ds] at this
  exact Option.some.inj this
theorem vbC_le (s : St) (ρ : List (Nat × Nat)) (hp : List (Nat × Option Box)) (k : Verb) : leCs s ρ hp (vbC k) (vbC k) = True := eq_true (by repeat' first | constructor | (intro h; cases h))
theorem vbC_mk (k1 : Int) (ps1 : List Pt) : vbC ⟨k1, ps1⟩ = C.v (.int .i64 k1) :: [C.sl false (ps1.map ptC)] := rfl
theorem vbC_ex (k1 : Int) (ps1 : List Pt) (Q : Verb → Prop) : (∃ p, C.v (.int .i64 k1) :: [C.sl false (ps1.map ptC)] = vbC p ∧ Q p) = Q ⟨k1, ps1⟩ := by
  rw [← vbC_mk]; simp only [vbC_inj, exists_eq_left']
theorem vbC_t1 (k : Verb) : List.take 1 (vbC k) = [C.v (.int .i64 k.k)] := rfl
theorem vbC_d1 (k : Verb) : List.drop 1 (vbC k) = [C.sl false (k.ps.map ptC)] := rfl
def sC (x : ByteArray) : List C := [.v (.string x)]
def sCd : List C → Option ByteArray
  | [.v (.string x)] => some x
  | _ => none
theorem sC_dec (k : ByteArray) : sCd (sC k) = some k := rfl
theorem sC_wk (k : ByteArray) : wkCs (sC k) = sC k := rfl
theorem sC_wks (l : List ByteArray) : wkEs (l.map sC) = l.map sC := by simp [wkEs_map, sC_wk]
theorem sC_ds (l : List ByteArray) : decAll sCd (l.map sC) = some l := decAll_map (g := sC) sC_dec l
theorem sC_len (k : ByteArray) : (sC k).length = 1 := rfl
theorem sC_takeN (k : ByteArray) : List.take 1 (sC k) = sC k := rfl
theorem sC_takeA (k : ByteArray) (l : List C) : List.take 1 (sC k ++ l) = sC k := rfl
theorem sC_dropA (k : ByteArray) (l : List C) : List.drop 1 (sC k ++ l) = l := rfl
theorem sC_takeB (k : ByteArray) (m : Nat) (l : List C) : List.take (m + 1) (sC k ++ l) = sC k ++ List.take m l := rfl
theorem sC_dropB (k : ByteArray) (m : Nat) (l : List C) : List.drop (m + 1) (sC k ++ l) = List.drop m l := rfl
theorem sC_dropN (k : ByteArray) : List.drop 1 (sC k) = [] := rfl
theorem sC_all (l : List ByteArray) : (∀ e ∈ l.map sC, e.length = 1) = True := all_len sC_len l
theorem sC_strip (k : ByteArray) : List.map strip (sC k) = sC k := rfl
theorem sC_seal (s : St) (k : ByteArray) : List.map (sealC s) (sC k) = sC k := rfl
theorem sC_ren (s : St) (i : List Nat) (k : ByteArray) : List.map (renC s i) (sC k) = sC k := rfl
theorem sC_exp (s : St) (i : List Nat) (k : ByteArray) : List.map (expC s i) (sC k) = sC k := rfl
theorem sC_map (f : Nat → Nat) (k : ByteArray) : List.map (mapC f) (sC k) = sC k := rfl
theorem sC_gat (s : St) (i : List Nat) (k : ByteArray) : gather s 64 i (sC k) = i := rfl
theorem sC_rok (s : St) (l i : List Nat) (k : ByteArray) : renOks s l i (sC k) = True := eq_true (by repeat' constructor)
theorem sC_row (k : ByteArray) : rowIds (sC k) = [] := rfl
theorem sC_eok (s : St) (i : List Nat) (k : ByteArray) : expOks s i (sC k) = True := eq_true (by repeat' constructor)
theorem sC_sok (s : St) (k : ByteArray) : sealOks s (sC k) = True := eq_true (by repeat' constructor)
theorem sC_okR (k : ByteArray) : okRs (sC k) = True := eq_true (by repeat' constructor)
theorem sC_okC (k : ByteArray) : okCs (sC k) = True := eq_true (by repeat' constructor)
theorem sC_okR0 (k : ByteArray) : okR0s (sC k) = True := eq_true (by repeat' constructor)
theorem sC_inj (a b : ByteArray) : (sC a = sC b) = (a = b) := by
  refine propext ⟨fun h => ?_, fun h => by rw [h]⟩
  have := congrArg sCd h
  rw [sC_dec, sC_dec] at this
  exact Option.some.inj this
theorem sC_minj (a b : List ByteArray) : (a.map sC = b.map sC) = (a = b) := by
  refine propext ⟨fun h => ?_, fun h => by rw [h]⟩
  have := congrArg (decAll sCd) h
  rw [sC_ds, sC_ds] at this
  exact Option.some.inj this
theorem sC_le (s : St) (ρ : List (Nat × Nat)) (hp : List (Nat × Option Box)) (k : ByteArray) : leCs s ρ hp (sC k) (sC k) = True := eq_true (by repeat' first | constructor | (intro h; cases h))
theorem sC_okV (k : ByteArray) : ∀ c ∈ sC k, okV c = true := by
  have : (sC k).all okV = true := rfl
  exact List.all_eq_true.1 this
theorem sC_pure (l : List ByteArray) : pureV (l.map sC) = True := pureV_map sC_okV l
theorem sC_fok (s : St) (i : List Nat) (k : ByteArray) : flatOks s i (sC k) = True := eq_true (by repeat' constructor)
theorem sC_okVT (k : ByteArray) : (∀ c ∈ sC k, okV c = true) = True := eq_true (sC_okV k)
attribute [go_sem] ptC_le ptC_inj ptC_minj ptC_dec ptC_ds ptC_len ptC_takeN ptC_takeA ptC_dropA ptC_takeB ptC_dropB ptC_dropN ptC_all ptC_strip ptC_seal ptC_ren ptC_exp ptC_map ptC_gat ptC_rok ptC_row ptC_eok ptC_sok ptC_okR ptC_okR0 ptC_okC ptC_wk ptC_wks ptC_pure ptC_fok
attribute [go_sem] ptC_okVT ptC_mk ptC_ex ptCd.eq_1 ptC_t1 ptC_d1 ptC_ints ptC_ieq Pt.mk.injEq edC_le edC_inj edC_minj edC_dec edC_ds edC_len edC_takeN edC_takeA edC_dropA edC_takeB edC_dropB edC_dropN edC_all edC_strip edC_seal edC_ren edC_exp edC_map edC_gat edC_rok edC_row
attribute [go_sem] edC_eok edC_sok edC_okR edC_okR0 edC_okC edC_wk edC_wks edC_pure edC_fok edC_okVT edC_fold edC_t1 edC_d1 edC_t2 edC_d2 edC_t3 edC_d3 edC_ints edC_ieq Edge.mk.injEq bxC_le bxC_inj bxC_minj bxC_dec bxC_ds bxC_len bxC_takeN bxC_takeA bxC_dropA bxC_takeB
attribute [go_sem] bxC_dropB bxC_dropN bxC_all bxC_strip bxC_seal bxC_ren bxC_exp bxC_map bxC_gat bxC_rok bxC_row bxC_eok bxC_sok bxC_okR bxC_okR0 bxC_okC bxC_wk bxC_wks bxC_pure bxC_fok bxC_okVT bxC_mk bxC_ex bxCd.eq_1 bxC_t1 bxC_d1 bxC_t2 bxC_d2 bxC_t3 bxC_d3
attribute [go_sem] bxC_ints bxC_ieq Bx.mk.injEq crC_le crC_inj crC_minj crC_dec crC_ds crC_len crC_takeN crC_takeA crC_dropA crC_takeB crC_dropB crC_dropN crC_all crC_strip crC_seal crC_ren crC_exp crC_map crC_gat crC_rok crC_row crC_eok crC_sok crC_okR crC_okR0 crC_okC crC_wk
attribute [go_sem] crC_wks crC_pure crC_fok crC_okVT crC_mk crC_ex crCd.eq_1 crC_t1 crC_d1 crC_ints crC_ieq Cross.mk.injEq spC_le spC_inj spC_minj spC_dec spC_ds spC_len spC_takeN spC_takeA spC_dropA spC_takeB spC_dropB spC_dropN spC_all spC_strip spC_seal spC_ren spC_exp spC_map
attribute [go_sem] spC_gat spC_rok spC_row spC_eok spC_sok spC_okR spC_okR0 spC_okC spC_wk spC_wks spC_pure spC_fok spC_okVT spC_mk spC_ex spCd.eq_1 spC_t1 spC_d1 spC_ints spC_ieq Span.mk.injEq lptC_le lptC_inj lptC_minj lptC_dec lptC_ds lptC_len lptC_takeN lptC_takeA lptC_dropA
attribute [go_sem] lptC_takeB lptC_dropB lptC_dropN lptC_all lptC_strip lptC_seal lptC_ren lptC_exp lptC_map lptC_gat lptC_rok lptC_row lptC_eok lptC_sok lptC_okR lptC_okR0 lptC_okC lptC_wk lptC_wks lptC lptCd.eq_1 vbC_le vbC_inj vbC_minj vbC_dec vbC_ds vbC_len vbC_takeN vbC_takeA vbC_dropA
attribute [go_sem] vbC_takeB vbC_dropB vbC_dropN vbC_all vbC_strip vbC_seal vbC_ren vbC_exp vbC_map vbC_gat vbC_rok vbC_row vbC_eok vbC_sok vbC_okR vbC_okR0 vbC_okC vbC_wk vbC_wks vbC_mk vbC_ex vbCd.eq_1 vbC_t1 vbC_d1 Verb.mk.injEq sC_le sC_inj sC_minj sC_dec sC_ds
attribute [go_sem] sC_len sC_takeN sC_takeA sC_dropA sC_takeB sC_dropB sC_dropN sC_all sC_strip sC_seal sC_ren sC_exp sC_map sC_gat sC_rok sC_row sC_eok sC_sok sC_okR sC_okR0 sC_okC sC_wk sC_wks sC_pure sC_fok sC_okVT sC sCd.eq_1
end Go.Proofs.YthphndhiacikaaaDoor
end
section
set_option maxRecDepth 100000
set_option linter.unusedSimpArgs false
set_option linter.unusedVariables false
namespace Go.Proofs.YthphndhiacikaaaDoor
open Go Go.VE
def d_i_i_i : List AV → Option (Int × Int × Int)
  | [.c (.v (.int .i64 a0)), .c (.v (.int .i64 a1)), .c (.v (.int .i64 a2))] => some (a0, a1, a2)
  | _ => none
def d_i : List AV → Option (Int)
  | [.c (.v (.int .i64 a0))] => some (a0)
  | _ => none
def d_pt : List AV → Option (Pt)
  | [.agg a0] => match ptCd a0 with
    | some a0v => some (a0v)
    | _ => none
  | _ => none
def d_lpt_f55 : List AV → Option ((List Pt))
  | [.c (.sl _ a0), .c (.fn a1 [])] => match decAll ptCd a0, (if a1 = 55 then some () else none) with
    | some a0v, some u1 => some (a0v)
    | _, _ => none
  | _ => none
def d_lpt : List AV → Option ((List Pt))
  | [.c (.sl _ a0)] => match decAll ptCd a0 with
    | some a0v => some (a0v)
    | _ => none
  | _ => none
def d_llpt : List AV → Option ((List (List Pt)))
  | [.c (.sl _ a0)] => match decAll lptCd a0 with
    | some a0v => some (a0v)
    | _ => none
  | _ => none
def d_i_i : List AV → Option (Int × Int)
  | [.c (.v (.int .i64 a0)), .c (.v (.int .i64 a1))] => some (a0, a1)
  | _ => none
def d_b : List AV → Option (Bool)
  | [.c (.v (.bool a0))] => some (a0)
  | _ => none
def d_ed_i : List AV → Option (Edge × Int)
  | [.agg a0, .c (.v (.int .i64 a1))] => match edCd a0 with
    | some a0v => some (a0v, a1)
    | _ => none
  | _ => none
def d_ed_i_i : List AV → Option (Edge × Int × Int)
  | [.agg a0, .c (.v (.int .i64 a1)), .c (.v (.int .i64 a2))] => match edCd a0 with
    | some a0v => some (a0v, a1, a2)
    | _ => none
  | _ => none
def d_pt_pt_i_i : List AV → Option (Pt × Pt × Int × Int)
  | [.agg a0, .agg a1, .c (.v (.int .i64 a2)), .c (.v (.int .i64 a3))] => match ptCd a0, ptCd a1 with
    | some a0v, some a1v => some (a0v, a1v, a2, a3)
    | _, _ => none
  | _ => none
def d_pt_pt : List AV → Option (Pt × Pt)
  | [.agg a0, .agg a1] => match ptCd a0, ptCd a1 with
    | some a0v, some a1v => some (a0v, a1v)
    | _, _ => none
  | _ => none
def d_r_i : List AV → Option (Int)
  | [.c .rdr, .c (.v (.int .i64 a1))] => some (a1)
  | _ => none
def d_r_li : List AV → Option ((List Int))
  | [.c .rdr, .c (.sl _ a1)] => match decAll intCd a1 with
    | some a1v => some (a1v)
    | _ => none
  | _ => none
def d_r : List AV → Option (Unit)
  | [.c .rdr] => some ()
  | _ => none
def d_bx : List AV → Option (Bx)
  | [.agg a0] => match bxCd a0 with
    | some a0v => some (a0v)
    | _ => none
  | _ => none
def d_lpt_i_i : List AV → Option ((List Pt) × Int × Int)
  | [.c (.sl _ a0), .c (.v (.int .i64 a1)), .c (.v (.int .i64 a2))] => match decAll ptCd a0 with
    | some a0v => some (a0v, a1, a2)
    | _ => none
  | _ => none
def d_lvb : List AV → Option ((List Verb))
  | [.c (.sl _ a0)] => match decAll vbCd a0 with
    | some a0v => some (a0v)
    | _ => none
  | _ => none
attribute [go_sem] d_i_i_i d_i d_pt d_lpt_f55 d_lpt d_llpt d_i_i d_b d_ed_i d_ed_i_i d_pt_pt_i_i d_pt_pt d_r_i d_r_li d_r d_bx d_lpt_i_i d_lvb
end Go.Proofs.YthphndhiacikaaaDoor
end
section
set_option maxRecDepth 100000
set_option linter.unusedSimpArgs false
set_option linter.unusedVariables false
namespace Go.Proofs.YthphndhiacikaaaDoor
open Go Go.VE
def d_r_llpt : List AV → Option ((List (List Pt)))
  | [.c .rdr, .c (.sl _ a1)] => match decAll lptCd a1 with
    | some a1v => some (a1v)
    | _ => none
  | _ => none
attribute [go_sem] d_r_llpt
end Go.Proofs.YthphndhiacikaaaDoor
end
section
set_option maxRecDepth 100000
set_option linter.unusedSimpArgs false
set_option linter.unusedVariables false
namespace Go.Proofs.YthphndhiacikaaaDoor
open Go Go.VE
def d_llpt_i_i : List AV → Option ((List (List Pt)) × Int × Int)
  | [.c (.sl _ a0), .c (.v (.int .i64 a1)), .c (.v (.int .i64 a2))] => match decAll lptCd a0 with
    | some a0v => some (a0v, a1, a2)
    | _ => none
  | _ => none
attribute [go_sem] d_llpt_i_i
end Go.Proofs.YthphndhiacikaaaDoor
end
section
set_option maxRecDepth 100000
set_option linter.unusedSimpArgs false
set_option linter.unusedVariables false
namespace Go.Proofs.YthphndhiacikaaaDoor
open Go Go.VE
def d_llpt_i_i_i : List AV → Option ((List (List Pt)) × Int × Int × Int)
  | [.c (.sl _ a0), .c (.v (.int .i64 a1)), .c (.v (.int .i64 a2)), .c (.v (.int .i64 a3))] => match decAll lptCd a0 with
    | some a0v => some (a0v, a1, a2, a3)
    | _ => none
  | _ => none
attribute [go_sem] d_llpt_i_i_i
end Go.Proofs.YthphndhiacikaaaDoor
end
section
set_option maxRecDepth 100000
set_option linter.unusedSimpArgs false
set_option linter.unusedVariables false
namespace Go.Proofs.YthphndhiacikaaaDoor
open Go Go.VE
def d_ly : List AV → Option ((List UInt8))
  | [.c (.sl _ a0)] => match decAll byD a0 with
    | some a0v => some (a0v)
    | _ => none
  | _ => none
attribute [go_sem] d_ly
end Go.Proofs.YthphndhiacikaaaDoor
end
section
set_option maxRecDepth 100000
set_option linter.unusedSimpArgs false
set_option linter.unusedVariables false
namespace Go.Proofs.YthphndhiacikaaaDoor
open Go Go.VE
end Go.Proofs.YthphndhiacikaaaDoor
end
section
set_option maxRecDepth 100000
set_option linter.unusedSimpArgs false
set_option linter.unusedVariables false
namespace Go.Proofs.YthphndhiacikaaaDoor
open Go Go.VE
end Go.Proofs.YthphndhiacikaaaDoor
end
section
set_option maxRecDepth 100000
set_option linter.unusedSimpArgs false
set_option linter.unusedVariables false
namespace Go.Proofs.YthphndhiacikaaaDoor
open Go Go.VE
end Go.Proofs.YthphndhiacikaaaDoor
end
