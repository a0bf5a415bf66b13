/- Contracts of functions of the program vectorraster, each proved for all states that fit its description. -/
import Derived.Test.YtofelomoieamoaaB1
set_option maxRecDepth 100000
set_option linter.unusedSimpArgs false
set_option linter.unusedVariables false
namespace Go.Proofs.Ytofelomoieamoaa
open Go Go.VE

theorem all_step {α : Type} {l : List α} {p : α → Bool} {i : Nat} {k : α} (hk : l[i]? = some k) (h : (l.take i).all p = true) (hp : p k = true) : (l.take (i + 1)).all p = true := by
  rw [List.take_add_one, hk, List.all_append, h]
  simpa using hp
theorem all_fail {α : Type} {l : List α} {p : α → Bool} {i : Nat} {k : α} (hk : l[i]? = some k) (hp : p k = false) : l.all p = false := by
  rw [List.all_eq_false]
  exact ⟨k, List.mem_of_getElem? hk, by simp [hp]⟩
theorem all_done {α : Type} {l : List α} {p : α → Bool} {i : Nat} (hi : l.length ≤ i) (h : (l.take i).all p = true) : l.all p = true := by
  rwa [List.take_of_length_le hi] at h
theorem Hold_snd {α β : Type} (b : β) (φ : α → β → Prop) (K : α × β → Prop) : Hold (fun x => x.2 = b ∧ φ x.1 x.2) K = Hold (fun r => φ r b) (fun r => K (r, b)) := by
  simp [Hold]
theorem Hold_eqand {α : Type} (a : α) (p : Prop) (K : α → Prop) : Hold (fun x => x = a ∧ p) K = (p → K a) := by
  simp [Hold]
def dI1 : List AV → Option Int
  | [.c (.v (.int .i64 a))] => some a
  | _ => none
def dI2 : List AV → Option (Int × Int)
  | [.c (.v (.int .i64 a)), .c (.v (.int .i64 b))] => some (a, b)
  | _ => none
def dI3 : List AV → Option (Int × Int × Int)
  | [.c (.v (.int .i64 a)), .c (.v (.int .i64 b)), .c (.v (.int .i64 c))] => some (a, b, c)
  | _ => none
def dB1 : List AV → Option Bool
  | [.c (.v (.bool a))] => some a
  | _ => none
theorem byC_all (l : List UInt8) : (∀ e ∈ byC l, e.length = 1) = True := by simp [byC]
theorem byC_len (l : List UInt8) : (byC l).length = l.length := by simp [byC]
def decAll {α : Type} (f : List C → Option α) : List (List C) → Option (List α)
  | [] => some []
  | e :: r => match f e, decAll f r with
    | some x, some l => some (x :: l)
    | _, _ => none
theorem decAll_map {α : Type} {f : List C → Option α} {g : α → List C} (h : ∀ x, f (g x) = some x) : ∀ l : List α, decAll f (l.map g) = some l
  | [] => rfl
  | x :: l => by simp [decAll, h, decAll_map h l]
theorem all_len {α : Type} {g : α → List C} {n : Nat} (h : ∀ x, (g x).length = n) (l : List α) : (∀ e ∈ l.map g, e.length = n) = True := by simp [h]
theorem pureV_map {α : Type} {g : α → List C} (h : ∀ x, ∀ c ∈ g x, okV c = true) (l : List α) : pureV (l.map g) = True := by
  simp only [eq_iff_iff, iff_true]
  intro e he c hc
  obtain ⟨x, _, rfl⟩ := List.mem_map.1 he
  exact h x c hc
theorem nonint_all {g : Int → List C} : True := trivial
def intC (n : Int) : List C := [.v (.int .i64 n)]
def decInt : List C → Option Int
  | [.v (.int .i64 n)] => some n
  | _ => none
theorem decInts (l : List Int) : decAll decInt (l.map intC) = some l := decAll_map (g := intC) (fun _ => rfl) l
theorem intC_all (l : List Int) : (∀ e ∈ l.map intC, e.length = 1) = True := all_len (g := intC) (fun _ => rfl) l
theorem intC_len (k : Int) : (intC k).length = 1 := rfl
theorem pureV_ints (l : List Int) : pureV (l.map intC) = True := pureV_map (fun x c hc => by
  simp only [intC, List.mem_cons, List.not_mem_nil, or_false] at hc
  rw [hc]; rfl) l
def Sized (w h : Int) : Prop := (1 ≤ w ∧ w ≤ 12) ∧ (1 ≤ h ∧ h ≤ 12)
instance (w h : Int) : Decidable (Sized w h) := by unfold Sized; infer_instance
theorem sized_mul {n m : Int} (h : Sized n m) : 1 ≤ n * m ∧ n * m ≤ 144 := by
  obtain ⟨⟨h1, h2⟩, h3, h4⟩ := h
  constructor
  · have := Int.mul_le_mul h1 h3 (by omega) (by omega)
    omega
  · have := Int.mul_le_mul h2 h4 (by omega) (by omega)
    omega
def Picks (n m : Int) : Prop := (n < 1 → m = 0) ∧ (1 ≤ n → 0 ≤ m ∧ m < n)
def dRI : List AV → Option Int
  | [.c .rdr, .c (.v (.int .i64 a))] => some a
  | _ => none
def dROne : List AV → Option (Bool × List Int)
  | [.c .rdr, .c (.sl t es)] => match decAll decInt es with
    | some l => some (t, l)
    | none => none
  | _ => none
def dRdr : List AV → Option Unit
  | [.c .rdr] => some ()
  | _ => none
def dBy : List AV → Option Unit
  | [.c (.sl _ _)] => some ()
  | _ => none

structure Col where
  r : Int
  g : Int
  b : Int
  a : Int
deriving DecidableEq
def colC (x : Col) : List C := [.v (.int .i64 x.r)] ++ [.v (.int .i64 x.g)] ++ [.v (.int .i64 x.b)] ++ [.v (.int .i64 x.a)]
def colCd : List C → Option Col
  | [.v (.int .i64 r0), .v (.int .i64 g0), .v (.int .i64 b0), .v (.int .i64 a0)] => some ⟨r0, g0, b0, a0⟩
  | _ => none
theorem colC_dec (k : Col) : colCd (colC k) = some k := rfl
theorem colC_ds (l : List Col) : decAll colCd (l.map colC) = some l := decAll_map (g := colC) colC_dec l
theorem colC_len (k : Col) : (colC k).length = 4 := rfl
theorem colC_take (k : Col) : List.take 4 (colC k) = colC k := rfl
theorem colC_takeA (k : Col) (l : List C) : List.take 4 (colC k ++ l) = colC k := rfl
theorem colC_dropA (k : Col) (l : List C) : List.drop 4 (colC k ++ l) = l := rfl
theorem colC_drop (k : Col) : List.drop 0 (colC k) = colC k := rfl
theorem colC_ints (k : Col) : ints (colC k) = True := eq_true (by repeat' constructor)
theorem colC_all (l : List Col) : (∀ e ∈ l.map colC, e.length = 4) = True := all_len colC_len l
theorem colC_okV (k : Col) : ∀ c ∈ colC k, okV c = true := by
  have : (colC k).all okV = true := rfl
  exact List.all_eq_true.1 this
theorem colC_pure (l : List Col) : pureV (l.map colC) = True := pureV_map colC_okV l
theorem colC_strip (k : Col) : List.map strip (colC k) = colC k := rfl
theorem colC_seal (s : St) (k : Col) : List.map (sealC s) (colC k) = colC k := rfl
theorem colC_ren (s : St) (i : List Nat) (k : Col) : List.map (renC s i) (colC k) = colC k := rfl
theorem colC_exp (s : St) (i : List Nat) (k : Col) : List.map (expC s i) (colC k) = colC k := rfl
theorem colC_map (f : Nat → Nat) (k : Col) : List.map (mapC f) (colC k) = colC k := rfl
def colA (x : Col) : AV := .agg (colC x)
def colAd : AV → Option Col
  | .agg cs => colCd cs
  | _ => none
theorem colC_gat (s : St) (i : List Nat) (k : Col) : gather s 64 i (colC k) = i := rfl
theorem colC_rok (s : St) (l i : List Nat) (k : Col) : renOks s l i (colC k) = True := eq_true (by repeat' constructor)
theorem colC_row (k : Col) : rowIds (colC k) = [] := rfl
theorem colC_eok (s : St) (i : List Nat) (k : Col) : expOks s i (colC k) = True := eq_true (by repeat' constructor)
theorem colC_fok (s : St) (i : List Nat) (k : Col) : flatOks s i (colC k) = True := eq_true (by repeat' constructor)
theorem colC_sok (s : St) (k : Col) : sealOks s (colC k) = True := eq_true (by repeat' constructor)
theorem colC_okR (k : Col) : okRs (colC k) = True := eq_true (by repeat' constructor)
theorem colC_okC (k : Col) : okCs (colC k) = True := eq_true (by repeat' constructor)
theorem colC_ieq (k l : Col) : ieq (colC k) (colC l) = decide (k = l) := by
  cases k; cases l
  simp [colC, ieq, Bool.decide_and]

structure Run where
  c : Col
  m : Int
deriving DecidableEq
def runC (x : Run) : List C := colC x.c ++ [.v (.int .i64 x.m)]
def runCd : List C → Option Run
  | [.v (.int .i64 c_r0), .v (.int .i64 c_g0), .v (.int .i64 c_b0), .v (.int .i64 c_a0), .v (.int .i64 m0)] => some ⟨⟨c_r0, c_g0, c_b0, c_a0⟩, m0⟩
  | _ => none
theorem runC_dec (k : Run) : runCd (runC k) = some k := rfl
theorem runC_ds (l : List Run) : decAll runCd (l.map runC) = some l := decAll_map (g := runC) runC_dec l
theorem runC_len (k : Run) : (runC k).length = 5 := rfl
theorem runC_take (k : Run) : List.take 5 (runC k) = runC k := rfl
theorem runC_takeA (k : Run) (l : List C) : List.take 5 (runC k ++ l) = runC k := rfl
theorem runC_dropA (k : Run) (l : List C) : List.drop 5 (runC k ++ l) = l := rfl
theorem runC_drop (k : Run) : List.drop 0 (runC k) = runC k := rfl
theorem runC_ints (k : Run) : ints (runC k) = True := eq_true (by repeat' constructor)
theorem runC_all (l : List Run) : (∀ e ∈ l.map runC, e.length = 5) = True := all_len runC_len l
theorem runC_okV (k : Run) : ∀ c ∈ runC k, okV c = true := by
  have : (runC k).all okV = true := rfl
  exact List.all_eq_true.1 this
theorem runC_pure (l : List Run) : pureV (l.map runC) = True := pureV_map runC_okV l
theorem runC_strip (k : Run) : List.map strip (runC k) = runC k := rfl
theorem runC_seal (s : St) (k : Run) : List.map (sealC s) (runC k) = runC k := rfl
theorem runC_ren (s : St) (i : List Nat) (k : Run) : List.map (renC s i) (runC k) = runC k := rfl
theorem runC_exp (s : St) (i : List Nat) (k : Run) : List.map (expC s i) (runC k) = runC k := rfl
theorem runC_map (f : Nat → Nat) (k : Run) : List.map (mapC f) (runC k) = runC k := rfl
def runA (x : Run) : AV := .agg (runC x)
def runAd : AV → Option Run
  | .agg cs => runCd cs
  | _ => none
theorem runC_gat (s : St) (i : List Nat) (k : Run) : gather s 64 i (runC k) = i := rfl
theorem runC_rok (s : St) (l i : List Nat) (k : Run) : renOks s l i (runC k) = True := eq_true (by repeat' constructor)
theorem runC_row (k : Run) : rowIds (runC k) = [] := rfl
theorem runC_eok (s : St) (i : List Nat) (k : Run) : expOks s i (runC k) = True := eq_true (by repeat' constructor)
theorem runC_fok (s : St) (i : List Nat) (k : Run) : flatOks s i (runC k) = True := eq_true (by repeat' constructor)
theorem runC_sok (s : St) (k : Run) : sealOks s (runC k) = True := eq_true (by repeat' constructor)
theorem runC_okR (k : Run) : okRs (runC k) = True := eq_true (by repeat' constructor)
theorem runC_okC (k : Run) : okCs (runC k) = True := eq_true (by repeat' constructor)
theorem runC_fold (c1 : Col) (m1 : Int) : colC c1 ++ [C.v (.int .i64 m1)] = runC ⟨c1, m1⟩ := rfl
theorem runC_fold2 (c1 : Col) (m1 : Int) : colC c1 ++ [C.v (.int .i64 m1)] = runC ⟨c1, m1⟩ := rfl
theorem runC_t4 (k : Run) : List.take 4 (runC k) = colC k.c := rfl
theorem runC_d4 (k : Run) : List.drop 4 (runC k) = [C.v (.int .i64 k.m)] := rfl
theorem runC_dn (k : Run) : List.drop 5 (runC k) = [] := rfl
theorem runC_ieq (k l : Run) : ieq (runC k) (runC l) = decide (k = l) := by
  obtain ⟨⟨kc_r0, kc_g0, kc_b0, kc_a0⟩, km0⟩ := k
  obtain ⟨⟨lc_r0, lc_g0, lc_b0, lc_a0⟩, lm0⟩ := l
  simp [runC, colC, ieq, Bool.decide_and, Bool.and_assoc]

def zcol : Col := ⟨0, 0, 0, 0⟩
theorem repl_col (n : Nat) : List.replicate n [C.v (.int .i64 0), C.v (.int .i64 0), C.v (.int .i64 0), C.v (.int .i64 0)] = (List.replicate n zcol).map colC := by rw [List.map_replicate]; rfl
structure Frm where
  w : Int
  h : Int
  px : List Col
deriving DecidableEq
def frmA (t : Bool) (f : Frm) : AV := .agg [.v (.int .i64 f.w), .v (.int .i64 f.h), .sl t (f.px.map colC)]
def decFrm : AV → Option (Bool × Frm)
  | .agg [.v (.int .i64 w), .v (.int .i64 h), .sl t es] => match decAll colCd es with
    | some px => some (t, ⟨w, h, px⟩)
    | none => none
  | _ => none
def vCol (c : Col) : Bool := decide (0 ≤ c.a ∧ c.a ≤ 255 ∧ (0 ≤ c.r ∧ c.r ≤ c.a) ∧ (0 ≤ c.g ∧ c.g ≤ c.a) ∧ (0 ≤ c.b ∧ c.b ≤ c.a))
def vFrm (f : Frm) : Bool := decide (Sized f.w f.h ∧ (f.px.length : Int) = f.w * f.h) && f.px.all vCol
def sides : List Int := [4, 5, 8, 3, 12, 1, 9, 0, 13]
structure PB where
  n : Int
  bv : Value
  bs : List (List C)
  p : Int
def pbIns (x : PB) : List Box := [⟨[[.ex x.bv (.sl false x.bs), .v (.int .i64 x.p)]], 2, 84, false, false⟩]
def dPB : List AV → List Box → Option PB
  | [.c (.ptr 0 1 0 0), .c (.v (.int .i64 n))], [⟨[[.ex bv (.sl false bs), .v (.int .i64 p)]], _, _, _, _⟩] => some ⟨n, bv, bs, p⟩
  | _, _ => none
def dColA : List AV → Option Col
  | [a] => colAd a
  | _ => none
def dColsF (n : Nat) : List AV → Option (Bool × List Col)
  | [.c (.sl t es), .c (.fn f [])] => match decAll colCd es, decide (f = n) with
    | some l, true => some (t, l)
    | _, _ => none
  | _ => none
def dF1 : List AV → Option (Bool × Frm)
  | [a] => decFrm a
  | _ => none
def dC2 : List AV → Option (Bool × Bool × List Col × List Col)
  | [.c (.sl s a), .c (.sl t b)] => match decAll colCd a, decAll colCd b with
    | some a, some b => some (s, t, a, b)
    | _, _ => none
  | _ => none
def dF2 : List AV → Option (Bool × Bool × Frm × Frm)
  | [a, b] => match decFrm a, decFrm b with
    | some (s, f), some (t, g) => some (s, t, f, g)
    | _, _ => none
  | _ => none
def spInR_A : Int × Int × Int → List AV := fun x => [I x.1, I x.2.1, I x.2.2]
def spInR_pre : Int × Int × Int → Prop := fun x => True
def spInR_post : Int × Int × Int → AV → List Box → Prop := fun x r bs => r = B (decide (x.2.1 ≤ x.1 ∧ x.1 ≤ x.2.2)) ∧ bs = []
def spInR : VE.Spec := famSpec spInR_A dI3 spInR_pre spInR_post 0 true
theorem spInR_q : spInR.flat = true ∧ spInR.mt = [] ∧ spInR.shut = false ∧ spInR.cost = 0 ∧ (∀ a i, spInR.pre a i = (i = [] ∧ famPre dI3 spInR_A spInR_pre a)) ∧ ∀ a i r b, spInR.post a i r b = (famPost dI3 spInR_post a r b) := ⟨rfl, rfl, rfl, rfl, fun _ _ => rfl, fun _ _ _ _ => rfl⟩
def spSized_A : Int × Int → List AV := fun x => [I x.1, I x.2]
def spSized_pre : Int × Int → Prop := fun x => True
def spSized_post : Int × Int → AV → List Box → Prop := fun x r bs => r = B (decide (Sized x.1 x.2)) ∧ bs = []
def spSized : VE.Spec := famSpec spSized_A dI2 spSized_pre spSized_post 0 true
theorem spSized_q : spSized.flat = true ∧ spSized.mt = [] ∧ spSized.shut = false ∧ spSized.cost = 0 ∧ (∀ a i, spSized.pre a i = (i = [] ∧ famPre dI2 spSized_A spSized_pre a)) ∧ ∀ a i r b, spSized.post a i r b = (famPost dI2 spSized_post a r b) := ⟨rfl, rfl, rfl, rfl, fun _ _ => rfl, fun _ _ _ _ => rfl⟩
def spPickB_A : PB → List AV := fun x => [.c (.ptr 0 1 0 0), I x.n]
def spPickB_pre : PB → Prop := fun x => (∃ bs : List UInt8, x.bs = byC bs ∧ bs.length ≤ 2000) ∧ 0 ≤ x.p ∧ x.p + 1 ≤ 1073741824
def spPickB_post : PB → AV → List Box → Prop := fun x r bs => ∃ m, Picks x.n m ∧ r = I m ∧ bs = pbIns { x with p := x.p + 1 }
def spPickB_B : PB → List Box := fun x => pbIns x
def spPickB : VE.Spec := famSpecM spPickB_A spPickB_B dPB spPickB_pre spPickB_post 0 false [true] false
theorem spPickB_q : spPickB.flat = false ∧ spPickB.mt = [true] ∧ spPickB.shut = false ∧ spPickB.cost = 0 ∧ (∀ a i, spPickB.pre a i = (famPreM dPB spPickB_A spPickB_B spPickB_pre a i)) ∧ ∀ a i r b, spPickB.post a i r b = (famPostM dPB spPickB_post a i r b) := ⟨rfl, rfl, rfl, rfl, fun _ _ => rfl, fun _ _ _ _ => rfl⟩
def spPick_A : Int → List AV := fun x => [.c .rdr, I x]
def spPick_pre : Int → Prop := fun x => True
def spPick_post : Int → AV → List Box → Prop := fun x r bs => ∃ m, r = I m ∧ bs = [] ∧ Picks x m
def spPick : VE.Spec := famSpec spPick_A dRI spPick_pre spPick_post 1 false
theorem spPick_q : spPick.flat = false ∧ spPick.mt = [] ∧ spPick.shut = false ∧ spPick.cost = 1 ∧ (∀ a i, spPick.pre a i = (i = [] ∧ famPre dRI spPick_A spPick_pre a)) ∧ ∀ a i r b, spPick.post a i r b = (famPost dRI spPick_post a r b) := ⟨rfl, rfl, rfl, rfl, fun _ _ => rfl, fun _ _ _ _ => rfl⟩
def spOne_A : Bool × List Int → List AV := fun x => [.c .rdr, .c (.sl x.1 (x.2.map intC))]
def spOne_pre : Bool × List Int → Prop := fun x => 0 < x.2.length ∧ x.2.length ≤ 1000000
def spOne_post : Bool × List Int → AV → List Box → Prop := fun x r bs => ∃ m, r = I m ∧ bs = [] ∧ m ∈ x.2
def spOne : VE.Spec := famSpec spOne_A dROne spOne_pre spOne_post 1 false
theorem spOne_q : spOne.flat = false ∧ spOne.mt = [] ∧ spOne.shut = false ∧ spOne.cost = 1 ∧ (∀ a i, spOne.pre a i = (i = [] ∧ famPre dROne spOne_A spOne_pre a)) ∧ ∀ a i r b, spOne.post a i r b = (famPost dROne spOne_post a r b) := ⟨rfl, rfl, rfl, rfl, fun _ _ => rfl, fun _ _ _ _ => rfl⟩
def spSide_A : Unit → List AV := fun x => [.c .rdr]
def spSide_pre : Unit → Prop := fun x => True
def spSide_post : Unit → AV → List Box → Prop := fun x r bs => ∃ m, r = I m ∧ bs = [] ∧ m ∈ sides
def spSide : VE.Spec := famSpec spSide_A dRdr spSide_pre spSide_post 1 false
theorem spSide_q : spSide.flat = false ∧ spSide.mt = [] ∧ spSide.shut = false ∧ spSide.cost = 1 ∧ (∀ a i, spSide.pre a i = (i = [] ∧ famPre dRdr spSide_A spSide_pre a)) ∧ ∀ a i r b, spSide.post a i r b = (famPost dRdr spSide_post a r b) := ⟨rfl, rfl, rfl, rfl, fun _ _ => rfl, fun _ _ _ _ => rfl⟩
def spColB_A : Col → List AV := fun x => [colA x]
def spColB_pre : Col → Prop := fun x => True
def spColB_post : Col → AV → List Box → Prop := fun x r bs => r = B (vCol x) ∧ bs = []
def spColB : VE.Spec := famSpec spColB_A dColA spColB_pre spColB_post 0 true
theorem spColB_q : spColB.flat = true ∧ spColB.mt = [] ∧ spColB.shut = false ∧ spColB.cost = 0 ∧ (∀ a i, spColB.pre a i = (i = [] ∧ famPre dColA spColB_A spColB_pre a)) ∧ ∀ a i r b, spColB.post a i r b = (famPost dColA spColB_post a r b) := ⟨rfl, rfl, rfl, rfl, fun _ _ => rfl, fun _ _ _ _ => rfl⟩
def spColN_A : Col → List AV := fun x => [colA x]
def spColN_pre : Col → Prop := fun x => True
def spColN_post : Col → AV → List Box → Prop := fun x r bs => r = B (!vCol x) ∧ bs = []
def spColN : VE.Spec := famSpec spColN_A dColA spColN_pre spColN_post 0 true
theorem spColN_q : spColN.flat = true ∧ spColN.mt = [] ∧ spColN.shut = false ∧ spColN.cost = 0 ∧ (∀ a i, spColN.pre a i = (i = [] ∧ famPre dColA spColN_A spColN_pre a)) ∧ ∀ a i r b, spColN.post a i r b = (famPost dColA spColN_post a r b) := ⟨rfl, rfl, rfl, rfl, fun _ _ => rfl, fun _ _ _ _ => rfl⟩
def spIdxF_A : Bool × List Col → List AV := fun x => [.c (.sl x.1 (x.2.map colC)), .c (.fn 64 [])]
def spIdxF_pre : Bool × List Col → Prop := fun x => x.2.length ≤ 1000000000
def spIdxF_post : Bool × List Col → AV → List Box → Prop := fun x r bs => ∃ m, r = I m ∧ bs = [] ∧ decide (0 ≤ m) = (!x.2.all vCol)
def spIdxF : VE.Spec := famSpec spIdxF_A (dColsF 64) spIdxF_pre spIdxF_post 0 true
theorem spIdxF_q : spIdxF.flat = true ∧ spIdxF.mt = [] ∧ spIdxF.shut = false ∧ spIdxF.cost = 0 ∧ (∀ a i, spIdxF.pre a i = (i = [] ∧ famPre (dColsF 64) spIdxF_A spIdxF_pre a)) ∧ ∀ a i r b, spIdxF.post a i r b = (famPost (dColsF 64) spIdxF_post a r b) := ⟨rfl, rfl, rfl, rfl, fun _ _ => rfl, fun _ _ _ _ => rfl⟩
def spHasF_A : Bool × List Col → List AV := fun x => [.c (.sl x.1 (x.2.map colC)), .c (.fn 64 [])]
def spHasF_pre : Bool × List Col → Prop := fun x => x.2.length ≤ 1000000000
def spHasF_post : Bool × List Col → AV → List Box → Prop := fun x r bs => r = B (!x.2.all vCol) ∧ bs = []
def spHasF : VE.Spec := famSpec spHasF_A (dColsF 64) spHasF_pre spHasF_post 0 true
theorem spHasF_q : spHasF.flat = true ∧ spHasF.mt = [] ∧ spHasF.shut = false ∧ spHasF.cost = 0 ∧ (∀ a i, spHasF.pre a i = (i = [] ∧ famPre (dColsF 64) spHasF_A spHasF_pre a)) ∧ ∀ a i r b, spHasF.post a i r b = (famPost (dColsF 64) spHasF_post a r b) := ⟨rfl, rfl, rfl, rfl, fun _ _ => rfl, fun _ _ _ _ => rfl⟩
def spValidF_A : Bool × Frm → List AV := fun x => [frmA x.1 x.2]
def spValidF_pre : Bool × Frm → Prop := fun x => x.2.px.length ≤ 1000000000
def spValidF_post : Bool × Frm → AV → List Box → Prop := fun x r bs => r = B (vFrm x.2) ∧ bs = []
def spValidF : VE.Spec := famSpec spValidF_A dF1 spValidF_pre spValidF_post 0 true
theorem spValidF_q : spValidF.flat = true ∧ spValidF.mt = [] ∧ spValidF.shut = false ∧ spValidF.cost = 0 ∧ (∀ a i, spValidF.pre a i = (i = [] ∧ famPre dF1 spValidF_A spValidF_pre a)) ∧ ∀ a i r b, spValidF.post a i r b = (famPost dF1 spValidF_post a r b) := ⟨rfl, rfl, rfl, rfl, fun _ _ => rfl, fun _ _ _ _ => rfl⟩
def spEqC_A : Bool × Bool × List Col × List Col → List AV := fun x => [.c (.sl x.1 (x.2.2.1.map colC)), .c (.sl x.2.1 (x.2.2.2.map colC))]
def spEqC_pre : Bool × Bool × List Col × List Col → Prop := fun x => x.2.2.1.length ≤ 1000000000 ∧ x.2.2.2.length ≤ 1000000000
def spEqC_post : Bool × Bool × List Col × List Col → AV → List Box → Prop := fun x r bs => r = B (decide (x.2.2.1 = x.2.2.2)) ∧ bs = []
def spEqC : VE.Spec := famSpec spEqC_A dC2 spEqC_pre spEqC_post 0 true
theorem spEqC_q : spEqC.flat = true ∧ spEqC.mt = [] ∧ spEqC.shut = false ∧ spEqC.cost = 0 ∧ (∀ a i, spEqC.pre a i = (i = [] ∧ famPre dC2 spEqC_A spEqC_pre a)) ∧ ∀ a i r b, spEqC.post a i r b = (famPost dC2 spEqC_post a r b) := ⟨rfl, rfl, rfl, rfl, fun _ _ => rfl, fun _ _ _ _ => rfl⟩
def spEqF_A : Bool × Bool × Frm × Frm → List AV := fun x => [frmA x.1 x.2.2.1, frmA x.2.1 x.2.2.2]
def spEqF_pre : Bool × Bool × Frm × Frm → Prop := fun x => x.2.2.1.px.length ≤ 1000000000 ∧ x.2.2.2.px.length ≤ 1000000000
def spEqF_post : Bool × Bool × Frm × Frm → AV → List Box → Prop := fun x r bs => r = B (decide (x.2.2.1 = x.2.2.2)) ∧ bs = []
def spEqF : VE.Spec := famSpec spEqF_A dF2 spEqF_pre spEqF_post 0 true
theorem spEqF_q : spEqF.flat = true ∧ spEqF.mt = [] ∧ spEqF.shut = false ∧ spEqF.cost = 0 ∧ (∀ a i, spEqF.pre a i = (i = [] ∧ famPre dF2 spEqF_A spEqF_pre a)) ∧ ∀ a i r b, spEqF.post a i r b = (famPost dF2 spEqF_post a r b) := ⟨rfl, rfl, rfl, rfl, fun _ _ => rfl, fun _ _ _ _ => rfl⟩
/-- newReader: any code. -/
def spNew : VE.Spec := ⟨fun args ins => ins = [] ∧ ∃ t bs, args = [.c (.sl t (byC bs))] ∧ bs.length ≤ 1048576, fun _ _ r bs => r = .c .rdr ∧ bs = [], 0, false, [], false⟩
end Go.Proofs.Ytofelomoieamoaa
