/- Contracts of functions of the program vectorraster, each proved for all states that fit its description. No conditions. -/
import Derived.Test.YtcejoknapbhloaaGreatKT
import Derived.Test.YtcejoknapbhloaaGreatKS
import Derived.Test.YtcejoknapbhloaaGreatPX
import Derived.Test.YtcejoknapbhloaaGreatPQ
import Derived.Test.YtcejoknapbhloaaGreatPA
set_option linter.unusedSimpArgs false
set_option linter.unusedVariables false
set_option maxRecDepth 100000
namespace Go.Proofs.YtcejoknapbhloaaGreat
open Go Go.VE
theorem intC_wks (l : List Int) : wkEs (l.map intC) = l.map intC := intC_wk l
structure Dq where
  s : List Int
  t : Int
  b : Int
deriving DecidableEq, Inhabited
def dqC (x : Dq) : List C := C.sl false (x.s.map intC) :: C.v (.int .i64 x.t) :: [C.v (.int .i64 x.b)]
def dqCd : List C → Option Dq
  | [.sl _ s0, .v (.int .i64 t0), .v (.int .i64 b0)] => match decAll intCd s0 with
    | some s0L => some ⟨s0L, t0, b0⟩
    | _ => none
  | _ => none
theorem dqC_dec (k : Dq) : dqCd (dqC k) = some k := by
  simp [dqC, dqCd, intC_ds]
theorem dqC_wk (k : Dq) : wkCs (dqC k) = dqC k := by simp [dqC, wkCs, wkC, List.cons_append, List.nil_append, intC_wks]
theorem dqC_wks (l : List Dq) : wkEs (l.map dqC) = l.map dqC := by simp [wkEs_map, dqC_wk]
theorem dqC_ds (l : List Dq) : decAll dqCd (l.map dqC) = some l := decAll_map (g := dqC) dqC_dec l
theorem dqC_len (k : Dq) : (dqC k).length = 3 := rfl
theorem dqC_takeN (k : Dq) : List.take 3 (dqC k) = dqC k := rfl
theorem dqC_takeA (k : Dq) (l : List C) : List.take 3 (dqC k ++ l) = dqC k := rfl
theorem dqC_dropA (k : Dq) (l : List C) : List.drop 3 (dqC k ++ l) = l := rfl
theorem dqC_takeB (k : Dq) (m : Nat) (l : List C) : List.take (m + 3) (dqC k ++ l) = dqC k ++ List.take m l := rfl
theorem dqC_dropB (k : Dq) (m : Nat) (l : List C) : List.drop (m + 3) (dqC k ++ l) = List.drop m l := rfl
theorem dqC_dropN (k : Dq) : List.drop 3 (dqC k) = [] := rfl
theorem dqC_all (l : List Dq) : (∀ e ∈ l.map dqC, e.length = 3) = True := all_len dqC_len l
theorem dqC_strip (k : Dq) : List.map strip (dqC k) = dqC k := rfl
theorem dqC_seal (s : St) (k : Dq) : List.map (sealC s) (dqC k) = dqC k := rfl
theorem dqC_ren (s : St) (i : List Nat) (k : Dq) : List.map (renC s i) (dqC k) = dqC k := rfl
theorem dqC_exp (s : St) (i : List Nat) (k : Dq) : List.map (expC s i) (dqC k) = dqC k := rfl
theorem dqC_map (f : Nat → Nat) (k : Dq) : List.map (mapC f) (dqC k) = dqC k := rfl
theorem dqC_gat (s : St) (i : List Nat) (k : Dq) : gather s 64 i (dqC k) = i := rfl
theorem dqC_rok (s : St) (l i : List Nat) (k : Dq) : renOks s l i (dqC k) = True := eq_true (by repeat' constructor)
theorem dqC_row (k : Dq) : rowIds (dqC k) = [] := rfl
theorem dqC_eok (s : St) (i : List Nat) (k : Dq) : expOks s i (dqC k) = True := eq_true (by repeat' constructor)
theorem dqC_sok (s : St) (k : Dq) : sealOks s (dqC k) = True := eq_true (by repeat' constructor)
theorem dqC_okR (k : Dq) : okRs (dqC k) = True := eq_true (by repeat' constructor)
theorem dqC_okC (k : Dq) : okCs (dqC k) = True := eq_true (by repeat' constructor)
theorem dqC_okR0 (k : Dq) : okR0s (dqC k) = True := eq_true (by repeat' constructor)
theorem dqC_inj (a b : Dq) : (dqC a = dqC b) = (a = b) := by
  refine propext ⟨fun h => ?_, fun h => by rw [h]⟩
  have := congrArg dqCd h
  rw [dqC_dec, dqC_dec] at this
  exact Option.some.inj this
theorem dqC_minj (a b : List Dq) : (a.map dqC = b.map dqC) = (a = b) := by
  refine propext ⟨fun h => ?_, fun h => by rw [h]⟩
  have := congrArg (decAll dqCd) h
  rw [dqC_ds, dqC_ds] at this
  exact Option.some.inj this
theorem dqC_le (s : St) (ρ : List (Nat × Nat)) (hp : List (Nat × Option Box)) (k : Dq) : leCs s ρ hp (dqC k) (dqC k) = True := eq_true (by repeat' first | constructor | (intro h; cases h))
theorem dqC_mk (s1 : List Int) (t1 : Int) (b1 : Int) : dqC ⟨s1, t1, b1⟩ = C.sl false (s1.map intC) :: C.v (.int .i64 t1) :: [C.v (.int .i64 b1)] := rfl
theorem dqC_ex (s1 : List Int) (t1 : Int) (b1 : Int) (Q : Dq → Prop) : (∃ p, C.sl false (s1.map intC) :: C.v (.int .i64 t1) :: [C.v (.int .i64 b1)] = dqC p ∧ Q p) = Q ⟨s1, t1, b1⟩ := by
  rw [← dqC_mk]; simp only [dqC_inj, exists_eq_left']
theorem dqC_t1 (k : Dq) : List.take 1 (dqC k) = [C.sl false (k.s.map intC)] := rfl
theorem dqC_d1 (k : Dq) : List.drop 1 (dqC k) = C.v (.int .i64 k.t) :: [C.v (.int .i64 k.b)] := rfl
theorem dqC_t2 (k : Dq) : List.take 2 (dqC k) = C.sl false (k.s.map intC) :: [C.v (.int .i64 k.t)] := rfl
theorem dqC_d2 (k : Dq) : List.drop 2 (dqC k) = [C.v (.int .i64 k.b)] := rfl
structure Trn where
  w : Int
  v : Int
deriving DecidableEq, Inhabited
def tnC (x : Trn) : List C := C.v (.int .i64 x.w) :: [C.v (.int .i64 x.v)]
def tnCd : List C → Option Trn
  | [.v (.int .i64 w0), .v (.int .i64 v0)] => some ⟨w0, v0⟩
  | _ => none
theorem tnC_dec (k : Trn) : tnCd (tnC k) = some k := rfl
theorem tnC_wk (k : Trn) : wkCs (tnC k) = tnC k := by simp [tnC, wkCs, wkC, List.cons_append, List.nil_append]
theorem tnC_wks (l : List Trn) : wkEs (l.map tnC) = l.map tnC := by simp [wkEs_map, tnC_wk]
theorem tnC_ds (l : List Trn) : decAll tnCd (l.map tnC) = some l := decAll_map (g := tnC) tnC_dec l
theorem tnC_len (k : Trn) : (tnC k).length = 2 := rfl
theorem tnC_takeN (k : Trn) : List.take 2 (tnC k) = tnC k := rfl
theorem tnC_takeA (k : Trn) (l : List C) : List.take 2 (tnC k ++ l) = tnC k := rfl
theorem tnC_dropA (k : Trn) (l : List C) : List.drop 2 (tnC k ++ l) = l := rfl
theorem tnC_takeB (k : Trn) (m : Nat) (l : List C) : List.take (m + 2) (tnC k ++ l) = tnC k ++ List.take m l := rfl
theorem tnC_dropB (k : Trn) (m : Nat) (l : List C) : List.drop (m + 2) (tnC k ++ l) = List.drop m l := rfl
theorem tnC_dropN (k : Trn) : List.drop 2 (tnC k) = [] := rfl
theorem tnC_all (l : List Trn) : (∀ e ∈ l.map tnC, e.length = 2) = True := all_len tnC_len l
theorem tnC_strip (k : Trn) : List.map strip (tnC k) = tnC k := rfl
theorem tnC_seal (s : St) (k : Trn) : List.map (sealC s) (tnC k) = tnC k := rfl
theorem tnC_ren (s : St) (i : List Nat) (k : Trn) : List.map (renC s i) (tnC k) = tnC k := rfl
theorem tnC_exp (s : St) (i : List Nat) (k : Trn) : List.map (expC s i) (tnC k) = tnC k := rfl
theorem tnC_map (f : Nat → Nat) (k : Trn) : List.map (mapC f) (tnC k) = tnC k := rfl
theorem tnC_gat (s : St) (i : List Nat) (k : Trn) : gather s 64 i (tnC k) = i := rfl
theorem tnC_rok (s : St) (l i : List Nat) (k : Trn) : renOks s l i (tnC k) = True := eq_true (by repeat' constructor)
theorem tnC_row (k : Trn) : rowIds (tnC k) = [] := rfl
theorem tnC_eok (s : St) (i : List Nat) (k : Trn) : expOks s i (tnC k) = True := eq_true (by repeat' constructor)
theorem tnC_sok (s : St) (k : Trn) : sealOks s (tnC k) = True := eq_true (by repeat' constructor)
theorem tnC_okR (k : Trn) : okRs (tnC k) = True := eq_true (by repeat' constructor)
theorem tnC_okC (k : Trn) : okCs (tnC k) = True := eq_true (by repeat' constructor)
theorem tnC_okR0 (k : Trn) : okR0s (tnC k) = True := eq_true (by repeat' constructor)
theorem tnC_inj (a b : Trn) : (tnC a = tnC b) = (a = b) := by
  refine propext ⟨fun h => ?_, fun h => by rw [h]⟩
  have := congrArg tnCd h
  rw [tnC_dec, tnC_dec] at this
  exact Option.some.inj this
theorem tnC_minj (a b : List Trn) : (a.map tnC = b.map tnC) = (a = b) := by
  refine propext ⟨fun h => ?_, fun h => by rw [h]⟩
  have := congrArg (decAll tnCd) h
  rw [tnC_ds, tnC_ds] at this
  exact Option.some.inj this
theorem tnC_le (s : St) (ρ : List (Nat × Nat)) (hp : List (Nat × Option Box)) (k : Trn) : leCs s ρ hp (tnC k) (tnC k) = True := eq_true (by repeat' first | constructor | (intro h; cases h))
theorem tnC_okV (k : Trn) : ∀ c ∈ tnC k, okV c = true := by
  have : (tnC k).all okV = true := rfl
  exact List.all_eq_true.1 this
theorem tnC_pure (l : List Trn) : pureV (l.map tnC) = True := pureV_map tnC_okV l
theorem tnC_fok (s : St) (i : List Nat) (k : Trn) : flatOks s i (tnC k) = True := eq_true (by repeat' constructor)
theorem tnC_okVT (k : Trn) : (∀ c ∈ tnC k, okV c = true) = True := eq_true (tnC_okV k)
theorem tnC_mk (w1 : Int) (v1 : Int) : tnC ⟨w1, v1⟩ = C.v (.int .i64 w1) :: [C.v (.int .i64 v1)] := rfl
theorem tnC_ex (w1 : Int) (v1 : Int) (Q : Trn → Prop) : (∃ p, C.v (.int .i64 w1) :: [C.v (.int .i64 v1)] = tnC p ∧ Q p) = Q ⟨w1, v1⟩ := by
  rw [← tnC_mk]; simp only [tnC_inj, exists_eq_left']
theorem tnC_t1 (k : Trn) : List.take 1 (tnC k) = [C.v (.int .i64 k.w)] := rfl
theorem tnC_d1 (k : Trn) : List.drop 1 (tnC k) = [C.v (.int .i64 k.v)] := rfl
theorem tnC_ints (k : Trn) : ints (tnC k) = True := eq_true (by repeat' constructor)
theorem tnC_ieq (k l : Trn) : ieq (tnC k) (tnC l) = decide (k = l) := by
  obtain ⟨kw, kv⟩ := k
  obtain ⟨lw, lv⟩ := l
  simp [tnC, ieq, Bool.decide_and, Bool.and_assoc]
def liC (x : List Int) : List C := [.sl false (x.map intC)]
def liCd : List C → Option (List Int)
  | [.sl _ es] => decAll intCd es
  | _ => none
theorem liC_dec (k : List Int) : liCd (liC k) = some k := intC_ds k
theorem liC_wk (k : List Int) : wkCs (liC k) = liC k := by simp [liC, wkCs, wkC, intC_wks]
theorem liC_wks (l : List (List Int)) : wkEs (l.map liC) = l.map liC := by simp [wkEs_map, liC_wk]
theorem liC_ds (l : List (List Int)) : decAll liCd (l.map liC) = some l := decAll_map (g := liC) liC_dec l
theorem liC_len (k : (List Int)) : (liC k).length = 1 := rfl
theorem liC_takeN (k : (List Int)) : List.take 1 (liC k) = liC k := rfl
theorem liC_takeA (k : (List Int)) (l : List C) : List.take 1 (liC k ++ l) = liC k := rfl
theorem liC_dropA (k : (List Int)) (l : List C) : List.drop 1 (liC k ++ l) = l := rfl
theorem liC_takeB (k : (List Int)) (m : Nat) (l : List C) : List.take (m + 1) (liC k ++ l) = liC k ++ List.take m l := rfl
theorem liC_dropB (k : (List Int)) (m : Nat) (l : List C) : List.drop (m + 1) (liC k ++ l) = List.drop m l := rfl
theorem liC_dropN (k : (List Int)) : List.drop 1 (liC k) = [] := rfl
theorem liC_all (l : List (List Int)) : (∀ e ∈ l.map liC, e.length = 1) = True := all_len liC_len l
theorem liC_strip (k : (List Int)) : List.map strip (liC k) = liC k := rfl
theorem liC_seal (s : St) (k : (List Int)) : List.map (sealC s) (liC k) = liC k := rfl
theorem liC_ren (s : St) (i : List Nat) (k : (List Int)) : List.map (renC s i) (liC k) = liC k := rfl
theorem liC_exp (s : St) (i : List Nat) (k : (List Int)) : List.map (expC s i) (liC k) = liC k := rfl
theorem liC_map (f : Nat → Nat) (k : (List Int)) : List.map (mapC f) (liC k) = liC k := rfl
theorem liC_gat (s : St) (i : List Nat) (k : (List Int)) : gather s 64 i (liC k) = i := rfl
theorem liC_rok (s : St) (l i : List Nat) (k : (List Int)) : renOks s l i (liC k) = True := eq_true (by repeat' constructor)
theorem liC_row (k : (List Int)) : rowIds (liC k) = [] := rfl
theorem liC_eok (s : St) (i : List Nat) (k : (List Int)) : expOks s i (liC k) = True := eq_true (by repeat' constructor)
theorem liC_sok (s : St) (k : (List Int)) : sealOks s (liC k) = True := eq_true (by repeat' constructor)
theorem liC_okR (k : (List Int)) : okRs (liC k) = True := eq_true (by repeat' constructor)
theorem liC_okC (k : (List Int)) : okCs (liC k) = True := eq_true (by repeat' constructor)
theorem liC_okR0 (k : (List Int)) : okR0s (liC k) = True := eq_true (by repeat' constructor)
theorem liC_inj (a b : (List Int)) : (liC a = liC b) = (a = b) := by
  refine propext ⟨fun h => ?_, fun h => by rw [h]⟩
  have := congrArg liCd h
  rw [liC_dec, liC_dec] at this
  exact Option.some.inj this
theorem liC_minj (a b : List (List Int)) : (a.map liC = b.map liC) = (a = b) := by
  refine propext ⟨fun h => ?_, fun h => by rw [h]⟩
  have := congrArg (decAll liCd) h
  rw [liC_ds, liC_ds] at this
  exact Option.some.inj this
theorem liC_le (s : St) (ρ : List (Nat × Nat)) (hp : List (Nat × Option Box)) (k : (List Int)) : leCs s ρ hp (liC k) (liC k) = True := eq_true (by repeat' first | constructor | (intro h; cases h))
structure Dne where
  w : Int
  t : Int
deriving DecidableEq, Inhabited
def dnC (x : Dne) : List C := C.v (.int .i64 x.w) :: [C.v (.int .i64 x.t)]
def dnCd : List C → Option Dne
  | [.v (.int .i64 w0), .v (.int .i64 t0)] => some ⟨w0, t0⟩
  | _ => none
theorem dnC_dec (k : Dne) : dnCd (dnC k) = some k := rfl
theorem dnC_wk (k : Dne) : wkCs (dnC k) = dnC k := by simp [dnC, wkCs, wkC, List.cons_append, List.nil_append]
theorem dnC_wks (l : List Dne) : wkEs (l.map dnC) = l.map dnC := by simp [wkEs_map, dnC_wk]
theorem dnC_ds (l : List Dne) : decAll dnCd (l.map dnC) = some l := decAll_map (g := dnC) dnC_dec l
theorem dnC_len (k : Dne) : (dnC k).length = 2 := rfl
theorem dnC_takeN (k : Dne) : List.take 2 (dnC k) = dnC k := rfl
theorem dnC_takeA (k : Dne) (l : List C) : List.take 2 (dnC k ++ l) = dnC k := rfl
theorem dnC_dropA (k : Dne) (l : List C) : List.drop 2 (dnC k ++ l) = l := rfl
theorem dnC_takeB (k : Dne) (m : Nat) (l : List C) : List.take (m + 2) (dnC k ++ l) = dnC k ++ List.take m l := rfl
theorem dnC_dropB (k : Dne) (m : Nat) (l : List C) : List.drop (m + 2) (dnC k ++ l) = List.drop m l := rfl
theorem dnC_dropN (k : Dne) : List.drop 2 (dnC k) = [] := rfl
theorem dnC_all (l : List Dne) : (∀ e ∈ l.map dnC, e.length = 2) = True := all_len dnC_len l
theorem dnC_strip (k : Dne) : List.map strip (dnC k) = dnC k := rfl
theorem dnC_seal (s : St) (k : Dne) : List.map (sealC s) (dnC k) = dnC k := rfl
theorem dnC_ren (s : St) (i : List Nat) (k : Dne) : List.map (renC s i) (dnC k) = dnC k := rfl
theorem dnC_exp (s : St) (i : List Nat) (k : Dne) : List.map (expC s i) (dnC k) = dnC k := rfl
theorem dnC_map (f : Nat → Nat) (k : Dne) : List.map (mapC f) (dnC k) = dnC k := rfl
theorem dnC_gat (s : St) (i : List Nat) (k : Dne) : gather s 64 i (dnC k) = i := rfl
theorem dnC_rok (s : St) (l i : List Nat) (k : Dne) : renOks s l i (dnC k) = True := eq_true (by repeat' constructor)
theorem dnC_row (k : Dne) : rowIds (dnC k) = [] := rfl
theorem dnC_eok (s : St) (i : List Nat) (k : Dne) : expOks s i (dnC k) = True := eq_true (by repeat' constructor)
theorem dnC_sok (s : St) (k : Dne) : sealOks s (dnC k) = True := eq_true (by repeat' constructor)
theorem dnC_okR (k : Dne) : okRs (dnC k) = True := eq_true (by repeat' constructor)
theorem dnC_okC (k : Dne) : okCs (dnC k) = True := eq_true (by repeat' constructor)
theorem dnC_okR0 (k : Dne) : okR0s (dnC k) = True := eq_true (by repeat' constructor)
theorem dnC_inj (a b : Dne) : (dnC a = dnC b) = (a = b) := by
  refine propext ⟨fun h => ?_, fun h => by rw [h]⟩
  have := congrArg dnCd h
  rw [dnC_dec, dnC_dec] at this
  exact Option.some.inj this
theorem dnC_minj (a b : List Dne) : (a.map dnC = b.map dnC) = (a = b) := by
  refine propext ⟨fun h => ?_, fun h => by rw [h]⟩
  have := congrArg (decAll dnCd) h
  rw [dnC_ds, dnC_ds] at this
  exact Option.some.inj this
theorem dnC_le (s : St) (ρ : List (Nat × Nat)) (hp : List (Nat × Option Box)) (k : Dne) : leCs s ρ hp (dnC k) (dnC k) = True := eq_true (by repeat' first | constructor | (intro h; cases h))
theorem dnC_okV (k : Dne) : ∀ c ∈ dnC k, okV c = true := by
  have : (dnC k).all okV = true := rfl
  exact List.all_eq_true.1 this
theorem dnC_pure (l : List Dne) : pureV (l.map dnC) = True := pureV_map dnC_okV l
theorem dnC_fok (s : St) (i : List Nat) (k : Dne) : flatOks s i (dnC k) = True := eq_true (by repeat' constructor)
theorem dnC_okVT (k : Dne) : (∀ c ∈ dnC k, okV c = true) = True := eq_true (dnC_okV k)
theorem dnC_mk (w1 : Int) (t1 : Int) : dnC ⟨w1, t1⟩ = C.v (.int .i64 w1) :: [C.v (.int .i64 t1)] := rfl
theorem dnC_ex (w1 : Int) (t1 : Int) (Q : Dne → Prop) : (∃ p, C.v (.int .i64 w1) :: [C.v (.int .i64 t1)] = dnC p ∧ Q p) = Q ⟨w1, t1⟩ := by
  rw [← dnC_mk]; simp only [dnC_inj, exists_eq_left']
theorem dnC_t1 (k : Dne) : List.take 1 (dnC k) = [C.v (.int .i64 k.w)] := rfl
theorem dnC_d1 (k : Dne) : List.drop 1 (dnC k) = [C.v (.int .i64 k.t)] := rfl
theorem dnC_ints (k : Dne) : ints (dnC k) = True := eq_true (by repeat' constructor)
theorem dnC_ieq (k l : Dne) : ieq (dnC k) (dnC l) = decide (k = l) := by
  obtain ⟨kw, kt⟩ := k
  obtain ⟨lw, lt⟩ := l
  simp [dnC, ieq, Bool.decide_and, Bool.and_assoc]
attribute [go_sem] dqC_le dqC_inj dqC_minj dqC_dec dqC_ds dqC_len dqC_takeN dqC_takeA dqC_dropA dqC_takeB dqC_dropB dqC_dropN dqC_all dqC_strip dqC_seal dqC_ren dqC_exp dqC_map dqC_gat dqC_rok dqC_row dqC_eok dqC_sok dqC_okR dqC_okR0 dqC_okC dqC_wk dqC_wks dqC_mk dqC_ex
attribute [go_sem] dqCd.eq_1 dqC_t1 dqC_d1 dqC_t2 dqC_d2 Dq.mk.injEq tnC_le tnC_inj tnC_minj tnC_dec tnC_ds tnC_len tnC_takeN tnC_takeA tnC_dropA tnC_takeB tnC_dropB tnC_dropN tnC_all tnC_strip tnC_seal tnC_ren tnC_exp tnC_map tnC_gat tnC_rok tnC_row tnC_eok tnC_sok tnC_okR
attribute [go_sem] tnC_okR0 tnC_okC tnC_wk tnC_wks tnC_pure tnC_fok tnC_okVT tnC_mk tnC_ex tnCd.eq_1 tnC_t1 tnC_d1 tnC_ints tnC_ieq Trn.mk.injEq liC_le liC_inj liC_minj liC_dec liC_ds liC_len liC_takeN liC_takeA liC_dropA liC_takeB liC_dropB liC_dropN liC_all liC_strip liC_seal
attribute [go_sem] liC_ren liC_exp liC_map liC_gat liC_rok liC_row liC_eok liC_sok liC_okR liC_okR0 liC_okC liC_wk liC_wks liC liCd.eq_1 dnC_le dnC_inj dnC_minj dnC_dec dnC_ds dnC_len dnC_takeN dnC_takeA dnC_dropA dnC_takeB dnC_dropB dnC_dropN dnC_all dnC_strip dnC_seal
attribute [go_sem] dnC_ren dnC_exp dnC_map dnC_gat dnC_rok dnC_row dnC_eok dnC_sok dnC_okR dnC_okR0 dnC_okC dnC_wk dnC_wks dnC_pure dnC_fok dnC_okVT dnC_mk dnC_ex dnCd.eq_1 dnC_t1 dnC_d1 dnC_ints dnC_ieq Dne.mk.injEq
def d_0 : List AV → Option (Unit)
  | [] => some ()
  | _ => none
def d_dq : List AV → Option (Dq)
  | [.agg a0] => match dqCd a0 with
    | some a0v => some (a0v)
    | _ => none
  | _ => none
def d_dq_i : List AV → Option (Dq × Int)
  | [.agg a0, .c (.v (.int .i64 a1))] => match dqCd a0 with
    | some a0v => some (a0v, a1)
    | _ => none
  | _ => none
def d_ldq_tn : List AV → Option ((List Dq) × Trn)
  | [.c (.sl _ a0), .agg a1] => match decAll dqCd a0, tnCd a1 with
    | some a0v, some a1v => some (a0v, a1v)
    | _, _ => none
  | _ => none
def d_i_i_ltn : List AV → Option (Int × Int × (List Trn))
  | [.c (.v (.int .i64 a0)), .c (.v (.int .i64 a1)), .c (.sl _ a2)] => match decAll tnCd a2 with
    | some a2v => some (a0, a1, a2v)
    | _ => none
  | _ => none
def d_i_ltn : List AV → Option (Int × (List Trn))
  | [.c (.v (.int .i64 a0)), .c (.sl _ a1)] => match decAll tnCd a1 with
    | some a1v => some (a0, a1v)
    | _ => none
  | _ => none
def d_tn_qi : List AV → Option (Trn × Int)
  | [.agg a0, .c (.rp [.v (.int .i64 a1)])] => match tnCd a0 with
    | some a0v => some (a0v, a1)
    | _ => none
  | _ => none
def d_ltn_f50qi : List AV → Option ((List Trn) × Int)
  | [.c (.sl _ a0), .c (.fn f1 [.rp [.v (.int .i64 a1)]])] => match decAll tnCd a0, (if f1 = 50 then some () else none) with
    | some a0v, some u1 => some (a0v, a1)
    | _, _ => none
  | _ => none
def d_sc_i_ltn : List AV → Option (Scn × Int × (List Trn))
  | [.agg a0, .c (.v (.int .i64 a1)), .c (.sl _ a2)] => match scCd a0, decAll tnCd a2 with
    | some a0v, some a2v => some (a0v, a1, a2v)
    | _, _ => none
  | _ => none
attribute [go_sem] d_0 d_dq d_dq_i d_ldq_tn d_i_i_ltn d_i_ltn d_tn_qi d_ltn_f50qi d_sc_i_ltn
/-! Workers: queues of tiles, turn by turn. -/
structure Cov (out : List Int) (Q : List (List Int)) (c : Int) : Prop where
  len : (out.length : Int) + ((Q.map List.length).sum : Nat) = c
  mem : ∀ y, 0 ≤ y → y < c → y ∈ out ∨ ∃ q ∈ Q, y ∈ q
  rng : (∀ y ∈ out, 0 ≤ y ∧ y < c) ∧ ∀ q ∈ Q, ∀ y ∈ q, 0 ≤ y ∧ y < c
theorem sum_set : ∀ (Q : List (List Int)) (w : Nat) (q r : List Int), Q[w]? = some q → ((Q.set w r).map List.length).sum + q.length = (Q.map List.length).sum + r.length
  | [], _, _, _, h => by simp at h
  | a :: Q, 0, q, r, h => by simp at h; subst h; simp; omega
  | a :: Q, w + 1, q, r, h => by
    have := sum_set Q w q r (by simpa using h)
    simp at this ⊢; omega
theorem Cov.pop {out : List Int} {Q : List (List Int)} {c : Int} {w : Nat} {q r : List Int} {y : Int} (h : Cov out Q c) (hw : Q[w]? = some q) (hl : q.length = r.length + 1) (hm : ∀ z, z ∈ q ↔ z = y ∨ z ∈ r) : Cov (out ++ [y]) (Q.set w r) c := by
  have hq : q ∈ Q := List.mem_of_getElem? hw
  have hw2 := (List.getElem?_eq_some_iff.1 hw).1
  have hy := h.rng.2 q hq y ((hm y).2 (.inl rfl))
  refine ⟨?_, fun z z0 z1 => ?_, fun z hz => ?_, fun p hp z hz => ?_⟩
  · have := sum_set Q w q r hw
    have := h.len
    simp only [List.length_append, List.length_singleton]
    omega
  · rcases h.mem z z0 z1 with hz | ⟨p, hp, hz⟩
    · exact .inl (by simp [hz])
    · obtain ⟨k, hk⟩ := List.getElem?_of_mem hp
      by_cases hkw : k = w
      · subst hkw
        rw [hw] at hk
        cases hk
        rcases (hm z).1 hz with rfl | hz
        · exact .inl (by simp)
        · exact .inr ⟨r, List.mem_of_getElem? (List.getElem?_set_self hw2), hz⟩
      · exact .inr ⟨p, List.mem_of_getElem? ((List.getElem?_set_ne (Ne.symm hkw)).trans hk), hz⟩
  · rcases List.mem_append.1 hz with hz | hz
    · exact h.rng.1 z hz
    · rw [List.mem_singleton] at hz; subst hz; exact hy
  · rcases List.mem_or_eq_of_mem_set hp with hp | rfl
    · exact h.rng.2 p hp z hz
    · exact h.rng.2 q hq z ((hm z).2 (.inr hz))
theorem mem_last {q : List Int} {y : Int} (h : q[q.length - 1]? = some y) : q.length = (q.take (q.length - 1)).length + 1 ∧ ∀ z, z ∈ q ↔ z = y ∨ z ∈ q.take (q.length - 1) := by
  have h1 := (List.getElem?_eq_some_iff.1 h).1
  have e : q = q.take (q.length - 1) ++ [y] := by
    have := List.take_add_one (l := q) (i := q.length - 1)
    rw [h, show q.length - 1 + 1 = q.length by omega, List.take_length] at this
    exact this
  refine ⟨by rw [List.length_take]; omega, fun z => ?_⟩
  constructor
  · intro hz
    rw [e] at hz
    rcases List.mem_append.1 hz with hz | hz
    · exact .inr hz
    · exact .inl (List.mem_singleton.1 hz)
  · rintro (rfl | hz)
    · exact List.mem_of_getElem? h
    · exact List.mem_of_mem_take hz
theorem mem_first {q : List Int} {y : Int} (h : q[0]? = some y) : q.length = (q.drop 1).length + 1 ∧ ∀ z, z ∈ q ↔ z = y ∨ z ∈ q.drop 1 := by
  cases q with
  | nil => simp at h
  | cons a r => simp at h; subst h; simp
/-- Is the queue of turn i empty? -/
def empQ (Q : List (List Int)) (i : Int) : Bool := (Q.getD (i % Q.length).toNat []).isEmpty
def dstQ (Q : List (List Int)) (i : Int) : Nat := bif !empQ Q i then 0 else bif !empQ Q (i + 1) then 1 else bif !empQ Q (i + 2) then 2 else 3
def msrQ (Q : List (List Int)) (rem i : Int) : Nat := 40 * rem.toNat + ((30 - i).toNat + dstQ Q (max i 30))
theorem dstQ_le (Q : List (List Int)) (i : Int) : dstQ Q i ≤ 3 := by
  unfold dstQ
  cases empQ Q i <;> cases empQ Q (i + 1) <;> cases empQ Q (i + 2) <;> simp
theorem msr_take {Q Q' : List (List Int)} {rem i : Int} (h1 : 1 ≤ rem) (h0 : 0 ≤ i) : msrQ Q' (rem - 1) (i + 1) < msrQ Q rem i := by
  have := dstQ_le Q' (max (i + 1) 30)
  unfold msrQ
  omega
theorem sum_zero : ∀ (Q : List (List Int)), (∀ k : Nat, k < Q.length → (Q.getD k []).isEmpty = true) → (Q.map List.length).sum = 0
  | [], _ => rfl
  | a :: Q, h => by
    have h0 := h 0 (by simp)
    have h1 := sum_zero Q (fun k hk => by simpa using h (k + 1) (by simp; omega))
    simp at h0
    subst h0
    simpa using h1
theorem emp4 {Q : List (List Int)} {i : Int} (h1 : 1 ≤ Q.length) (h4 : Q.length ≤ 4) (h0 : 0 ≤ i) (e0 : empQ Q i = true) (e1 : empQ Q (i + 1) = true) (e2 : empQ Q (i + 2) = true) (e3 : empQ Q (i + 3) = true) : (Q.map List.length).sum = 0 := by
  refine sum_zero Q fun k hk => ?_
  unfold empQ at e0 e1 e2 e3
  have hc : k = (i % Q.length).toNat ∨ k = ((i + 1) % Q.length).toNat ∨ k = ((i + 2) % Q.length).toNat ∨ k = ((i + 3) % Q.length).toNat := by
    have : Q.length = 1 ∨ Q.length = 2 ∨ Q.length = 3 ∨ Q.length = 4 := by omega
    rcases this with h | h | h | h <;> rw [h] <;> rw [h] at hk <;> omega
  rcases hc with h | h | h | h <;> rw [h] <;> assumption
theorem msr_idle {Q : List (List Int)} {rem i : Int} (h1 : 1 ≤ Q.length) (h4 : Q.length ≤ 4) (h0 : 0 ≤ i) (hn : ¬ (Q.map List.length).sum = 0) (he : 30 ≤ i → empQ Q i = true) : msrQ Q rem (i + 1) < msrQ Q rem i := by
  unfold msrQ
  by_cases h : i < 30
  · rw [show max (i + 1) 30 = 30 by omega, show max i 30 = 30 by omega]; omega
  · rw [show max (i + 1) 30 = i + 1 by omega, show max i 30 = i by omega]
    have e0 := he (by omega)
    have hx : ¬ (empQ Q (i + 1) = true ∧ empQ Q (i + 2) = true ∧ empQ Q (i + 3) = true) := fun ⟨a, b, c⟩ => hn (emp4 h1 h4 h0 e0 a b c)
    unfold dstQ
    rw [show i + 1 + 1 = i + 2 by omega, show i + 1 + 2 = i + 3 by omega, e0]
    cases h5 : empQ Q (i + 1) <;> cases h6 : empQ Q (i + 2) <;> cases h7 : empQ Q (i + 3) <;> simp [h5, h6, h7] at hx ⊢ <;> omega
/-- A run's state: what is drawn, the queues, the turn. -/
structure RunQ (W c : Int) (out : List Int) (Q : List (List Int)) (i : Int) : Prop where
  cov : Cov out Q c
  w : (Q.length : Int) = W ∧ 1 ≤ W ∧ W ≤ 4
  i0 : 0 ≤ i
  c9 : c ≤ 9
  m : i + msrQ Q (c - out.length) i ≤ 400
theorem RunQ.i9 {W c : Int} {out : List Int} {Q : List (List Int)} {i : Int} (h : RunQ W c out Q i) : i ≤ 400 := by have := h.m; omega
theorem RunQ.out9 {W c : Int} {out : List Int} {Q : List (List Int)} {i : Int} (h : RunQ W c out Q i) : (out.length : Int) ≤ 9 := by
  have := h.cov.len; have := h.c9; omega
theorem RunQ.take {W c : Int} {out : List Int} {Q : List (List Int)} {i : Int} {w : Nat} {q r : List Int} {y : Int} (h : RunQ W c out Q i) (hw : Q[w]? = some q) (hl : q.length = r.length + 1) (hm : ∀ z, z ∈ q ↔ z = y ∨ z ∈ r) : RunQ W c (out ++ [y]) (Q.set w r) (i + 1) ∧ msrQ (Q.set w r) (c - ((out ++ [y]).length : Nat)) (i + 1) < msrQ Q (c - out.length) i := by
  have hc := h.cov.pop hw hl hm
  have hs := sum_set Q w q r hw
  have hlen := h.cov.len
  have e : c - ((out ++ [y]).length : Nat) = (c - out.length) - 1 := by simp only [List.length_append, List.length_singleton]; omega
  have hd : msrQ (Q.set w r) (c - ((out ++ [y]).length : Nat)) (i + 1) < msrQ Q (c - out.length) i := by
    rw [e]; exact msr_take (by omega) h.i0
  refine ⟨⟨hc, by rw [List.length_set]; exact h.w, by have := h.i0; omega, h.c9, by have := h.m; omega⟩, hd⟩
theorem RunQ.idle {W c : Int} {out : List Int} {Q : List (List Int)} {i : Int} (h : RunQ W c out Q i) (hlt : (out.length : Int) < c) (he : 30 ≤ i → empQ Q i = true) : RunQ W c out Q (i + 1) ∧ msrQ Q (c - out.length) (i + 1) < msrQ Q (c - out.length) i := by
  have hlen := h.cov.len
  have hw := h.w
  have hd : msrQ Q (c - out.length) (i + 1) < msrQ Q (c - out.length) i := msr_idle (by omega) (by omega) h.i0 (by omega) he
  exact ⟨⟨h.cov, h.w, by have := h.i0; omega, h.c9, by have := h.m; omega⟩, hd⟩
/-- What a run leaves: every tile is drawn. -/
structure Drawn (c : Int) (out : List Int) : Prop where
  len : (out.length : Int) ≤ 9
  all : ∀ y, 0 ≤ y → y < c → y ∈ out
  rng : ∀ y ∈ out, 0 ≤ y ∧ y < c
theorem RunQ.fin {W c : Int} {out : List Int} {Q : List (List Int)} {i : Int} (h : RunQ W c out Q i) (hge : ¬ (out.length : Int) < c) : Drawn c out := by
  have hlen := h.cov.len
  refine ⟨h.out9, fun y y0 y1 => ?_, h.cov.rng.1⟩
  rcases h.cov.mem y y0 y1 with hy | ⟨q, hq, hy⟩
  · exact hy
  · obtain ⟨k, hk⟩ := List.getElem?_of_mem hq
    have := sum_set Q k q [] hk
    have : 0 < q.length := List.length_pos_of_mem hy
    simp only [List.length_nil] at *
    omega
/-- The queues at the beginning. -/
def qAt (W w t : Nat) : List Int := ((List.range t).filter fun y => y % W == w).map Int.ofNat
def qs0 (W c : Nat) : List (List Int) := (List.range W).map fun w => qAt W w c
theorem qs0_ok : ∀ W, W < 5 → 1 ≤ W → ∀ c, c < 10 → ((qs0 W c).map List.length).sum = c ∧ ((List.range c).all fun y => ((qs0 W c).getD (y % W) []).contains (Int.ofNat y)) = true ∧ ((qs0 W c).all fun q => q.all fun y => decide (0 ≤ y ∧ y < Int.ofNat c)) = true ∧ (qs0 W c).length = W := by decide +kernel
theorem run0 {W c : Int} (h1 : 1 ≤ W) (h4 : W ≤ 4) (c0 : 0 ≤ c) (c9 : c ≤ 9) : RunQ W c [] (qs0 W.toNat c.toNat) 0 := by
  obtain ⟨a1, a2, a3, a4⟩ := qs0_ok W.toNat (by omega) (by omega) c.toNat (by omega)
  have hc : (Int.ofNat c.toNat) = c := Int.toNat_of_nonneg c0
  refine ⟨⟨by simp only [List.length_nil]; omega, fun y y0 y1 => .inr ?_, ⟨fun y hy => (by cases hy), fun q hq y hy => ?_⟩⟩, ⟨by omega, h1, h4⟩, by omega, c9, ?_⟩
  · have := List.contains_iff_mem.1 (List.all_eq_true.1 a2 y.toNat (List.mem_range.2 (by omega)))
    rw [show Int.ofNat y.toNat = y from Int.toNat_of_nonneg y0] at this
    have hk : y.toNat % W.toNat < (qs0 W.toNat c.toNat).length := by rw [a4]; exact Nat.mod_lt _ (by omega)
    rw [List.getD_eq_getElem?_getD, List.getElem?_eq_getElem hk, Option.getD_some] at this
    exact ⟨_, List.getElem_mem hk, this⟩
  · have := of_decide_eq_true (List.all_eq_true.1 (List.all_eq_true.1 a3 q hq) y hy)
    rw [hc] at this
    exact this
  · have := dstQ_le (qs0 W.toNat c.toNat) (max 0 30)
    unfold msrQ
    simp only [List.length_nil]
    omega
/-! Queues as the reference keeps them. -/
structure OkD (d : Dq) : Prop where
  len : d.s.length = 16
  t0 : 0 ≤ d.t
  tb : d.t ≤ d.b
  b9 : d.b ≤ 9
  sl : ∀ (i : Nat) (x : Int), d.s[i]? = some x → (d.t ≤ i ∧ (i : Int) < d.b → 0 ≤ x ∧ x ≤ 8) ∧ (¬ (d.t ≤ i ∧ (i : Int) < d.b) → x = -1)
def tl (d : Dq) : List Int := (d.s.take d.b.toNat).drop d.t.toNat
def pushD (d : Dq) (y : Int) : Dq := ⟨d.s.set d.b.toNat y, d.t, d.b + 1⟩
def popF (d : Dq) : Dq × Int × Bool := if d.t = d.b then (⟨[], 0, 0⟩, -1, false) else (⟨d.s.set (d.b - 1).toNat (-1), d.t, d.b - 1⟩, d.s.getD (d.b - 1).toNat 0, true)
def stealF (d : Dq) : Dq × Int × Bool := if d.t = d.b then (⟨[], 0, 0⟩, -1, false) else (⟨d.s.set d.t.toNat (-1), d.t + 1, d.b⟩, d.s.getD d.t.toNat 0, true)
def turnF (L : List Dq) (t : Trn) : List Dq × Int :=
  if (popF (L.getD t.w.toNat default)).2.2 = true then (L.set t.w.toNat (popF (L.getD t.w.toNat default)).1, (popF (L.getD t.w.toNat default)).2.1)
  else if (stealF (L.getD t.v.toNat default)).2.2 = true then (L.set t.v.toNat (stealF (L.getD t.v.toNat default)).1, (stealF (L.getD t.v.toNat default)).2.1)
  else (L, -1)
theorem tl_len {d : Dq} (h : OkD d) : ((tl d).length : Int) = d.b - d.t := by
  have := h.len; have := h.t0; have := h.tb; have := h.b9
  simp only [tl, List.length_drop, List.length_take]; omega
theorem tl_get {d : Dq} (h : OkD d) (k : Nat) (hk : (k : Int) < d.b - d.t) : (tl d)[k]? = d.s[d.t.toNat + k]? := by
  have := h.len; have := h.t0; have := h.tb; have := h.b9
  rw [tl, List.getElem?_drop, List.getElem?_take_of_lt (by omega)]
theorem D_ok_pop {d : Dq} (h : OkD d) (hn : ¬ d.t = d.b) : ∃ v, (tl d)[(tl d).length - 1]? = some v ∧ 0 ≤ v ∧ popF d = (⟨d.s.set (d.b - 1).toNat (-1), d.t, d.b - 1⟩, v, true) ∧ OkD ⟨d.s.set (d.b - 1).toNat (-1), d.t, d.b - 1⟩ ∧ tl ⟨d.s.set (d.b - 1).toNat (-1), d.t, d.b - 1⟩ = (tl d).take ((tl d).length - 1) := by
  have h1 := h.len; have h2 := h.t0; have h3 := h.tb; have h4 := h.b9
  have hl := tl_len h
  obtain ⟨v, hv⟩ : ∃ v, d.s[(d.b - 1).toNat]? = some v := ⟨_, List.getElem?_eq_getElem (by omega)⟩
  have hg := tl_get h ((tl d).length - 1) (by omega)
  rw [show d.t.toNat + ((tl d).length - 1) = (d.b - 1).toNat by omega, hv] at hg
  refine ⟨v, hg, ((h.sl _ _ hv).1 (by omega)).1, by rw [popF, if_neg hn, List.getD_eq_getElem?_getD, hv]; rfl, ⟨by rw [List.length_set]; exact h1, h2, by dsimp only; omega, by dsimp only; omega, fun i x hx => ?_⟩, ?_⟩
  · dsimp only at hx ⊢
    by_cases he : i = (d.b - 1).toNat
    · subst he
      rw [List.getElem?_set_self (by omega)] at hx
      cases hx
      exact ⟨fun hh => by omega, fun _ => rfl⟩
    · rw [List.getElem?_set_ne (Ne.symm he)] at hx
      have := h.sl i x hx
      exact ⟨fun hh => this.1 (by omega), fun hh => this.2 (by omega)⟩
  · refine List.ext_getElem? fun k => ?_
    simp only [tl, List.length_drop, List.length_take]
    rw [List.getElem?_drop]
    by_cases hk : d.t.toNat + k < (d.b - 1).toNat
    · rw [List.getElem?_take_of_lt hk, List.getElem?_set_ne (by omega), List.getElem?_take_of_lt (by omega), List.getElem?_drop, List.getElem?_take_of_lt (by omega)]
    · rw [List.getElem?_eq_none (by simp only [List.length_take, List.length_set]; omega), List.getElem?_eq_none (by simp only [List.length_take, List.length_drop]; omega)]
theorem D_ok_steal {d : Dq} (h : OkD d) (hn : ¬ d.t = d.b) : ∃ v, (tl d)[0]? = some v ∧ 0 ≤ v ∧ stealF d = (⟨d.s.set d.t.toNat (-1), d.t + 1, d.b⟩, v, true) ∧ OkD ⟨d.s.set d.t.toNat (-1), d.t + 1, d.b⟩ ∧ tl ⟨d.s.set d.t.toNat (-1), d.t + 1, d.b⟩ = (tl d).drop 1 := by
  have h1 := h.len; have h2 := h.t0; have h3 := h.tb; have h4 := h.b9
  obtain ⟨v, hv⟩ : ∃ v, d.s[d.t.toNat]? = some v := ⟨_, List.getElem?_eq_getElem (by omega)⟩
  have hg := tl_get h 0 (by omega)
  rw [Nat.add_zero, hv] at hg
  refine ⟨v, hg, ((h.sl _ _ hv).1 (by omega)).1, by rw [stealF, if_neg hn, List.getD_eq_getElem?_getD, hv]; rfl, ⟨by rw [List.length_set]; exact h1, by dsimp only; omega, by dsimp only; omega, h4, fun i x hx => ?_⟩, ?_⟩
  · dsimp only at hx ⊢
    by_cases he : i = d.t.toNat
    · subst he
      rw [List.getElem?_set_self (by omega)] at hx
      cases hx
      exact ⟨fun hh => by omega, fun _ => rfl⟩
    · rw [List.getElem?_set_ne (Ne.symm he)] at hx
      have := h.sl i x hx
      exact ⟨fun hh => this.1 (by omega), fun hh => this.2 (by omega)⟩
  · refine List.ext_getElem? fun k => ?_
    simp only [tl]
    rw [List.getElem?_drop, List.getElem?_drop, List.getElem?_drop]
    rw [show d.t.toNat + (1 + k) = (d.t + 1).toNat + k by omega]
    by_cases hk : (d.t + 1).toNat + k < d.b.toNat
    · rw [List.getElem?_take_of_lt hk, List.getElem?_set_ne (by omega), List.getElem?_take_of_lt hk]
    · rw [List.getElem?_eq_none (by simp only [List.length_take, List.length_set]; omega), List.getElem?_eq_none (by simp only [List.length_take]; omega)]
theorem tl_nil {d : Dq} (h : OkD d) (hn : d.t = d.b) : tl d = [] := List.eq_nil_of_length_eq_zero (by have := tl_len h; omega)
/-- A run's state as the reference keeps it. -/
structure RunD (W c : Int) (out : List Dne) (L : List Dq) (i : Int) : Prop where
  q : RunQ W c (out.map Dne.t) (L.map tl) i
  ok : ∀ d ∈ L, OkD d
def msrD (c : Int) (out : List Dne) (L : List Dq) (i : Int) : Nat := msrQ (L.map tl) (c - (out.map Dne.t).length) i
theorem all_set {L : List Dq} (h : ∀ d ∈ L, OkD d) (k : Nat) {e : Dq} (he : OkD e) : ∀ d ∈ L.set k e, OkD d := fun d hd => by
  rcases List.mem_or_eq_of_mem_set hd with hd | rfl
  · exact h d hd
  · exact he
theorem RunD.step {W c : Int} {out : List Dne} {L : List Dq} {i : Int} {t : Trn} (h : RunD W c out L i) (hlt : (out.length : Int) < c) (hw : 0 ≤ t.w ∧ t.w < W) (hv : 0 ≤ t.v ∧ t.v < W) (h30 : 30 ≤ i → t.w = i % W) :
    (0 ≤ (turnF L t).2 → RunD W c (out ++ [⟨t.w, (turnF L t).2⟩]) (turnF L t).1 (i + 1) ∧ msrD c (out ++ [⟨t.w, (turnF L t).2⟩]) (turnF L t).1 (i + 1) < msrD c out L i) ∧ (¬ 0 ≤ (turnF L t).2 → RunD W c out (turnF L t).1 (i + 1) ∧ msrD c out (turnF L t).1 (i + 1) < msrD c out L i) := by
  have hW := h.q.w
  rw [List.length_map] at hW
  obtain ⟨a, ha⟩ : ∃ a, L[t.w.toNat]? = some a := ⟨_, List.getElem?_eq_getElem (by omega)⟩
  obtain ⟨b, hb⟩ : ∃ a, L[t.v.toNat]? = some a := ⟨_, List.getElem?_eq_getElem (by omega)⟩
  have oa := h.ok a (List.mem_of_getElem? ha)
  have ob := h.ok b (List.mem_of_getElem? hb)
  have ga : L.getD t.w.toNat default = a := by rw [List.getD_eq_getElem?_getD, ha]; rfl
  have gb : L.getD t.v.toNat default = b := by rw [List.getD_eq_getElem?_getD, hb]; rfl
  have qa : (L.map tl)[t.w.toNat]? = some (tl a) := by rw [List.getElem?_map, ha]; rfl
  have qb : (L.map tl)[t.v.toNat]? = some (tl b) := by rw [List.getElem?_map, hb]; rfl
  by_cases ea : a.t = a.b
  · have pa : popF a = (⟨[], 0, 0⟩, -1, false) := by rw [popF, if_pos ea]
    by_cases eb : b.t = b.b
    · have pb : stealF b = (⟨[], 0, 0⟩, -1, false) := by rw [stealF, if_pos eb]
      have e : turnF L t = (L, -1) := by rw [turnF, ga, gb, pa, pb]; rfl
      rw [e]
      refine ⟨fun hh => absurd hh (by dsimp only; omega), fun _ => ?_⟩
      obtain ⟨r1, r2⟩ := h.q.idle (by rw [List.length_map]; exact hlt) (fun hi => by
        unfold empQ
        rw [List.length_map, hW.1, ← h30 hi, List.getD_eq_getElem?_getD, qa, Option.getD_some, tl_nil oa ea]; rfl)
      exact ⟨⟨r1, h.ok⟩, r2⟩
    · obtain ⟨v, v1, v2, v3, v4, v5⟩ := D_ok_steal ob eb
      have e : turnF L t = (L.set t.v.toNat ⟨b.s.set b.t.toNat (-1), b.t + 1, b.b⟩, v) := by rw [turnF, ga, gb, pa, v3]; rfl
      rw [e]
      refine ⟨fun _ => ?_, fun hh => absurd v2 hh⟩
      obtain ⟨m1, m2⟩ := mem_first v1
      obtain ⟨r1, r2⟩ := h.q.take qb m1 m2
      dsimp only
      refine ⟨⟨?_, all_set h.ok _ v4⟩, ?_⟩
      · rw [List.map_append, List.map_set, v5]; exact r1
      · rw [msrD, msrD, List.map_append, List.map_set, v5]; exact r2
  · obtain ⟨v, v1, v2, v3, v4, v5⟩ := D_ok_pop oa ea
    have e : turnF L t = (L.set t.w.toNat ⟨a.s.set (a.b - 1).toNat (-1), a.t, a.b - 1⟩, v) := by rw [turnF, ga, v3]; rfl
    rw [e]
    refine ⟨fun _ => ?_, fun hh => absurd v2 hh⟩
    obtain ⟨m1, m2⟩ := mem_last v1
    obtain ⟨r1, r2⟩ := h.q.take qa m1 m2
    dsimp only
    refine ⟨⟨?_, all_set h.ok _ v4⟩, ?_⟩
    · rw [List.map_append, List.map_set, v5]; exact r1
    · rw [msrD, msrD, List.map_append, List.map_set, v5]; exact r2
/-- The reference's queues at the beginning. -/
def dqAt (W w t : Nat) : Dq := ⟨qAt W w t ++ List.replicate (16 - (qAt W w t).length) (-1), 0, (qAt W w t).length⟩
def okDb (d : Dq) : Bool := decide (d.s.length = 16) && decide (0 ≤ d.t) && decide (d.t ≤ d.b) && decide (d.b ≤ 9) && (List.range 16).all fun i => bif decide (d.t ≤ (i : Int) ∧ (i : Int) < d.b) then decide (0 ≤ d.s.getD i 0 ∧ d.s.getD i 0 ≤ 8) else decide (d.s.getD i 0 = -1)
theorem okDb_ok {d : Dq} (h : okDb d = true) : OkD d := by
  simp only [okDb, Bool.and_eq_true, decide_eq_true_eq] at h
  obtain ⟨⟨⟨⟨h1, h2⟩, h3⟩, h4⟩, h5⟩ := h
  refine ⟨h1, h2, h3, h4, fun i x hx => ?_⟩
  have hi := (List.getElem?_eq_some_iff.1 hx).1
  have := List.all_eq_true.1 h5 i (List.mem_range.2 (by omega))
  rw [List.getD_eq_getElem?_getD, hx, Option.getD_some] at this
  by_cases hc : d.t ≤ (i : Int) ∧ (i : Int) < d.b
  · rw [decide_eq_true hc, cond_true] at this
    exact ⟨fun _ => of_decide_eq_true this, fun hn => absurd hc hn⟩
  · rw [decide_eq_false hc, cond_false] at this
    exact ⟨fun hn => absurd hn hc, fun _ => of_decide_eq_true this⟩
theorem dqAt_ok : ∀ W, W < 5 → ∀ w, w < W → ∀ c, c < 10 → okDb (dqAt W w c) = true ∧ tl (dqAt W w c) = qAt W w c := by decide +kernel
theorem dqAt_push : ∀ W, W < 5 → ∀ w, w < W → ∀ t, t < 9 → t % W = w → pushD (dqAt W w t) (Int.ofNat t) = dqAt W w (t + W) ∧ okDb (dqAt W w t) = true ∧ (dqAt W w t).b < 9 := by decide +kernel
theorem dqAt_endB : ∀ W, W < 5 → ∀ w, w < W → ((List.range 10).all fun c => (List.range 14).all fun t => !(decide (c ≤ t) && decide (t < c + W) && decide (t % W = w)) || decide (dqAt W w t = dqAt W w c)) = true := by decide +kernel
theorem dqAt_end {W w c t : Nat} (hW : W < 5) (hw : w < W) (hc : c < 10) (h1 : c ≤ t) (h2 : t < c + W) (h3 : t % W = w) : dqAt W w t = dqAt W w c := by
  have := List.all_eq_true.1 (List.all_eq_true.1 (dqAt_endB W hW w hw) c (List.mem_range.2 hc)) t (List.mem_range.2 (by omega))
  simpa [h1, h2, h3] using this
def dqs0 (W c : Nat) : List Dq := (List.range W).map fun w => dqAt W w c
theorem dqs0_tl {W c : Nat} (hW : W < 5) (hc : c < 10) : (dqs0 W c).map tl = qs0 W c := by
  unfold dqs0 qs0
  rw [List.map_map]
  refine List.map_congr_left fun w hw => ?_
  exact (dqAt_ok W hW w (List.mem_range.1 hw) c hc).2
theorem dqs0_ok {W c : Nat} (hW : W < 5) (hc : c < 10) : ∀ d ∈ dqs0 W c, OkD d := fun d hd => by
  obtain ⟨w, hw, rfl⟩ := List.mem_map.1 hd
  exact okDb_ok (dqAt_ok W hW w (List.mem_range.1 hw) c hc).1
theorem runD0 {W c : Int} (h1 : 1 ≤ W) (h4 : W ≤ 4) (c0 : 0 ≤ c) (c9 : c ≤ 9) : RunD W c [] (dqs0 W.toNat c.toNat) 0 :=
  ⟨by rw [dqs0_tl (by omega) (by omega)]; exact run0 h1 h4 c0 c9, dqs0_ok (by omega) (by omega)⟩
theorem tm16 {a : Int} (h0 : 0 ≤ a) (h1 : a < 16) : a.tmod 16 = a := by rw [Int.tmod_eq_emod_of_nonneg h0]; omega
theorem set_int (l : List Int) (k : Nat) (n : Int) : (List.map intC l).set k [C.v (.int .i64 n)] = List.map intC (l.set k n) := by rw [List.map_set]; rfl
theorem fl_end {d : Dq} (h : OkD d) {i n k : Int} {u : Bool} (hk : d.s[i.toNat]? = some k) (i0 : 0 ≤ i) (hu : u = decide (d.t ≤ i ∧ i < n)) (h1 : ¬ n < d.b) (h2 : n ≤ d.b) : (u == decide (0 ≤ k)) = true := by
  have hn : n = d.b := by omega
  subst hn
  have hs := h.sl i.toNat k hk
  rw [Int.toNat_of_nonneg i0] at hs
  by_cases hc : d.t ≤ i ∧ i < d.b
  · rw [hu, decide_eq_true hc, decide_eq_true (hs.1 hc).1]; rfl
  · rw [hu, decide_eq_false hc, hs.2 hc]; rfl
theorem rep_step {i : Int} (h : 0 ≤ i) : List.replicate i.toNat (-1 : Int) ++ [-1] = List.replicate (i + 1).toNat (-1) := by rw [show (i + 1).toNat = i.toNat + 1 by omega, List.replicate_succ']
section
def spSlot_A : (List Int) × Int × Int → List AV
  | (l, k, n) => [.c (.sl false (l.map intC)), I k, I n]
def spSlot_pre : (List Int) × Int × Int → Prop
  | (l, k, n) => l.length = 16 ∧ 0 ≤ k ∧ k < 16
def spSlot_post : (List Int) × Int × Int → AV → List Box → Prop
  | (l, k, n), r, bs => r = .c (.sl false (((l.set k.toNat n)).map intC)) ∧ bs = []
def spSlot : VE.Spec := famSpecS spSlot_A d_li_i_i spSlot_pre spSlot_post 0 false
theorem spSlot_q : SpQ spSlot false [] true 0 (fun a i => i = [] ∧ famPre d_li_i_i spSlot_A spSlot_pre a) (fun a i r b => famPost d_li_i_i spSlot_post a r b) := ⟨rfl, rfl, rfl, rfl, fun _ _ => rfl, fun _ _ _ _ => rfl⟩
def tb132 : Nat → Option VE.Spec := tabOf [(162, wkIn spCpI)]
theorem tb132_162 : tb132 162 = some (wkIn spCpI) := rfl
theorem tb132_ok : TabOK Tryz.prog rt0 tb132 := (tabOf_cons (by kernel_rfl) sat_spec_copyInts tabOf_nil)
set_option maxHeartbeats 4000000 in
theorem sat_spec_withSlot_0 : Sat Tryz.prog rt0 132 (wkOut spSlot) := by
  refine fn_sat hm ttok (tab := tb132) tb132_ok Tryz.func132 (c := Tryz.f132.body.getD .skip) (by kernel_rfl) (ts := [.tmp 6]) (by kernel_rfl) Tryz.ntmps132 (sq := fun _ => true) (by kernel_rfl) ?_
  intro args ins pk hpre0 hpk
  obtain ⟨rfl, hpre0⟩ := hpre0
  obtain ⟨⟨l, k, n⟩, rfl, hpre, hdec⟩ := famPre_ex hpre0
  clear hpre0 hdec
  try simp only [spSlot_pre] at hpre
  replace hpk : pk + 0 ≤ pickLimit := hpk
  refine ⟨nle rfl, ?_⟩
  have hk := tm16 hpre.2.1 hpre.2.2
  simp (maxSteps := 1000000) only [go_sem, Tryz.f132, tb132_162, spSlot_q, spSlot_A, spSlot_pre, spSlot_post, spCpI_q, spCpI_A, spCpI_pre, spCpI_post, hk, set_int]
  repeat' first | apply And.intro | intro _ | omega | assumption | with_reducible rfl
  all_goals (first | omega | (rfl; done) | (skip; done))
theorem sat_spec_withSlot : Sat Tryz.prog rt0 132 (wkIn spSlot) := sat_in (sat_out sat_spec_withSlot_0)
def spEmpD_A : Unit → List AV
  | () => []
def spEmpD_pre : Unit → Prop
  | () => True
def spEmpD_post : Unit → AV → List Box → Prop
  | (), r, bs => r = .c (.sl false (((List.replicate 16 (-1))).map intC)) ∧ bs = []
def spEmpD : VE.Spec := famSpecS spEmpD_A d_0 spEmpD_pre spEmpD_post 0 false
theorem spEmpD_q : SpQ spEmpD false [] true 0 (fun a i => i = [] ∧ famPre d_0 spEmpD_A spEmpD_pre a) (fun a i r b => famPost d_0 spEmpD_post a r b) := ⟨rfl, rfl, rfl, rfl, fun _ _ => rfl, fun _ _ _ _ => rfl⟩
def tb130 : Nat → Option VE.Spec := tabOf []
theorem tb130_ok : TabOK Tryz.prog rt0 tb130 := tabOf_nil
section
attribute [local go_sem] Tryz.f130 spEmpD_q spEmpD_A spEmpD_pre spEmpD_post
set_option maxHeartbeats 4000000 in
theorem sat_spec_empty_0 : Sat Tryz.prog rt0 130 (wkOut spEmpD) := by
  refine fn_sat hm ttok (tab := tb130) tb130_ok Tryz.func130 (c := Tryz.f130.body.getD .skip) (by kernel_rfl) (ts := [.tmp 0]) (by kernel_rfl) Tryz.ntmps130 (sq := fun _ => true) (by kernel_rfl) ?_
  intro args ins pk hpre0 hpk
  obtain ⟨rfl, hpre0⟩ := hpre0
  obtain ⟨⟨⟩, rfl, hpre, hdec⟩ := famPre_ex hpre0
  clear hpre0 hdec
  try simp only [spEmpD_pre] at hpre
  replace hpk : pk + 0 ≤ pickLimit := hpk
  refine ⟨nle rfl, ?_⟩
  simp (maxSteps := 1000000) only [go_sem]
  repeat' first | apply And.intro | intro _ | omega | assumption | with_reducible rfl
  refine loopS (α := (List Int) × Int) false [1, 2, 3, 4, 5, 6, 7, 8, 9, 10] (fun σ => [gId (σ.get 1)]) (fun σ x => [(1, .c (.own (gId (σ.get 1)) (x.1).length false)), (2, I x.2)]) (fun σ x => [(gId (σ.get 1), some ⟨(x.1).map intC, 1, 3, true, false⟩)]) (fun (o, i) => 0) (fun σ => (gL intCd σ (σ.get 1), gI (σ.get 2))) (fun σ τ => [(gId (σ.get 1), gId (τ.get 1))]) (fun (o, i) => (0 ≤ i ∧ i ≤ 16) ∧ o = List.replicate i.toNat (-1)) (fun (o, i) => (16 - i).toNat) ⟨by (simp (maxSteps := 1000000) only [go_sem]; (repeat' first | apply And.intro | intro _ | omega | assumption | with_reducible rfl); all_goals (first | rfl)), ?_⟩
  rintro ⟨o, i⟩ hinv
  try dsimp only at hinv
  simp (maxSteps := 1000000) only [go_sem]
  repeat' first | apply And.intro | intro _ | omega | assumption | with_reducible rfl
  all_goals (first | ((have h9 := congrArg List.length hinv.2; rw [List.length_replicate] at h9; omega); done) | ((rw [hinv.2, rep_step hinv.1.1]); done) | ((rw [hinv.2, show i.toNat = 16 by omega]; rfl); done) | ((rw [hinv.2, show i.toNat = 16 by omega]); done) | (skip; done))
end
theorem sat_spec_empty : Sat Tryz.prog rt0 130 (wkIn spEmpD) := sat_in (sat_out sat_spec_empty_0)
end
section
def spNewD_A : Unit → List AV
  | () => []
def spNewD_pre : Unit → Prop
  | () => True
def spNewD_post : Unit → AV → List Box → Prop
  | (), r, bs => r = .agg (dqC (⟨List.replicate 16 (-1), 0, 0⟩)) ∧ bs = []
def spNewD : VE.Spec := famSpecS spNewD_A d_0 spNewD_pre spNewD_post 0 false
theorem spNewD_q : SpQ spNewD false [] true 0 (fun a i => i = [] ∧ famPre d_0 spNewD_A spNewD_pre a) (fun a i r b => famPost d_0 spNewD_post a r b) := ⟨rfl, rfl, rfl, rfl, fun _ _ => rfl, fun _ _ _ _ => rfl⟩
def tb85 : Nat → Option VE.Spec := tabOf [(130, wkIn spEmpD)]
theorem tb85_130 : tb85 130 = some (wkIn spEmpD) := rfl
theorem tb85_ok : TabOK Tryz.prog rt0 tb85 := (tabOf_cons (by kernel_rfl) sat_spec_empty tabOf_nil)
set_option maxHeartbeats 4000000 in
theorem sat_spec_NewDeque_0 : Sat Tryz.prog rt0 85 (wkOut spNewD) := by
  refine fn_sat hm ttok (tab := tb85) tb85_ok Tryz.func85 (c := Tryz.f85.body.getD .skip) (by kernel_rfl) (ts := [.cell 0 120]) (by kernel_rfl) Tryz.ntmps85 (sq := fun _ => true) (by kernel_rfl) ?_
  intro args ins pk hpre0 hpk
  obtain ⟨rfl, hpre0⟩ := hpre0
  obtain ⟨⟨⟩, rfl, hpre, hdec⟩ := famPre_ex hpre0
  clear hpre0 hdec
  try simp only [spNewD_pre] at hpre
  replace hpk : pk + 0 ≤ pickLimit := hpk
  refine ⟨nle rfl, ?_⟩
  simp (maxSteps := 1000000) only [go_sem, Tryz.f85, tb85_130, spNewD_q, spNewD_A, spNewD_pre, spNewD_post, spEmpD_q, spEmpD_A, spEmpD_pre, spEmpD_post]
  repeat' first | apply And.intro | intro _ | omega | assumption | with_reducible rfl
  all_goals (first | (rfl; done) | (skip; done))
theorem sat_spec_NewDeque : Sat Tryz.prog rt0 85 (wkIn spNewD) := sat_in (sat_out sat_spec_NewDeque_0)
def spFild_A : Dq → List AV
  | d => [.agg (dqC d)]
def spFild_pre : Dq → Prop
  | d => OkD d
def spFild_post : Dq → AV → List Box → Prop
  | d, r, bs => r = B (true) ∧ bs = []
def spFild : VE.Spec := famSpec spFild_A d_dq spFild_pre spFild_post 0 false
theorem spFild_q : SpQ spFild false [] false 0 (fun a i => i = [] ∧ famPre d_dq spFild_A spFild_pre a) (fun a i r b => famPost d_dq spFild_post a r b) := ⟨rfl, rfl, rfl, rfl, fun _ _ => rfl, fun _ _ _ _ => rfl⟩
def tb161 : Nat → Option VE.Spec := tabOf []
theorem tb161_ok : TabOK Tryz.prog rt0 tb161 := tabOf_nil
section
attribute [local go_sem] Tryz.f161 spFild_q spFild_A spFild_pre spFild_post
set_option maxHeartbeats 4000000 in
theorem sat_spec_filled_0 : Sat Tryz.prog rt0 161 (wkOut spFild) := by
  refine fn_sat hm ttok (tab := tb161) tb161_ok Tryz.func161 (c := Tryz.f161.body.getD .skip) (by kernel_rfl) (ts := [.tmp 2]) (by kernel_rfl) Tryz.ntmps161 (sq := fun _ => true) (by kernel_rfl) ?_
  intro args ins pk hpre0 hpk
  obtain ⟨rfl, hpre0⟩ := hpre0
  obtain ⟨d, rfl, hpre, hdec⟩ := famPre_ex hpre0
  clear hpre0 hdec
  try simp only [spFild_pre] at hpre
  replace hpk : pk + 0 ≤ pickLimit := hpk
  refine ⟨nle rfl, ?_⟩
  have hd1 := hpre.t0
  have hd2 := hpre.tb
  have hd3 := hpre.b9
  have hd4 := hpre.len
  simp (maxSteps := 1000000) only [go_sem]
  repeat' first | apply And.intro | intro _ | omega | assumption | with_reducible rfl
  refine loopS (α := Int) false [0, 2, 3, 4, 5, 6, 7, 8, 9, 10, 11, 12, 13, 14, 15, 16, 17, 18, 19, 20, 21, 22, 23, 24, 25, 26, 27, 28, 29, 30, 31, 32] (fun σ => []) (fun σ x => [(3, I x)]) (fun σ x => []) (fun i => 0) (fun σ => gI (σ.get 3)) (fun σ τ => []) (fun i => 0 ≤ i ∧ i ≤ 16) (fun i => (16 - i).toNat) ⟨by (simp (maxSteps := 1000000) only [go_sem]; (repeat' first | apply And.intro | intro _ | omega | assumption | with_reducible rfl); all_goals (first | omega)), ?_⟩
  rintro i hinv
  try dsimp only at hinv
  simp (maxSteps := 1000000) only [go_sem]
  repeat' first | apply And.intro | intro _ | omega | assumption | with_reducible rfl
  any_goals
    refine loopS (α := Bool × Int) false [0, 4, 5, 6, 7, 8, 9, 10, 11, 12, 13, 14, 15, 16, 17, 18, 19, 20, 21, 22, 23, 24, 32] (fun σ => []) (fun σ x => [(4, B x.1), (5, I x.2)]) (fun σ x => []) (fun (u, n) => 0) (fun σ => (gBo (σ.get 4), gI (σ.get 5))) (fun σ τ => []) (fun (u, n) => (d.t ≤ n ∧ n ≤ d.b) ∧ u = decide (d.t ≤ i ∧ i < n)) (fun (u, n) => (d.b - n).toNat) ⟨by (simp (maxSteps := 1000000) only [go_sem]; (repeat' first | apply And.intro | intro _ | omega | assumption | with_reducible rfl); all_goals (first | omega | (symm; apply decide_eq_false; omega) | skip)), ?_⟩
    rintro ⟨u, n⟩ hinv
    try dsimp only at hinv
    simp (maxSteps := 1000000) only [go_sem]
    repeat' first | apply And.intro | intro _ | omega | assumption | with_reducible rfl
  all_goals (first | ((symm; apply decide_eq_false; omega); done) | ((have h9 := of_decide_eq_true (hinv.2.symm.trans ‹u = true›); exact (decide_eq_true (by omega)).symm); done) | ((have h9 := of_decide_eq_false (hinv.2.symm.trans ‹u = false›); rw [tm16 (by omega) (by omega)]; exact decide_eq_decide.2 (by omega)); done) | ((have h9 := fl_end hpre ‹_› ‹0 ≤ i ∧ i ≤ 16›.1 hinv.2 ‹¬ n < d.b› hinv.1.2; simp_all; done); done) | (skip; done))
end
theorem sat_spec_filled : Sat Tryz.prog rt0 161 (wkIn spFild) := sat_in (sat_out sat_spec_filled_0)
end
section
def spVDq_A : Dq → List AV
  | d => [.agg (dqC d)]
def spVDq_pre : Dq → Prop
  | d => OkD d
def spVDq_post : Dq → AV → List Box → Prop
  | d, r, bs => r = B (true) ∧ bs = []
def spVDq : VE.Spec := famSpec spVDq_A d_dq spVDq_pre spVDq_post 0 false
theorem spVDq_q : SpQ spVDq false [] false 0 (fun a i => i = [] ∧ famPre d_dq spVDq_A spVDq_pre a) (fun a i r b => famPost d_dq spVDq_post a r b) := ⟨rfl, rfl, rfl, rfl, fun _ _ => rfl, fun _ _ _ _ => rfl⟩
theorem vd_all {d : Dq} (h : OkD d) : (d.s.all fun n => decide (-1 ≤ n ∧ n ≤ 99)) = true := by
  rw [List.all_eq_true]
  intro x hx
  obtain ⟨i, hi⟩ := List.getElem?_of_mem hx
  have := h.sl i x hi
  rw [decide_eq_true_eq]
  by_cases hc : d.t ≤ i ∧ (i : Int) < d.b
  · have := this.1 hc; omega
  · have := this.2 hc; omega
def tb131 : Nat → Option VE.Spec := tabOf [(160, wkIn spAll), (35, wkIn spIn), (161, wkIn spFild)]
theorem tb131_160 : tb131 160 = some (wkIn spAll) := rfl
theorem tb131_35 : tb131 35 = some (wkIn spIn) := rfl
theorem tb131_161 : tb131 161 = some (wkIn spFild) := rfl
theorem tb131_ok : TabOK Tryz.prog rt0 tb131 := (tabOf_cons (by kernel_rfl) sat_spec_allIn (tabOf_cons (by kernel_rfl) sat_spec_inRange (tabOf_cons (by kernel_rfl) sat_spec_filled tabOf_nil)))
set_option maxHeartbeats 4000000 in
theorem sat_spec_validDeque_0 : Sat Tryz.prog rt0 131 (wkOut spVDq) := by
  refine fn_sat hm ttok (tab := tb131) tb131_ok Tryz.func131 (c := Tryz.f131.body.getD .skip) (by kernel_rfl) (ts := [.tmp 2]) (by kernel_rfl) Tryz.ntmps131 (sq := fun _ => true) (by kernel_rfl) ?_
  intro args ins pk hpre0 hpk
  obtain ⟨rfl, hpre0⟩ := hpre0
  obtain ⟨d, rfl, hpre, hdec⟩ := famPre_ex hpre0
  clear hpre0 hdec
  try simp only [spVDq_pre] at hpre
  replace hpk : pk + 0 ≤ pickLimit := hpk
  refine ⟨nle rfl, ?_⟩
  have hd1 := hpre.t0
  have hd2 := hpre.tb
  have hd3 := hpre.b9
  have hd4 := hpre.len
  have hv1 := vd_all hpre
  have hv2 : decide (0 ≤ d.t ∧ d.t ≤ 500) = true := decide_eq_true (by omega)
  have hv3 : decide (d.t ≤ d.b ∧ d.b ≤ d.t + 16) = true := decide_eq_true (by omega)
  have hv4 : (d.b ≤ 500) = True := eq_true (by omega)
  have hv5 : ((d.s.length : Int) = 16) = True := eq_true (by omega)
  simp (maxSteps := 1000000) only [go_sem, Tryz.f131, tb131_160, tb131_35, tb131_161, spVDq_q, spVDq_A, spVDq_pre, spVDq_post, spAll_q, spAll_A, spAll_pre, spAll_post, spIn_q, spIn_A, spIn_pre, spIn_post, spFild_q, spFild_A, spFild_pre, spFild_post, hv1, hv2, hv3, hv4, hv5]
  repeat' first | apply And.intro | intro _ | omega | assumption | with_reducible rfl
  all_goals (first | (skip; done))
theorem sat_spec_validDeque : Sat Tryz.prog rt0 131 (wkIn spVDq) := sat_in (sat_out sat_spec_validDeque_0)
def spPush_A : Dq × Int → List AV
  | (d, y) => [.agg (dqC d), I y]
def spPush_pre : Dq × Int → Prop
  | (d, y) => OkD d ∧ d.b < 9 ∧ 0 ≤ y ∧ y ≤ 8
def spPush_post : Dq × Int → AV → List Box → Prop
  | (d, y), r, bs => r = .tup [.agg (dqC (pushD d y)), B (true)] ∧ bs = []
def spPush : VE.Spec := famSpecS spPush_A d_dq_i spPush_pre spPush_post 0 false
theorem spPush_q : SpQ spPush false [] true 0 (fun a i => i = [] ∧ famPre d_dq_i spPush_A spPush_pre a) (fun a i r b => famPost d_dq_i spPush_post a r b) := ⟨rfl, rfl, rfl, rfl, fun _ _ => rfl, fun _ _ _ _ => rfl⟩
def tb86 : Nat → Option VE.Spec := tabOf [(131, wkIn spVDq), (35, wkIn spIn), (132, wkIn spSlot)]
theorem tb86_131 : tb86 131 = some (wkIn spVDq) := rfl
theorem tb86_35 : tb86 35 = some (wkIn spIn) := rfl
theorem tb86_132 : tb86 132 = some (wkIn spSlot) := rfl
theorem tb86_ok : TabOK Tryz.prog rt0 tb86 := (tabOf_cons (by kernel_rfl) sat_spec_validDeque (tabOf_cons (by kernel_rfl) sat_spec_inRange (tabOf_cons (by kernel_rfl) sat_spec_withSlot tabOf_nil)))
section
attribute [local go_sem] Tryz.f86 tb86_131 tb86_35 tb86_132 spPush_q spPush_A spPush_pre spPush_post spVDq_q spVDq_A spVDq_pre spVDq_post spIn_q spIn_A spIn_pre spIn_post spSlot_q spSlot_A spSlot_pre spSlot_post
set_option maxHeartbeats 4000000 in
theorem sat_spec_PushTile_0 : Sat Tryz.prog rt0 86 (wkOut spPush) := by
  refine fn_sat hm ttok (tab := tb86) tb86_ok Tryz.func86 (c := Tryz.f86.body.getD .skip) (by kernel_rfl) (ts := [.cell 4 120, .tmp 5]) (by kernel_rfl) Tryz.ntmps86 (sq := fun id => !(id == 3)) (by kernel_rfl) ?_
  intro args ins pk hpre0 hpk
  obtain ⟨rfl, hpre0⟩ := hpre0
  obtain ⟨⟨d, y⟩, rfl, hpre, hdec⟩ := famPre_ex hpre0
  clear hpre0 hdec
  try simp only [spPush_pre] at hpre
  replace hpk : pk + 0 ≤ pickLimit := hpk
  refine ⟨nle rfl, ?_⟩
  have hd1 := hpre.1.t0
  have hd2 := hpre.1.tb
  have hd3 := hpre.1.b9
  have hd4 := hpre.1.len
  have hv2 : decide (0 ≤ y ∧ y ≤ 99) = true := decide_eq_true (by omega)
  have hv4 : (d.b - d.t = 16) = False := eq_false (by omega)
  have hv5 : (d.b = 500) = False := eq_false (by omega)
  simp (maxSteps := 1000000) only [go_sem, hv2, hv4, hv5]
  repeat' first | apply And.intro | intro _ | omega | assumption | with_reducible rfl
  all_goals try (refine drawI (pF 0 (pF 1 (pF 2 (pF 3 (pF 4 (pF 6 (pF 7 (pF 8 (pF 9 (pF 10 (pA 5 (pF 11 (pA 12 (pA 13 pN pN) pN)) pN))))))))))) (by decide +kernel) ?_; simp (maxSteps := 1000000) only [go_sem, planW, stepW, Go.VE.stepT, Go.VE.clearO, hv2, hv4, hv5]; repeat' first | apply And.intro | intro _ | omega | assumption | with_reducible rfl)
  all_goals (first | (exact hpre.1) | (rfl; done) | (skip; done))
end
theorem sat_spec_PushTile : Sat Tryz.prog rt0 86 (wkIn spPush) := sat_in (sat_out sat_spec_PushTile_0)
end
section
theorem pop_n {d : Dq} (h : d.t = d.b) : popF d = (⟨[], 0, 0⟩, -1, false) := if_pos h
theorem stl_n {d : Dq} (h : d.t = d.b) : stealF d = (⟨[], 0, 0⟩, -1, false) := if_pos h
theorem pop_y {d : Dq} {k : Int} (h : ¬ d.t = d.b) (hk : d.s[((d.b - 1).tmod 16).toNat]? = some k) (h1 : 0 ≤ d.t) (h2 : d.t ≤ d.b) (h3 : d.b ≤ 9) : popF d = (⟨d.s.set (d.b - 1).toNat (-1), d.t, d.b - 1⟩, k, true) := by
  rw [tm16 (by omega) (by omega)] at hk
  rw [popF, if_neg h, List.getD_eq_getElem?_getD, hk]; rfl
theorem stl_y {d : Dq} {k : Int} (h : ¬ d.t = d.b) (hk : d.s[(d.t.tmod 16).toNat]? = some k) (h1 : 0 ≤ d.t) (h2 : d.t ≤ d.b) (h3 : d.b ≤ 9) : stealF d = (⟨d.s.set d.t.toNat (-1), d.t + 1, d.b⟩, k, true) := by
  rw [tm16 (by omega) (by omega)] at hk
  rw [stealF, if_neg h, List.getD_eq_getElem?_getD, hk]; rfl
def spPop_A : Dq → List AV
  | d => [.agg (dqC d)]
def spPop_pre : Dq → Prop
  | d => OkD d
def spPop_post : Dq → AV → List Box → Prop
  | d, r, bs => r = .tup [.agg (dqC ((popF d).1)), I ((popF d).2.1), B ((popF d).2.2)] ∧ bs = []
def spPop : VE.Spec := famSpecS spPop_A d_dq spPop_pre spPop_post 0 false
theorem spPop_q : SpQ spPop false [] true 0 (fun a i => i = [] ∧ famPre d_dq spPop_A spPop_pre a) (fun a i r b => famPost d_dq spPop_post a r b) := ⟨rfl, rfl, rfl, rfl, fun _ _ => rfl, fun _ _ _ _ => rfl⟩
def tb87 : Nat → Option VE.Spec := tabOf [(131, wkIn spVDq), (132, wkIn spSlot)]
theorem tb87_131 : tb87 131 = some (wkIn spVDq) := rfl
theorem tb87_132 : tb87 132 = some (wkIn spSlot) := rfl
theorem tb87_ok : TabOK Tryz.prog rt0 tb87 := (tabOf_cons (by kernel_rfl) sat_spec_validDeque (tabOf_cons (by kernel_rfl) sat_spec_withSlot tabOf_nil))
section
attribute [local go_sem] Tryz.f87 tb87_131 tb87_132 spPop_q spPop_A spPop_pre spPop_post spVDq_q spVDq_A spVDq_pre spVDq_post spSlot_q spSlot_A spSlot_pre spSlot_post
set_option maxHeartbeats 4000000 in
theorem sat_spec_PopTile_0 : Sat Tryz.prog rt0 87 (wkOut spPop) := by
  refine fn_sat hm ttok (tab := tb87) tb87_ok Tryz.func87 (c := Tryz.f87.body.getD .skip) (by kernel_rfl) (ts := [.cell 2 120, .tmp 3, .tmp 4]) (by kernel_rfl) Tryz.ntmps87 (sq := fun id => !(id == 4)) (by kernel_rfl) ?_
  intro args ins pk hpre0 hpk
  obtain ⟨rfl, hpre0⟩ := hpre0
  obtain ⟨d, rfl, hpre, hdec⟩ := famPre_ex hpre0
  clear hpre0 hdec
  try simp only [spPop_pre] at hpre
  replace hpk : pk + 0 ≤ pickLimit := hpk
  refine ⟨nle rfl, ?_⟩
  have hd1 := hpre.t0
  have hd2 := hpre.tb
  have hd3 := hpre.b9
  have hd4 := hpre.len
  simp (maxSteps := 1000000) only [go_sem]
  repeat' first | apply And.intro | intro _ | omega | assumption | with_reducible rfl
  all_goals try (refine drawI (pF 0 (pF 1 (pF 2 (pF 4 (pF 5 (pF 6 (pF 8 (pF 10 (pF 11 (pA 3 (pF 7 (pA 9 (pF 12 (pA 13 (pA 14 (pA 15 (pA 16 pN pN) pN) pN) (pA 14 (pF 13 (pA 15 (pA 16 pN pN) pN)) pN))) (pA 14 (pF 9 (pF 12 (pF 13 (pA 15 (pA 16 pN pN) pN)))) pN))) (pA 9 (pF 12 (pA 3 (pF 7 (pA 13 (pA 14 (pA 15 (pA 16 pN pN) pN) pN) (pA 14 (pF 13 (pA 15 (pA 16 pN pN) pN)) pN))) (pA 13 (pA 3 (pF 7 (pA 14 (pA 15 (pA 16 pN pN) pN) pN)) pN) pN))) pN))))))))))) (by decide +kernel) ?_; simp (maxSteps := 1000000) only [go_sem, planW, stepW, Go.VE.stepT, Go.VE.clearO]; repeat' first | apply And.intro | intro _ | omega | assumption | with_reducible rfl)
  all_goals (first | ((rw [pop_n ‹_›]; rfl); done) | ((rw [pop_y ‹¬ d.t = d.b› ‹d.s[_]? = some _› hd1 hd2 hd3]; rfl); done) | ((rw [tm16 (by omega) (by omega)]; omega); done) | ((rw [pop_n ‹_›]); done) | ((rw [pop_y ‹¬ d.t = d.b› ‹d.s[_]? = some _› hd1 hd2 hd3]); done) | (skip; done))
end
theorem sat_spec_PopTile : Sat Tryz.prog rt0 87 (wkIn spPop) := sat_in (sat_out sat_spec_PopTile_0)
def spStl_A : Dq → List AV
  | d => [.agg (dqC d)]
def spStl_pre : Dq → Prop
  | d => OkD d
def spStl_post : Dq → AV → List Box → Prop
  | d, r, bs => r = .tup [.agg (dqC ((stealF d).1)), I ((stealF d).2.1), B ((stealF d).2.2)] ∧ bs = []
def spStl : VE.Spec := famSpecS spStl_A d_dq spStl_pre spStl_post 0 false
theorem spStl_q : SpQ spStl false [] true 0 (fun a i => i = [] ∧ famPre d_dq spStl_A spStl_pre a) (fun a i r b => famPost d_dq spStl_post a r b) := ⟨rfl, rfl, rfl, rfl, fun _ _ => rfl, fun _ _ _ _ => rfl⟩
def tb88 : Nat → Option VE.Spec := tabOf [(131, wkIn spVDq), (132, wkIn spSlot)]
theorem tb88_131 : tb88 131 = some (wkIn spVDq) := rfl
theorem tb88_132 : tb88 132 = some (wkIn spSlot) := rfl
theorem tb88_ok : TabOK Tryz.prog rt0 tb88 := (tabOf_cons (by kernel_rfl) sat_spec_validDeque (tabOf_cons (by kernel_rfl) sat_spec_withSlot tabOf_nil))
section
attribute [local go_sem] Tryz.f88 tb88_131 tb88_132 spStl_q spStl_A spStl_pre spStl_post spVDq_q spVDq_A spVDq_pre spVDq_post spSlot_q spSlot_A spSlot_pre spSlot_post
set_option maxHeartbeats 4000000 in
theorem sat_spec_StealTile_0 : Sat Tryz.prog rt0 88 (wkOut spStl) := by
  refine fn_sat hm ttok (tab := tb88) tb88_ok Tryz.func88 (c := Tryz.f88.body.getD .skip) (by kernel_rfl) (ts := [.cell 2 120, .tmp 3, .tmp 4]) (by kernel_rfl) Tryz.ntmps88 (sq := fun id => !(id == 3)) (by kernel_rfl) ?_
  intro args ins pk hpre0 hpk
  obtain ⟨rfl, hpre0⟩ := hpre0
  obtain ⟨d, rfl, hpre, hdec⟩ := famPre_ex hpre0
  clear hpre0 hdec
  try simp only [spStl_pre] at hpre
  replace hpk : pk + 0 ≤ pickLimit := hpk
  refine ⟨nle rfl, ?_⟩
  have hd1 := hpre.t0
  have hd2 := hpre.tb
  have hd3 := hpre.b9
  have hd4 := hpre.len
  simp (maxSteps := 1000000) only [go_sem]
  repeat' first | apply And.intro | intro _ | omega | assumption | with_reducible rfl
  all_goals try (refine drawI (pF 0 (pF 1 (pF 2 (pF 3 (pF 5 (pF 6 (pF 7 (pF 8 (pF 9 (pF 11 (pF 13 (pA 4 (pF 10 (pA 12 (pA 14 (pF 15 (pF 16 (pA 17 (pA 18 (pA 19 (pA 20 pN pN) pN) pN) (pA 18 (pF 17 (pA 19 (pA 20 pN pN) pN)) pN)))) (pA 18 (pF 14 (pF 15 (pF 16 (pF 17 (pA 19 (pA 20 pN pN) pN))))) pN)) (pA 14 (pF 15 (pA 12 (pF 16 (pA 17 (pA 18 (pA 19 (pA 20 pN pN) pN) pN) (pA 18 (pF 17 (pA 19 (pA 20 pN pN) pN)) pN))) (pA 18 (pF 12 (pF 16 (pF 17 (pA 19 (pA 20 pN pN) pN)))) pN))) (pA 18 (pF 12 (pF 14 (pF 15 (pF 16 (pF 17 (pA 19 (pA 20 pN pN) pN)))))) pN)))) (pA 12 (pA 4 (pF 10 (pA 14 (pF 15 (pF 16 (pA 17 (pA 18 (pA 19 (pA 20 pN pN) pN) pN) (pA 18 (pF 17 (pA 19 (pA 20 pN pN) pN)) pN)))) (pA 18 (pF 14 (pF 15 (pF 16 (pF 17 (pA 19 (pA 20 pN pN) pN))))) pN))) (pA 14 (pF 15 (pF 16 (pA 4 (pF 10 (pA 17 (pA 18 (pA 19 (pA 20 pN pN) pN) pN) (pA 18 (pF 17 (pA 19 (pA 20 pN pN) pN)) pN))) (pA 17 (pA 4 (pF 10 (pA 18 (pA 19 (pA 20 pN pN) pN) pN)) pN) pN)))) pN)) (pA 14 (pF 15 (pA 4 (pF 10 (pA 12 (pF 16 (pA 17 (pA 18 (pA 19 (pA 20 pN pN) pN) pN) (pA 18 (pF 17 (pA 19 (pA 20 pN pN) pN)) pN))) (pA 18 (pF 12 (pF 16 (pF 17 (pA 19 (pA 20 pN pN) pN)))) pN))) (pA 12 (pF 16 (pA 4 (pF 10 (pA 17 (pA 18 (pA 19 (pA 20 pN pN) pN) pN) (pA 18 (pF 17 (pA 19 (pA 20 pN pN) pN)) pN))) (pA 17 (pA 4 (pF 10 (pA 18 (pA 19 (pA 20 pN pN) pN) pN)) pN) pN))) pN))) pN)))))))))))))) (by decide +kernel) ?_; simp (maxSteps := 1000000) only [go_sem, planW, stepW, Go.VE.stepT, Go.VE.clearO]; repeat' first | apply And.intro | intro _ | omega | assumption | with_reducible rfl)
  all_goals (first | ((rw [stl_n ‹_›]; rfl); done) | ((rw [stl_y ‹¬ d.t = d.b› ‹d.s[_]? = some _› hd1 hd2 hd3]; rfl); done) | ((rw [tm16 (by omega) (by omega)]; omega); done) | ((rw [stl_n ‹_›]); done) | ((rw [stl_y ‹¬ d.t = d.b› ‹d.s[_]? = some _› hd1 hd2 hd3]); done) | (skip; done))
end
theorem sat_spec_StealTile : Sat Tryz.prog rt0 88 (wkIn spStl) := sat_in (sat_out sat_spec_StealTile_0)
end
structure TurnP (L : List Dq) (t : Trn) : Prop where
  ok : ∀ d ∈ L, OkD d
  w : 0 ≤ t.w ∧ t.w < L.length
  v : 0 ≤ t.v ∧ t.v < L.length
  n : L.length ≤ 4
theorem turn_1 {L : List Dq} {t : Trn} {a : Dq} (ha : L[t.w.toNat]? = some a) (h : (popF a).2.2 = true) : turnF L t = (L.set t.w.toNat (popF a).1, (popF a).2.1) := by
  have ga : L.getD t.w.toNat default = a := by rw [List.getD_eq_getElem?_getD, ha]; rfl
  rw [turnF, ga, if_pos h]
theorem turn_2 {L : List Dq} {t : Trn} {a b : Dq} (ha : L[t.w.toNat]? = some a) (hb : L[t.v.toNat]? = some b) (h : (popF a).2.2 = false) (h2 : (stealF b).2.2 = true) : turnF L t = (L.set t.v.toNat (stealF b).1, (stealF b).2.1) := by
  have ga : L.getD t.w.toNat default = a := by rw [List.getD_eq_getElem?_getD, ha]; rfl
  have gb : L.getD t.v.toNat default = b := by rw [List.getD_eq_getElem?_getD, hb]; rfl
  rw [turnF, ga, gb, if_neg (by rw [h]; decide), if_pos h2]
theorem turn_3 {L : List Dq} {t : Trn} {a b : Dq} (ha : L[t.w.toNat]? = some a) (hb : L[t.v.toNat]? = some b) (h : (popF a).2.2 = false) (h2 : (stealF b).2.2 = false) : turnF L t = (L, -1) := by
  have ga : L.getD t.w.toNat default = a := by rw [List.getD_eq_getElem?_getD, ha]; rfl
  have gb : L.getD t.v.toNat default = b := by rw [List.getD_eq_getElem?_getD, hb]; rfl
  rw [turnF, ga, gb, if_neg (by rw [h]; decide), if_neg (by rw [h2]; decide)]
def spTurn_A : (List Dq) × Trn → List AV
  | (L, t) => [.c (.sl false (L.map dqC)), .agg (tnC t)]
def spTurn_pre : (List Dq) × Trn → Prop
  | (L, t) => TurnP L t
def spTurn_post : (List Dq) × Trn → AV → List Box → Prop
  | (L, t), r, bs => r = .tup [.c (.sl false ((((turnF L t).1)).map dqC)), I ((turnF L t).2)] ∧ bs = []
def spTurn : VE.Spec := famSpecS spTurn_A d_ldq_tn spTurn_pre spTurn_post 0 false
theorem spTurn_q : SpQ spTurn false [] true 0 (fun a i => i = [] ∧ famPre d_ldq_tn spTurn_A spTurn_pre a) (fun a i r b => famPost d_ldq_tn spTurn_post a r b) := ⟨rfl, rfl, rfl, rfl, fun _ _ => rfl, fun _ _ _ _ => rfl⟩
def tb57 : Nat → Option VE.Spec := tabOf [(87, wkIn spPop), (88, wkIn spStl)]
theorem tb57_87 : tb57 87 = some (wkIn spPop) := rfl
theorem tb57_88 : tb57 88 = some (wkIn spStl) := rfl
theorem tb57_ok : TabOK Tryz.prog rt0 tb57 := (tabOf_cons (by kernel_rfl) sat_spec_PopTile (tabOf_cons (by kernel_rfl) sat_spec_StealTile tabOf_nil))
set_option maxHeartbeats 4000000 in
theorem sat_spec_turn_0 : Sat Tryz.prog rt0 57 (wkOut spTurn) := by
  refine fn_sat hm ttok (tab := tb57) tb57_ok Tryz.func57 (c := Tryz.f57.body.getD .skip) (by kernel_rfl) (ts := [.tmp 4, .tmp 5]) (by kernel_rfl) Tryz.ntmps57 (sq := fun _ => true) (by kernel_rfl) ?_
  intro args ins pk hpre0 hpk
  obtain ⟨rfl, hpre0⟩ := hpre0
  obtain ⟨⟨L, t⟩, rfl, hpre, hdec⟩ := famPre_ex hpre0
  clear hpre0 hdec
  try simp only [spTurn_pre] at hpre
  replace hpk : pk + 0 ≤ pickLimit := hpk
  refine ⟨nle rfl, ?_⟩
  obtain ⟨a, ha⟩ : ∃ a, L[t.w.toNat]? = some a := ⟨_, List.getElem?_eq_getElem (by have := hpre.w; omega)⟩
  obtain ⟨b, hb⟩ : ∃ a, L[t.v.toNat]? = some a := ⟨_, List.getElem?_eq_getElem (by have := hpre.v; omega)⟩
  have oa := hpre.ok a (List.mem_of_getElem? ha)
  have ob := hpre.ok b (List.mem_of_getElem? hb)
  have hw := hpre.w
  have hv := hpre.v
  have hn := hpre.n
  simp (maxSteps := 1000000) only [go_sem, Tryz.f57, tb57_87, tb57_88, spTurn_q, spTurn_A, spTurn_pre, spTurn_post, spPop_q, spPop_A, spPop_pre, spPop_post, spStl_q, spStl_A, spStl_pre, spStl_post, ha, hb]
  repeat' first | apply And.intro | intro _ | omega | assumption | with_reducible rfl
  all_goals (first | ((rw [turn_1 ha ‹_›, ← List.map_set]; exact dqC_wks _); done) | ((rw [turn_1 ha ‹_›]); done) | ((rw [turn_2 ha hb ‹_› ‹_›, ← List.map_set]; exact dqC_wks _); done) | ((rw [turn_2 ha hb ‹_› ‹_›]); done) | ((rw [turn_3 ha hb ‹_› ‹_›]); done) | (skip; done))
theorem sat_spec_turn : Sat Tryz.prog rt0 57 (wkIn spTurn) := sat_in (sat_out sat_spec_turn_0)
section
theorem dqAt_0 : ∀ W, W < 5 → ∀ w, w < W → dqAt W w w = ⟨List.replicate 16 (-1), 0, 0⟩ := by decide +kernel
theorem st_0 {W w : Int} (h4 : W ≤ 4) (w0 : 0 ≤ w) (w1 : w < W) : (⟨List.replicate 16 (-1), 0, 0⟩ : Dq) = dqAt W.toNat w.toNat w.toNat := (dqAt_0 W.toNat (by omega) w.toNat (by omega)).symm
theorem st_push {W w t : Int} (h4 : W ≤ 4) (w0 : 0 ≤ w) (w1 : w < W) (t0 : 0 ≤ t) (t9 : t < 9) (hm : t.toNat % W.toNat = w.toNat) : pushD (dqAt W.toNat w.toNat t.toNat) t = dqAt W.toNat w.toNat (t + W).toNat ∧ OkD (dqAt W.toNat w.toNat t.toNat) ∧ (dqAt W.toNat w.toNat t.toNat).b < 9 := by
  obtain ⟨a, b, c⟩ := dqAt_push W.toNat (by omega) w.toNat (by omega) t.toNat (by omega) hm
  rw [show Int.ofNat t.toNat = t from Int.toNat_of_nonneg t0, show t.toNat + W.toNat = (t + W).toNat by omega] at a
  exact ⟨a, okDb_ok b, c⟩
theorem st_mod {W t : Int} (w0 : 1 ≤ W) (t0 : 0 ≤ t) : (t + W).toNat % W.toNat = t.toNat % W.toNat := by
  rw [show (t + W).toNat = t.toNat + W.toNat by omega, Nat.add_mod_right]
theorem st_end {W w t c : Int} (h4 : W ≤ 4) (w0 : 0 ≤ w) (w1 : w < W) (c0 : 0 ≤ c) (c9 : c ≤ 9) (h1 : ¬ t < c) (h2 : t < c + W) (hm : t.toNat % W.toNat = w.toNat) : dqAt W.toNat w.toNat t.toNat = dqAt W.toNat w.toNat c.toNat := dqAt_end (by omega) (by omega) (by omega) (by omega) (by omega) hm
theorem st_snoc {W w : Int} {c : Nat} (w0 : 0 ≤ w) : ((List.range w.toNat).map fun k => dqAt W.toNat k c) ++ [dqAt W.toNat w.toNat c] = (List.range (w + 1).toNat).map fun k => dqAt W.toNat k c := by
  rw [show (w + 1).toNat = w.toNat + 1 by omega, List.range_succ, List.map_append]; rfl
theorem st_fin {W w : Int} {c : Nat} (h1 : ¬ w < W) (h2 : w ≤ W) : ((List.range w.toNat).map fun k => dqAt W.toNat k c) = dqs0 W.toNat c := by
  rw [show w = W by omega]; rfl
def spStart_A : Int × Int → List AV
  | (c, W) => [I c, I W]
def spStart_pre : Int × Int → Prop
  | (c, W) => 0 ≤ c ∧ c ≤ 9 ∧ 1 ≤ W ∧ W ≤ 4
def spStart_post : Int × Int → AV → List Box → Prop
  | (c, W), r, bs => r = .c (.sl false (((dqs0 W.toNat c.toNat)).map dqC)) ∧ bs = []
def spStart : VE.Spec := famSpecS spStart_A d_i_i spStart_pre spStart_post 0 false
theorem spStart_q : SpQ spStart false [] true 0 (fun a i => i = [] ∧ famPre d_i_i spStart_A spStart_pre a) (fun a i r b => famPost d_i_i spStart_post a r b) := ⟨rfl, rfl, rfl, rfl, fun _ _ => rfl, fun _ _ _ _ => rfl⟩
def tb56 : Nat → Option VE.Spec := tabOf [(85, wkIn spNewD), (86, wkIn spPush)]
theorem tb56_85 : tb56 85 = some (wkIn spNewD) := rfl
theorem tb56_86 : tb56 86 = some (wkIn spPush) := rfl
theorem tb56_ok : TabOK Tryz.prog rt0 tb56 := (tabOf_cons (by kernel_rfl) sat_spec_NewDeque (tabOf_cons (by kernel_rfl) sat_spec_PushTile tabOf_nil))
section
attribute [local go_sem] Tryz.f56 tb56_85 tb56_86 spStart_q spStart_A spStart_pre spStart_post spNewD_q spNewD_A spNewD_pre spNewD_post spPush_q spPush_A spPush_pre spPush_post
set_option maxHeartbeats 4000000 in
theorem sat_spec_start_0 : Sat Tryz.prog rt0 56 (wkOut spStart) := by
  refine fn_sat hm ttok (tab := tb56) tb56_ok Tryz.func56 (c := Tryz.f56.body.getD .skip) (by kernel_rfl) (ts := [.tmp 4]) (by kernel_rfl) Tryz.ntmps56 (sq := fun _ => true) (by kernel_rfl) ?_
  intro args ins pk hpre0 hpk
  obtain ⟨rfl, hpre0⟩ := hpre0
  obtain ⟨⟨c, W⟩, rfl, hpre, hdec⟩ := famPre_ex hpre0
  clear hpre0 hdec
  try simp only [spStart_pre] at hpre
  replace hpk : pk + 0 ≤ pickLimit := hpk
  refine ⟨nle rfl, ?_⟩
  simp (maxSteps := 1000000) only [go_sem]
  repeat' first | apply And.intro | intro _ | omega | assumption | with_reducible rfl
  refine loopS (α := (List Dq) × Int) false [2, 3, 5, 6, 7, 8, 9, 10, 11, 12, 13, 14, 15, 16, 17, 18, 19, 20, 21, 22, 23, 24, 25, 26, 27, 28, 29, 30, 31, 32] (fun σ => [gId (σ.get 5)]) (fun σ x => [(5, .c (.own (gId (σ.get 5)) (x.1).length false)), (6, I x.2)]) (fun σ x => [(gId (σ.get 5), some ⟨(x.1).map dqC, 3, 120, true, false⟩)]) (fun (o, w) => 0) (fun σ => (gL dqCd σ (σ.get 5), gI (σ.get 6))) (fun σ τ => [(gId (σ.get 5), gId (τ.get 5))]) (fun (o, w) => (0 ≤ w ∧ w ≤ W) ∧ o = (List.range w.toNat).map fun k => dqAt W.toNat k c.toNat) (fun (o, w) => (W - w).toNat) ⟨by (simp (maxSteps := 1000000) only [go_sem]; (repeat' first | apply And.intro | intro _ | omega | assumption | with_reducible rfl); all_goals (first | omega | rfl)), ?_⟩
  rintro ⟨o, w⟩ hinv
  try dsimp only at hinv
  simp (maxSteps := 1000000) only [go_sem]
  repeat' first | apply And.intro | intro _ | omega | assumption | with_reducible rfl
  any_goals
    refine loopS (α := Dq × Int) false [2, 3, 8, 9, 10, 11, 12, 13, 14, 15, 16, 17, 18, 19, 20, 21, 22, 23, 24, 25, 26, 27, 28] (fun σ => [gId (σ.get 7)]) (fun σ x => [(8, I x.2)]) (fun σ x => [(gId (σ.get 7), some ⟨[dqC x.1], 3, 120, false, false⟩)]) (fun (d, t) => 0) (fun σ => (gA dqCd default (.agg ((boxN σ (gId (σ.get 7))).es.headD [])), gI (σ.get 8))) (fun σ τ => []) (fun (d, t) => (w ≤ t ∧ t < c + W ∧ t.toNat % W.toNat = w.toNat) ∧ d = dqAt W.toNat w.toNat t.toNat) (fun (d, t) => (c + W - t).toNat) ⟨by (simp (maxSteps := 1000000) only [go_sem]; (repeat' first | apply And.intro | intro _ | omega | assumption | with_reducible rfl); all_goals (first | omega | exact Nat.mod_eq_of_lt (by omega) | exact st_0 (by omega) (by omega) (by omega) | skip)), ?_⟩
    rintro ⟨d, t⟩ hinv
    try dsimp only at hinv
    simp (maxSteps := 1000000) only [go_sem]
    repeat' first | apply And.intro | intro _ | omega | assumption | with_reducible rfl
  all_goals (first | ((rw [hinv.2]; exact (st_push (W := W) (w := w) (t := t) (by omega) (by omega) (by omega) (by omega) (by omega) hinv.1.2.2).2.1); done) | ((rw [hinv.2]; exact (st_push (W := W) (w := w) (t := t) (by omega) (by omega) (by omega) (by omega) (by omega) hinv.1.2.2).2.2); done) | ((rw [st_mod (by omega) (by omega)]; exact hinv.1.2.2); done) | ((rw [hinv.2]; exact (st_push (W := W) (w := w) (t := t) (by omega) (by omega) (by omega) (by omega) (by omega) hinv.1.2.2).1); done) | ((have h9 := congrArg List.length (‹(0 ≤ w ∧ w ≤ W) ∧ o = _›.2); rw [List.length_map, List.length_range] at h9; omega); done) | ((rw [‹(0 ≤ w ∧ w ≤ W) ∧ o = _›.2, hinv.2, st_end (by omega) (by omega) (by omega) (by omega) (by omega) ‹¬ t < c› hinv.1.2.1 hinv.1.2.2, st_snoc (by omega)]); done) | ((rw [hinv.2]; exact st_fin (by omega) (by omega)); done) | (skip; done))
end
theorem sat_spec_start : Sat Tryz.prog rt0 56 (wkIn spStart) := sat_in (sat_out sat_spec_start_0)
end
section
structure RunP (c W : Int) (l : List Trn) : Prop where
  hc : 0 ≤ c ∧ c ≤ 9
  hW : 1 ≤ W ∧ W ≤ 4
  hl : l.length ≤ 30
  ht : ∀ t : Trn, t ∈ l → (0 ≤ t.w ∧ t.w < W) ∧ 0 ≤ t.v ∧ t.v < W
theorem tm_W {i W : Int} (h0 : 0 ≤ i) (h1 : 1 ≤ W) : (0 ≤ i.tmod W ∧ i.tmod W < W) ∧ i.tmod W = i % W := by
  rw [Int.tmod_eq_emod_of_nonneg h0]
  exact ⟨⟨Int.emod_nonneg _ (by omega), Int.emod_lt_of_pos _ (by omega)⟩, rfl⟩
theorem RunD.turnP {W c : Int} {o : List Dne} {L : List Dq} {i : Int} {t : Trn} (h : RunD W c o L i) (hw : 0 ≤ t.w ∧ t.w < W) (hv : 0 ≤ t.v ∧ t.v < W) : TurnP L t := by
  have hW := h.q.w
  rw [List.length_map] at hW
  exact ⟨h.ok, by omega, by omega, by omega⟩
theorem RunD.turnA {W c : Int} {o : List Dne} {L : List Dq} {i : Int} (h : RunD W c o L i) : TurnP L ⟨i.tmod W, (i + 1).tmod W⟩ := by
  have hW := h.q.w.2
  have h0 := h.q.i0
  exact h.turnP (tm_W h0 hW.1).1 (tm_W (by omega) hW.1).1
theorem RunD.stepA {W c : Int} {o : List Dne} {L : List Dq} {i : Int} (h : RunD W c o L i) (hlt : (o.length : Int) < c) :
    (0 ≤ (turnF L ⟨i.tmod W, (i + 1).tmod W⟩).2 → RunD W c (o ++ [⟨i.tmod W, (turnF L ⟨i.tmod W, (i + 1).tmod W⟩).2⟩]) (turnF L ⟨i.tmod W, (i + 1).tmod W⟩).1 (i + 1) ∧ msrD c (o ++ [⟨i.tmod W, (turnF L ⟨i.tmod W, (i + 1).tmod W⟩).2⟩]) (turnF L ⟨i.tmod W, (i + 1).tmod W⟩).1 (i + 1) < msrD c o L i) ∧ (¬ 0 ≤ (turnF L ⟨i.tmod W, (i + 1).tmod W⟩).2 → RunD W c o (turnF L ⟨i.tmod W, (i + 1).tmod W⟩).1 (i + 1) ∧ msrD c o (turnF L ⟨i.tmod W, (i + 1).tmod W⟩).1 (i + 1) < msrD c o L i) := by
  have hW := h.q.w.2
  have h0 := h.q.i0
  exact h.step (t := ⟨i.tmod W, (i + 1).tmod W⟩) hlt (tm_W h0 hW.1).1 (tm_W (by omega) hW.1).1 (fun _ => (tm_W h0 hW.1).2)
theorem RunD.out9 {W c : Int} {o : List Dne} {L : List Dq} {i : Int} (h : RunD W c o L i) : (o.length : Int) ≤ 9 ∧ 0 ≤ i ∧ i ≤ 400 ∧ 1 ≤ W ∧ L.length ≤ 4 := by
  have h1 := h.q.out9
  have h2 := h.q.w
  rw [List.length_map] at h1 h2
  exact ⟨h1, h.q.i0, h.q.i9, h2.2.1, by omega⟩
def spRunS_A : Int × Int × (List Trn) → List AV
  | (c, W, l) => [I c, I W, .c (.sl false (l.map tnC))]
def spRunS_pre : Int × Int × (List Trn) → Prop
  | (c, W, l) => RunP c W l
def spRunS_post : Int × Int × (List Trn) → AV → List Box → Prop
  | (c, W, l), r, bs => ∃ q : List Dne, r = .c (.own 0 q.length false) ∧ bs = [⟨q.map dnC, 2, 61, true, false⟩] ∧ Drawn c (q.map Dne.t)
def spRunS : VE.Spec := famSpec spRunS_A d_i_i_ltn spRunS_pre spRunS_post 0 false
theorem spRunS_q : SpQ spRunS false [] false 0 (fun a i => i = [] ∧ famPre d_i_i_ltn spRunS_A spRunS_pre a) (fun a i r b => famPost d_i_i_ltn spRunS_post a r b) := ⟨rfl, rfl, rfl, rfl, fun _ _ => rfl, fun _ _ _ _ => rfl⟩
def tb27 : Nat → Option VE.Spec := tabOf [(56, wkIn spStart), (57, wkIn spTurn)]
theorem tb27_56 : tb27 56 = some (wkIn spStart) := rfl
theorem tb27_57 : tb27 57 = some (wkIn spTurn) := rfl
theorem tb27_ok : TabOK Tryz.prog rt0 tb27 := (tabOf_cons (by kernel_rfl) sat_spec_start (tabOf_cons (by kernel_rfl) sat_spec_turn tabOf_nil))
section
attribute [local go_sem] Tryz.f27 tb27_56 tb27_57 spRunS_q spRunS_A spRunS_pre spRunS_post spStart_q spStart_A spStart_pre spStart_post spTurn_q spTurn_A spTurn_pre spTurn_post
set_option maxHeartbeats 4000000 in
theorem sat_spec_run_0 : Sat Tryz.prog rt0 27 (wkOut spRunS) := by
  refine fn_sat hm ttok (tab := tb27) tb27_ok Tryz.func27 (c := Tryz.f27.body.getD .skip) (by kernel_rfl) (ts := [.tmp 6]) (by kernel_rfl) Tryz.ntmps27 (sq := fun _ => true) (by kernel_rfl) ?_
  intro args ins pk hpre0 hpk
  obtain ⟨rfl, hpre0⟩ := hpre0
  obtain ⟨⟨c, W, l⟩, rfl, hpre, hdec⟩ := famPre_ex hpre0
  clear hpre0 hdec
  try simp only [spRunS_pre] at hpre
  replace hpk : pk + 0 ≤ pickLimit := hpk
  refine ⟨nle rfl, ?_⟩
  have hc1 := hpre.hc
  have hc2 := hpre.hW
  have hc3 := hpre.hl
  simp (maxSteps := 1000000) only [go_sem]
  repeat' first | apply And.intro | intro _ | omega | assumption | with_reducible rfl
  refine loopS (α := (List Dne) × (List Dq) × Int) false [3, 4, 5, 7, 8, 9, 10, 11, 12, 13, 14, 15, 16, 17, 18, 19, 20, 21, 22, 23, 24, 25, 26, 27, 28, 29, 30, 31, 32, 33, 34, 35, 36, 37, 38, 39, 40, 41, 42, 43, 44, 45, 46, 47, 48, 49, 50, 51, 52, 53, 54] (fun σ => [gId (σ.get 7)]) (fun σ x => [(7, .c (.own (gId (σ.get 7)) (x.1).length false)), (8, .c (.sl false (x.2.1.map dqC))), (9, I x.2.2)]) (fun σ x => [(gId (σ.get 7), some ⟨(x.1).map dnC, 2, 61, true, false⟩)]) (fun (o, L, i) => 0) (fun σ => (gL dnCd σ (σ.get 7), gL dqCd σ (σ.get 8), gI (σ.get 9))) (fun σ τ => [(gId (σ.get 7), gId (τ.get 7))]) (fun (o, L, i) => 0 ≤ i ∧ RunD W c o L i) (fun (o, L, i) => msrD c o L i) ⟨by (simp (maxSteps := 1000000) only [go_sem]; (repeat' first | apply And.intro | intro _ | omega | assumption | with_reducible rfl); all_goals (first | omega | exact runD0 hpre.hW.1 hpre.hW.2 hpre.hc.1 hpre.hc.2 | skip)), ?_⟩
  rintro ⟨o, L, i⟩ hinv
  try dsimp only at hinv
  rcases elemAt l i (by omega) with ⟨hlt, x, hk⟩ | hlt
  all_goals (first | ((have hlt2 := of_eq_true hlt); (have hx := hpre.ht x (List.mem_of_getElem? hk)); (have hf := hinv.2.out9); (have hL := hpre.hl); all_goals simp (maxSteps := 1000000) only [go_sem, hlt, hk]) | (have hlt2 := of_eq_false hlt; simp (maxSteps := 1000000) only [go_sem, hlt]))
  all_goals
    repeat' first | apply And.intro | intro _ | omega | assumption | with_reducible rfl
  all_goals (first | (exact hinv.2.turnP hx.1 hx.2) | (exact hinv.2.turnA) | (exact ((hinv.2.step (t := x) ‹(o.length : Int) < c› hx.1 hx.2 (fun _ => by omega)).1 ‹_›).1) | (exact ((hinv.2.step (t := x) ‹(o.length : Int) < c› hx.1 hx.2 (fun _ => by omega)).1 ‹_›).2) | (exact ((hinv.2.step (t := x) ‹(o.length : Int) < c› hx.1 hx.2 (fun _ => by omega)).2 ‹_›).1) | (exact ((hinv.2.step (t := x) ‹(o.length : Int) < c› hx.1 hx.2 (fun _ => by omega)).2 ‹_›).2) | (exact ((hinv.2.stepA ‹(o.length : Int) < c›).1 ‹_›).1) | (exact ((hinv.2.stepA ‹(o.length : Int) < c›).1 ‹_›).2) | (exact ((hinv.2.stepA ‹(o.length : Int) < c›).2 ‹_›).1) | (exact ((hinv.2.stepA ‹(o.length : Int) < c›).2 ‹_›).2) | (exact ⟨o, rfl, rfl, hinv.2.q.fin (by rw [List.length_map]; assumption)⟩; done) | ((have hf := hinv.2.out9; omega); done) | (skip; done))
end
theorem sat_spec_run : Sat Tryz.prog rt0 27 (wkIn spRunS) := sat_in (sat_out sat_spec_run_0)
end
section
def okT (W : Int) (t : Trn) : Bool := decide (0 ≤ t.w ∧ t.w ≤ W - 1) && decide (0 ≤ t.v ∧ t.v ≤ W - 1)
def vTs (W : Int) (l : List Trn) : Bool := l.all (okT W) && decide (1 ≤ W ∧ W ≤ 4) && decide ((l.length : Int) ≤ 30)
theorem tdrop {l : List Trn} {W i : Int} (h : ¬ i < (l.length : Int)) (h2 : (l.take i.toNat).all (okT W) = true) : l.all (okT W) = true := by rwa [takeA (by omega)] at h2
def spVTs_A : Int × (List Trn) → List AV
  | (W, l) => [I W, .c (.sl false (l.map tnC))]
def spVTs_pre : Int × (List Trn) → Prop
  | (W, l) => (-1000 ≤ W ∧ W ≤ 1000) ∧ l.length ≤ 1000000
def spVTs_post : Int × (List Trn) → AV → List Box → Prop
  | (W, l), r, bs => r = B (vTs W l) ∧ bs = []
def spVTs : VE.Spec := famSpec spVTs_A d_i_ltn spVTs_pre spVTs_post 0 true
theorem spVTs_q : SpQ spVTs true [] false 0 (fun a i => i = [] ∧ famPre d_i_ltn spVTs_A spVTs_pre a) (fun a i r b => famPost d_i_ltn spVTs_post a r b) := ⟨rfl, rfl, rfl, rfl, fun _ _ => rfl, fun _ _ _ _ => rfl⟩
def tb25 : Nat → Option VE.Spec := tabOf [(35, wkIn spIn)]
theorem tb25_35 : tb25 35 = some (wkIn spIn) := rfl
theorem tb25_ok : TabOK Tryz.prog rt0 tb25 := (tabOf_cons (by kernel_rfl) sat_spec_inRange tabOf_nil)
section
attribute [local go_sem] Tryz.f25 tb25_35 spVTs_q spVTs_A spVTs_pre spVTs_post spIn_q spIn_A spIn_pre spIn_post
set_option maxHeartbeats 4000000 in
theorem sat_spec_validTurns_0 : Sat Tryz.prog rt0 25 (wkOut spVTs) := by
  refine fn_sat hm ttok (tab := tb25) tb25_ok Tryz.func25 (c := Tryz.f25.body.getD .skip) (by kernel_rfl) (ts := [.tmp 4]) (by kernel_rfl) Tryz.ntmps25 (sq := fun _ => true) (by kernel_rfl) ?_
  intro args ins pk hpre0 hpk
  obtain ⟨rfl, hpre0⟩ := hpre0
  obtain ⟨⟨W, l⟩, rfl, hpre, hdec⟩ := famPre_ex hpre0
  clear hpre0 hdec
  try simp only [spVTs_pre] at hpre
  replace hpk : pk + 0 ≤ pickLimit := hpk
  refine ⟨nle rfl, ?_⟩
  simp (maxSteps := 1000000) only [go_sem]
  repeat' first | apply And.intro | intro _ | omega | assumption | with_reducible rfl
  refine loopS (α := Int) false [2, 3, 4, 5, 6, 7, 8, 9, 10, 11, 12, 13, 14, 15, 16, 17, 18, 19, 20, 21, 22, 23, 24, 25, 26, 27, 28, 29, 30, 31] (fun σ => []) (fun σ x => [(5, I x)]) (fun σ x => []) (fun i => 0) (fun σ => gI (σ.get 5)) (fun σ τ => []) (fun i => 0 ≤ i ∧ i ≤ l.length ∧ (l.take i.toNat).all (okT W) = true) (fun i => (l.length - i).toNat) ⟨by (simp (maxSteps := 1000000) only [go_sem]; (repeat' first | apply And.intro | intro _ | omega | assumption | with_reducible rfl)), ?_⟩
  rintro i hinv
  try dsimp only at hinv
  rcases elemAt l i (by omega) with ⟨hlt, x, hk⟩ | hlt
  all_goals (first | ((have hlt2 := of_eq_true hlt); all_goals simp (maxSteps := 1000000) only [go_sem, hlt, hk]) | (have hlt2 := of_eq_false hlt; simp (maxSteps := 1000000) only [go_sem, hlt]))
  all_goals
    repeat' first | apply And.intro | intro _ | omega | assumption | with_reducible rfl
  all_goals (first | ((rw [takeN hk hinv.1, List.all_append, hinv.2.2]; simp [okT, *]); done) | ((rw [vTs, all_bad hk (by simp only [okT, Bool.and_eq_false_iff, decide_eq_false_iff_not]; omega)]; rfl); done) | ((rw [vTs, tdrop hlt2 hinv.2.2, decide_eq_true (show 1 ≤ W ∧ W ≤ 4 from ⟨‹_›, ‹_›⟩)]; simp); done) | ((rw [vTs, decide_eq_false ‹¬ (1 ≤ W ∧ W ≤ 4)›]; simp); done) | (skip; done))
end
theorem sat_spec_validTurns : Sat Tryz.prog rt0 25 (wkIn spVTs) := sat_in (sat_out sat_spec_validTurns_0)
def spWV1_A : Trn × Int → List AV
  | (t, W) => [.agg (tnC t), .c (.rp ([C.v (.int .i64 W)]))]
def spWV1_pre : Trn × Int → Prop
  | (t, W) => -1000 ≤ W ∧ W ≤ 1000
def spWV1_post : Trn × Int → AV → List Box → Prop
  | (t, W), r, bs => r = B (!okT W t) ∧ bs = []
def spWV1 : VE.Spec := famSpec spWV1_A d_tn_qi spWV1_pre spWV1_post 0 true
theorem spWV1_q : SpQ spWV1 true [] false 0 (fun a i => i = [] ∧ famPre d_tn_qi spWV1_A spWV1_pre a) (fun a i r b => famPost d_tn_qi spWV1_post a r b) := ⟨rfl, rfl, rfl, rfl, fun _ _ => rfl, fun _ _ _ _ => rfl⟩
def tb50 : Nat → Option VE.Spec := tabOf [(48, wkIn spIn)]
theorem tb50_48 : tb50 48 = some (wkIn spIn) := rfl
theorem tb50_ok : TabOK Tryz.prog rt0 tb50 := (tabOf_cons (by kernel_rfl) sat_impl_in tabOf_nil)
set_option maxHeartbeats 4000000 in
theorem sat_impl_workValid_1_0 : Sat Tryz.prog rt0 50 (wkOut spWV1) := by
  refine fn_sat hm ttok (tab := tb50) tb50_ok Tryz.func50 (c := Tryz.f50.body.getD .skip) (by kernel_rfl) (ts := [.tmp 3]) (by kernel_rfl) Tryz.ntmps50 (sq := fun _ => true) (by kernel_rfl) ?_
  intro args ins pk hpre0 hpk
  obtain ⟨rfl, hpre0⟩ := hpre0
  obtain ⟨⟨t, W⟩, rfl, hpre, hdec⟩ := famPre_ex hpre0
  clear hpre0 hdec
  try simp only [spWV1_pre] at hpre
  replace hpk : pk + 0 ≤ pickLimit := hpk
  refine ⟨nle rfl, ?_⟩
  simp (maxSteps := 1000000) only [go_sem, Tryz.f50, tb50_48, spWV1_q, spWV1_A, spWV1_pre, spWV1_post, spIn_q, spIn_A, spIn_pre, spIn_post, okT]
  repeat' first | apply And.intro | intro _ | omega | assumption | with_reducible rfl
  all_goals (first | (simp_all [okT]; done) | (grind [okT]; done) | (skip; done))
theorem sat_impl_workValid_1 : Sat Tryz.prog rt0 50 (wkIn spWV1) := sat_in (sat_out sat_impl_workValid_1_0)
def spIxT_A : (List Trn) × Int → List AV
  | (l, W) => [.c (.sl false (l.map tnC)), .c (.fn 50 [.rp ([C.v (.int .i64 W)])])]
def spIxT_pre : (List Trn) × Int → Prop
  | (l, W) => l.length ≤ 1000000 ∧ -1000 ≤ W ∧ W ≤ 1000
def spIxT_post : (List Trn) × Int → AV → List Box → Prop
  | (l, W), r, bs => ∃ m, r = I m ∧ bs = [] ∧ decide (0 ≤ m) = (!l.all (okT W))
def spIxT : VE.Spec := famSpec spIxT_A d_ltn_f50qi spIxT_pre spIxT_post 0 true
theorem spIxT_q : SpQ spIxT true [] false 0 (fun a i => i = [] ∧ famPre d_ltn_f50qi spIxT_A spIxT_pre a) (fun a i r b => famPost d_ltn_f50qi spIxT_post a r b) := ⟨rfl, rfl, rfl, rfl, fun _ _ => rfl, fun _ _ _ _ => rfl⟩
def tb80 : Nat → Option VE.Spec := tabOf [(50, wkIn spWV1)]
theorem tb80_50 : tb80 50 = some (wkIn spWV1) := rfl
theorem tb80_ok : TabOK Tryz.prog rt0 tb80 := (tabOf_cons (by kernel_rfl) sat_impl_workValid_1 tabOf_nil)
section
attribute [local go_sem] Tryz.f80 tb80_50 spIxT_q spIxT_A spIxT_pre spIxT_post spWV1_q spWV1_A spWV1_pre spWV1_post
set_option maxHeartbeats 4000000 in
theorem sat_slices_IndexFunc_impl_Turn_impl_Turn_0 : Sat Tryz.prog rt0 80 (wkOut spIxT) := by
  refine fn_sat hm ttok (tab := tb80) tb80_ok Tryz.func80 (c := Tryz.f80.body.getD .skip) (by kernel_rfl) (ts := [.tmp 4]) (by kernel_rfl) Tryz.ntmps80 (sq := fun _ => true) (by kernel_rfl) ?_
  intro args ins pk hpre0 hpk
  obtain ⟨rfl, hpre0⟩ := hpre0
  obtain ⟨⟨l, W⟩, rfl, hpre, hdec⟩ := famPre_ex hpre0
  clear hpre0 hdec
  try simp only [spIxT_pre] at hpre
  replace hpk : pk + 0 ≤ pickLimit := hpk
  refine ⟨nle rfl, ?_⟩
  simp (maxSteps := 1000000) only [go_sem]
  repeat' first | apply And.intro | intro _ | omega | assumption | with_reducible rfl
  refine loopS (α := Int) false [2, 3, 4, 5, 6, 8, 9, 10, 11, 12, 13, 14, 15, 16, 17, 18] (fun σ => []) (fun σ x => [(8, I x)]) (fun σ x => []) (fun i => 0) (fun σ => gI (σ.get 8)) (fun σ τ => []) (fun i => 0 ≤ i ∧ i ≤ l.length ∧ (l.take i.toNat).all (okT W) = true) (fun i => (l.length - i).toNat) ⟨by (simp (maxSteps := 1000000) only [go_sem]; (repeat' first | apply And.intro | intro _ | omega | assumption | with_reducible rfl)), ?_⟩
  rintro i hinv
  try dsimp only at hinv
  simp (maxSteps := 1000000) only [go_sem]
  repeat' first | apply And.intro | intro _ | omega | assumption | with_reducible rfl
  all_goals (first | (grind [→ takeN, takeA, all_bad]; done) | (skip; done))
end
theorem sat_slices_IndexFunc_impl_Turn_impl_Turn : Sat Tryz.prog rt0 80 (wkIn spIxT) := sat_in (sat_out sat_slices_IndexFunc_impl_Turn_impl_Turn_0)
def spCtT_A : (List Trn) × Int → List AV
  | (l, W) => [.c (.sl false (l.map tnC)), .c (.fn 50 [.rp ([C.v (.int .i64 W)])])]
def spCtT_pre : (List Trn) × Int → Prop
  | (l, W) => l.length ≤ 1000000 ∧ -1000 ≤ W ∧ W ≤ 1000
def spCtT_post : (List Trn) × Int → AV → List Box → Prop
  | (l, W), r, bs => r = B (!l.all (okT W)) ∧ bs = []
def spCtT : VE.Spec := famSpec spCtT_A d_ltn_f50qi spCtT_pre spCtT_post 0 true
theorem spCtT_q : SpQ spCtT true [] false 0 (fun a i => i = [] ∧ famPre d_ltn_f50qi spCtT_A spCtT_pre a) (fun a i r b => famPost d_ltn_f50qi spCtT_post a r b) := ⟨rfl, rfl, rfl, rfl, fun _ _ => rfl, fun _ _ _ _ => rfl⟩
def tb49 : Nat → Option VE.Spec := tabOf [(80, wkIn spIxT)]
theorem tb49_80 : tb49 80 = some (wkIn spIxT) := rfl
theorem tb49_ok : TabOK Tryz.prog rt0 tb49 := (tabOf_cons (by kernel_rfl) sat_slices_IndexFunc_impl_Turn_impl_Turn tabOf_nil)
set_option maxHeartbeats 4000000 in
theorem sat_slices_ContainsFunc_impl_Turn_impl_Turn_0 : Sat Tryz.prog rt0 49 (wkOut spCtT) := by
  refine fn_sat hm ttok (tab := tb49) tb49_ok Tryz.func49 (c := Tryz.f49.body.getD .skip) (by kernel_rfl) (ts := [.tmp 4]) (by kernel_rfl) Tryz.ntmps49 (sq := fun _ => true) (by kernel_rfl) ?_
  intro args ins pk hpre0 hpk
  obtain ⟨rfl, hpre0⟩ := hpre0
  obtain ⟨⟨l, W⟩, rfl, hpre, hdec⟩ := famPre_ex hpre0
  clear hpre0 hdec
  try simp only [spCtT_pre] at hpre
  replace hpk : pk + 0 ≤ pickLimit := hpk
  refine ⟨nle rfl, ?_⟩
  simp (maxSteps := 1000000) only [go_sem, Tryz.f49, tb49_80, spCtT_q, spCtT_A, spCtT_pre, spCtT_post, spIxT_q, spIxT_A, spIxT_pre, spIxT_post]
  repeat' first | apply And.intro | intro _ | omega | assumption | with_reducible rfl
  all_goals (first | (grind; done) | (skip; done))
theorem sat_slices_ContainsFunc_impl_Turn_impl_Turn : Sat Tryz.prog rt0 49 (wkIn spCtT) := sat_in (sat_out sat_slices_ContainsFunc_impl_Turn_impl_Turn_0)
end
def spWVd_A : Int × Int × (List Trn) → List AV
  | (c, W, l) => [I c, I W, .c (.sl false (l.map tnC))]
def spWVd_pre : Int × Int × (List Trn) → Prop
  | (c, W, l) => (0 ≤ c ∧ c ≤ 16) ∧ (-1000 ≤ W ∧ W ≤ 1000) ∧ l.length ≤ 1000000
def spWVd_post : Int × Int × (List Trn) → AV → List Box → Prop
  | (c, W, l), r, bs => r = B (vTs W l) ∧ bs = []
def spWVd : VE.Spec := famSpec spWVd_A d_i_i_ltn spWVd_pre spWVd_post 0 false
theorem spWVd_q : SpQ spWVd false [] false 0 (fun a i => i = [] ∧ famPre d_i_i_ltn spWVd_A spWVd_pre a) (fun a i r b => famPost d_i_i_ltn spWVd_post a r b) := ⟨rfl, rfl, rfl, rfl, fun _ _ => rfl, fun _ _ _ _ => rfl⟩
def tb19 : Nat → Option VE.Spec := tabOf [(48, wkIn spIn), (49, wkIn spCtT)]
theorem tb19_48 : tb19 48 = some (wkIn spIn) := rfl
theorem tb19_49 : tb19 49 = some (wkIn spCtT) := rfl
theorem tb19_ok : TabOK Tryz.prog rt0 tb19 := (tabOf_cons (by kernel_rfl) sat_impl_in (tabOf_cons (by kernel_rfl) sat_slices_ContainsFunc_impl_Turn_impl_Turn tabOf_nil))
set_option maxHeartbeats 4000000 in
theorem sat_impl_workValid_0 : Sat Tryz.prog rt0 19 (wkOut spWVd) := by
  refine fn_sat hm ttok (tab := tb19) tb19_ok Tryz.func19 (c := Tryz.f19.body.getD .skip) (by kernel_rfl) (ts := [.tmp 6]) (by kernel_rfl) Tryz.ntmps19 (sq := fun _ => true) (by kernel_rfl) ?_
  intro args ins pk hpre0 hpk
  obtain ⟨rfl, hpre0⟩ := hpre0
  obtain ⟨⟨c, W, l⟩, rfl, hpre, hdec⟩ := famPre_ex hpre0
  clear hpre0 hdec
  try simp only [spWVd_pre] at hpre
  replace hpk : pk + 0 ≤ pickLimit := hpk
  refine ⟨nle rfl, ?_⟩
  simp (maxSteps := 1000000) only [go_sem, Tryz.f19, tb19_48, tb19_49, spWVd_q, spWVd_A, spWVd_pre, spWVd_post, spIn_q, spIn_A, spIn_pre, spIn_post, spCtT_q, spCtT_A, spCtT_pre, spCtT_post, vTs]
  repeat' first | apply And.intro | intro _ | omega | assumption | with_reducible rfl
  all_goals (first | (simp_all [vTs]; done) | (grind [vTs]; done) | (skip; done))
theorem sat_impl_workValid : Sat Tryz.prog rt0 19 (wkIn spWVd) := sat_in (sat_out sat_impl_workValid_0)
def spClipD_A : List Dne → List AV := fun l => [.c (.own 0 l.length false)]
def spClipD_B : List Dne → List Box := fun l => [⟨l.map dnC, 2, 61, true, false⟩]
def spClipD_d : List AV → List Box → Option (List Dne)
  | [.c (.own 0 _ false)], [⟨es, _, _, _, _⟩] => decAll dnCd es
  | _, _ => none
def spClipD_pre : List Dne → Prop := fun l => l.length ≤ 1000000000
def spClipD_post : List Dne → AV → List Box → Prop := fun l r bs => r = .c (.own 0 (l).length false) ∧ bs = [⟨(l).map dnC, 2, 61, true, false⟩]
def spClipD : VE.Spec := famSpecM spClipD_A spClipD_B spClipD_d spClipD_pre spClipD_post 0 false [true] false
theorem spClipD_q : SpQ spClipD false [true] false 0 (fun a i => famPreM spClipD_d spClipD_A spClipD_B spClipD_pre a i) (fun a i r b => famPostM spClipD_d spClipD_post a i r b) := ⟨rfl, rfl, rfl, rfl, fun _ _ => rfl, fun _ _ _ _ => rfl⟩
def tb52 : Nat → Option VE.Spec := tabOf []
theorem tb52_ok : TabOK Tryz.prog rt0 tb52 := tabOf_nil
set_option maxHeartbeats 4000000 in
theorem sat_slices_Clip_impl_Done_impl_Done_0 : Sat Tryz.prog rt0 52 (wkOut spClipD) := by
  refine fn_sat hm ttok (tab := tb52) tb52_ok Tryz.func52 (c := Tryz.f52.body.getD .skip) (by kernel_rfl) (ts := [.tmp 2]) (by kernel_rfl) Tryz.ntmps52 (sq := fun _ => true) (by kernel_rfl) ?_
  intro args ins pk hpre0 hpk
  obtain ⟨l, rfl, rfl, hpre, hdec⟩ := famPreM_ex hpre0
  clear hpre0 hdec
  try simp only [spClipD_pre] at hpre
  replace hpk : pk + 0 ≤ pickLimit := hpk
  refine ⟨nle rfl, ?_⟩
  simp (maxSteps := 1000000) only [go_sem, Tryz.f52, spClipD_q, spClipD_A, spClipD_B, spClipD_d, spClipD_pre, spClipD_post]
  repeat' first | apply And.intro | intro _ | omega | assumption | with_reducible rfl
  all_goals (first | omega | (skip; done))
theorem sat_slices_Clip_impl_Done_impl_Done : Sat Tryz.prog rt0 52 (wkIn spClipD) := sat_in (sat_out sat_slices_Clip_impl_Done_impl_Done_0)
end Go.Proofs.YtcejoknapbhloaaGreat
