/- Contracts of functions of the program vectorraster, each proved for all states that fit its description. No conditions. -/
import Derived.Test.YthphndhiacikaaaGreatDoorT3KY
import Derived.Test.YthphndhiacikaaaGreatDoorKS
set_option linter.unusedSimpArgs false
set_option linter.unusedVariables false
set_option maxRecDepth 100000
namespace Go.Proofs.YthphndhiacikaaaGreatDoor
open Go Go.VE
structure Ses where
  s : Scn
  c : Colr
  l : Int
deriving DecidableEq, Inhabited
def seC (x : Ses) : List C := scC x.s ++ (coC x.c ++ ([C.v (.int .i64 x.l)]))
def seCd : List C → Option Ses
  | [.v (.int .i64 s0_w), .v (.int .i64 s0_h), .sl _ s0_fs, .v (.int .i64 c0_r), .v (.int .i64 c0_g), .v (.int .i64 c0_b), .v (.int .i64 c0_a), .v (.int .i64 l0)] => match decAll flCd s0_fs with
    | some s0_fsL => some ⟨⟨s0_w, s0_h, s0_fsL⟩, ⟨c0_r, c0_g, c0_b, c0_a⟩, l0⟩
    | _ => none
  | _ => none
theorem seC_dec (k : Ses) : seCd (seC k) = some k := by
  simp [seC, seCd, flC_ds, scC, coC]
theorem seC_wk (k : Ses) : wkCs (seC k) = seC k := by simp [seC, wkCs, wkC, List.cons_append, List.nil_append, scC, flC_wks, coC]
theorem seC_wks (l : List Ses) : wkEs (l.map seC) = l.map seC := by simp [wkEs_map, seC_wk]
theorem seC_ds (l : List Ses) : decAll seCd (l.map seC) = some l := decAll_map (g := seC) seC_dec l
theorem seC_len (k : Ses) : (seC k).length = 8 := rfl
theorem seC_takeN (k : Ses) : List.take 8 (seC k) = seC k := rfl
theorem seC_takeA (k : Ses) (l : List C) : List.take 8 (seC k ++ l) = seC k := rfl
theorem seC_dropA (k : Ses) (l : List C) : List.drop 8 (seC k ++ l) = l := rfl
theorem seC_takeB (k : Ses) (m : Nat) (l : List C) : List.take (m + 8) (seC k ++ l) = seC k ++ List.take m l := rfl
theorem seC_dropB (k : Ses) (m : Nat) (l : List C) : List.drop (m + 8) (seC k ++ l) = List.drop m l := rfl
theorem seC_dropN (k : Ses) : List.drop 8 (seC k) = [] := rfl
theorem seC_all (l : List Ses) : (∀ e ∈ l.map seC, e.length = 8) = True := all_len seC_len l
theorem seC_strip (k : Ses) : List.map strip (seC k) = seC k := rfl
theorem seC_seal (s : St) (k : Ses) : List.map (sealC s) (seC k) = seC k := rfl
theorem seC_ren (s : St) (i : List Nat) (k : Ses) : List.map (renC s i) (seC k) = seC k := rfl
theorem seC_exp (s : St) (i : List Nat) (k : Ses) : List.map (expC s i) (seC k) = seC k := rfl
theorem seC_map (f : Nat → Nat) (k : Ses) : List.map (mapC f) (seC k) = seC k := rfl
theorem seC_gat (s : St) (i : List Nat) (k : Ses) : gather s 64 i (seC k) = i := rfl
theorem seC_rok (s : St) (l i : List Nat) (k : Ses) : renOks s l i (seC k) = True := eq_true (by repeat' constructor)
theorem seC_row (k : Ses) : rowIds (seC k) = [] := rfl
theorem seC_eok (s : St) (i : List Nat) (k : Ses) : expOks s i (seC k) = True := eq_true (by repeat' constructor)
theorem seC_sok (s : St) (k : Ses) : sealOks s (seC k) = True := eq_true (by repeat' constructor)
theorem seC_okR (k : Ses) : okRs (seC k) = True := eq_true (by repeat' constructor)
theorem seC_okC (k : Ses) : okCs (seC k) = True := eq_true (by repeat' constructor)
theorem seC_okR0 (k : Ses) : okR0s (seC k) = True := eq_true (by repeat' constructor)
theorem seC_inj (a b : Ses) : (seC a = seC b) = (a = b) := by
  refine propext ⟨fun h => ?_, fun h => by rw [h]⟩
  have := congrArg seCd h
  rw [seC_dec, seC_dec] at this
  exact Option.some.inj this
theorem seC_minj (a b : List Ses) : (a.map seC = b.map seC) = (a = b) := by
  refine propext ⟨fun h => ?_, fun h => by rw [h]⟩
  have := congrArg (decAll seCd) h
  rw [seC_ds, seC_ds] at this
  exact Option.some.inj this
theorem seC_le (s : St) (ρ : List (Nat × Nat)) (hp : List (Nat × Option Box)) (k : Ses) : leCs s ρ hp (seC k) (seC k) = True := eq_true (by repeat' first | constructor | (intro h; cases h))
theorem seC_fold (s1 : Scn) (c1 : Colr) (l1 : Int) : scC s1 ++ (coC c1 ++ ([C.v (.int .i64 l1)])) = seC ⟨s1, c1, l1⟩ := rfl
theorem seC_t1 (k : Ses) : List.take 1 (seC k) = [C.v (.int .i64 k.s.w)] := rfl
theorem seC_d1 (k : Ses) : List.drop 1 (seC k) = C.v (.int .i64 k.s.h) :: (C.sl false (k.s.fs.map flC) :: (coC k.c ++ ([C.v (.int .i64 k.l)]))) := rfl
theorem seC_t2 (k : Ses) : List.take 2 (seC k) = C.v (.int .i64 k.s.w) :: [C.v (.int .i64 k.s.h)] := rfl
theorem seC_d2 (k : Ses) : List.drop 2 (seC k) = C.sl false (k.s.fs.map flC) :: (coC k.c ++ ([C.v (.int .i64 k.l)])) := rfl
theorem seC_t3 (k : Ses) : List.take 3 (seC k) = scC k.s := rfl
theorem seC_d3 (k : Ses) : List.drop 3 (seC k) = coC k.c ++ ([C.v (.int .i64 k.l)]) := rfl
theorem seC_t4 (k : Ses) : List.take 4 (seC k) = scC k.s ++ ([C.v (.int .i64 k.c.r)]) := rfl
theorem seC_d4 (k : Ses) : List.drop 4 (seC k) = C.v (.int .i64 k.c.g) :: C.v (.int .i64 k.c.b) :: C.v (.int .i64 k.c.a) :: [C.v (.int .i64 k.l)] := rfl
theorem seC_t5 (k : Ses) : List.take 5 (seC k) = scC k.s ++ (C.v (.int .i64 k.c.r) :: [C.v (.int .i64 k.c.g)]) := rfl
theorem seC_d5 (k : Ses) : List.drop 5 (seC k) = C.v (.int .i64 k.c.b) :: C.v (.int .i64 k.c.a) :: [C.v (.int .i64 k.l)] := rfl
theorem seC_t6 (k : Ses) : List.take 6 (seC k) = scC k.s ++ (C.v (.int .i64 k.c.r) :: C.v (.int .i64 k.c.g) :: [C.v (.int .i64 k.c.b)]) := rfl
theorem seC_d6 (k : Ses) : List.drop 6 (seC k) = C.v (.int .i64 k.c.a) :: [C.v (.int .i64 k.l)] := rfl
theorem seC_t7 (k : Ses) : List.take 7 (seC k) = scC k.s ++ (coC k.c) := rfl
theorem seC_d7 (k : Ses) : List.drop 7 (seC k) = [C.v (.int .i64 k.l)] := rfl
structure Dsk where
  s : Scn
  l : Int
  c : Colr
deriving DecidableEq, Inhabited
def dkC (x : Dsk) : List C := scC x.s ++ (C.v (.int .i64 x.l) :: coC x.c)
def dkCd : List C → Option Dsk
  | [.v (.int .i64 s0_w), .v (.int .i64 s0_h), .sl _ s0_fs, .v (.int .i64 l0), .v (.int .i64 c0_r), .v (.int .i64 c0_g), .v (.int .i64 c0_b), .v (.int .i64 c0_a)] => match decAll flCd s0_fs with
    | some s0_fsL => some ⟨⟨s0_w, s0_h, s0_fsL⟩, l0, ⟨c0_r, c0_g, c0_b, c0_a⟩⟩
    | _ => none
  | _ => none
theorem dkC_dec (k : Dsk) : dkCd (dkC k) = some k := by
  simp [dkC, dkCd, flC_ds, scC, coC]
theorem dkC_wk (k : Dsk) : wkCs (dkC k) = dkC k := by simp [dkC, wkCs, wkC, List.cons_append, List.nil_append, scC, flC_wks, coC]
theorem dkC_wks (l : List Dsk) : wkEs (l.map dkC) = l.map dkC := by simp [wkEs_map, dkC_wk]
theorem dkC_ds (l : List Dsk) : decAll dkCd (l.map dkC) = some l := decAll_map (g := dkC) dkC_dec l
theorem dkC_len (k : Dsk) : (dkC k).length = 8 := rfl
theorem dkC_takeN (k : Dsk) : List.take 8 (dkC k) = dkC k := rfl
theorem dkC_takeA (k : Dsk) (l : List C) : List.take 8 (dkC k ++ l) = dkC k := rfl
theorem dkC_dropA (k : Dsk) (l : List C) : List.drop 8 (dkC k ++ l) = l := rfl
theorem dkC_takeB (k : Dsk) (m : Nat) (l : List C) : List.take (m + 8) (dkC k ++ l) = dkC k ++ List.take m l := rfl
theorem dkC_dropB (k : Dsk) (m : Nat) (l : List C) : List.drop (m + 8) (dkC k ++ l) = List.drop m l := rfl
theorem dkC_dropN (k : Dsk) : List.drop 8 (dkC k) = [] := rfl
theorem dkC_all (l : List Dsk) : (∀ e ∈ l.map dkC, e.length = 8) = True := all_len dkC_len l
theorem dkC_strip (k : Dsk) : List.map strip (dkC k) = dkC k := rfl
theorem dkC_seal (s : St) (k : Dsk) : List.map (sealC s) (dkC k) = dkC k := rfl
theorem dkC_ren (s : St) (i : List Nat) (k : Dsk) : List.map (renC s i) (dkC k) = dkC k := rfl
theorem dkC_exp (s : St) (i : List Nat) (k : Dsk) : List.map (expC s i) (dkC k) = dkC k := rfl
theorem dkC_map (f : Nat → Nat) (k : Dsk) : List.map (mapC f) (dkC k) = dkC k := rfl
theorem dkC_gat (s : St) (i : List Nat) (k : Dsk) : gather s 64 i (dkC k) = i := rfl
theorem dkC_rok (s : St) (l i : List Nat) (k : Dsk) : renOks s l i (dkC k) = True := eq_true (by repeat' constructor)
theorem dkC_row (k : Dsk) : rowIds (dkC k) = [] := rfl
theorem dkC_eok (s : St) (i : List Nat) (k : Dsk) : expOks s i (dkC k) = True := eq_true (by repeat' constructor)
theorem dkC_sok (s : St) (k : Dsk) : sealOks s (dkC k) = True := eq_true (by repeat' constructor)
theorem dkC_okR (k : Dsk) : okRs (dkC k) = True := eq_true (by repeat' constructor)
theorem dkC_okC (k : Dsk) : okCs (dkC k) = True := eq_true (by repeat' constructor)
theorem dkC_okR0 (k : Dsk) : okR0s (dkC k) = True := eq_true (by repeat' constructor)
theorem dkC_inj (a b : Dsk) : (dkC a = dkC b) = (a = b) := by
  refine propext ⟨fun h => ?_, fun h => by rw [h]⟩
  have := congrArg dkCd h
  rw [dkC_dec, dkC_dec] at this
  exact Option.some.inj this
theorem dkC_minj (a b : List Dsk) : (a.map dkC = b.map dkC) = (a = b) := by
  refine propext ⟨fun h => ?_, fun h => by rw [h]⟩
  have := congrArg (decAll dkCd) h
  rw [dkC_ds, dkC_ds] at this
  exact Option.some.inj this
theorem dkC_le (s : St) (ρ : List (Nat × Nat)) (hp : List (Nat × Option Box)) (k : Dsk) : leCs s ρ hp (dkC k) (dkC k) = True := eq_true (by repeat' first | constructor | (intro h; cases h))
theorem dkC_fold (s1 : Scn) (l1 : Int) (c1 : Colr) : scC s1 ++ (C.v (.int .i64 l1) :: coC c1) = dkC ⟨s1, l1, c1⟩ := rfl
theorem dkC_t1 (k : Dsk) : List.take 1 (dkC k) = [C.v (.int .i64 k.s.w)] := rfl
theorem dkC_d1 (k : Dsk) : List.drop 1 (dkC k) = C.v (.int .i64 k.s.h) :: C.sl false (k.s.fs.map flC) :: C.v (.int .i64 k.l) :: coC k.c := rfl
theorem dkC_t2 (k : Dsk) : List.take 2 (dkC k) = C.v (.int .i64 k.s.w) :: [C.v (.int .i64 k.s.h)] := rfl
theorem dkC_d2 (k : Dsk) : List.drop 2 (dkC k) = C.sl false (k.s.fs.map flC) :: C.v (.int .i64 k.l) :: coC k.c := rfl
theorem dkC_t3 (k : Dsk) : List.take 3 (dkC k) = scC k.s := rfl
theorem dkC_d3 (k : Dsk) : List.drop 3 (dkC k) = C.v (.int .i64 k.l) :: coC k.c := rfl
theorem dkC_t4 (k : Dsk) : List.take 4 (dkC k) = scC k.s ++ ([C.v (.int .i64 k.l)]) := rfl
theorem dkC_d4 (k : Dsk) : List.drop 4 (dkC k) = coC k.c := rfl
theorem dkC_t5 (k : Dsk) : List.take 5 (dkC k) = scC k.s ++ (C.v (.int .i64 k.l) :: [C.v (.int .i64 k.c.r)]) := rfl
theorem dkC_d5 (k : Dsk) : List.drop 5 (dkC k) = C.v (.int .i64 k.c.g) :: C.v (.int .i64 k.c.b) :: [C.v (.int .i64 k.c.a)] := rfl
theorem dkC_t6 (k : Dsk) : List.take 6 (dkC k) = scC k.s ++ (C.v (.int .i64 k.l) :: C.v (.int .i64 k.c.r) :: [C.v (.int .i64 k.c.g)]) := rfl
theorem dkC_d6 (k : Dsk) : List.drop 6 (dkC k) = C.v (.int .i64 k.c.b) :: [C.v (.int .i64 k.c.a)] := rfl
theorem dkC_t7 (k : Dsk) : List.take 7 (dkC k) = scC k.s ++ (C.v (.int .i64 k.l) :: C.v (.int .i64 k.c.r) :: C.v (.int .i64 k.c.g) :: [C.v (.int .i64 k.c.b)]) := rfl
theorem dkC_d7 (k : Dsk) : List.drop 7 (dkC k) = [C.v (.int .i64 k.c.a)] := rfl
def kd (t : Ses) : Dsk := ⟨t.s, t.l, t.c⟩
def ks (t : Dsk) : Ses := ⟨t.s, t.c, t.l⟩
theorem dkC_foldA (a : Scn) (l : Int) (c : Colr) : scC a ++ stC ⟨l, c⟩ = dkC ⟨a, l, c⟩ := rfl
theorem gat_no (s : St) : ∀ (l : List C) (f : Nat) (i : List Nat), okRs l → gather s f i l = i
  | [], 0, _, _ => rfl
  | [], _ + 1, _, _ => rfl
  | _ :: _, 0, _, _ => rfl
  | c :: r, f + 1, i, h => by
    have h1 := gat_no s r f i h.2
    have h2 := h.1
    cases c with
    | v x => exact h1
    | sl t es => exact h1
    | rp cs => exact h1
    | _ => cases h2
theorem dkC_gatF (s : St) (f : Nat) (i : List Nat) (k : Dsk) : gather s f i (dkC k) = i := gat_no s _ f i (of_eq_true (dkC_okR k))
theorem seC_gatF (s : St) (f : Nat) (i : List Nat) (k : Ses) : gather s f i (seC k) = i := gat_no s _ f i (of_eq_true (seC_okR k))
attribute [go_sem] seC_le seC_inj seC_minj seC_dec seC_ds seC_len seC_takeN seC_takeA seC_dropA seC_takeB seC_dropB seC_dropN seC_all seC_strip seC_seal seC_ren seC_exp seC_map seC_gat seC_rok seC_row seC_eok seC_sok seC_okR seC_okR0 seC_okC seC_wk seC_wks seC_fold seC_t1
attribute [go_sem] seC_d1 seC_t2 seC_d2 seC_t3 seC_d3 seC_t4 seC_d4 seC_t5 seC_d5 seC_t6 seC_d6 seC_t7 seC_d7 Ses.mk.injEq dkC_le dkC_inj dkC_minj dkC_dec dkC_ds dkC_len dkC_takeN dkC_takeA dkC_dropA dkC_takeB dkC_dropB dkC_dropN dkC_all dkC_strip dkC_seal dkC_ren
attribute [go_sem] dkC_exp dkC_map dkC_gat dkC_rok dkC_row dkC_eok dkC_sok dkC_okR dkC_okR0 dkC_okC dkC_wk dkC_wks dkC_fold dkC_t1 dkC_d1 dkC_t2 dkC_d2 dkC_t3 dkC_d3 dkC_t4 dkC_d4 dkC_t5 dkC_d5 dkC_t6 dkC_d6 dkC_t7 dkC_d7 Dsk.mk.injEq dkC_foldA dkC_gatF
attribute [go_sem] seC_gatF
def d_ls_i : List AV → Option ((List ByteArray) × Int)
  | [.c (.sl _ a0), .c (.v (.int .i64 a1))] => match decAll sCd a0 with
    | some a0v => some (a0v, a1)
    | _ => none
  | _ => none
def d_ls_ls : List AV → Option ((List ByteArray) × (List ByteArray))
  | [.c (.sl _ a0), .c (.sl _ a1)] => match decAll sCd a0, decAll sCd a1 with
    | some a0v, some a1v => some (a0v, a1v)
    | _, _ => none
  | _ => none
attribute [go_sem] d_ls_i d_ls_ls
end Go.Proofs.YthphndhiacikaaaGreatDoor
