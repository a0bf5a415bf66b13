/- Contracts of functions of the program vectorraster, each proved for all states that fit its description. No conditions. -/
import Derived.Test.YthphndhiacikaaaDoorPO
import Derived.Test.YthphndhiacikaaaDoorPC
set_option maxRecDepth 100000
set_option linter.unusedSimpArgs false
set_option linter.unusedVariables false
namespace Go.Proofs.YthphndhiacikaaaDoor
open Go Go.VE

def ltptC (x : List Pt) : List C := [.sl true (x.map ptC)]
def ltptCd : List C → Option (List Pt)
  | [.sl _ es] => decAll ptCd es
  | _ => none
theorem ltptC_dec (k : List Pt) : ltptCd (ltptC k) = some k := ptC_ds k
theorem ltptC_wk (k : List Pt) : wkCs (ltptC k) = lptC k := by simp [ltptC, lptC, wkCs, wkC, ptC_wks]
theorem ltptC_wks (l : List (List Pt)) : wkEs (l.map ltptC) = l.map lptC := by
  rw [wkEs_map, List.map_map]
  exact List.map_congr_left fun k _ => ltptC_wk k
theorem ltptC_ds (l : List (List Pt)) : decAll ltptCd (l.map ltptC) = some l := decAll_map (g := ltptC) ltptC_dec l
theorem ltptC_len (k : (List Pt)) : (ltptC k).length = 1 := rfl
theorem ltptC_takeN (k : (List Pt)) : List.take 1 (ltptC k) = ltptC k := rfl
theorem ltptC_takeA (k : (List Pt)) (l : List C) : List.take 1 (ltptC k ++ l) = ltptC k := rfl
theorem ltptC_dropA (k : (List Pt)) (l : List C) : List.drop 1 (ltptC k ++ l) = l := rfl
theorem ltptC_takeB (k : (List Pt)) (m : Nat) (l : List C) : List.take (m + 1) (ltptC k ++ l) = ltptC k ++ List.take m l := rfl
theorem ltptC_dropB (k : (List Pt)) (m : Nat) (l : List C) : List.drop (m + 1) (ltptC k ++ l) = List.drop m l := rfl
theorem ltptC_dropN (k : (List Pt)) : List.drop 1 (ltptC k) = [] := rfl
theorem ltptC_all (l : List (List Pt)) : (∀ e ∈ l.map ltptC, e.length = 1) = True := all_len ltptC_len l
theorem ltptC_strip (k : (List Pt)) : List.map strip (ltptC k) = ltptC k := rfl
theorem ltptC_seal (s : St) (k : (List Pt)) : List.map (sealC s) (ltptC k) = ltptC k := rfl
theorem ltptC_ren (s : St) (i : List Nat) (k : (List Pt)) : List.map (renC s i) (ltptC k) = ltptC k := rfl
theorem ltptC_exp (s : St) (i : List Nat) (k : (List Pt)) : List.map (expC s i) (ltptC k) = ltptC k := rfl
theorem ltptC_map (f : Nat → Nat) (k : (List Pt)) : List.map (mapC f) (ltptC k) = ltptC k := rfl
theorem ltptC_gat (s : St) (i : List Nat) (k : (List Pt)) : gather s 64 i (ltptC k) = i := rfl
theorem ltptC_rok (s : St) (l i : List Nat) (k : (List Pt)) : renOks s l i (ltptC k) = True := eq_true (by repeat' constructor)
theorem ltptC_row (k : (List Pt)) : rowIds (ltptC k) = [] := rfl
theorem ltptC_eok (s : St) (i : List Nat) (k : (List Pt)) : expOks s i (ltptC k) = True := eq_true (by repeat' constructor)
theorem ltptC_sok (s : St) (k : (List Pt)) : sealOks s (ltptC k) = True := eq_true (by repeat' constructor)
theorem ltptC_okR (k : (List Pt)) : okRs (ltptC k) = True := eq_true (by repeat' constructor)
theorem ltptC_okC (k : (List Pt)) : okCs (ltptC k) = True := eq_true (by repeat' constructor)
theorem ltptC_okR0 (k : (List Pt)) : okR0s (ltptC k) = True := eq_true (by repeat' constructor)
theorem ltptC_inj (a b : (List Pt)) : (ltptC a = ltptC b) = (a = b) := by
  refine propext ⟨fun h => ?_, fun h => by rw [h]⟩
  have := congrArg ltptCd h
  rw [ltptC_dec, ltptC_dec] at this
  exact Option.some.inj this
theorem ltptC_minj (a b : List (List Pt)) : (a.map ltptC = b.map ltptC) = (a = b) := by
  refine propext ⟨fun h => ?_, fun h => by rw [h]⟩
  have := congrArg (decAll ltptCd) h
  rw [ltptC_ds, ltptC_ds] at this
  exact Option.some.inj this
theorem ltptC_le (s : St) (ρ : List (Nat × Nat)) (hp : List (Nat × Option Box)) (k : (List Pt)) : leCs s ρ hp (ltptC k) (ltptC k) = True := eq_true (by repeat' first | constructor | (intro h; cases h))
def vtC (x : Verb) : List C := C.v (.int .i64 x.k) :: [C.sl true (x.ps.map ptC)]
def vtCd : List C → Option Verb
  | [.v (.int .i64 k0), .sl _ ps0] => match decAll ptCd ps0 with
    | some ps0L => some ⟨k0, ps0L⟩
    | _ => none
  | _ => none
theorem vtC_dec (k : Verb) : vtCd (vtC k) = some k := by
  simp [vtC, vtCd, ptC_ds]
theorem vtC_wk (k : Verb) : wkCs (vtC k) = vbC k := by simp [vtC, vbC, wkCs, wkC, ptC_wks]
theorem vtC_wks (l : List Verb) : wkEs (l.map vtC) = l.map vbC := by
  rw [wkEs_map, List.map_map]
  exact List.map_congr_left fun k _ => vtC_wk k
theorem vtC_ds (l : List Verb) : decAll vtCd (l.map vtC) = some l := decAll_map (g := vtC) vtC_dec l
theorem vtC_len (k : Verb) : (vtC k).length = 2 := rfl
theorem vtC_takeN (k : Verb) : List.take 2 (vtC k) = vtC k := rfl
theorem vtC_takeA (k : Verb) (l : List C) : List.take 2 (vtC k ++ l) = vtC k := rfl
theorem vtC_dropA (k : Verb) (l : List C) : List.drop 2 (vtC k ++ l) = l := rfl
theorem vtC_takeB (k : Verb) (m : Nat) (l : List C) : List.take (m + 2) (vtC k ++ l) = vtC k ++ List.take m l := rfl
theorem vtC_dropB (k : Verb) (m : Nat) (l : List C) : List.drop (m + 2) (vtC k ++ l) = List.drop m l := rfl
theorem vtC_dropN (k : Verb) : List.drop 2 (vtC k) = [] := rfl
theorem vtC_all (l : List Verb) : (∀ e ∈ l.map vtC, e.length = 2) = True := all_len vtC_len l
theorem vtC_strip (k : Verb) : List.map strip (vtC k) = vtC k := rfl
theorem vtC_seal (s : St) (k : Verb) : List.map (sealC s) (vtC k) = vtC k := rfl
theorem vtC_ren (s : St) (i : List Nat) (k : Verb) : List.map (renC s i) (vtC k) = vtC k := rfl
theorem vtC_exp (s : St) (i : List Nat) (k : Verb) : List.map (expC s i) (vtC k) = vtC k := rfl
theorem vtC_map (f : Nat → Nat) (k : Verb) : List.map (mapC f) (vtC k) = vtC k := rfl
theorem vtC_gat (s : St) (i : List Nat) (k : Verb) : gather s 64 i (vtC k) = i := rfl
theorem vtC_rok (s : St) (l i : List Nat) (k : Verb) : renOks s l i (vtC k) = True := eq_true (by repeat' constructor)
theorem vtC_row (k : Verb) : rowIds (vtC k) = [] := rfl
theorem vtC_eok (s : St) (i : List Nat) (k : Verb) : expOks s i (vtC k) = True := eq_true (by repeat' constructor)
theorem vtC_sok (s : St) (k : Verb) : sealOks s (vtC k) = True := eq_true (by repeat' constructor)
theorem vtC_okR (k : Verb) : okRs (vtC k) = True := eq_true (by repeat' constructor)
theorem vtC_okC (k : Verb) : okCs (vtC k) = True := eq_true (by repeat' constructor)
theorem vtC_okR0 (k : Verb) : okR0s (vtC k) = True := eq_true (by repeat' constructor)
theorem vtC_inj (a b : Verb) : (vtC a = vtC b) = (a = b) := by
  refine propext ⟨fun h => ?_, fun h => by rw [h]⟩
  have := congrArg vtCd h
  rw [vtC_dec, vtC_dec] at this
  exact Option.some.inj this
theorem vtC_minj (a b : List Verb) : (a.map vtC = b.map vtC) = (a = b) := by
  refine propext ⟨fun h => ?_, fun h => by rw [h]⟩
  have := congrArg (decAll vtCd) h
  rw [vtC_ds, vtC_ds] at this
  exact Option.some.inj this
theorem vtC_le (s : St) (ρ : List (Nat × Nat)) (hp : List (Nat × Option Box)) (k : Verb) : leCs s ρ hp (vtC k) (vtC k) = True := eq_true (by repeat' first | constructor | (intro h; cases h))
theorem vtC_mk (k1 : Int) (ps1 : List Pt) : vtC ⟨k1, ps1⟩ = C.v (.int .i64 k1) :: [C.sl true (ps1.map ptC)] := rfl
theorem vtC_ex (k1 : Int) (ps1 : List Pt) (Q : Verb → Prop) : (∃ p, C.v (.int .i64 k1) :: [C.sl true (ps1.map ptC)] = vtC p ∧ Q p) = Q ⟨k1, ps1⟩ := by
  rw [← vtC_mk]; simp only [vtC_inj, exists_eq_left']
theorem vtC_t1 (k : Verb) : List.take 1 (vtC k) = [C.v (.int .i64 k.k)] := rfl
theorem vtC_d1 (k : Verb) : List.drop 1 (vtC k) = [C.sl true (k.ps.map ptC)] := rfl
attribute [go_sem] ltptC_le ltptC_inj ltptC_minj ltptC_dec ltptC_ds ltptC_len ltptC_takeN ltptC_takeA ltptC_dropA ltptC_takeB ltptC_dropB ltptC_dropN ltptC_all ltptC_strip ltptC_seal ltptC_ren ltptC_exp ltptC_map ltptC_gat ltptC_rok ltptC_row ltptC_eok ltptC_sok ltptC_okR ltptC_okR0 ltptC_okC ltptC_wk ltptC_wks ltptC ltptCd.eq_1
attribute [go_sem] vtC_le vtC_inj vtC_minj vtC_dec vtC_ds vtC_len vtC_takeN vtC_takeA vtC_dropA vtC_takeB vtC_dropB vtC_dropN vtC_all vtC_strip vtC_seal vtC_ren vtC_exp vtC_map vtC_gat vtC_rok vtC_row vtC_eok vtC_sok vtC_okR vtC_okR0 vtC_okC vtC_wk vtC_wks vtC_mk vtC_ex
attribute [go_sem] vtCd.eq_1 vtC_t1 vtC_d1 Verb.mk.injEq
end Go.Proofs.YthphndhiacikaaaDoor
