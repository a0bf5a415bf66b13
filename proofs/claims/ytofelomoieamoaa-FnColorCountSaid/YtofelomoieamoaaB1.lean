/- Contracts of functions of the program vectorraster, each proved for all states that fit its description. -/
import Derived.Test.YtofelomoieamoaaW22
import Derived.Test.YtofelomoieamoaaRows
set_option maxRecDepth 100000
set_option linter.unusedSimpArgs false
namespace Go.Proofs.Ytofelomoieamoaa
open Go Go.VE
theorem hm : Try.prog.follows .mixedOrders = true := by kernel_rfl
theorem ti3 : TIok Try.prog 3 ⟨.int .i64, 1, 8, [.int .i64 0], false⟩ := tiB_ok (by kernel_rfl) (fun h => by cases h)
theorem e44 (d : Nat) : EqI Try.prog (d + 2) 44 4 := eqB_ok (l := [(3, 1), (3, 1), (3, 1), (3, 1)]) (by kernel_rfl) (by simp; exact fieldEq_int ti3 rfl)
theorem ti44 : TIok Try.prog 44 ⟨.struct [(3, 0, 1), (3, 1, 1), (3, 2, 1), (3, 3, 1)], 4, 32, [.int .i64 0, .int .i64 0, .int .i64 0, .int .i64 0], false⟩ := tiB_ok (by kernel_rfl) (fun h => by cases h)
theorem v44 : EqvOK Try.prog 44 4 := ⟨by kernel_rfl, e44 9998⟩
theorem e46 (d : Nat) : EqI Try.prog (d + 3) 46 5 := eqB_ok (l := [(44, 4), (3, 1)]) (by kernel_rfl) (by simp; exact ⟨fieldEq_struct ti44 rfl (e44 _), fieldEq_int ti3 rfl⟩)
theorem ti46 : TIok Try.prog 46 ⟨.struct [(44, 0, 4), (3, 4, 1)], 5, 40, [.int .i64 0, .int .i64 0, .int .i64 0, .int .i64 0, .int .i64 0], false⟩ := tiB_ok (by kernel_rfl) (fun h => by cases h)
theorem v46 : EqvOK Try.prog 46 5 := ⟨by kernel_rfl, e46 9997⟩
abbrev rt0 : Nat := 84
abbrev I (n : Int) : AV := .c (.v (.int .i64 n))
abbrev B (b : Bool) : AV := .c (.v (.bool b))
def tys : List (Nat × TI) := [(3, ⟨.int .i64, 1, 8, [.int .i64 0], false⟩),
  (4, ⟨.bool, 1, 1, [.bool false], false⟩),
  (5, ⟨.int .u8, 1, 1, [.int .u8 0], false⟩),
  (22, ⟨.slice 5, 1, 24, [.slice none 0 0], false⟩),
  (25, ⟨.slice 44, 1, 24, [.slice none 0 0], false⟩),
  (27, ⟨.struct [(3, 0, 1), (3, 1, 1), (25, 2, 1)], 3, 40, [.int .i64 0, .int .i64 0, .slice none 0 0], false⟩),
  (33, ⟨.slice 80, 1, 24, [.slice none 0 0], false⟩),
  (35, ⟨.struct [(3, 0, 1), (3, 1, 1), (33, 2, 1)], 3, 40, [.int .i64 0, .int .i64 0, .slice none 0 0], false⟩),
  (40, ⟨.slice 46, 1, 24, [.slice none 0 0], false⟩),
  (44, ⟨.struct [(3, 0, 1), (3, 1, 1), (3, 2, 1), (3, 3, 1)], 4, 32, [.int .i64 0, .int .i64 0, .int .i64 0, .int .i64 0], true⟩),
  (46, ⟨.struct [(44, 0, 4), (3, 4, 1)], 5, 40, [.int .i64 0, .int .i64 0, .int .i64 0, .int .i64 0, .int .i64 0], true⟩),
  (53, ⟨.slice 82, 1, 24, [.slice none 0 0], false⟩),
  (57, ⟨.other, 1, 8, [.pointer none], false⟩),
  (63, ⟨.map 44, 1, 8, [.map none], false⟩),
  (77, ⟨.slice 3, 1, 24, [.slice none 0 0], false⟩),
  (80, ⟨.struct [(3, 0, 1), (3, 1, 1), (3, 2, 1), (3, 3, 1)], 4, 32, [.int .i64 0, .int .i64 0, .int .i64 0, .int .i64 0], false⟩),
  (82, ⟨.struct [(80, 0, 4), (3, 4, 1)], 5, 40, [.int .i64 0, .int .i64 0, .int .i64 0, .int .i64 0, .int .i64 0], false⟩),
  (84, ⟨.struct [(22, 0, 1), (3, 1, 1)], 2, 32, [.slice none 0 0, .int .i64 0], false⟩),
  (86, ⟨.other, 1, 8, [.nilFunc], false⟩),
  (90, ⟨.int .u64, 1, 8, [.int .u64 0], false⟩),
  (95, ⟨.int .u32, 1, 4, [.int .u32 0], false⟩),
  (98, ⟨.int .u64, 1, 8, [.int .u64 0], false⟩)]
theorem ttok : TTok Try.prog (ttOf tys) := tts_ok (by kernel_rfl) (by simp [tys]; exact ⟨v44, v46⟩)
theorem ty3 : ttOf tys 3 = some ⟨.int .i64, 1, 8, [.int .i64 0], false⟩ := rfl
theorem ty4 : ttOf tys 4 = some ⟨.bool, 1, 1, [.bool false], false⟩ := rfl
theorem ty5 : ttOf tys 5 = some ⟨.int .u8, 1, 1, [.int .u8 0], false⟩ := rfl
theorem ty22 : ttOf tys 22 = some ⟨.slice 5, 1, 24, [.slice none 0 0], false⟩ := rfl
theorem ty25 : ttOf tys 25 = some ⟨.slice 44, 1, 24, [.slice none 0 0], false⟩ := rfl
theorem ty27 : ttOf tys 27 = some ⟨.struct [(3, 0, 1), (3, 1, 1), (25, 2, 1)], 3, 40, [.int .i64 0, .int .i64 0, .slice none 0 0], false⟩ := rfl
theorem ty33 : ttOf tys 33 = some ⟨.slice 80, 1, 24, [.slice none 0 0], false⟩ := rfl
theorem ty35 : ttOf tys 35 = some ⟨.struct [(3, 0, 1), (3, 1, 1), (33, 2, 1)], 3, 40, [.int .i64 0, .int .i64 0, .slice none 0 0], false⟩ := rfl
theorem ty40 : ttOf tys 40 = some ⟨.slice 46, 1, 24, [.slice none 0 0], false⟩ := rfl
theorem ty44 : ttOf tys 44 = some ⟨.struct [(3, 0, 1), (3, 1, 1), (3, 2, 1), (3, 3, 1)], 4, 32, [.int .i64 0, .int .i64 0, .int .i64 0, .int .i64 0], true⟩ := rfl
theorem ty46 : ttOf tys 46 = some ⟨.struct [(44, 0, 4), (3, 4, 1)], 5, 40, [.int .i64 0, .int .i64 0, .int .i64 0, .int .i64 0, .int .i64 0], true⟩ := rfl
theorem ty53 : ttOf tys 53 = some ⟨.slice 82, 1, 24, [.slice none 0 0], false⟩ := rfl
theorem ty57 : ttOf tys 57 = some ⟨.other, 1, 8, [.pointer none], false⟩ := rfl
theorem ty63 : ttOf tys 63 = some ⟨.map 44, 1, 8, [.map none], false⟩ := rfl
theorem ty77 : ttOf tys 77 = some ⟨.slice 3, 1, 24, [.slice none 0 0], false⟩ := rfl
theorem ty80 : ttOf tys 80 = some ⟨.struct [(3, 0, 1), (3, 1, 1), (3, 2, 1), (3, 3, 1)], 4, 32, [.int .i64 0, .int .i64 0, .int .i64 0, .int .i64 0], false⟩ := rfl
theorem ty82 : ttOf tys 82 = some ⟨.struct [(80, 0, 4), (3, 4, 1)], 5, 40, [.int .i64 0, .int .i64 0, .int .i64 0, .int .i64 0, .int .i64 0], false⟩ := rfl
theorem ty84 : ttOf tys 84 = some ⟨.struct [(22, 0, 1), (3, 1, 1)], 2, 32, [.slice none 0 0, .int .i64 0], false⟩ := rfl
theorem ty86 : ttOf tys 86 = some ⟨.other, 1, 8, [.nilFunc], false⟩ := rfl
theorem ty90 : ttOf tys 90 = some ⟨.int .u64, 1, 8, [.int .u64 0], false⟩ := rfl
theorem ty95 : ttOf tys 95 = some ⟨.int .u32, 1, 4, [.int .u32 0], false⟩ := rfl
theorem ty98 : ttOf tys 98 = some ⟨.int .u64, 1, 8, [.int .u64 0], false⟩ := rfl
end Go.Proofs.Ytofelomoieamoaa
