import Derived.Test.YtohmldibkojkfaaGreatDoorJA17
import Derived.Test.YtohmldibkojkfaaGreatDoorJA18
import Derived.Test.YtohmldibkojkfaaGreatDoorProg
set_option linter.unusedSimpArgs false
set_option linter.unusedVariables false
set_option linter.unusedSectionVars false
section
namespace Go.Proofs.YtohmldibkojkfaaGreatDoor.Aw
open Go Go.Proofs
class IsP (P : Program) : Prop where
 eq : P = Tryz.prog
instance : IsP Tryz.prog := ⟨rfl⟩
variable {P : Program} [IsP P]
theorem hmix : P.follows .mixedOrders = true := by rw [IsP.eq (P := P)]; kernel_rfl
theorem ti3 : zby P 3 = some (some (.int .i64 0), 1, 8) := by rw [IsP.eq (P := P)]; kernel_rfl
theorem ta3 : zc7 P 3 = some false := by rw [IsP.eq (P := P)]; kernel_rfl
theorem tu3 : (P.underlying 3).isSome = true := by rw [IsP.eq (P := P)]; kernel_rfl
theorem ti4 : zby P 4 = some (some (.bool false), 1, 1) := by rw [IsP.eq (P := P)]; kernel_rfl
theorem ta4 : zc7 P 4 = some false := by rw [IsP.eq (P := P)]; kernel_rfl
theorem ti5 : zby P 5 = some (some (.int .u8 0), 1, 1) := by rw [IsP.eq (P := P)]; kernel_rfl
theorem tk5 : zuu P 5 = some .u8 := by rw [IsP.eq (P := P)]; kernel_rfl
theorem ti9 : zby P 9 = some (some (.string ⟨#[]⟩), 1, 16) := by rw [IsP.eq (P := P)]; kernel_rfl
theorem ta9 : zc7 P 9 = some false := by rw [IsP.eq (P := P)]; kernel_rfl
theorem tg9 : zig P 9 = true := by rw [IsP.eq (P := P)]; kernel_rfl
theorem ti22 : zby P 22 = some (some (.slice none 0 0), 1, 24) := by rw [IsP.eq (P := P)]; kernel_rfl
theorem ta22 : zc7 P 22 = some false := by rw [IsP.eq (P := P)]; kernel_rfl
theorem ts22 : zb4 P 22 = some 65 := by rw [IsP.eq (P := P)]; kernel_rfl
theorem ti24 : zby P 24 = some (some (.agg #[.int .i64 0, .slice none 0 0, .int .i64 0, .int .i64 0]), 4, 48) := by rw [IsP.eq (P := P)]; kernel_rfl
theorem ta24 : zc7 P 24 = some true := by rw [IsP.eq (P := P)]; kernel_rfl
theorem zmb : zcc P 24 0 = some (0, 3, some 1) := by rw [IsP.eq (P := P)]; kernel_rfl
theorem zd0 : zcc P 24 1 = some (1, 22, some 1) := by rw [IsP.eq (P := P)]; kernel_rfl
theorem zjh : zcc P 24 2 = some (2, 3, some 1) := by rw [IsP.eq (P := P)]; kernel_rfl
theorem zkn : zcc P 24 3 = some (3, 3, some 1) := by rw [IsP.eq (P := P)]; kernel_rfl
theorem tp24 : zee P 24 = some [(0, 1), (1, 1), (2, 1), (3, 1)] := by rw [IsP.eq (P := P)]; kernel_rfl
theorem ts25 : zb4 P 25 = some 46 := by rw [IsP.eq (P := P)]; kernel_rfl
theorem ti27 : zby P 27 = some (some (.agg #[.int .i64 0, .int .i64 0, .int .i64 0]), 3, 24) := by rw [IsP.eq (P := P)]; kernel_rfl
theorem ta27 : zc7 P 27 = some true := by rw [IsP.eq (P := P)]; kernel_rfl
theorem z0a : zcc P 27 0 = some (0, 3, some 1) := by rw [IsP.eq (P := P)]; kernel_rfl
theorem tp27 : zee P 27 = some [(0, 1), (1, 1), (2, 1)] := by rw [IsP.eq (P := P)]; kernel_rfl
theorem ti32 : zby P 32 = some (some (.agg #[.int .i64 0, .int .i64 0]), 2, 16) := by rw [IsP.eq (P := P)]; kernel_rfl
theorem ta32 : zc7 P 32 = some true := by rw [IsP.eq (P := P)]; kernel_rfl
theorem te32 : zyk P 32 = some [.i, .i] := by rw [IsP.eq (P := P)]; kernel_rfl
theorem tp32 : zee P 32 = some [(0, 1), (1, 1)] := by rw [IsP.eq (P := P)]; kernel_rfl
theorem ta44 : zc7 P 44 = some false := by rw [IsP.eq (P := P)]; kernel_rfl
theorem ts44 : zb4 P 44 = some 9 := by rw [IsP.eq (P := P)]; kernel_rfl
theorem ti46 : zby P 46 = some (some (.agg #[.slice none 0 0, .int .i64 0]), 2, 32) := by rw [IsP.eq (P := P)]; kernel_rfl
theorem ta46 : zc7 P 46 = some true := by rw [IsP.eq (P := P)]; kernel_rfl
theorem zcn : zcc P 46 0 = some (0, 44, some 1) := by rw [IsP.eq (P := P)]; kernel_rfl
theorem zen : zcc P 46 1 = some (1, 3, some 1) := by rw [IsP.eq (P := P)]; kernel_rfl
theorem tp46 : zee P 46 = some [(0, 1), (1, 1)] := by rw [IsP.eq (P := P)]; kernel_rfl
theorem ti48 : zby P 48 = some (some (.slice none 0 0), 1, 24) := by rw [IsP.eq (P := P)]; kernel_rfl
theorem ta48 : zc7 P 48 = some false := by rw [IsP.eq (P := P)]; kernel_rfl
theorem ts48 : zb4 P 48 = some 3 := by rw [IsP.eq (P := P)]; kernel_rfl
theorem ti65 : zby P 65 = some (some (.agg #[.string ⟨#[]⟩, .slice none 0 0, .slice none 0 0]), 3, 64) := by rw [IsP.eq (P := P)]; kernel_rfl
theorem ta65 : zc7 P 65 = some true := by rw [IsP.eq (P := P)]; kernel_rfl
theorem zz9 : zcc P 65 0 = some (0, 9, some 1) := by rw [IsP.eq (P := P)]; kernel_rfl
theorem zfr : zcc P 65 1 = some (1, 48, some 1) := by rw [IsP.eq (P := P)]; kernel_rfl
theorem zfj : zcc P 65 2 = some (2, 48, some 1) := by rw [IsP.eq (P := P)]; kernel_rfl
theorem tp65 : zee P 65 = some [(0, 1), (1, 1), (2, 1)] := by rw [IsP.eq (P := P)]; kernel_rfl
theorem tn9 : P.underlying 9 = some .string := by rw [IsP.eq (P := P)]; kernel_rfl
theorem tK9 : Go.Maps.Keyed P 9 := Go.Maps.string_keyed tn9
theorem ti105 : zby P 105 = some (some (.slice none 0 0), 1, 24) := by rw [IsP.eq (P := P)]; kernel_rfl
theorem ztl : zc7 P 105 = some false := by rw [IsP.eq (P := P)]; kernel_rfl
theorem zqg : zb4 P 105 = some 48 := by rw [IsP.eq (P := P)]; kernel_rfl
theorem ti106 : zby P 106 = some (some (.slice none 0 0), 1, 24) := by rw [IsP.eq (P := P)]; kernel_rfl
theorem ta106 : zc7 P 106 = some false := by rw [IsP.eq (P := P)]; kernel_rfl
theorem zjw : zb4 P 106 = some 143 := by rw [IsP.eq (P := P)]; kernel_rfl
theorem ti107 : zby P 107 = some (some (.slice none 0 0), 1, 24) := by rw [IsP.eq (P := P)]; kernel_rfl
theorem zyo : zc7 P 107 = some false := by rw [IsP.eq (P := P)]; kernel_rfl
theorem zuv : zb4 P 107 = some 4 := by rw [IsP.eq (P := P)]; kernel_rfl
theorem zyn : zc7 P 108 = some false := by rw [IsP.eq (P := P)]; kernel_rfl
theorem zlw : zqf P 108 = some (9, 3) := by rw [IsP.eq (P := P)]; kernel_rfl
theorem tn3 : P.underlying 3 = some (.int .i64) := by rw [IsP.eq (P := P)]; kernel_rfl
theorem ti110 : zby P 110 = some (some (.agg #[.int .i64 0, .slice none 0 0, .int .i64 0, .int .i64 0, .slice none 0 0, .int .i64 0, .int .i64 0, .int .i64 0, .slice none 0 0, .slice none 0 0, .slice none 0 0, .slice none 0 0, .slice none 0 0, .map none]), 14, 224) := by rw [IsP.eq (P := P)]; kernel_rfl
theorem zh4 : zcc P 110 3 = some (8, 105, some 1) := by rw [IsP.eq (P := P)]; kernel_rfl
theorem zg5 : zcc P 110 4 = some (9, 48, some 1) := by rw [IsP.eq (P := P)]; kernel_rfl
theorem zqj : zcc P 110 5 = some (10, 48, some 1) := by rw [IsP.eq (P := P)]; kernel_rfl
theorem zqi : zcc P 110 6 = some (11, 106, some 1) := by rw [IsP.eq (P := P)]; kernel_rfl
theorem zko : zcc P 110 7 = some (12, 107, some 1) := by rw [IsP.eq (P := P)]; kernel_rfl
theorem zm9 : zcc P 110 8 = some (13, 108, some 1) := by rw [IsP.eq (P := P)]; kernel_rfl
theorem tp110 : zee P 110 = some [(0, 4), (4, 1), (5, 3), (8, 1), (9, 1), (10, 1), (11, 1), (12, 1), (13, 1)] := by rw [IsP.eq (P := P)]; kernel_rfl
theorem zyl : zb4 P 123 = some 5 := by rw [IsP.eq (P := P)]; kernel_rfl
theorem ze1 : zby P 143 = some (some (.agg #[.int .i64 0, .int .i64 0, .string ⟨#[]⟩]), 3, 32) := by rw [IsP.eq (P := P)]; kernel_rfl
theorem zjx : zc7 P 143 = some true := by rw [IsP.eq (P := P)]; kernel_rfl
theorem tp143 : zee P 143 = some [(0, 1), (1, 1), (2, 1)] := by rw [IsP.eq (P := P)]; kernel_rfl
theorem zfa : zby P 146 = some (some (.agg #[.int .i64 0, .int .i64 0]), 2, 16) := by rw [IsP.eq (P := P)]; kernel_rfl
theorem zym : zc7 P 146 = some true := by rw [IsP.eq (P := P)]; kernel_rfl
theorem zgi : zcc P 146 0 = some (0, 3, some 1) := by rw [IsP.eq (P := P)]; kernel_rfl
theorem zfk : zcc P 146 1 = some (1, 3, some 1) := by rw [IsP.eq (P := P)]; kernel_rfl
theorem z1c : zee P 146 = some [(0, 1), (1, 1)] := by rw [IsP.eq (P := P)]; kernel_rfl
theorem ti148 : zby P 148 = some (some (.slice none 0 0), 1, 24) := by rw [IsP.eq (P := P)]; kernel_rfl
theorem zkp : zc7 P 148 = some false := by rw [IsP.eq (P := P)]; kernel_rfl
theorem zih : zb4 P 148 = some 146 := by rw [IsP.eq (P := P)]; kernel_rfl
theorem zd1 : zb4 P 156 = some 160 := by rw [IsP.eq (P := P)]; kernel_rfl
theorem zd5 : zby P 160 = some (some (.agg #[.slice none 0 0, .int .i64 0, .bool false, .int .i64 0, .int .i64 0, .int .i64 0, .string ⟨#[]⟩]), 7, 80) := by rw [IsP.eq (P := P)]; kernel_rfl
theorem zm8 : zcc P 160 0 = some (0, 48, some 1) := by rw [IsP.eq (P := P)]; kernel_rfl
theorem zeq : zcc P 160 1 = some (1, 3, some 1) := by rw [IsP.eq (P := P)]; kernel_rfl
theorem zg4 : zcc P 160 2 = some (2, 4, some 1) := by rw [IsP.eq (P := P)]; kernel_rfl
theorem z1g : zcc P 160 3 = some (3, 3, some 1) := by rw [IsP.eq (P := P)]; kernel_rfl
theorem z1f : zcc P 160 4 = some (4, 143, some 3) := by rw [IsP.eq (P := P)]; kernel_rfl
theorem tp160 : zee P 160 = some [(0, 1), (1, 1), (2, 1), (3, 1), (4, 3)] := by rw [IsP.eq (P := P)]; kernel_rfl
end Go.Proofs.YtohmldibkojkfaaGreatDoor.Aw
end
