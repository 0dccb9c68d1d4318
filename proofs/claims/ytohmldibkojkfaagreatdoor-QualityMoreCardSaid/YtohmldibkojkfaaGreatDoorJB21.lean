import Derived.Test.YtohmldibkojkfaaGreatDoorJB18
import Derived.Test.YtohmldibkojkfaaGreatDoorJB19
import Derived.Test.YtohmldibkojkfaaGreatDoorProg
set_option linter.unusedSimpArgs false
set_option linter.unusedVariables false
set_option linter.unusedSectionVars false
section
namespace Go.Proofs.YtohmldibkojkfaaGreatDoor.Aw
open Go Go.Proofs
class IsP (P : Program) : Prop where
 eq : P = Tryz.prog
instance : IsP Tryz.prog := ⟨rfl⟩
variable {P : Program} [IsP P]
theorem hmix : P.follows .mixedOrders = true := by rw [IsP.eq (P := P)]; kernel_rfl
theorem ti3 : zby P 3 = some (some (.int .i64 0), 1, 8) := by rw [IsP.eq (P := P)]; kernel_rfl
theorem ta3 : zda P 3 = some false := by rw [IsP.eq (P := P)]; kernel_rfl
theorem tk3 : z1m P 3 = some .i64 := by rw [IsP.eq (P := P)]; kernel_rfl
theorem ti4 : zby P 4 = some (some (.bool false), 1, 1) := by rw [IsP.eq (P := P)]; kernel_rfl
theorem ta4 : zda P 4 = some false := by rw [IsP.eq (P := P)]; kernel_rfl
theorem tu5 : (P.underlying 5).isSome = true := by rw [IsP.eq (P := P)]; kernel_rfl
theorem ti9 : zby P 9 = some (some (.string ⟨#[]⟩), 1, 16) := by rw [IsP.eq (P := P)]; kernel_rfl
theorem ta9 : zda P 9 = some false := by rw [IsP.eq (P := P)]; kernel_rfl
theorem tg9 : zkb P 9 = true := by rw [IsP.eq (P := P)]; kernel_rfl
theorem ti22 : zby P 22 = some (some (.slice none 0 0), 1, 24) := by rw [IsP.eq (P := P)]; kernel_rfl
theorem ta22 : zda P 22 = some false := by rw [IsP.eq (P := P)]; kernel_rfl
theorem ts22 : zb9 P 22 = some 65 := by rw [IsP.eq (P := P)]; kernel_rfl
theorem ti24 : zby P 24 = some (some (.agg #[.int .i64 0, .slice none 0 0, .int .i64 0, .int .i64 0]), 4, 48) := by rw [IsP.eq (P := P)]; kernel_rfl
theorem ta24 : zda P 24 = some true := by rw [IsP.eq (P := P)]; kernel_rfl
theorem zkz : zcf P 24 0 = some (0, 3, some 1) := by rw [IsP.eq (P := P)]; kernel_rfl
theorem zc7 : zcf P 24 1 = some (1, 22, some 1) := by rw [IsP.eq (P := P)]; kernel_rfl
theorem zio : zcf P 24 2 = some (2, 3, some 1) := by rw [IsP.eq (P := P)]; kernel_rfl
theorem zjt : zcf P 24 3 = some (3, 3, some 1) := by rw [IsP.eq (P := P)]; kernel_rfl
theorem tp24 : zdx P 24 = some [(0, 1), (1, 1), (2, 1), (3, 1)] := by rw [IsP.eq (P := P)]; kernel_rfl
theorem ts25 : zb9 P 25 = some 46 := by rw [IsP.eq (P := P)]; kernel_rfl
theorem ti27 : zby P 27 = some (some (.agg #[.int .i64 0, .int .i64 0, .int .i64 0]), 3, 24) := by rw [IsP.eq (P := P)]; kernel_rfl
theorem ta27 : zda P 27 = some true := by rw [IsP.eq (P := P)]; kernel_rfl
theorem tf27_0 : zcf P 27 0 = some (0, 3, some 1) := by rw [IsP.eq (P := P)]; kernel_rfl
theorem tp27 : zdx P 27 = some [(0, 1), (1, 1), (2, 1)] := by rw [IsP.eq (P := P)]; kernel_rfl
theorem ti32 : zby P 32 = some (some (.agg #[.int .i64 0, .int .i64 0]), 2, 16) := by rw [IsP.eq (P := P)]; kernel_rfl
theorem ta32 : zda P 32 = some true := by rw [IsP.eq (P := P)]; kernel_rfl
theorem z0m : zcf P 32 0 = some (0, 3, some 1) := by rw [IsP.eq (P := P)]; kernel_rfl
theorem tf32_1 : zcf P 32 1 = some (1, 3, some 1) := by rw [IsP.eq (P := P)]; kernel_rfl
theorem te32 : zyo P 32 = some [.i, .i] := by rw [IsP.eq (P := P)]; kernel_rfl
theorem tp32 : zdx P 32 = some [(0, 1), (1, 1)] := by rw [IsP.eq (P := P)]; kernel_rfl
theorem ta44 : zda P 44 = some false := by rw [IsP.eq (P := P)]; kernel_rfl
theorem ts44 : zb9 P 44 = some 9 := by rw [IsP.eq (P := P)]; kernel_rfl
theorem ti46 : zby P 46 = some (some (.agg #[.slice none 0 0, .int .i64 0]), 2, 32) := by rw [IsP.eq (P := P)]; kernel_rfl
theorem ta46 : zda P 46 = some true := by rw [IsP.eq (P := P)]; kernel_rfl
theorem zcm : zcf P 46 0 = some (0, 44, some 1) := by rw [IsP.eq (P := P)]; kernel_rfl
theorem zex : zcf P 46 1 = some (1, 3, some 1) := by rw [IsP.eq (P := P)]; kernel_rfl
theorem tp46 : zdx P 46 = some [(0, 1), (1, 1)] := by rw [IsP.eq (P := P)]; kernel_rfl
theorem ti48 : zby P 48 = some (some (.slice none 0 0), 1, 24) := by rw [IsP.eq (P := P)]; kernel_rfl
theorem ta48 : zda P 48 = some false := by rw [IsP.eq (P := P)]; kernel_rfl
theorem ts48 : zb9 P 48 = some 3 := by rw [IsP.eq (P := P)]; kernel_rfl
theorem ti65 : zby P 65 = some (some (.agg #[.string ⟨#[]⟩, .slice none 0 0, .slice none 0 0]), 3, 64) := by rw [IsP.eq (P := P)]; kernel_rfl
theorem ta65 : zda P 65 = some true := by rw [IsP.eq (P := P)]; kernel_rfl
theorem zjs : zcf P 65 0 = some (0, 9, some 1) := by rw [IsP.eq (P := P)]; kernel_rfl
theorem zfu : zcf P 65 1 = some (1, 48, some 1) := by rw [IsP.eq (P := P)]; kernel_rfl
theorem zfk : zcf P 65 2 = some (2, 48, some 1) := by rw [IsP.eq (P := P)]; kernel_rfl
theorem tp65 : zdx P 65 = some [(0, 1), (1, 1), (2, 1)] := by rw [IsP.eq (P := P)]; kernel_rfl
theorem ti89 : zby P 89 = some (some (.agg #[.int .i64 0, .slice none 0 0, .slice none 0 0]), 3, 56) := by rw [IsP.eq (P := P)]; kernel_rfl
theorem ta89 : zda P 89 = some true := by rw [IsP.eq (P := P)]; kernel_rfl
theorem zvp : zcf P 89 0 = some (0, 3, some 1) := by rw [IsP.eq (P := P)]; kernel_rfl
theorem z0l : zcf P 89 1 = some (1, 48, some 1) := by rw [IsP.eq (P := P)]; kernel_rfl
theorem zvo : zcf P 89 2 = some (2, 48, some 1) := by rw [IsP.eq (P := P)]; kernel_rfl
theorem tp89 : zdx P 89 = some [(0, 1), (1, 1), (2, 1)] := by rw [IsP.eq (P := P)]; kernel_rfl
theorem ts91 : zb9 P 91 = some 89 := by rw [IsP.eq (P := P)]; kernel_rfl
theorem tm93 : zo8 P 93 = some (9, 4) := by rw [IsP.eq (P := P)]; kernel_rfl
theorem tn9 : P.underlying 9 = some .string := by rw [IsP.eq (P := P)]; kernel_rfl
theorem tn4 : P.underlying 4 = some .bool := by rw [IsP.eq (P := P)]; kernel_rfl
theorem tK9 : Go.Maps.Keyed P 9 := Go.Maps.string_keyed tn9
theorem ti105 : zby P 105 = some (some (.slice none 0 0), 1, 24) := by rw [IsP.eq (P := P)]; kernel_rfl
theorem zuh : zda P 105 = some false := by rw [IsP.eq (P := P)]; kernel_rfl
theorem zq6 : zb9 P 105 = some 48 := by rw [IsP.eq (P := P)]; kernel_rfl
theorem ti106 : zby P 106 = some (some (.slice none 0 0), 1, 24) := by rw [IsP.eq (P := P)]; kernel_rfl
theorem ta106 : zda P 106 = some false := by rw [IsP.eq (P := P)]; kernel_rfl
theorem zug : zb9 P 106 = some 143 := by rw [IsP.eq (P := P)]; kernel_rfl
theorem ti107 : zby P 107 = some (some (.slice none 0 0), 1, 24) := by rw [IsP.eq (P := P)]; kernel_rfl
theorem zys : zda P 107 = some false := by rw [IsP.eq (P := P)]; kernel_rfl
theorem zvl : zb9 P 107 = some 4 := by rw [IsP.eq (P := P)]; kernel_rfl
theorem zyr : zda P 108 = some false := by rw [IsP.eq (P := P)]; kernel_rfl
theorem zvm : zo8 P 108 = some (9, 3) := by rw [IsP.eq (P := P)]; kernel_rfl
theorem tn3 : P.underlying 3 = some (.int .i64) := by rw [IsP.eq (P := P)]; kernel_rfl
theorem ti110 : zby P 110 = some (some (.agg #[.int .i64 0, .slice none 0 0, .int .i64 0, .int .i64 0, .slice none 0 0, .int .i64 0, .int .i64 0, .int .i64 0, .slice none 0 0, .slice none 0 0, .slice none 0 0, .slice none 0 0, .slice none 0 0, .map none]), 14, 224) := by rw [IsP.eq (P := P)]; kernel_rfl
theorem zh7 : zcf P 110 3 = some (8, 105, some 1) := by rw [IsP.eq (P := P)]; kernel_rfl
theorem zg5 : zcf P 110 4 = some (9, 48, some 1) := by rw [IsP.eq (P := P)]; kernel_rfl
theorem zq9 : zcf P 110 5 = some (10, 48, some 1) := by rw [IsP.eq (P := P)]; kernel_rfl
theorem zq8 : zcf P 110 6 = some (11, 106, some 1) := by rw [IsP.eq (P := P)]; kernel_rfl
theorem zk1 : zcf P 110 7 = some (12, 107, some 1) := by rw [IsP.eq (P := P)]; kernel_rfl
theorem znt : zcf P 110 8 = some (13, 108, some 1) := by rw [IsP.eq (P := P)]; kernel_rfl
theorem tp110 : zdx P 110 = some [(0, 4), (4, 1), (5, 3), (8, 1), (9, 1), (10, 1), (11, 1), (12, 1), (13, 1)] := by rw [IsP.eq (P := P)]; kernel_rfl
theorem zh6 : zby P 134 = some (some (.agg #[.int .i64 0, .slice none 0 0, .slice none 0 0]), 3, 56) := by rw [IsP.eq (P := P)]; kernel_rfl
theorem zk0 : zcf P 134 0 = some (0, 3, some 1) := by rw [IsP.eq (P := P)]; kernel_rfl
theorem zq7 : zcf P 134 1 = some (1, 48, some 1) := by rw [IsP.eq (P := P)]; kernel_rfl
theorem zvq : zcf P 134 2 = some (2, 48, some 1) := by rw [IsP.eq (P := P)]; kernel_rfl
theorem tp134 : zdx P 134 = some [(0, 1), (1, 1), (2, 1)] := by rw [IsP.eq (P := P)]; kernel_rfl
theorem zfj : zb9 P 135 = some 134 := by rw [IsP.eq (P := P)]; kernel_rfl
theorem zg4 : zby P 143 = some (some (.agg #[.int .i64 0, .int .i64 0, .string ⟨#[]⟩]), 3, 32) := by rw [IsP.eq (P := P)]; kernel_rfl
theorem zpa : zda P 143 = some true := by rw [IsP.eq (P := P)]; kernel_rfl
theorem tp143 : zdx P 143 = some [(0, 1), (1, 1), (2, 1)] := by rw [IsP.eq (P := P)]; kernel_rfl
theorem zfa : zby P 146 = some (some (.agg #[.int .i64 0, .int .i64 0]), 2, 16) := by rw [IsP.eq (P := P)]; kernel_rfl
theorem zyq : zda P 146 = some true := by rw [IsP.eq (P := P)]; kernel_rfl
theorem zgl : zcf P 146 0 = some (0, 3, some 1) := by rw [IsP.eq (P := P)]; kernel_rfl
theorem zfl : zcf P 146 1 = some (1, 3, some 1) := by rw [IsP.eq (P := P)]; kernel_rfl
theorem z1n : zdx P 146 = some [(0, 1), (1, 1)] := by rw [IsP.eq (P := P)]; kernel_rfl
theorem ti148 : zby P 148 = some (some (.slice none 0 0), 1, 24) := by rw [IsP.eq (P := P)]; kernel_rfl
theorem zk2 : zda P 148 = some false := by rw [IsP.eq (P := P)]; kernel_rfl
theorem zim : zb9 P 148 = some 146 := by rw [IsP.eq (P := P)]; kernel_rfl
end Go.Proofs.YtohmldibkojkfaaGreatDoor.Aw
end
