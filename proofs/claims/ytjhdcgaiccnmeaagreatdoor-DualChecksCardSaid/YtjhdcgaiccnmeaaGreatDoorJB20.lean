import Derived.Test.YtjhdcgaiccnmeaaGreatDoorJB17
import Derived.Test.YtjhdcgaiccnmeaaGreatDoorJB18
import Derived.Test.YtjhdcgaiccnmeaaGreatDoorProg
set_option linter.unusedSimpArgs false
set_option linter.unusedVariables false
set_option linter.unusedSectionVars false
section
namespace Go.Proofs.YtjhdcgaiccnmeaaGreatDoor.Aw
open Go Go.Proofs
class IsP (P : Program) : Prop where
 eq : P = Tryz.prog
instance : IsP Tryz.prog := ⟨rfl⟩
variable {P : Program} [IsP P]
theorem hmix : P.follows .mixedOrders = true := by rw [IsP.eq (P := P)]; kernel_rfl
theorem ti3 : zb5 P 3 = some (some (.int .i64 0), 1, 8) := by rw [IsP.eq (P := P)]; kernel_rfl
theorem ta3 : zc8 P 3 = some false := by rw [IsP.eq (P := P)]; kernel_rfl
theorem tu3 : (P.underlying 3).isSome = true := by rw [IsP.eq (P := P)]; kernel_rfl
theorem tk3 : zx0 P 3 = some .i64 := by rw [IsP.eq (P := P)]; kernel_rfl
theorem ti4 : zb5 P 4 = some (some (.bool false), 1, 1) := by rw [IsP.eq (P := P)]; kernel_rfl
theorem ta4 : zc8 P 4 = some false := by rw [IsP.eq (P := P)]; kernel_rfl
theorem ti9 : zb5 P 9 = some (some (.string ⟨#[]⟩), 1, 16) := by rw [IsP.eq (P := P)]; kernel_rfl
theorem ta9 : zc8 P 9 = some false := by rw [IsP.eq (P := P)]; kernel_rfl
theorem tg9 : zkf P 9 = true := by rw [IsP.eq (P := P)]; kernel_rfl
theorem ta22 : zc8 P 22 = some false := by rw [IsP.eq (P := P)]; kernel_rfl
theorem ts22 : zcd P 22 = some 86 := by rw [IsP.eq (P := P)]; kernel_rfl
theorem ti24 : zb5 P 24 = some (some (.agg #[.int .i64 0, .slice none 0 0, .int .i64 0, .int .i64 0]), 4, 48) := by rw [IsP.eq (P := P)]; kernel_rfl
theorem ta24 : zc8 P 24 = some true := by rw [IsP.eq (P := P)]; kernel_rfl
theorem zem : zca P 24 0 = some (0, 3, some 1) := by rw [IsP.eq (P := P)]; kernel_rfl
theorem zex : zca P 24 1 = some (1, 22, some 1) := by rw [IsP.eq (P := P)]; kernel_rfl
theorem tp24 : ze9 P 24 = some [(0, 1), (1, 1), (2, 1), (3, 1)] := by rw [IsP.eq (P := P)]; kernel_rfl
theorem ta25 : zc8 P 25 = some false := by rw [IsP.eq (P := P)]; kernel_rfl
theorem ts25 : zcd P 25 = some 9 := by rw [IsP.eq (P := P)]; kernel_rfl
theorem ti27 : zb5 P 27 = some (some (.agg #[.int .i64 0, .int .i64 0, .int .i64 0]), 3, 24) := by rw [IsP.eq (P := P)]; kernel_rfl
theorem ta27 : zc8 P 27 = some true := by rw [IsP.eq (P := P)]; kernel_rfl
theorem zz1 : zca P 27 0 = some (0, 3, some 1) := by rw [IsP.eq (P := P)]; kernel_rfl
theorem zz0 : zca P 27 1 = some (1, 3, some 1) := by rw [IsP.eq (P := P)]; kernel_rfl
theorem zzz : zca P 27 2 = some (2, 3, some 1) := by rw [IsP.eq (P := P)]; kernel_rfl
theorem tp27 : ze9 P 27 = some [(0, 1), (1, 1), (2, 1)] := by rw [IsP.eq (P := P)]; kernel_rfl
theorem ta28 : zc8 P 28 = some false := by rw [IsP.eq (P := P)]; kernel_rfl
theorem ts28 : zcd P 28 = some 29 := by rw [IsP.eq (P := P)]; kernel_rfl
theorem ti29 : zb5 P 29 = some (some (.slice none 0 0), 1, 24) := by rw [IsP.eq (P := P)]; kernel_rfl
theorem ta29 : zc8 P 29 = some false := by rw [IsP.eq (P := P)]; kernel_rfl
theorem ts29 : zcd P 29 = some 3 := by rw [IsP.eq (P := P)]; kernel_rfl
theorem ti30 : zb5 P 30 = some (some (.slice none 0 0), 1, 24) := by rw [IsP.eq (P := P)]; kernel_rfl
theorem ta30 : zc8 P 30 = some false := by rw [IsP.eq (P := P)]; kernel_rfl
theorem ts30 : zcd P 30 = some 56 := by rw [IsP.eq (P := P)]; kernel_rfl
theorem ti32 : zb5 P 32 = some (some (.agg #[.slice none 0 0, .slice none 0 0, .slice none 0 0]), 3, 72) := by rw [IsP.eq (P := P)]; kernel_rfl
theorem ta32 : zc8 P 32 = some true := by rw [IsP.eq (P := P)]; kernel_rfl
theorem zd6 : zca P 32 0 = some (0, 28, some 1) := by rw [IsP.eq (P := P)]; kernel_rfl
theorem zbh : zca P 32 1 = some (1, 29, some 1) := by rw [IsP.eq (P := P)]; kernel_rfl
theorem zdu : zca P 32 2 = some (2, 30, some 1) := by rw [IsP.eq (P := P)]; kernel_rfl
theorem tp32 : ze9 P 32 = some [(0, 1), (1, 1), (2, 1)] := by rw [IsP.eq (P := P)]; kernel_rfl
theorem ti37 : zb5 P 37 = some (some (.agg #[.int .i64 0, .int .i64 0, .string ⟨#[]⟩]), 3, 32) := by rw [IsP.eq (P := P)]; kernel_rfl
theorem ta37 : zc8 P 37 = some true := by rw [IsP.eq (P := P)]; kernel_rfl
theorem te37 : zx1 P 37 = some [.i, .i, .s] := by rw [IsP.eq (P := P)]; kernel_rfl
theorem tp37 : ze9 P 37 = some [(0, 1), (1, 1), (2, 1)] := by rw [IsP.eq (P := P)]; kernel_rfl
theorem ti56 : zb5 P 56 = some (some (.agg #[.int .i64 0, .int .i64 0]), 2, 16) := by rw [IsP.eq (P := P)]; kernel_rfl
theorem ta56 : zc8 P 56 = some true := by rw [IsP.eq (P := P)]; kernel_rfl
theorem zkw : zca P 56 0 = some (0, 3, some 1) := by rw [IsP.eq (P := P)]; kernel_rfl
theorem zrz : zca P 56 1 = some (1, 3, some 1) := by rw [IsP.eq (P := P)]; kernel_rfl
theorem tp56 : ze9 P 56 = some [(0, 1), (1, 1)] := by rw [IsP.eq (P := P)]; kernel_rfl
theorem ts68 : zcd P 68 = some 37 := by rw [IsP.eq (P := P)]; kernel_rfl
theorem ti86 : zb5 P 86 = some (some (.agg #[.string ⟨#[]⟩, .slice none 0 0, .slice none 0 0]), 3, 64) := by rw [IsP.eq (P := P)]; kernel_rfl
theorem ta86 : zc8 P 86 = some true := by rw [IsP.eq (P := P)]; kernel_rfl
theorem zmk : zca P 86 0 = some (0, 9, some 1) := by rw [IsP.eq (P := P)]; kernel_rfl
theorem ziw : zca P 86 1 = some (1, 29, some 1) := by rw [IsP.eq (P := P)]; kernel_rfl
theorem zj2 : zca P 86 2 = some (2, 29, some 1) := by rw [IsP.eq (P := P)]; kernel_rfl
theorem tp86 : ze9 P 86 = some [(0, 1), (1, 1), (2, 1)] := by rw [IsP.eq (P := P)]; kernel_rfl
theorem zx2 : zcd P 111 = some 119 := by rw [IsP.eq (P := P)]; kernel_rfl
theorem zx3 : zc8 P 113 = some false := by rw [IsP.eq (P := P)]; kernel_rfl
theorem zjf : zm9 P 113 = some (9, 3) := by rw [IsP.eq (P := P)]; kernel_rfl
theorem tn9 : P.underlying 9 = some .string := by rw [IsP.eq (P := P)]; kernel_rfl
theorem tn3 : P.underlying 3 = some (.int .i64) := by rw [IsP.eq (P := P)]; kernel_rfl
theorem tK9 : Go.Maps.Keyed P 9 := Go.Maps.string_keyed tn9
theorem zoq : zb5 P 119 = some (some (.agg #[.int .i64 0, .int .i64 0, .int .i64 0]), 3, 24) := by rw [IsP.eq (P := P)]; kernel_rfl
theorem zup : zca P 119 0 = some (0, 3, some 1) := by rw [IsP.eq (P := P)]; kernel_rfl
theorem zuo : zca P 119 1 = some (1, 3, some 1) := by rw [IsP.eq (P := P)]; kernel_rfl
theorem zun : zca P 119 2 = some (2, 3, some 1) := by rw [IsP.eq (P := P)]; kernel_rfl
theorem tp119 : ze9 P 119 = some [(0, 1), (1, 1), (2, 1)] := by rw [IsP.eq (P := P)]; kernel_rfl
theorem ztj : zcd P 125 = some 126 := by rw [IsP.eq (P := P)]; kernel_rfl
theorem zl8 : zb5 P 126 = some (some (.agg #[.int .i64 0, .int .i64 0, .int .i64 0]), 3, 24) := by rw [IsP.eq (P := P)]; kernel_rfl
theorem ta126 : zc8 P 126 = some true := by rw [IsP.eq (P := P)]; kernel_rfl
theorem zum : zm9 P 129 = some (9, 4) := by rw [IsP.eq (P := P)]; kernel_rfl
theorem tn4 : P.underlying 4 = some .bool := by rw [IsP.eq (P := P)]; kernel_rfl
theorem ti142 : zb5 P 142 = some (some (.agg #[.int .i64 0, .slice none 0 0, .int .i64 0, .int .i64 0, .slice none 0 0, .slice none 0 0, .slice none 0 0, .slice none 0 0, .slice none 0 0, .map none]), 10, 176) := by rw [IsP.eq (P := P)]; kernel_rfl
theorem zif : zca P 142 0 = some (0, 24, some 4) := by rw [IsP.eq (P := P)]; kernel_rfl
theorem znb : zca P 142 1 = some (4, 25, some 1) := by rw [IsP.eq (P := P)]; kernel_rfl
theorem zkx : zca P 142 2 = some (5, 32, some 3) := by rw [IsP.eq (P := P)]; kernel_rfl
theorem zjg : zca P 142 3 = some (8, 29, some 1) := by rw [IsP.eq (P := P)]; kernel_rfl
theorem zna : zca P 142 4 = some (9, 113, some 1) := by rw [IsP.eq (P := P)]; kernel_rfl
theorem tp142 : ze9 P 142 = some [(0, 4), (4, 1), (5, 3), (8, 1), (9, 1)] := by rw [IsP.eq (P := P)]; kernel_rfl
theorem tu164 : (P.underlying 164).isSome = true := by rw [IsP.eq (P := P)]; kernel_rfl
theorem tk164 : zx0 P 164 = some .u64 := by rw [IsP.eq (P := P)]; kernel_rfl
end Go.Proofs.YtjhdcgaiccnmeaaGreatDoor.Aw
end
