import Derived.Test.YtjhdcgaiccnmeaaGreatDoorJG16
import Derived.Test.YtjhdcgaiccnmeaaGreatDoorJG17
import Derived.Test.YtjhdcgaiccnmeaaGreatDoorProg
set_option linter.unusedSimpArgs false
set_option linter.unusedVariables false
set_option linter.unusedSectionVars false
section
namespace Go.Proofs.YtjhdcgaiccnmeaaGreatDoor.Aw
open Go Go.Proofs
class IsP (P : Program) : Prop where
 eq : P = Tryz.prog
instance : IsP Tryz.prog := ⟨rfl⟩
variable {P : Program} [IsP P]
theorem hmix : P.follows .mixedOrders = true := by rw [IsP.eq (P := P)]; kernel_rfl
theorem ti3 : zbt P 3 = some (some (.int .i64 0), 1, 8) := by rw [IsP.eq (P := P)]; kernel_rfl
theorem ta3 : zcq P 3 = some false := by rw [IsP.eq (P := P)]; kernel_rfl
theorem tu3 : (P.underlying 3).isSome = true := by rw [IsP.eq (P := P)]; kernel_rfl
theorem tk3 : tyInt P 3 = some .i64 := by rw [IsP.eq (P := P)]; kernel_rfl
theorem ti4 : zbt P 4 = some (some (.bool false), 1, 1) := by rw [IsP.eq (P := P)]; kernel_rfl
theorem ta4 : zcq P 4 = some false := by rw [IsP.eq (P := P)]; kernel_rfl
theorem tu5 : (P.underlying 5).isSome = true := by rw [IsP.eq (P := P)]; kernel_rfl
theorem ti9 : zbt P 9 = some (some (.string ⟨#[]⟩), 1, 16) := by rw [IsP.eq (P := P)]; kernel_rfl
theorem ta9 : zcq P 9 = some false := by rw [IsP.eq (P := P)]; kernel_rfl
theorem tg9 : tyString P 9 = true := by rw [IsP.eq (P := P)]; kernel_rfl
theorem ta22 : zcq P 22 = some false := by rw [IsP.eq (P := P)]; kernel_rfl
theorem ts22 : zb5 P 22 = some 86 := by rw [IsP.eq (P := P)]; kernel_rfl
theorem ti24 : zbt P 24 = some (some (.agg #[.int .i64 0, .slice none 0 0, .int .i64 0, .int .i64 0]), 4, 48) := by rw [IsP.eq (P := P)]; kernel_rfl
theorem ta24 : zcq P 24 = some true := by rw [IsP.eq (P := P)]; kernel_rfl
theorem zdo : zcc P 24 0 = some (0, 3, some 1) := by rw [IsP.eq (P := P)]; kernel_rfl
theorem tf24_1 : zcc P 24 1 = some (1, 22, some 1) := by rw [IsP.eq (P := P)]; kernel_rfl
theorem tp24 : tyPlaces P 24 = some [(0, 1), (1, 1), (2, 1), (3, 1)] := by rw [IsP.eq (P := P)]; kernel_rfl
theorem ta25 : zcq P 25 = some false := by rw [IsP.eq (P := P)]; kernel_rfl
theorem ts25 : zb5 P 25 = some 9 := by rw [IsP.eq (P := P)]; kernel_rfl
theorem ti27 : zbt P 27 = some (some (.agg #[.int .i64 0, .int .i64 0, .int .i64 0]), 3, 24) := by rw [IsP.eq (P := P)]; kernel_rfl
theorem ta27 : zcq P 27 = some true := by rw [IsP.eq (P := P)]; kernel_rfl
theorem tf27_0 : zcc P 27 0 = some (0, 3, some 1) := by rw [IsP.eq (P := P)]; kernel_rfl
theorem tf27_1 : zcc P 27 1 = some (1, 3, some 1) := by rw [IsP.eq (P := P)]; kernel_rfl
theorem tf27_2 : zcc P 27 2 = some (2, 3, some 1) := by rw [IsP.eq (P := P)]; kernel_rfl
theorem tp27 : tyPlaces P 27 = some [(0, 1), (1, 1), (2, 1)] := by rw [IsP.eq (P := P)]; kernel_rfl
theorem ta28 : zcq P 28 = some false := by rw [IsP.eq (P := P)]; kernel_rfl
theorem ts28 : zb5 P 28 = some 29 := by rw [IsP.eq (P := P)]; kernel_rfl
theorem ti29 : zbt P 29 = some (some (.slice none 0 0), 1, 24) := by rw [IsP.eq (P := P)]; kernel_rfl
theorem ta29 : zcq P 29 = some false := by rw [IsP.eq (P := P)]; kernel_rfl
theorem ts29 : zb5 P 29 = some 3 := by rw [IsP.eq (P := P)]; kernel_rfl
theorem ti30 : zbt P 30 = some (some (.slice none 0 0), 1, 24) := by rw [IsP.eq (P := P)]; kernel_rfl
theorem ta30 : zcq P 30 = some false := by rw [IsP.eq (P := P)]; kernel_rfl
theorem ts30 : zb5 P 30 = some 56 := by rw [IsP.eq (P := P)]; kernel_rfl
theorem ti32 : zbt P 32 = some (some (.agg #[.slice none 0 0, .slice none 0 0, .slice none 0 0]), 3, 72) := by rw [IsP.eq (P := P)]; kernel_rfl
theorem ta32 : zcq P 32 = some true := by rw [IsP.eq (P := P)]; kernel_rfl
theorem za9 : zcc P 32 0 = some (0, 28, some 1) := by rw [IsP.eq (P := P)]; kernel_rfl
theorem zdl : zcc P 32 1 = some (1, 29, some 1) := by rw [IsP.eq (P := P)]; kernel_rfl
theorem tf32_2 : zcc P 32 2 = some (2, 30, some 1) := by rw [IsP.eq (P := P)]; kernel_rfl
theorem tp32 : tyPlaces P 32 = some [(0, 1), (1, 1), (2, 1)] := by rw [IsP.eq (P := P)]; kernel_rfl
theorem ti37 : zbt P 37 = some (some (.agg #[.int .i64 0, .int .i64 0, .string ⟨#[]⟩]), 3, 32) := by rw [IsP.eq (P := P)]; kernel_rfl
theorem ta37 : zcq P 37 = some true := by rw [IsP.eq (P := P)]; kernel_rfl
theorem tf37_2 : zcc P 37 2 = some (2, 9, some 1) := by rw [IsP.eq (P := P)]; kernel_rfl
theorem tp37 : tyPlaces P 37 = some [(0, 1), (1, 1), (2, 1)] := by rw [IsP.eq (P := P)]; kernel_rfl
theorem ti56 : zbt P 56 = some (some (.agg #[.int .i64 0, .int .i64 0]), 2, 16) := by rw [IsP.eq (P := P)]; kernel_rfl
theorem ta56 : zcq P 56 = some true := by rw [IsP.eq (P := P)]; kernel_rfl
theorem tf56_0 : zcc P 56 0 = some (0, 3, some 1) := by rw [IsP.eq (P := P)]; kernel_rfl
theorem tf56_1 : zcc P 56 1 = some (1, 3, some 1) := by rw [IsP.eq (P := P)]; kernel_rfl
theorem te56 : tyEqK P 56 = some [.i, .i] := by rw [IsP.eq (P := P)]; kernel_rfl
theorem tp56 : tyPlaces P 56 = some [(0, 1), (1, 1)] := by rw [IsP.eq (P := P)]; kernel_rfl
theorem ts68 : zb5 P 68 = some 37 := by rw [IsP.eq (P := P)]; kernel_rfl
theorem tu69 : (P.underlying 69).isSome = true := by rw [IsP.eq (P := P)]; kernel_rfl
theorem ti76 : zbt P 76 = some (some (.agg #[.slice none 0 0, .int .i64 0]), 2, 32) := by rw [IsP.eq (P := P)]; kernel_rfl
theorem tp76 : tyPlaces P 76 = some [(0, 1), (1, 1)] := by rw [IsP.eq (P := P)]; kernel_rfl
theorem ti86 : zbt P 86 = some (some (.agg #[.string ⟨#[]⟩, .slice none 0 0, .slice none 0 0]), 3, 64) := by rw [IsP.eq (P := P)]; kernel_rfl
theorem ta86 : zcq P 86 = some true := by rw [IsP.eq (P := P)]; kernel_rfl
theorem tf86_0 : zcc P 86 0 = some (0, 9, some 1) := by rw [IsP.eq (P := P)]; kernel_rfl
theorem tf86_1 : zcc P 86 1 = some (1, 29, some 1) := by rw [IsP.eq (P := P)]; kernel_rfl
theorem tf86_2 : zcc P 86 2 = some (2, 29, some 1) := by rw [IsP.eq (P := P)]; kernel_rfl
theorem tp86 : tyPlaces P 86 = some [(0, 1), (1, 1), (2, 1)] := by rw [IsP.eq (P := P)]; kernel_rfl
theorem ts111 : zb5 P 111 = some 119 := by rw [IsP.eq (P := P)]; kernel_rfl
theorem ta113 : zcq P 113 = some false := by rw [IsP.eq (P := P)]; kernel_rfl
theorem tm113 : tyMap P 113 = some (9, 3) := by rw [IsP.eq (P := P)]; kernel_rfl
theorem tn9 : P.underlying 9 = some .string := by rw [IsP.eq (P := P)]; kernel_rfl
theorem tn3 : P.underlying 3 = some (.int .i64) := by rw [IsP.eq (P := P)]; kernel_rfl
theorem tK9 : Go.Maps.Keyed P 9 := Go.Maps.string_keyed tn9
theorem ti119 : zbt P 119 = some (some (.agg #[.int .i64 0, .int .i64 0, .int .i64 0]), 3, 24) := by rw [IsP.eq (P := P)]; kernel_rfl
theorem tf119_0 : zcc P 119 0 = some (0, 3, some 1) := by rw [IsP.eq (P := P)]; kernel_rfl
theorem tf119_1 : zcc P 119 1 = some (1, 3, some 1) := by rw [IsP.eq (P := P)]; kernel_rfl
theorem tf119_2 : zcc P 119 2 = some (2, 3, some 1) := by rw [IsP.eq (P := P)]; kernel_rfl
theorem tp119 : tyPlaces P 119 = some [(0, 1), (1, 1), (2, 1)] := by rw [IsP.eq (P := P)]; kernel_rfl
theorem tm129 : tyMap P 129 = some (9, 4) := by rw [IsP.eq (P := P)]; kernel_rfl
theorem tn4 : P.underlying 4 = some .bool := by rw [IsP.eq (P := P)]; kernel_rfl
theorem ti142 : zbt P 142 = some (some (.agg #[.int .i64 0, .slice none 0 0, .int .i64 0, .int .i64 0, .slice none 0 0, .slice none 0 0, .slice none 0 0, .slice none 0 0, .slice none 0 0, .map none]), 10, 176) := by rw [IsP.eq (P := P)]; kernel_rfl
theorem tf142_0 : zcc P 142 0 = some (0, 24, some 4) := by rw [IsP.eq (P := P)]; kernel_rfl
theorem tf142_1 : zcc P 142 1 = some (4, 25, some 1) := by rw [IsP.eq (P := P)]; kernel_rfl
theorem tf142_2 : zcc P 142 2 = some (5, 32, some 3) := by rw [IsP.eq (P := P)]; kernel_rfl
theorem tf142_3 : zcc P 142 3 = some (8, 29, some 1) := by rw [IsP.eq (P := P)]; kernel_rfl
theorem tf142_4 : zcc P 142 4 = some (9, 113, some 1) := by rw [IsP.eq (P := P)]; kernel_rfl
theorem tp142 : tyPlaces P 142 = some [(0, 4), (4, 1), (5, 3), (8, 1), (9, 1)] := by rw [IsP.eq (P := P)]; kernel_rfl
theorem tu164 : (P.underlying 164).isSome = true := by rw [IsP.eq (P := P)]; kernel_rfl
theorem tk164 : tyInt P 164 = some .u64 := by rw [IsP.eq (P := P)]; kernel_rfl
end Go.Proofs.YtjhdcgaiccnmeaaGreatDoor.Aw
end
