/-
  Texts joined: Ti, Places, Places2. Conditions: none.
-/
import Derived.Test.YtmhbfoaecebobaaJP7
import Derived.Test.YtmhbfoaecebobaaProg
import Derived.Test.YtmhbfoaecebobaaJP6
section
namespace Go.Proofs.Ytmhbfoaecebobaa.Aw
open Go Go.Proofs
/-- the program -/
class IsP (P : Program) : Prop where
  eq : P = Try.prog
instance : IsP Try.prog := ⟨rfl⟩
variable {P : Program} [IsP P]
theorem hmix : P.follows .mixedOrders = true := by rw [IsP.eq (P := P)]; kernel_rfl
theorem ti2 : tyInfo P 2 = some (some (.int .i64 0), 1, 8) := by rw [IsP.eq (P := P)]; kernel_rfl
theorem ta2 : tyAgg P 2 = some false := by rw [IsP.eq (P := P)]; kernel_rfl
theorem tu2 : (P.underlying 2).isSome = true := by rw [IsP.eq (P := P)]; kernel_rfl
theorem tk2 : tyInt P 2 = some .i64 := by rw [IsP.eq (P := P)]; kernel_rfl
theorem ti3 : tyInfo P 3 = some (some (.int .i64 0), 1, 8) := by rw [IsP.eq (P := P)]; kernel_rfl
theorem ta3 : tyAgg P 3 = some false := by rw [IsP.eq (P := P)]; kernel_rfl
theorem tu3 : (P.underlying 3).isSome = true := by rw [IsP.eq (P := P)]; kernel_rfl
theorem tk3 : tyInt P 3 = some .i64 := by rw [IsP.eq (P := P)]; kernel_rfl
theorem ti4 : tyInfo P 4 = some (some (.bool false), 1, 1) := by rw [IsP.eq (P := P)]; kernel_rfl
theorem ta4 : tyAgg P 4 = some false := by rw [IsP.eq (P := P)]; kernel_rfl
theorem tu4 : (P.underlying 4).isSome = true := by rw [IsP.eq (P := P)]; kernel_rfl
theorem ti5 : tyInfo P 5 = some (some (.int .u8 0), 1, 1) := by rw [IsP.eq (P := P)]; kernel_rfl
theorem ta5 : tyAgg P 5 = some false := by rw [IsP.eq (P := P)]; kernel_rfl
theorem tu5 : (P.underlying 5).isSome = true := by rw [IsP.eq (P := P)]; kernel_rfl
theorem tk5 : tyInt P 5 = some .u8 := by rw [IsP.eq (P := P)]; kernel_rfl
theorem ti6 : tyInfo P 6 = some (some (.int .u8 0), 1, 1) := by rw [IsP.eq (P := P)]; kernel_rfl
theorem ta6 : tyAgg P 6 = some false := by rw [IsP.eq (P := P)]; kernel_rfl
theorem tu6 : (P.underlying 6).isSome = true := by rw [IsP.eq (P := P)]; kernel_rfl
theorem tk6 : tyInt P 6 = some .u8 := by rw [IsP.eq (P := P)]; kernel_rfl
theorem ti7 : tyInfo P 7 = some (some (.agg #[.int .i64 0, .int .i64 0, .bool false, .int .u8 0]), 4, 24) := by rw [IsP.eq (P := P)]; kernel_rfl
theorem ta7 : tyAgg P 7 = some true := by rw [IsP.eq (P := P)]; kernel_rfl
theorem tu7 : (P.underlying 7).isSome = true := by rw [IsP.eq (P := P)]; kernel_rfl
theorem tf7_0 : tyField P 7 0 = some (0, 2, some 1) := by rw [IsP.eq (P := P)]; kernel_rfl
theorem tf7_1 : tyField P 7 1 = some (1, 3, some 1) := by rw [IsP.eq (P := P)]; kernel_rfl
theorem tf7_2 : tyField P 7 2 = some (2, 4, some 1) := by rw [IsP.eq (P := P)]; kernel_rfl
theorem tf7_3 : tyField P 7 3 = some (3, 6, some 1) := by rw [IsP.eq (P := P)]; kernel_rfl
theorem te7 : tyEqK P 7 = some [.i, .i, .b, .i] := by rw [IsP.eq (P := P)]; kernel_rfl
theorem tp7 : tyPlaces P 7 = some [(0, 1), (1, 1), (2, 1), (3, 1)] := by rw [IsP.eq (P := P)]; kernel_rfl
theorem ti8 : tyInfo P 8 = some (some (.agg #[.int .i64 0, .int .i64 0, .bool false, .int .u8 0]), 4, 24) := by rw [IsP.eq (P := P)]; kernel_rfl
theorem ta8 : tyAgg P 8 = some true := by rw [IsP.eq (P := P)]; kernel_rfl
theorem tu8 : (P.underlying 8).isSome = true := by rw [IsP.eq (P := P)]; kernel_rfl
theorem ti9 : tyInfo P 9 = some (some (.string ⟨#[]⟩), 1, 16) := by rw [IsP.eq (P := P)]; kernel_rfl
theorem ta9 : tyAgg P 9 = some false := by rw [IsP.eq (P := P)]; kernel_rfl
theorem tu9 : (P.underlying 9).isSome = true := by rw [IsP.eq (P := P)]; kernel_rfl
theorem tg9 : tyString P 9 = true := by rw [IsP.eq (P := P)]; kernel_rfl
theorem ti10 : tyInfo P 10 = some (some (.string ⟨#[]⟩), 1, 16) := by rw [IsP.eq (P := P)]; kernel_rfl
theorem ta10 : tyAgg P 10 = some false := by rw [IsP.eq (P := P)]; kernel_rfl
theorem tu10 : (P.underlying 10).isSome = true := by rw [IsP.eq (P := P)]; kernel_rfl
theorem tg10 : tyString P 10 = true := by rw [IsP.eq (P := P)]; kernel_rfl
theorem ti11 : tyInfo P 11 = some (some (.string ⟨#[]⟩), 1, 16) := by rw [IsP.eq (P := P)]; kernel_rfl
theorem ta11 : tyAgg P 11 = some false := by rw [IsP.eq (P := P)]; kernel_rfl
theorem tu11 : (P.underlying 11).isSome = true := by rw [IsP.eq (P := P)]; kernel_rfl
theorem tg11 : tyString P 11 = true := by rw [IsP.eq (P := P)]; kernel_rfl
theorem ti12 : tyInfo P 12 = some (some (.int .u64 0), 1, 8) := by rw [IsP.eq (P := P)]; kernel_rfl
theorem ta12 : tyAgg P 12 = some false := by rw [IsP.eq (P := P)]; kernel_rfl
theorem tu12 : (P.underlying 12).isSome = true := by rw [IsP.eq (P := P)]; kernel_rfl
theorem tk12 : tyInt P 12 = some .u64 := by rw [IsP.eq (P := P)]; kernel_rfl
theorem ti13 : tyInfo P 13 = some (some (.agg #[.string ⟨#[]⟩, .int .u64 0]), 2, 24) := by rw [IsP.eq (P := P)]; kernel_rfl
theorem ta13 : tyAgg P 13 = some true := by rw [IsP.eq (P := P)]; kernel_rfl
theorem tu13 : (P.underlying 13).isSome = true := by rw [IsP.eq (P := P)]; kernel_rfl
theorem tf13_0 : tyField P 13 0 = some (0, 9, some 1) := by rw [IsP.eq (P := P)]; kernel_rfl
theorem tf13_1 : tyField P 13 1 = some (1, 12, some 1) := by rw [IsP.eq (P := P)]; kernel_rfl
theorem tp13 : tyPlaces P 13 = some [(0, 1), (1, 1)] := by rw [IsP.eq (P := P)]; kernel_rfl
theorem ti14 : tyInfo P 14 = some (some (.agg #[.string ⟨#[]⟩, .int .u64 0]), 2, 24) := by rw [IsP.eq (P := P)]; kernel_rfl
theorem ta14 : tyAgg P 14 = some true := by rw [IsP.eq (P := P)]; kernel_rfl
theorem tu14 : (P.underlying 14).isSome = true := by rw [IsP.eq (P := P)]; kernel_rfl
theorem ti15 : tyInfo P 15 = some (some (.pointer none), 1, 8) := by rw [IsP.eq (P := P)]; kernel_rfl
theorem ta15 : tyAgg P 15 = some false := by rw [IsP.eq (P := P)]; kernel_rfl
theorem tu15 : (P.underlying 15).isSome = true := by rw [IsP.eq (P := P)]; kernel_rfl
theorem ti16 : tyInfo P 16 = some (some (.pointer none), 1, 8) := by rw [IsP.eq (P := P)]; kernel_rfl
theorem ta16 : tyAgg P 16 = some false := by rw [IsP.eq (P := P)]; kernel_rfl
theorem tu16 : (P.underlying 16).isSome = true := by rw [IsP.eq (P := P)]; kernel_rfl
theorem ti17 : tyInfo P 17 = some (some (.pointer none), 1, 8) := by rw [IsP.eq (P := P)]; kernel_rfl
theorem ta17 : tyAgg P 17 = some false := by rw [IsP.eq (P := P)]; kernel_rfl
theorem tu17 : (P.underlying 17).isSome = true := by rw [IsP.eq (P := P)]; kernel_rfl
theorem ti18 : tyInfo P 18 = some (some (.agg #[.pointer none]), 1, 8) := by rw [IsP.eq (P := P)]; kernel_rfl
theorem ta18 : tyAgg P 18 = some true := by rw [IsP.eq (P := P)]; kernel_rfl
theorem tu18 : (P.underlying 18).isSome = true := by rw [IsP.eq (P := P)]; kernel_rfl
theorem tf18_0 : tyField P 18 0 = some (0, 17, some 1) := by rw [IsP.eq (P := P)]; kernel_rfl
theorem tp18 : tyPlaces P 18 = some [(0, 1)] := by rw [IsP.eq (P := P)]; kernel_rfl
theorem ti19 : tyInfo P 19 = some (some (.agg #[.pointer none]), 1, 8) := by rw [IsP.eq (P := P)]; kernel_rfl
theorem ta19 : tyAgg P 19 = some true := by rw [IsP.eq (P := P)]; kernel_rfl
theorem tu19 : (P.underlying 19).isSome = true := by rw [IsP.eq (P := P)]; kernel_rfl
theorem tf19_0 : tyField P 19 0 = some (0, 17, some 1) := by rw [IsP.eq (P := P)]; kernel_rfl
theorem tp19 : tyPlaces P 19 = some [(0, 1)] := by rw [IsP.eq (P := P)]; kernel_rfl
theorem ti21 : tyInfo P 21 = some (some (.int .i32 0), 1, 4) := by rw [IsP.eq (P := P)]; kernel_rfl
theorem ta21 : tyAgg P 21 = some false := by rw [IsP.eq (P := P)]; kernel_rfl
theorem tu21 : (P.underlying 21).isSome = true := by rw [IsP.eq (P := P)]; kernel_rfl
theorem tk21 : tyInt P 21 = some .i32 := by rw [IsP.eq (P := P)]; kernel_rfl
theorem ti22 : tyInfo P 22 = some (some (.slice none 0 0), 1, 24) := by rw [IsP.eq (P := P)]; kernel_rfl
theorem ta22 : tyAgg P 22 = some false := by rw [IsP.eq (P := P)]; kernel_rfl
theorem tu22 : (P.underlying 22).isSome = true := by rw [IsP.eq (P := P)]; kernel_rfl
theorem ts22 : tySlice P 22 = some 46 := by rw [IsP.eq (P := P)]; kernel_rfl
theorem ti23 : tyInfo P 23 = some (some (.agg #[.int .i64 0, .slice none 0 0, .int .i64 0, .int .i64 0]), 4, 48) := by rw [IsP.eq (P := P)]; kernel_rfl
theorem ta23 : tyAgg P 23 = some true := by rw [IsP.eq (P := P)]; kernel_rfl
theorem tu23 : (P.underlying 23).isSome = true := by rw [IsP.eq (P := P)]; kernel_rfl
theorem tf23_0 : tyField P 23 0 = some (0, 3, some 1) := by rw [IsP.eq (P := P)]; kernel_rfl
theorem tf23_1 : tyField P 23 1 = some (1, 22, some 1) := by rw [IsP.eq (P := P)]; kernel_rfl
theorem tf23_2 : tyField P 23 2 = some (2, 3, some 1) := by rw [IsP.eq (P := P)]; kernel_rfl
theorem tf23_3 : tyField P 23 3 = some (3, 3, some 1) := by rw [IsP.eq (P := P)]; kernel_rfl
theorem tp23 : tyPlaces P 23 = some [(0, 1), (1, 1), (2, 1), (3, 1)] := by rw [IsP.eq (P := P)]; kernel_rfl
theorem ti24 : tyInfo P 24 = some (some (.agg #[.int .i64 0, .slice none 0 0, .int .i64 0, .int .i64 0]), 4, 48) := by rw [IsP.eq (P := P)]; kernel_rfl
theorem ta24 : tyAgg P 24 = some true := by rw [IsP.eq (P := P)]; kernel_rfl
theorem tu24 : (P.underlying 24).isSome = true := by rw [IsP.eq (P := P)]; kernel_rfl
theorem tf24_0 : tyField P 24 0 = some (0, 3, some 1) := by rw [IsP.eq (P := P)]; kernel_rfl
theorem tf24_1 : tyField P 24 1 = some (1, 22, some 1) := by rw [IsP.eq (P := P)]; kernel_rfl
theorem tf24_2 : tyField P 24 2 = some (2, 3, some 1) := by rw [IsP.eq (P := P)]; kernel_rfl
theorem tf24_3 : tyField P 24 3 = some (3, 3, some 1) := by rw [IsP.eq (P := P)]; kernel_rfl
theorem tp24 : tyPlaces P 24 = some [(0, 1), (1, 1), (2, 1), (3, 1)] := by rw [IsP.eq (P := P)]; kernel_rfl
theorem ti25 : tyInfo P 25 = some (some (.slice none 0 0), 1, 24) := by rw [IsP.eq (P := P)]; kernel_rfl
theorem ta25 : tyAgg P 25 = some false := by rw [IsP.eq (P := P)]; kernel_rfl
theorem tu25 : (P.underlying 25).isSome = true := by rw [IsP.eq (P := P)]; kernel_rfl
theorem ts25 : tySlice P 25 = some 9 := by rw [IsP.eq (P := P)]; kernel_rfl
theorem ti28 : tyInfo P 28 = some (some (.agg #[.int .i64 0, .int .i64 0, .int .i64 0, .int .i64 0]), 4, 32) := by rw [IsP.eq (P := P)]; kernel_rfl
theorem ta28 : tyAgg P 28 = some true := by rw [IsP.eq (P := P)]; kernel_rfl
theorem tu28 : (P.underlying 28).isSome = true := by rw [IsP.eq (P := P)]; kernel_rfl
theorem tf28_0 : tyField P 28 0 = some (0, 3, some 1) := by rw [IsP.eq (P := P)]; kernel_rfl
theorem tf28_1 : tyField P 28 1 = some (1, 3, some 1) := by rw [IsP.eq (P := P)]; kernel_rfl
theorem tf28_2 : tyField P 28 2 = some (2, 3, some 1) := by rw [IsP.eq (P := P)]; kernel_rfl
theorem tf28_3 : tyField P 28 3 = some (3, 3, some 1) := by rw [IsP.eq (P := P)]; kernel_rfl
theorem te28 : tyEqK P 28 = some [.i, .i, .i, .i] := by rw [IsP.eq (P := P)]; kernel_rfl
theorem tp28 : tyPlaces P 28 = some [(0, 1), (1, 1), (2, 1), (3, 1)] := by rw [IsP.eq (P := P)]; kernel_rfl
theorem ti29 : tyInfo P 29 = some (some (.agg #[.int .i64 0, .int .i64 0, .int .i64 0, .int .i64 0]), 4, 32) := by rw [IsP.eq (P := P)]; kernel_rfl
theorem ta29 : tyAgg P 29 = some true := by rw [IsP.eq (P := P)]; kernel_rfl
theorem tu29 : (P.underlying 29).isSome = true := by rw [IsP.eq (P := P)]; kernel_rfl
theorem tf29_0 : tyField P 29 0 = some (0, 3, some 1) := by rw [IsP.eq (P := P)]; kernel_rfl
theorem tf29_1 : tyField P 29 1 = some (1, 3, some 1) := by rw [IsP.eq (P := P)]; kernel_rfl
theorem tf29_2 : tyField P 29 2 = some (2, 3, some 1) := by rw [IsP.eq (P := P)]; kernel_rfl
theorem tf29_3 : tyField P 29 3 = some (3, 3, some 1) := by rw [IsP.eq (P := P)]; kernel_rfl
theorem te29 : tyEqK P 29 = some [.i, .i, .i, .i] := by rw [IsP.eq (P := P)]; kernel_rfl
theorem tp29 : tyPlaces P 29 = some [(0, 1), (1, 1), (2, 1), (3, 1)] := by rw [IsP.eq (P := P)]; kernel_rfl
theorem ti30 : tyInfo P 30 = some (some (.slice none 0 0), 1, 24) := by rw [IsP.eq (P := P)]; kernel_rfl
theorem ta30 : tyAgg P 30 = some false := by rw [IsP.eq (P := P)]; kernel_rfl
theorem tu30 : (P.underlying 30).isSome = true := by rw [IsP.eq (P := P)]; kernel_rfl
theorem ts30 : tySlice P 30 = some 3 := by rw [IsP.eq (P := P)]; kernel_rfl
theorem ti31 : tyInfo P 31 = some (some (.int .i64 0), 1, 8) := by rw [IsP.eq (P := P)]; kernel_rfl
theorem ta31 : tyAgg P 31 = some false := by rw [IsP.eq (P := P)]; kernel_rfl
theorem tu31 : (P.underlying 31).isSome = true := by rw [IsP.eq (P := P)]; kernel_rfl
theorem tk31 : tyInt P 31 = some .i64 := by rw [IsP.eq (P := P)]; kernel_rfl
theorem ti37 : tyInfo P 37 = some (some (.slice none 0 0), 1, 24) := by rw [IsP.eq (P := P)]; kernel_rfl
theorem ta37 : tyAgg P 37 = some false := by rw [IsP.eq (P := P)]; kernel_rfl
theorem tu37 : (P.underlying 37).isSome = true := by rw [IsP.eq (P := P)]; kernel_rfl
theorem ts37 : tySlice P 37 = some 29 := by rw [IsP.eq (P := P)]; kernel_rfl
theorem ti38 : tyInfo P 38 = some (some (.agg #[.int .i64 0, .int .i64 0]), 2, 16) := by rw [IsP.eq (P := P)]; kernel_rfl
theorem ta38 : tyAgg P 38 = some true := by rw [IsP.eq (P := P)]; kernel_rfl
theorem tu38 : (P.underlying 38).isSome = true := by rw [IsP.eq (P := P)]; kernel_rfl
theorem tf38_0 : tyField P 38 0 = some (0, 3, some 1) := by rw [IsP.eq (P := P)]; kernel_rfl
theorem tf38_1 : tyField P 38 1 = some (1, 3, some 1) := by rw [IsP.eq (P := P)]; kernel_rfl
theorem te38 : tyEqK P 38 = some [.i, .i] := by rw [IsP.eq (P := P)]; kernel_rfl
theorem tp38 : tyPlaces P 38 = some [(0, 1), (1, 1)] := by rw [IsP.eq (P := P)]; kernel_rfl
theorem ti39 : tyInfo P 39 = some (some (.agg #[.int .i64 0, .int .i64 0]), 2, 16) := by rw [IsP.eq (P := P)]; kernel_rfl
theorem ta39 : tyAgg P 39 = some true := by rw [IsP.eq (P := P)]; kernel_rfl
theorem tu39 : (P.underlying 39).isSome = true := by rw [IsP.eq (P := P)]; kernel_rfl
theorem tf39_0 : tyField P 39 0 = some (0, 3, some 1) := by rw [IsP.eq (P := P)]; kernel_rfl
theorem tf39_1 : tyField P 39 1 = some (1, 3, some 1) := by rw [IsP.eq (P := P)]; kernel_rfl
theorem te39 : tyEqK P 39 = some [.i, .i] := by rw [IsP.eq (P := P)]; kernel_rfl
theorem tp39 : tyPlaces P 39 = some [(0, 1), (1, 1)] := by rw [IsP.eq (P := P)]; kernel_rfl
theorem ti45 : tyInfo P 45 = some (some (.agg #[.string ⟨#[]⟩, .slice none 0 0, .slice none 0 0]), 3, 64) := by rw [IsP.eq (P := P)]; kernel_rfl
theorem ta45 : tyAgg P 45 = some true := by rw [IsP.eq (P := P)]; kernel_rfl
theorem tu45 : (P.underlying 45).isSome = true := by rw [IsP.eq (P := P)]; kernel_rfl
theorem tf45_0 : tyField P 45 0 = some (0, 9, some 1) := by rw [IsP.eq (P := P)]; kernel_rfl
theorem tf45_1 : tyField P 45 1 = some (1, 30, some 1) := by rw [IsP.eq (P := P)]; kernel_rfl
theorem tf45_2 : tyField P 45 2 = some (2, 30, some 1) := by rw [IsP.eq (P := P)]; kernel_rfl
theorem tp45 : tyPlaces P 45 = some [(0, 1), (1, 1), (2, 1)] := by rw [IsP.eq (P := P)]; kernel_rfl
theorem ti46 : tyInfo P 46 = some (some (.agg #[.string ⟨#[]⟩, .slice none 0 0, .slice none 0 0]), 3, 64) := by rw [IsP.eq (P := P)]; kernel_rfl
theorem ta46 : tyAgg P 46 = some true := by rw [IsP.eq (P := P)]; kernel_rfl
theorem tu46 : (P.underlying 46).isSome = true := by rw [IsP.eq (P := P)]; kernel_rfl
theorem tf46_0 : tyField P 46 0 = some (0, 9, some 1) := by rw [IsP.eq (P := P)]; kernel_rfl
theorem tf46_1 : tyField P 46 1 = some (1, 30, some 1) := by rw [IsP.eq (P := P)]; kernel_rfl
theorem tf46_2 : tyField P 46 2 = some (2, 30, some 1) := by rw [IsP.eq (P := P)]; kernel_rfl
theorem tp46 : tyPlaces P 46 = some [(0, 1), (1, 1), (2, 1)] := by rw [IsP.eq (P := P)]; kernel_rfl
theorem ti68 : tyInfo P 68 = some (some (.pointer none), 1, 8) := by rw [IsP.eq (P := P)]; kernel_rfl
theorem ta68 : tyAgg P 68 = some false := by rw [IsP.eq (P := P)]; kernel_rfl
theorem tu68 : (P.underlying 68).isSome = true := by rw [IsP.eq (P := P)]; kernel_rfl
theorem ti69 : tyInfo P 69 = some (some (.agg #[.int .i64 0, .slice none 0 0, .int .i64 0, .int .i64 0, .slice none 0 0, .int .i64 0, .int .i64 0, .int .i64 0, .int .i64 0, .slice none 0 0, .bool false]), 11, 136) := by rw [IsP.eq (P := P)]; kernel_rfl
theorem ta69 : tyAgg P 69 = some true := by rw [IsP.eq (P := P)]; kernel_rfl
theorem tu69 : (P.underlying 69).isSome = true := by rw [IsP.eq (P := P)]; kernel_rfl
theorem tf69_0 : tyField P 69 0 = some (0, 24, some 4) := by rw [IsP.eq (P := P)]; kernel_rfl
theorem tf69_1 : tyField P 69 1 = some (4, 30, some 1) := by rw [IsP.eq (P := P)]; kernel_rfl
theorem tf69_2 : tyField P 69 2 = some (5, 29, some 4) := by rw [IsP.eq (P := P)]; kernel_rfl
theorem tf69_3 : tyField P 69 3 = some (9, 30, some 1) := by rw [IsP.eq (P := P)]; kernel_rfl
theorem tf69_4 : tyField P 69 4 = some (10, 4, some 1) := by rw [IsP.eq (P := P)]; kernel_rfl
theorem tp69 : tyPlaces P 69 = some [(0, 4), (4, 1), (5, 4), (9, 1), (10, 1)] := by rw [IsP.eq (P := P)]; kernel_rfl
theorem ti70 : tyInfo P 70 = some (some (.agg #[.int .i64 0, .slice none 0 0, .int .i64 0, .int .i64 0, .slice none 0 0, .int .i64 0, .int .i64 0, .int .i64 0, .int .i64 0, .slice none 0 0, .bool false]), 11, 136) := by rw [IsP.eq (P := P)]; kernel_rfl
theorem ta70 : tyAgg P 70 = some true := by rw [IsP.eq (P := P)]; kernel_rfl
theorem tu70 : (P.underlying 70).isSome = true := by rw [IsP.eq (P := P)]; kernel_rfl
theorem tf70_0 : tyField P 70 0 = some (0, 24, some 4) := by rw [IsP.eq (P := P)]; kernel_rfl
theorem tf70_1 : tyField P 70 1 = some (4, 30, some 1) := by rw [IsP.eq (P := P)]; kernel_rfl
theorem tf70_2 : tyField P 70 2 = some (5, 29, some 4) := by rw [IsP.eq (P := P)]; kernel_rfl
theorem tf70_3 : tyField P 70 3 = some (9, 30, some 1) := by rw [IsP.eq (P := P)]; kernel_rfl
theorem tf70_4 : tyField P 70 4 = some (10, 4, some 1) := by rw [IsP.eq (P := P)]; kernel_rfl
theorem tp70 : tyPlaces P 70 = some [(0, 4), (4, 1), (5, 4), (9, 1), (10, 1)] := by rw [IsP.eq (P := P)]; kernel_rfl
theorem ti73 : tyInfo P 73 = some (some (.agg #[.int .i64 0, .slice none 0 0, .int .i64 0, .int .i64 0, .slice none 0 0, .int .i64 0, .int .i64 0, .int .i64 0, .int .i64 0, .slice none 0 0, .bool false]), 11, 136) := by rw [IsP.eq (P := P)]; kernel_rfl
theorem ta73 : tyAgg P 73 = some true := by rw [IsP.eq (P := P)]; kernel_rfl
theorem tu73 : (P.underlying 73).isSome = true := by rw [IsP.eq (P := P)]; kernel_rfl
theorem tf73_0 : tyField P 73 0 = some (0, 24, some 4) := by rw [IsP.eq (P := P)]; kernel_rfl
theorem tf73_1 : tyField P 73 1 = some (4, 30, some 1) := by rw [IsP.eq (P := P)]; kernel_rfl
theorem tf73_2 : tyField P 73 2 = some (5, 29, some 4) := by rw [IsP.eq (P := P)]; kernel_rfl
theorem tf73_3 : tyField P 73 3 = some (9, 30, some 1) := by rw [IsP.eq (P := P)]; kernel_rfl
theorem tf73_4 : tyField P 73 4 = some (10, 4, some 1) := by rw [IsP.eq (P := P)]; kernel_rfl
theorem tp73 : tyPlaces P 73 = some [(0, 4), (4, 1), (5, 4), (9, 1), (10, 1)] := by rw [IsP.eq (P := P)]; kernel_rfl
theorem ti74 : tyInfo P 74 = some (some (.agg #[.int .i64 0, .slice none 0 0, .int .i64 0, .int .i64 0, .slice none 0 0, .int .i64 0, .int .i64 0, .int .i64 0, .int .i64 0, .slice none 0 0, .bool false]), 11, 136) := by rw [IsP.eq (P := P)]; kernel_rfl
theorem ta74 : tyAgg P 74 = some true := by rw [IsP.eq (P := P)]; kernel_rfl
theorem tu74 : (P.underlying 74).isSome = true := by rw [IsP.eq (P := P)]; kernel_rfl
theorem tf74_0 : tyField P 74 0 = some (0, 24, some 4) := by rw [IsP.eq (P := P)]; kernel_rfl
theorem tf74_1 : tyField P 74 1 = some (4, 30, some 1) := by rw [IsP.eq (P := P)]; kernel_rfl
theorem tf74_2 : tyField P 74 2 = some (5, 29, some 4) := by rw [IsP.eq (P := P)]; kernel_rfl
theorem tf74_3 : tyField P 74 3 = some (9, 30, some 1) := by rw [IsP.eq (P := P)]; kernel_rfl
theorem tf74_4 : tyField P 74 4 = some (10, 4, some 1) := by rw [IsP.eq (P := P)]; kernel_rfl
theorem tp74 : tyPlaces P 74 = some [(0, 4), (4, 1), (5, 4), (9, 1), (10, 1)] := by rw [IsP.eq (P := P)]; kernel_rfl
theorem ti85 : tyInfo P 85 = some (some (.agg #[.int .i64 0, .slice none 0 0, .slice none 0 0]), 3, 56) := by rw [IsP.eq (P := P)]; kernel_rfl
theorem ta85 : tyAgg P 85 = some true := by rw [IsP.eq (P := P)]; kernel_rfl
theorem tu85 : (P.underlying 85).isSome = true := by rw [IsP.eq (P := P)]; kernel_rfl
theorem tf85_0 : tyField P 85 0 = some (0, 3, some 1) := by rw [IsP.eq (P := P)]; kernel_rfl
theorem tf85_1 : tyField P 85 1 = some (1, 30, some 1) := by rw [IsP.eq (P := P)]; kernel_rfl
theorem tf85_2 : tyField P 85 2 = some (2, 30, some 1) := by rw [IsP.eq (P := P)]; kernel_rfl
theorem tp85 : tyPlaces P 85 = some [(0, 1), (1, 1), (2, 1)] := by rw [IsP.eq (P := P)]; kernel_rfl
theorem ti86 : tyInfo P 86 = some (some (.agg #[.int .i64 0, .slice none 0 0, .slice none 0 0]), 3, 56) := by rw [IsP.eq (P := P)]; kernel_rfl
theorem ta86 : tyAgg P 86 = some true := by rw [IsP.eq (P := P)]; kernel_rfl
theorem tu86 : (P.underlying 86).isSome = true := by rw [IsP.eq (P := P)]; kernel_rfl
theorem tf86_0 : tyField P 86 0 = some (0, 3, some 1) := by rw [IsP.eq (P := P)]; kernel_rfl
theorem tf86_1 : tyField P 86 1 = some (1, 30, some 1) := by rw [IsP.eq (P := P)]; kernel_rfl
theorem tf86_2 : tyField P 86 2 = some (2, 30, some 1) := by rw [IsP.eq (P := P)]; kernel_rfl
theorem tp86 : tyPlaces P 86 = some [(0, 1), (1, 1), (2, 1)] := by rw [IsP.eq (P := P)]; kernel_rfl
theorem ti88 : tyInfo P 88 = some (some (.slice none 0 0), 1, 24) := by rw [IsP.eq (P := P)]; kernel_rfl
theorem ta88 : tyAgg P 88 = some false := by rw [IsP.eq (P := P)]; kernel_rfl
theorem tu88 : (P.underlying 88).isSome = true := by rw [IsP.eq (P := P)]; kernel_rfl
theorem ts88 : tySlice P 88 = some 86 := by rw [IsP.eq (P := P)]; kernel_rfl
theorem ti90 : tyInfo P 90 = some (some (.map none), 1, 8) := by rw [IsP.eq (P := P)]; kernel_rfl
theorem ta90 : tyAgg P 90 = some false := by rw [IsP.eq (P := P)]; kernel_rfl
theorem tu90 : (P.underlying 90).isSome = true := by rw [IsP.eq (P := P)]; kernel_rfl
theorem ti93 : tyInfo P 93 = some (some (.agg #[.int .i64 0, .slice none 0 0, .slice none 0 0]), 3, 56) := by rw [IsP.eq (P := P)]; kernel_rfl
theorem ta93 : tyAgg P 93 = some true := by rw [IsP.eq (P := P)]; kernel_rfl
theorem tu93 : (P.underlying 93).isSome = true := by rw [IsP.eq (P := P)]; kernel_rfl
theorem tf93_0 : tyField P 93 0 = some (0, 3, some 1) := by rw [IsP.eq (P := P)]; kernel_rfl
theorem tf93_1 : tyField P 93 1 = some (1, 30, some 1) := by rw [IsP.eq (P := P)]; kernel_rfl
theorem tf93_2 : tyField P 93 2 = some (2, 30, some 1) := by rw [IsP.eq (P := P)]; kernel_rfl
theorem tp93 : tyPlaces P 93 = some [(0, 1), (1, 1), (2, 1)] := by rw [IsP.eq (P := P)]; kernel_rfl
theorem ti94 : tyInfo P 94 = some (some (.agg #[.int .i64 0, .slice none 0 0, .slice none 0 0]), 3, 56) := by rw [IsP.eq (P := P)]; kernel_rfl
theorem ta94 : tyAgg P 94 = some true := by rw [IsP.eq (P := P)]; kernel_rfl
theorem tu94 : (P.underlying 94).isSome = true := by rw [IsP.eq (P := P)]; kernel_rfl
theorem tf94_0 : tyField P 94 0 = some (0, 3, some 1) := by rw [IsP.eq (P := P)]; kernel_rfl
theorem tf94_1 : tyField P 94 1 = some (1, 30, some 1) := by rw [IsP.eq (P := P)]; kernel_rfl
theorem tf94_2 : tyField P 94 2 = some (2, 30, some 1) := by rw [IsP.eq (P := P)]; kernel_rfl
theorem tp94 : tyPlaces P 94 = some [(0, 1), (1, 1), (2, 1)] := by rw [IsP.eq (P := P)]; kernel_rfl
theorem ti95 : tyInfo P 95 = some (some (.slice none 0 0), 1, 24) := by rw [IsP.eq (P := P)]; kernel_rfl
theorem ta95 : tyAgg P 95 = some false := by rw [IsP.eq (P := P)]; kernel_rfl
theorem tu95 : (P.underlying 95).isSome = true := by rw [IsP.eq (P := P)]; kernel_rfl
theorem ts95 : tySlice P 95 = some 94 := by rw [IsP.eq (P := P)]; kernel_rfl
theorem ti101 : tyInfo P 101 = some (some (.slice none 0 0), 1, 24) := by rw [IsP.eq (P := P)]; kernel_rfl
theorem ta101 : tyAgg P 101 = some false := by rw [IsP.eq (P := P)]; kernel_rfl
theorem tu101 : (P.underlying 101).isSome = true := by rw [IsP.eq (P := P)]; kernel_rfl
theorem ts101 : tySlice P 101 = some 30 := by rw [IsP.eq (P := P)]; kernel_rfl
theorem ti102 : tyInfo P 102 = some (some (.slice none 0 0), 1, 24) := by rw [IsP.eq (P := P)]; kernel_rfl
theorem ta102 : tyAgg P 102 = some false := by rw [IsP.eq (P := P)]; kernel_rfl
theorem tu102 : (P.underlying 102).isSome = true := by rw [IsP.eq (P := P)]; kernel_rfl
theorem ts102 : tySlice P 102 = some 146 := by rw [IsP.eq (P := P)]; kernel_rfl
theorem ti103 : tyInfo P 103 = some (some (.agg #[.slice none 0 0, .slice none 0 0, .bool false]), 3, 56) := by rw [IsP.eq (P := P)]; kernel_rfl
theorem ta103 : tyAgg P 103 = some true := by rw [IsP.eq (P := P)]; kernel_rfl
theorem tu103 : (P.underlying 103).isSome = true := by rw [IsP.eq (P := P)]; kernel_rfl
theorem tf103_0 : tyField P 103 0 = some (0, 101, some 1) := by rw [IsP.eq (P := P)]; kernel_rfl
theorem tf103_1 : tyField P 103 1 = some (1, 102, some 1) := by rw [IsP.eq (P := P)]; kernel_rfl
theorem tf103_2 : tyField P 103 2 = some (2, 4, some 1) := by rw [IsP.eq (P := P)]; kernel_rfl
theorem tp103 : tyPlaces P 103 = some [(0, 1), (1, 1), (2, 1)] := by rw [IsP.eq (P := P)]; kernel_rfl
theorem ti104 : tyInfo P 104 = some (some (.agg #[.slice none 0 0, .slice none 0 0, .bool false]), 3, 56) := by rw [IsP.eq (P := P)]; kernel_rfl
theorem ta104 : tyAgg P 104 = some true := by rw [IsP.eq (P := P)]; kernel_rfl
theorem tu104 : (P.underlying 104).isSome = true := by rw [IsP.eq (P := P)]; kernel_rfl
theorem tf104_0 : tyField P 104 0 = some (0, 101, some 1) := by rw [IsP.eq (P := P)]; kernel_rfl
theorem tf104_1 : tyField P 104 1 = some (1, 102, some 1) := by rw [IsP.eq (P := P)]; kernel_rfl
theorem tf104_2 : tyField P 104 2 = some (2, 4, some 1) := by rw [IsP.eq (P := P)]; kernel_rfl
theorem tp104 : tyPlaces P 104 = some [(0, 1), (1, 1), (2, 1)] := by rw [IsP.eq (P := P)]; kernel_rfl
theorem ti107 : tyInfo P 107 = some (some (.pointer none), 1, 8) := by rw [IsP.eq (P := P)]; kernel_rfl
theorem ta107 : tyAgg P 107 = some false := by rw [IsP.eq (P := P)]; kernel_rfl
theorem tu107 : (P.underlying 107).isSome = true := by rw [IsP.eq (P := P)]; kernel_rfl
theorem ti109 : tyInfo P 109 = some (some (.slice none 0 0), 1, 24) := by rw [IsP.eq (P := P)]; kernel_rfl
theorem ta109 : tyAgg P 109 = some false := by rw [IsP.eq (P := P)]; kernel_rfl
theorem tu109 : (P.underlying 109).isSome = true := by rw [IsP.eq (P := P)]; kernel_rfl
theorem ts109 : tySlice P 109 = some 4 := by rw [IsP.eq (P := P)]; kernel_rfl
theorem ti112 : tyInfo P 112 = some (some (.slice none 0 0), 1, 24) := by rw [IsP.eq (P := P)]; kernel_rfl
theorem ta112 : tyAgg P 112 = some false := by rw [IsP.eq (P := P)]; kernel_rfl
theorem tu112 : (P.underlying 112).isSome = true := by rw [IsP.eq (P := P)]; kernel_rfl
theorem ts112 : tySlice P 112 = some 102 := by rw [IsP.eq (P := P)]; kernel_rfl
theorem ti113 : tyInfo P 113 = some (some (.agg #[.int .i64 0, .slice none 0 0, .int .i64 0, .int .i64 0, .slice none 0 0, .slice none 0 0, .bool false, .slice none 0 0, .int .i64 0]), 9, 136) := by rw [IsP.eq (P := P)]; kernel_rfl
theorem ta113 : tyAgg P 113 = some true := by rw [IsP.eq (P := P)]; kernel_rfl
theorem tu113 : (P.underlying 113).isSome = true := by rw [IsP.eq (P := P)]; kernel_rfl
theorem tf113_0 : tyField P 113 0 = some (0, 24, some 4) := by rw [IsP.eq (P := P)]; kernel_rfl
theorem tf113_1 : tyField P 113 1 = some (4, 104, some 3) := by rw [IsP.eq (P := P)]; kernel_rfl
theorem tf113_2 : tyField P 113 2 = some (7, 112, some 1) := by rw [IsP.eq (P := P)]; kernel_rfl
theorem tf113_3 : tyField P 113 3 = some (8, 3, some 1) := by rw [IsP.eq (P := P)]; kernel_rfl
theorem tp113 : tyPlaces P 113 = some [(0, 4), (4, 3), (7, 1), (8, 1)] := by rw [IsP.eq (P := P)]; kernel_rfl
theorem ti114 : tyInfo P 114 = some (some (.agg #[.int .i64 0, .slice none 0 0, .int .i64 0, .int .i64 0, .slice none 0 0, .slice none 0 0, .bool false, .slice none 0 0, .int .i64 0]), 9, 136) := by rw [IsP.eq (P := P)]; kernel_rfl
theorem ta114 : tyAgg P 114 = some true := by rw [IsP.eq (P := P)]; kernel_rfl
theorem tu114 : (P.underlying 114).isSome = true := by rw [IsP.eq (P := P)]; kernel_rfl
theorem tf114_0 : tyField P 114 0 = some (0, 24, some 4) := by rw [IsP.eq (P := P)]; kernel_rfl
theorem tf114_1 : tyField P 114 1 = some (4, 104, some 3) := by rw [IsP.eq (P := P)]; kernel_rfl
theorem tf114_2 : tyField P 114 2 = some (7, 112, some 1) := by rw [IsP.eq (P := P)]; kernel_rfl
theorem tf114_3 : tyField P 114 3 = some (8, 3, some 1) := by rw [IsP.eq (P := P)]; kernel_rfl
theorem tp114 : tyPlaces P 114 = some [(0, 4), (4, 3), (7, 1), (8, 1)] := by rw [IsP.eq (P := P)]; kernel_rfl
theorem ti130 : tyInfo P 130 = some (some (.int .u64 0), 1, 8) := by rw [IsP.eq (P := P)]; kernel_rfl
theorem ta130 : tyAgg P 130 = some false := by rw [IsP.eq (P := P)]; kernel_rfl
theorem tu130 : (P.underlying 130).isSome = true := by rw [IsP.eq (P := P)]; kernel_rfl
theorem tk130 : tyInt P 130 = some .u64 := by rw [IsP.eq (P := P)]; kernel_rfl
theorem ti133 : tyInfo P 133 = some (some (.pointer none), 1, 8) := by rw [IsP.eq (P := P)]; kernel_rfl
theorem ta133 : tyAgg P 133 = some false := by rw [IsP.eq (P := P)]; kernel_rfl
theorem tu133 : (P.underlying 133).isSome = true := by rw [IsP.eq (P := P)]; kernel_rfl
theorem ti134 : tyInfo P 134 = some (some (.slice none 0 0), 1, 24) := by rw [IsP.eq (P := P)]; kernel_rfl
theorem ta134 : tyAgg P 134 = some false := by rw [IsP.eq (P := P)]; kernel_rfl
theorem tu134 : (P.underlying 134).isSome = true := by rw [IsP.eq (P := P)]; kernel_rfl
theorem ts134 : tySlice P 134 = some 5 := by rw [IsP.eq (P := P)]; kernel_rfl
theorem ti135 : tyInfo P 135 = some (some (.agg #[.pointer none, .slice none 0 0]), 2, 32) := by rw [IsP.eq (P := P)]; kernel_rfl
theorem ta135 : tyAgg P 135 = some true := by rw [IsP.eq (P := P)]; kernel_rfl
theorem tu135 : (P.underlying 135).isSome = true := by rw [IsP.eq (P := P)]; kernel_rfl
theorem tf135_0 : tyField P 135 0 = some (0, 133, some 1) := by rw [IsP.eq (P := P)]; kernel_rfl
theorem tf135_1 : tyField P 135 1 = some (1, 134, some 1) := by rw [IsP.eq (P := P)]; kernel_rfl
theorem tp135 : tyPlaces P 135 = some [(0, 1), (1, 1)] := by rw [IsP.eq (P := P)]; kernel_rfl
theorem ti136 : tyInfo P 136 = some (some (.agg #[.pointer none, .slice none 0 0]), 2, 32) := by rw [IsP.eq (P := P)]; kernel_rfl
theorem ta136 : tyAgg P 136 = some true := by rw [IsP.eq (P := P)]; kernel_rfl
theorem tu136 : (P.underlying 136).isSome = true := by rw [IsP.eq (P := P)]; kernel_rfl
theorem tf136_0 : tyField P 136 0 = some (0, 133, some 1) := by rw [IsP.eq (P := P)]; kernel_rfl
theorem tf136_1 : tyField P 136 1 = some (1, 134, some 1) := by rw [IsP.eq (P := P)]; kernel_rfl
theorem tp136 : tyPlaces P 136 = some [(0, 1), (1, 1)] := by rw [IsP.eq (P := P)]; kernel_rfl
theorem ti140 : tyInfo P 140 = some (some (.int .u64 0), 1, 8) := by rw [IsP.eq (P := P)]; kernel_rfl
theorem ta140 : tyAgg P 140 = some false := by rw [IsP.eq (P := P)]; kernel_rfl
theorem tu140 : (P.underlying 140).isSome = true := by rw [IsP.eq (P := P)]; kernel_rfl
theorem tk140 : tyInt P 140 = some .u64 := by rw [IsP.eq (P := P)]; kernel_rfl
theorem ti145 : tyInfo P 145 = some (some (.agg #[.int .i64 0, .int .i64 0, .int .i64 0]), 3, 24) := by rw [IsP.eq (P := P)]; kernel_rfl
theorem ta145 : tyAgg P 145 = some true := by rw [IsP.eq (P := P)]; kernel_rfl
theorem tu145 : (P.underlying 145).isSome = true := by rw [IsP.eq (P := P)]; kernel_rfl
theorem tf145_0 : tyField P 145 0 = some (0, 3, some 1) := by rw [IsP.eq (P := P)]; kernel_rfl
theorem tf145_1 : tyField P 145 1 = some (1, 3, some 1) := by rw [IsP.eq (P := P)]; kernel_rfl
theorem tf145_2 : tyField P 145 2 = some (2, 3, some 1) := by rw [IsP.eq (P := P)]; kernel_rfl
theorem te145 : tyEqK P 145 = some [.i, .i, .i] := by rw [IsP.eq (P := P)]; kernel_rfl
theorem tp145 : tyPlaces P 145 = some [(0, 1), (1, 1), (2, 1)] := by rw [IsP.eq (P := P)]; kernel_rfl
theorem ti146 : tyInfo P 146 = some (some (.agg #[.int .i64 0, .int .i64 0, .int .i64 0]), 3, 24) := by rw [IsP.eq (P := P)]; kernel_rfl
theorem ta146 : tyAgg P 146 = some true := by rw [IsP.eq (P := P)]; kernel_rfl
theorem tu146 : (P.underlying 146).isSome = true := by rw [IsP.eq (P := P)]; kernel_rfl
theorem tf146_0 : tyField P 146 0 = some (0, 3, some 1) := by rw [IsP.eq (P := P)]; kernel_rfl
theorem tf146_1 : tyField P 146 1 = some (1, 3, some 1) := by rw [IsP.eq (P := P)]; kernel_rfl
theorem tf146_2 : tyField P 146 2 = some (2, 3, some 1) := by rw [IsP.eq (P := P)]; kernel_rfl
theorem te146 : tyEqK P 146 = some [.i, .i, .i] := by rw [IsP.eq (P := P)]; kernel_rfl
theorem tp146 : tyPlaces P 146 = some [(0, 1), (1, 1), (2, 1)] := by rw [IsP.eq (P := P)]; kernel_rfl
theorem ti154 : tyInfo P 154 = some (some (.pointer none), 1, 8) := by rw [IsP.eq (P := P)]; kernel_rfl
theorem ta154 : tyAgg P 154 = some false := by rw [IsP.eq (P := P)]; kernel_rfl
theorem tu154 : (P.underlying 154).isSome = true := by rw [IsP.eq (P := P)]; kernel_rfl
theorem ti156 : tyInfo P 156 = some (some (.map none), 1, 8) := by rw [IsP.eq (P := P)]; kernel_rfl
theorem ta156 : tyAgg P 156 = some false := by rw [IsP.eq (P := P)]; kernel_rfl
theorem tu156 : (P.underlying 156).isSome = true := by rw [IsP.eq (P := P)]; kernel_rfl
theorem ti160 : tyInfo P 160 = some (some (.pointer none), 1, 8) := by rw [IsP.eq (P := P)]; kernel_rfl
theorem ta160 : tyAgg P 160 = some false := by rw [IsP.eq (P := P)]; kernel_rfl
theorem tu160 : (P.underlying 160).isSome = true := by rw [IsP.eq (P := P)]; kernel_rfl
theorem ti162 : tyInfo P 162 = some (some (.agg #[.pointer none, .pointer none, .pointer none, .string ⟨#[]⟩]), 4, 40) := by rw [IsP.eq (P := P)]; kernel_rfl
theorem ta162 : tyAgg P 162 = some true := by rw [IsP.eq (P := P)]; kernel_rfl
theorem tu162 : (P.underlying 162).isSome = true := by rw [IsP.eq (P := P)]; kernel_rfl
theorem tf162_0 : tyField P 162 0 = some (0, 17, some 1) := by rw [IsP.eq (P := P)]; kernel_rfl
theorem tf162_1 : tyField P 162 1 = some (1, 17, some 1) := by rw [IsP.eq (P := P)]; kernel_rfl
theorem tf162_2 : tyField P 162 2 = some (2, 17, some 1) := by rw [IsP.eq (P := P)]; kernel_rfl
theorem tf162_3 : tyField P 162 3 = some (3, 9, some 1) := by rw [IsP.eq (P := P)]; kernel_rfl
theorem tp162 : tyPlaces P 162 = some [(0, 1), (1, 1), (2, 1), (3, 1)] := by rw [IsP.eq (P := P)]; kernel_rfl
theorem ti163 : tyInfo P 163 = some (some (.agg #[.pointer none, .pointer none, .pointer none, .string ⟨#[]⟩]), 4, 40) := by rw [IsP.eq (P := P)]; kernel_rfl
theorem ta163 : tyAgg P 163 = some true := by rw [IsP.eq (P := P)]; kernel_rfl
theorem tu163 : (P.underlying 163).isSome = true := by rw [IsP.eq (P := P)]; kernel_rfl
theorem ti164 : tyInfo P 164 = some (some (.agg #[]), 0, 0) := by rw [IsP.eq (P := P)]; kernel_rfl
theorem ta164 : tyAgg P 164 = some true := by rw [IsP.eq (P := P)]; kernel_rfl
theorem tu164 : (P.underlying 164).isSome = true := by rw [IsP.eq (P := P)]; kernel_rfl
theorem ti165 : tyInfo P 165 = some (some (.agg #[]), 0, 0) := by rw [IsP.eq (P := P)]; kernel_rfl
theorem ta165 : tyAgg P 165 = some true := by rw [IsP.eq (P := P)]; kernel_rfl
theorem tu165 : (P.underlying 165).isSome = true := by rw [IsP.eq (P := P)]; kernel_rfl
theorem tf165_0 : tyField P 165 0 = some (0, 164, some 0) := by rw [IsP.eq (P := P)]; kernel_rfl
theorem tp165 : tyPlaces P 165 = some [(0, 0)] := by rw [IsP.eq (P := P)]; kernel_rfl
theorem ti166 : tyInfo P 166 = some (some (.agg #[]), 0, 0) := by rw [IsP.eq (P := P)]; kernel_rfl
theorem ta166 : tyAgg P 166 = some true := by rw [IsP.eq (P := P)]; kernel_rfl
theorem tu166 : (P.underlying 166).isSome = true := by rw [IsP.eq (P := P)]; kernel_rfl
theorem ti168 : tyInfo P 168 = some (some (.int .u32 0), 1, 4) := by rw [IsP.eq (P := P)]; kernel_rfl
theorem ta168 : tyAgg P 168 = some false := by rw [IsP.eq (P := P)]; kernel_rfl
theorem tu168 : (P.underlying 168).isSome = true := by rw [IsP.eq (P := P)]; kernel_rfl
theorem tk168 : tyInt P 168 = some .u32 := by rw [IsP.eq (P := P)]; kernel_rfl
theorem ti169 : tyInfo P 169 = some (some (.int .u8 0), 1, 1) := by rw [IsP.eq (P := P)]; kernel_rfl
theorem ta169 : tyAgg P 169 = some false := by rw [IsP.eq (P := P)]; kernel_rfl
theorem tu169 : (P.underlying 169).isSome = true := by rw [IsP.eq (P := P)]; kernel_rfl
theorem tk169 : tyInt P 169 = some .u8 := by rw [IsP.eq (P := P)]; kernel_rfl
theorem ti170 : tyInfo P 170 = some (some (.int .u8 0), 1, 1) := by rw [IsP.eq (P := P)]; kernel_rfl
theorem ta170 : tyAgg P 170 = some false := by rw [IsP.eq (P := P)]; kernel_rfl
theorem tu170 : (P.underlying 170).isSome = true := by rw [IsP.eq (P := P)]; kernel_rfl
theorem tk170 : tyInt P 170 = some .u8 := by rw [IsP.eq (P := P)]; kernel_rfl
theorem ti172 : tyInfo P 172 = some (some (.int .i32 0), 1, 4) := by rw [IsP.eq (P := P)]; kernel_rfl
theorem ta172 : tyAgg P 172 = some false := by rw [IsP.eq (P := P)]; kernel_rfl
theorem tu172 : (P.underlying 172).isSome = true := by rw [IsP.eq (P := P)]; kernel_rfl
theorem tk172 : tyInt P 172 = some .i32 := by rw [IsP.eq (P := P)]; kernel_rfl
theorem ti173 : tyInfo P 173 = some (some (.int .i32 0), 1, 4) := by rw [IsP.eq (P := P)]; kernel_rfl
theorem ta173 : tyAgg P 173 = some false := by rw [IsP.eq (P := P)]; kernel_rfl
theorem tu173 : (P.underlying 173).isSome = true := by rw [IsP.eq (P := P)]; kernel_rfl
theorem tk173 : tyInt P 173 = some .i32 := by rw [IsP.eq (P := P)]; kernel_rfl
theorem ti174 : tyInfo P 174 = some (some (.agg #[.int .u64 0, .int .u64 0, .int .u32 0, .int .u8 0, .int .u8 0, .int .u8 0, .int .u8 0, .nilFunc, .pointer none, .int .i32 0, .int .i32 0]), 11, 48) := by rw [IsP.eq (P := P)]; kernel_rfl
theorem ta174 : tyAgg P 174 = some true := by rw [IsP.eq (P := P)]; kernel_rfl
theorem tu174 : (P.underlying 174).isSome = true := by rw [IsP.eq (P := P)]; kernel_rfl
theorem tf174_0 : tyField P 174 0 = some (0, 12, some 1) := by rw [IsP.eq (P := P)]; kernel_rfl
theorem tf174_1 : tyField P 174 1 = some (1, 12, some 1) := by rw [IsP.eq (P := P)]; kernel_rfl
theorem tf174_2 : tyField P 174 2 = some (2, 168, some 1) := by rw [IsP.eq (P := P)]; kernel_rfl
theorem tf174_3 : tyField P 174 3 = some (3, 169, some 1) := by rw [IsP.eq (P := P)]; kernel_rfl
theorem tf174_4 : tyField P 174 4 = some (4, 5, some 1) := by rw [IsP.eq (P := P)]; kernel_rfl
theorem tf174_5 : tyField P 174 5 = some (5, 5, some 1) := by rw [IsP.eq (P := P)]; kernel_rfl
theorem tf174_6 : tyField P 174 6 = some (6, 170, some 1) := by rw [IsP.eq (P := P)]; kernel_rfl
theorem tf174_7 : tyField P 174 7 = some (7, 171, some 1) := by rw [IsP.eq (P := P)]; kernel_rfl
theorem tf174_8 : tyField P 174 8 = some (8, 154, some 1) := by rw [IsP.eq (P := P)]; kernel_rfl
theorem tf174_9 : tyField P 174 9 = some (9, 172, some 1) := by rw [IsP.eq (P := P)]; kernel_rfl
theorem tf174_10 : tyField P 174 10 = some (10, 173, some 1) := by rw [IsP.eq (P := P)]; kernel_rfl
theorem tp174 : tyPlaces P 174 = some [(0, 1), (1, 1), (2, 1), (3, 1), (4, 1), (5, 1), (6, 1), (7, 1), (8, 1), (9, 1), (10, 1)] := by rw [IsP.eq (P := P)]; kernel_rfl
theorem ti175 : tyInfo P 175 = some (some (.agg #[.int .u64 0, .int .u64 0, .int .u32 0, .int .u8 0, .int .u8 0, .int .u8 0, .int .u8 0, .nilFunc, .pointer none, .int .i32 0, .int .i32 0]), 11, 48) := by rw [IsP.eq (P := P)]; kernel_rfl
theorem ta175 : tyAgg P 175 = some true := by rw [IsP.eq (P := P)]; kernel_rfl
theorem tu175 : (P.underlying 175).isSome = true := by rw [IsP.eq (P := P)]; kernel_rfl
theorem tf175_0 : tyField P 175 0 = some (0, 12, some 1) := by rw [IsP.eq (P := P)]; kernel_rfl
theorem tf175_1 : tyField P 175 1 = some (1, 12, some 1) := by rw [IsP.eq (P := P)]; kernel_rfl
theorem tf175_2 : tyField P 175 2 = some (2, 168, some 1) := by rw [IsP.eq (P := P)]; kernel_rfl
theorem tf175_3 : tyField P 175 3 = some (3, 169, some 1) := by rw [IsP.eq (P := P)]; kernel_rfl
theorem tf175_4 : tyField P 175 4 = some (4, 5, some 1) := by rw [IsP.eq (P := P)]; kernel_rfl
theorem tf175_5 : tyField P 175 5 = some (5, 5, some 1) := by rw [IsP.eq (P := P)]; kernel_rfl
theorem tf175_6 : tyField P 175 6 = some (6, 170, some 1) := by rw [IsP.eq (P := P)]; kernel_rfl
theorem tf175_7 : tyField P 175 7 = some (7, 171, some 1) := by rw [IsP.eq (P := P)]; kernel_rfl
theorem tf175_8 : tyField P 175 8 = some (8, 154, some 1) := by rw [IsP.eq (P := P)]; kernel_rfl
theorem tf175_9 : tyField P 175 9 = some (9, 172, some 1) := by rw [IsP.eq (P := P)]; kernel_rfl
theorem tf175_10 : tyField P 175 10 = some (10, 173, some 1) := by rw [IsP.eq (P := P)]; kernel_rfl
theorem tp175 : tyPlaces P 175 = some [(0, 1), (1, 1), (2, 1), (3, 1), (4, 1), (5, 1), (6, 1), (7, 1), (8, 1), (9, 1), (10, 1)] := by rw [IsP.eq (P := P)]; kernel_rfl
end Go.Proofs.Ytmhbfoaecebobaa.Aw
end
section
namespace Go.Proofs.Ytmhbfoaecebobaa
set_option linter.unusedSimpArgs false
set_option linter.unusedVariables false
open Go.RowKit

/-- element k is no place, or not behind the one before it -/
def badP (n : Int) (l : List Int) (k : Nat) : Prop := gti l k < 0 ∨ n ≤ gti l k ∨ (0 < k ∧ gti l k ≤ gti l (k - 1))
instance (n : Int) (l : List Int) (k : Nat) : Decidable (badP n l k) := by unfold badP; infer_instance
def placesB (n : Int) (l : List Int) : Bool := (List.range l.length).all fun k => !decide (badP n l k)
theorem placesB_false {n : Int} {l : List Int} {k : Nat} (h : k < l.length) (hb : badP n l k) : placesB n l = false := by
  unfold placesB
  rw [List.all_eq_false]
  exact ⟨k, by simp [h], by simp [hb]⟩
theorem placesB_true {n : Int} {l : List Int} (h : ∀ k, k < l.length → ¬ badP n l k) : placesB n l = true := by
  unfold placesB
  rw [List.all_eq_true]
  intro k hk
  simp [h k (by simpa using hk)]

set_option maxHeartbeats 2000000 in
theorem places_any (n : Net) (vt : Value) (l : List Int) (lo hi : Nat) (v : Value) (w : World) (hv : RdI w lo hi v l) :
    Calls Try.prog 89 #[netV n vt, v] w fun e w' => e = .returned (.bool (placesB n.places l)) ∧ Below w.heap.size w w' := by
  obtain ⟨A, c, rfl, hc, hm⟩ := hv.form
  have HV := Lib.hid (hv.after ((Below.refl _ w).alloc (Nat.le_refl _) (.cells #[.int .i64 n.places, vt, .int .i64 n.source, .int .i64 n.sink] 24)))
  have hk4 := K4.new w (.int .i64 n.places) vt (.int .i64 n.source) (.int .i64 n.sink) 24
  have HB := Lib.hid ((Below.refl w.heap.size w).alloc (Nat.le_refl _) (.cells #[.int .i64 n.places, vt, .int .i64 n.source, .int .i64 n.sink] 24))
  clear hv
  refine calls_cps fun R hR => ?_
  have HR := Lib.hid hR
  clear hR
  go_enter Try.func89, Try.ntmps89
  go_wp2
  generalize w.alloc (.cells #[.int .i64 n.places, vt, .int .i64 n.source, .int .i64 n.sink] 24) = W at *
  go_loopw [9, 5, 6] (fun v9 _ _ wr => ∃ k : Nat, k ≤ l.length ∧ v9 = .int .i64 k ∧ Hid (∀ j, j < k → ¬ badP n.places l j) ∧ wr = W) (fun v9 _ _ _ => l.length - (intOf v9).toNat)
  case atStart => exact ⟨0, by omega, rfl, Lib.hid (fun j h => by omega), rfl⟩
  case round =>
    obtain ⟨k, hk, rfl, HP, rfl⟩ := hrel
    by_cases hlt : k < l.length
    · have hkd : decide ((k : Int) < (l.length : Int)) = true := by simp; omega
      obtain ⟨b, off, rfl, _, _, hcell⟩ := RdI.at1 HV.out hlt
      have HF : badP n.places l k → Hid (placesB n.places l = false) := fun h => Lib.hid (placesB_false hlt h)
      have HG : ¬ badP n.places l k → Hid (∀ j, j < k + 1 → ¬ badP n.places l j) := fun h => Lib.hid (fun j hj => by
        by_cases hjk : j < k
        · exact HP.out j hjk
        · (obtain rfl : j = k := by omega)
          exact h)
      unfold badP at HF HG
      have HFF := Lib.hid HF
      have HGG := Lib.hid HG
      clear HF HG HP
      by_cases g1 : gti l k < 0
      · have HF := HFF.out (.inl g1)
        have b1 := decide_eq_true g1
        go_wp2
        exact HR.out _ _ ⟨(by first | (rw [HF.out]; done) | (rw [HF.out]; rfl)), HB.out⟩
      · have b1 := decide_eq_false g1
        by_cases g2 : n.places ≤ gti l k
        · have HF := HFF.out (.inr (.inl g2))
          have b2 := decide_eq_true g2
          go_wp2
          exact HR.out _ _ ⟨(by first | (rw [HF.out]; done) | (rw [HF.out]; rfl)), HB.out⟩
        · have b2 := decide_eq_false g2
          rcases Nat.eq_zero_or_pos k with rfl | hpos
          · have HP := HGG.out (by omega)
            have hcell0 : C1 wr b off (.int .i64 (gti l 0)) := hcell
            go_wp2
            go_roundw
            case rel => exact ⟨0 + 1, by omega, by go_num, HP, by trivial⟩
            case measure => simp [intOf]; omega
          · have b3 : decide ((0 : Int) < (k : Int)) = true := decide_eq_true (by omega)
            obtain ⟨j, rfl⟩ : ∃ j, k = j + 1 := ⟨k - 1, by omega⟩
            obtain ⟨_, _, e, _, _, hcell2⟩ := RdI.at1 HV.out (k := j) (by omega)
            injection e with e
            injection e with e1 e2
            subst e1 e2
            by_cases g3 : gti l (j + 1) ≤ gti l j
            · have HF := HFF.out (.inr (.inr ⟨hpos, g3⟩))
              have b4 := decide_eq_true g3
              go_wp2
              exact HR.out _ _ ⟨(by first | (rw [HF.out]; done) | (rw [HF.out]; rfl)), HB.out⟩
            · have b4 := decide_eq_false g3
              have HP := HGG.out (by simp only [Nat.add_sub_cancel]; omega)
              go_wp2
              go_roundw
              case rel => exact ⟨j + 1 + 1, by omega, by go_num, HP, by trivial⟩
              case measure => simp [intOf]; omega
    · have hkd : decide ((k : Int) < (l.length : Int)) = false := by simp; omega
      go_wp2
      have HF := placesB_true (fun j hj => HP.out j (by omega))
      exact HR.out _ _ ⟨(by first | (rw [HF]; done) | (rw [HF]; rfl)), HB.out⟩
end Go.Proofs.Ytmhbfoaecebobaa
end
section
namespace Go.Proofs.Ytmhbfoaecebobaa
set_option linter.unusedSimpArgs false
set_option linter.unusedVariables false
open Go.RowKit

set_option maxHeartbeats 2000000 in
theorem places2_any (n : Int) (l : List Int) (lo hi : Nat) (v : Value) (w : World) (hv : RdI w lo hi v l) :
    Calls Try.prog 88 #[.int .i64 n, v] w fun e w' => e = .returned (.bool (placesB n l)) ∧ Below w.heap.size w w' := by
  obtain ⟨A, c, rfl, hc, hm⟩ := hv.form
  have HV := Lib.hid hv
  clear hv
  refine calls_cps fun R hR => ?_
  have HR := Lib.hid hR
  clear hR
  go_enter Try.func88, Try.ntmps88
  go_wp2
  go_loopw [5] (fun v9 wr => ∃ k : Nat, k ≤ l.length ∧ v9 = .int .i64 k ∧ Hid (∀ j, j < k → ¬ badP n l j) ∧ ∃ m, wr = w.drewN m) (fun v9 _ => l.length - (intOf v9).toNat)
  case atStart => exact ⟨0, by omega, rfl, Lib.hid (fun j h => by omega), 0, rfl⟩
  case round =>
    obtain ⟨k, hk, rfl, HP, m, rfl⟩ := hrel
    by_cases hlt : k < l.length
    · have hkd : decide ((k : Int) < (l.length : Int)) = true := by simp; omega
      have hkb : (k : Int) < (l.length : Int) := by omega
      obtain ⟨b, off, rfl, _, _, hcell⟩ := RdI.at1 HV.out hlt
      have HF : badP n l k → Hid (placesB n l = false) := fun h => Lib.hid (placesB_false hlt h)
      have HG : ¬ badP n l k → Hid (∀ j, j < k + 1 → ¬ badP n l j) := fun h => Lib.hid (fun j hj => by
        by_cases hjk : j < k
        · exact HP.out j hjk
        · (obtain rfl : j = k := by omega)
          exact h)
      unfold badP at HF HG
      have HFF := Lib.hid HF
      have HGG := Lib.hid HG
      clear HF HG HP
      by_cases g1 : gti l k < 0
      · have HF := HFF.out (.inl g1)
        have b1 := decide_eq_true g1
        go_wp2
        go_quiet (fail)
        go_wp2
        exact HR.out _ _ ⟨(by first | (rw [HF.out]; done) | (rw [HF.out]; rfl)), by first | exact below_drewN (Below.refl _ _) _ | exact below_drewN (below_drewN (Below.refl _ _) _) _⟩
      · have b1 := decide_eq_false g1
        by_cases g2 : n ≤ gti l k
        · have HF := HFF.out (.inr (.inl g2))
          have b2 := decide_eq_true g2
          go_wp2
          go_quiet (fail)
          go_wp2
          exact HR.out _ _ ⟨(by first | (rw [HF.out]; done) | (rw [HF.out]; rfl)), by first | exact below_drewN (Below.refl _ _) _ | exact below_drewN (below_drewN (Below.refl _ _) _) _⟩
        · have b2 := decide_eq_false g2
          rcases Nat.eq_zero_or_pos k with rfl | hpos
          · have HP := HGG.out (by omega)
            have hcell0 : C1 w b off (.int .i64 (gti l 0)) := hcell
            go_wp2
            go_quiet (fail)
            go_wp2
            go_roundw
            case rel => exact ⟨0 + 1, by omega, by go_num, HP, m + nq, by first | rfl | rw [World.drewN_drewN]⟩
            case measure => simp [intOf]; omega
          · have b3 : decide ((0 : Int) < (k : Int)) = true := decide_eq_true (by omega)
            obtain ⟨j, rfl⟩ : ∃ j, k = j + 1 := ⟨k - 1, by omega⟩
            obtain ⟨_, _, e, _, _, hcell2⟩ := RdI.at1 HV.out (k := j) (by omega)
            injection e with e
            injection e with e1 e2
            subst e1 e2
            by_cases g3 : gti l (j + 1) ≤ gti l j
            · have HF := HFF.out (.inr (.inr ⟨hpos, g3⟩))
              have b4 := decide_eq_true g3
              go_wp2
              go_quiet (fail)
              go_wp2
              exact HR.out _ _ ⟨(by first | (rw [HF.out]; done) | (rw [HF.out]; rfl)), by first | exact below_drewN (Below.refl _ _) _ | exact below_drewN (below_drewN (Below.refl _ _) _) _⟩
            · have b4 := decide_eq_false g3
              have HP := HGG.out (by simp only [Nat.add_sub_cancel]; omega)
              go_wp2
              go_quiet (fail)
              go_wp2
              go_roundw
              case rel => exact ⟨j + 1 + 1, by omega, by go_num, HP, m + nq, by first | rfl | rw [World.drewN_drewN]⟩
              case measure => simp [intOf]; omega
    · have hkd : decide ((k : Int) < (l.length : Int)) = false := by simp; omega
      go_wp2
      have HF := placesB_true (fun j hj => HP.out j (by omega))
      exact HR.out _ _ ⟨(by first | (rw [HF]; done) | (rw [HF]; rfl)), by first | exact below_drewN (Below.refl _ _) _ | exact below_drewN (below_drewN (Below.refl _ _) _) _⟩
end Go.Proofs.Ytmhbfoaecebobaa
end
