/-
  NARROWER THAN 'FOR EVERY INPUT', by the rows' own cells (each row's printed sentence says how): AlignLeast: laid · AlignPrograms: laid · AlignCheapest: laid · AlignBounds: laid · AlignRight: laid · AlignWords: laid.
  DERIVED. THE GIVEN ROWS OF THIS SEAT. 6 by the template 'for every input the law returns true; each argument reads behind the call as it read before'; 0 by the template 'total and deterministic' (their statements: YtjdpnadhgjohnaaGreatDoorTotals.lean).
  GIVEN WITH THE SEED: the statements are not yours to turn. If you find one false, say at which input.
  Laid BY PROGRAM, IN A SANDBOX (cutbox-rows.mjs): the forced cells as the released guide's own fill.sh prints them over the translation ffa15ac8909c6336… (all of the seat's roots in one cut). By AI agents, Wed Nov 11 2026. No macro, syntax, notation, axiom, sorry.
-/
import Derived.Test.YtjdpnadhgjohnaaGreatDoorChecked
import GoSem.Claim
import GoSem.ClaimJoined
import GoSem.ClaimMapViews
import Derived.JoinedTies
import Derived.KernelRfl
namespace Go.Proofs.YtjdpnadhgjohnaaGreatDoor
/- THE CELL 'sum', in the pinned program and in every row, IS THE sha256 OF THE DUMP (.gsa) THAT YtjdpnadhgjohnaaGreatDoorProg.lean LOADS. Nothing in Lean hashes anything: it is a label: what it is worth is what the hold of that sum in a sandbox is worth. -/
noncomputable def Tryz.pinned : Pinned := { name := "ytjdpnadhgjohnaagreatdoor", sum := "ffa15ac8909c633622ba766380c382edf3e6ff62f69f6139e1c7c4353fcebe8d", checked := Tryz.checked }
namespace Rows
def none {H : Type} : Left H := { results := [], args := [] }

/- WHAT THE LISTED PACKAGE-LEVEL VARIABLES READ AS WHEN THE CALL BEGINS. Each datum BY PROGRAM (the guide's laid-datum.mjs) off the statement by which the dump's own 'gosem.cut.vars' lays the variable. In a bare row this is a premise. The card (YtjdpnadhgjohnaaGreatDoorCards.lean) ties it to the program's text. -/
def laid_math_bits_deBruijn32tab {H : Type} : DataW H := .agg [.lit (.int .u8 0), .lit (.int .u8 1), .lit (.int .u8 28), .lit (.int .u8 2), .lit (.int .u8 29), .lit (.int .u8 14), .lit (.int .u8 24), .lit (.int .u8 3), .lit (.int .u8 30), .lit (.int .u8 22), .lit (.int .u8 20), .lit (.int .u8 15), .lit (.int .u8 25), .lit (.int .u8 17), .lit (.int .u8 4), .lit (.int .u8 8), .lit (.int .u8 31), .lit (.int .u8 27), .lit (.int .u8 13), .lit (.int .u8 23), .lit (.int .u8 21), .lit (.int .u8 19), .lit (.int .u8 16), .lit (.int .u8 7), .lit (.int .u8 26), .lit (.int .u8 12), .lit (.int .u8 18), .lit (.int .u8 6), .lit (.int .u8 11), .lit (.int .u8 5), .lit (.int .u8 10), .lit (.int .u8 9)]
def laid_math_bits_deBruijn64tab {H : Type} : DataW H := .agg [.lit (.int .u8 0), .lit (.int .u8 1), .lit (.int .u8 56), .lit (.int .u8 2), .lit (.int .u8 57), .lit (.int .u8 49), .lit (.int .u8 28), .lit (.int .u8 3), .lit (.int .u8 61), .lit (.int .u8 58), .lit (.int .u8 42), .lit (.int .u8 50), .lit (.int .u8 38), .lit (.int .u8 29), .lit (.int .u8 17), .lit (.int .u8 4), .lit (.int .u8 62), .lit (.int .u8 47), .lit (.int .u8 59), .lit (.int .u8 36), .lit (.int .u8 45), .lit (.int .u8 43), .lit (.int .u8 51), .lit (.int .u8 22), .lit (.int .u8 53), .lit (.int .u8 39), .lit (.int .u8 33), .lit (.int .u8 30), .lit (.int .u8 24), .lit (.int .u8 18), .lit (.int .u8 12), .lit (.int .u8 5), .lit (.int .u8 63), .lit (.int .u8 55), .lit (.int .u8 48), .lit (.int .u8 27), .lit (.int .u8 60), .lit (.int .u8 41), .lit (.int .u8 37), .lit (.int .u8 16), .lit (.int .u8 46), .lit (.int .u8 35), .lit (.int .u8 44), .lit (.int .u8 21), .lit (.int .u8 52), .lit (.int .u8 32), .lit (.int .u8 23), .lit (.int .u8 11), .lit (.int .u8 54), .lit (.int .u8 26), .lit (.int .u8 40), .lit (.int .u8 15), .lit (.int .u8 34), .lit (.int .u8 20), .lit (.int .u8 31), .lit (.int .u8 10), .lit (.int .u8 25), .lit (.int .u8 14), .lit (.int .u8 19), .lit (.int .u8 9), .lit (.int .u8 13), .lit (.int .u8 8), .lit (.int .u8 7), .lit (.int .u8 6)]
def laid_internal_strconv_uint64pow10 {H : Type} : DataW H := .agg [.lit (.int .u64 1), .lit (.int .u64 10), .lit (.int .u64 100), .lit (.int .u64 1000), .lit (.int .u64 10000), .lit (.int .u64 100000), .lit (.int .u64 1000000), .lit (.int .u64 10000000), .lit (.int .u64 100000000), .lit (.int .u64 1000000000), .lit (.int .u64 10000000000), .lit (.int .u64 100000000000), .lit (.int .u64 1000000000000), .lit (.int .u64 10000000000000), .lit (.int .u64 100000000000000), .lit (.int .u64 1000000000000000), .lit (.int .u64 10000000000000000), .lit (.int .u64 100000000000000000), .lit (.int .u64 1000000000000000000), .lit (.int .u64 10000000000000000000)]

/-- 'casebooklaw43.AlignLeast': WHATEVER THE INPUT: true; the input reads as it did. -/
def alignLeastSpec : ChangeSpec := { name := "alignLeast", fn := fun _ => fun
  | [d1, d2, d3, d4] => { results := [.lit (.bool true)], args := [d1, d2, d3, d4] }
  | _ => none }
def alignLeastRow : OpenClaim := { program := "ytjdpnadhgjohnaagreatdoor", sum := "ffa15ac8909c633622ba766380c382edf3e6ff62f69f6139e1c7c4353fcebe8d", func := "casebook/casebooklaw43.AlignLeast", spec := "alignLeast", unfollowed := true, recurses := true, named := ["internal/strconv.uint64pow10", "math/bits.deBruijn32tab", "math/bits.deBruijn64tab"], apart := false, laid := [("math/bits.deBruijn32tab", laid_math_bits_deBruijn32tab), ("math/bits.deBruijn64tab", laid_math_bits_deBruijn64tab), ("internal/strconv.uint64pow10", laid_internal_strconv_uint64pow10)] }
def AlignLeastSaid : Prop := alignLeastRow.holds Tryz.pinned (OpenSpec.ofChange alignLeastSpec)

/-- ITS FALSE NEIGHBOUR: 'it returns false'. Refute it at one input. -/
def alignLeastWrong : ChangeSpec := { name := "alignLeast", fn := fun _ => fun
  | [d1, d2, d3, d4] => { results := [.lit (.bool false)], args := [d1, d2, d3, d4] }
  | _ => none }
def AlignLeastWrongFalsely : Prop := alignLeastRow.holds Tryz.pinned (OpenSpec.ofChange alignLeastWrong)

/-- 'casebooklaw43.AlignPrograms': WHATEVER THE INPUT: true; the input reads as it did. -/
def alignProgramsSpec : ChangeSpec := { name := "alignPrograms", fn := fun _ => fun
  | [d1, d2, d3, d4] => { results := [.lit (.bool true)], args := [d1, d2, d3, d4] }
  | _ => none }
def alignProgramsRow : OpenClaim := { program := "ytjdpnadhgjohnaagreatdoor", sum := "ffa15ac8909c633622ba766380c382edf3e6ff62f69f6139e1c7c4353fcebe8d", func := "casebook/casebooklaw43.AlignPrograms", spec := "alignPrograms", unfollowed := true, recurses := true, named := ["internal/strconv.uint64pow10", "math/bits.deBruijn32tab", "math/bits.deBruijn64tab"], apart := false, laid := [("math/bits.deBruijn32tab", laid_math_bits_deBruijn32tab), ("math/bits.deBruijn64tab", laid_math_bits_deBruijn64tab), ("internal/strconv.uint64pow10", laid_internal_strconv_uint64pow10)] }
def AlignProgramsSaid : Prop := alignProgramsRow.holds Tryz.pinned (OpenSpec.ofChange alignProgramsSpec)

/-- ITS FALSE NEIGHBOUR: 'it returns false'. Refute it at one input. -/
def alignProgramsWrong : ChangeSpec := { name := "alignPrograms", fn := fun _ => fun
  | [d1, d2, d3, d4] => { results := [.lit (.bool false)], args := [d1, d2, d3, d4] }
  | _ => none }
def AlignProgramsWrongFalsely : Prop := alignProgramsRow.holds Tryz.pinned (OpenSpec.ofChange alignProgramsWrong)

/-- 'casebooklaw43.AlignCheapest': WHATEVER THE INPUT: true; the input reads as it did. -/
def alignCheapestSpec : ChangeSpec := { name := "alignCheapest", fn := fun _ => fun
  | [d1, d2, d3, d4, d5] => { results := [.lit (.bool true)], args := [d1, d2, d3, d4, d5] }
  | _ => none }
def alignCheapestRow : OpenClaim := { program := "ytjdpnadhgjohnaagreatdoor", sum := "ffa15ac8909c633622ba766380c382edf3e6ff62f69f6139e1c7c4353fcebe8d", func := "casebook/casebooklaw43.AlignCheapest", spec := "alignCheapest", unfollowed := true, recurses := true, named := ["internal/strconv.uint64pow10", "math/bits.deBruijn32tab", "math/bits.deBruijn64tab"], apart := false, laid := [("math/bits.deBruijn32tab", laid_math_bits_deBruijn32tab), ("math/bits.deBruijn64tab", laid_math_bits_deBruijn64tab), ("internal/strconv.uint64pow10", laid_internal_strconv_uint64pow10)] }
def AlignCheapestSaid : Prop := alignCheapestRow.holds Tryz.pinned (OpenSpec.ofChange alignCheapestSpec)

/-- ITS FALSE NEIGHBOUR: 'it returns false'. Refute it at one input. -/
def alignCheapestWrong : ChangeSpec := { name := "alignCheapest", fn := fun _ => fun
  | [d1, d2, d3, d4, d5] => { results := [.lit (.bool false)], args := [d1, d2, d3, d4, d5] }
  | _ => none }
def AlignCheapestWrongFalsely : Prop := alignCheapestRow.holds Tryz.pinned (OpenSpec.ofChange alignCheapestWrong)

/-- 'casebooklaw43.AlignBounds': WHATEVER THE INPUT: true; the input reads as it did. -/
def alignBoundsSpec : ChangeSpec := { name := "alignBounds", fn := fun _ => fun
  | [d1, d2, d3, d4] => { results := [.lit (.bool true)], args := [d1, d2, d3, d4] }
  | _ => none }
def alignBoundsRow : OpenClaim := { program := "ytjdpnadhgjohnaagreatdoor", sum := "ffa15ac8909c633622ba766380c382edf3e6ff62f69f6139e1c7c4353fcebe8d", func := "casebook/casebooklaw43.AlignBounds", spec := "alignBounds", unfollowed := true, recurses := true, named := ["internal/strconv.uint64pow10", "math/bits.deBruijn32tab", "math/bits.deBruijn64tab"], apart := false, laid := [("math/bits.deBruijn32tab", laid_math_bits_deBruijn32tab), ("math/bits.deBruijn64tab", laid_math_bits_deBruijn64tab), ("internal/strconv.uint64pow10", laid_internal_strconv_uint64pow10)] }
def AlignBoundsSaid : Prop := alignBoundsRow.holds Tryz.pinned (OpenSpec.ofChange alignBoundsSpec)

/-- ITS FALSE NEIGHBOUR: 'it returns false'. Refute it at one input. -/
def alignBoundsWrong : ChangeSpec := { name := "alignBounds", fn := fun _ => fun
  | [d1, d2, d3, d4] => { results := [.lit (.bool false)], args := [d1, d2, d3, d4] }
  | _ => none }
def AlignBoundsWrongFalsely : Prop := alignBoundsRow.holds Tryz.pinned (OpenSpec.ofChange alignBoundsWrong)

/-- 'casebooklaw43.AlignRight': WHATEVER THE INPUT: true; the input reads as it did. -/
def alignRightSpec : ChangeSpec := { name := "alignRight", fn := fun _ => fun
  | [d1, d2, d3, d4] => { results := [.lit (.bool true)], args := [d1, d2, d3, d4] }
  | _ => none }
def alignRightRow : OpenClaim := { program := "ytjdpnadhgjohnaagreatdoor", sum := "ffa15ac8909c633622ba766380c382edf3e6ff62f69f6139e1c7c4353fcebe8d", func := "casebook/casebooklaw43.AlignRight", spec := "alignRight", unfollowed := true, recurses := true, named := ["internal/strconv.uint64pow10", "math/bits.deBruijn32tab", "math/bits.deBruijn64tab"], apart := false, laid := [("math/bits.deBruijn32tab", laid_math_bits_deBruijn32tab), ("math/bits.deBruijn64tab", laid_math_bits_deBruijn64tab), ("internal/strconv.uint64pow10", laid_internal_strconv_uint64pow10)] }
def AlignRightSaid : Prop := alignRightRow.holds Tryz.pinned (OpenSpec.ofChange alignRightSpec)

/-- ITS FALSE NEIGHBOUR: 'it returns false'. Refute it at one input. -/
def alignRightWrong : ChangeSpec := { name := "alignRight", fn := fun _ => fun
  | [d1, d2, d3, d4] => { results := [.lit (.bool false)], args := [d1, d2, d3, d4] }
  | _ => none }
def AlignRightWrongFalsely : Prop := alignRightRow.holds Tryz.pinned (OpenSpec.ofChange alignRightWrong)

/-- 'casebooklaw43.AlignWords': WHATEVER THE INPUT: true; the input reads as it did. -/
def alignWordsSpec : ChangeSpec := { name := "alignWords", fn := fun _ => fun
  | [d1, d2, d3, d4, d5] => { results := [.lit (.bool true)], args := [d1, d2, d3, d4, d5] }
  | _ => none }
def alignWordsRow : OpenClaim := { program := "ytjdpnadhgjohnaagreatdoor", sum := "ffa15ac8909c633622ba766380c382edf3e6ff62f69f6139e1c7c4353fcebe8d", func := "casebook/casebooklaw43.AlignWords", spec := "alignWords", unfollowed := true, recurses := true, named := ["internal/strconv.uint64pow10", "math/bits.deBruijn32tab", "math/bits.deBruijn64tab"], apart := false, laid := [("math/bits.deBruijn32tab", laid_math_bits_deBruijn32tab), ("math/bits.deBruijn64tab", laid_math_bits_deBruijn64tab), ("internal/strconv.uint64pow10", laid_internal_strconv_uint64pow10)] }
def AlignWordsSaid : Prop := alignWordsRow.holds Tryz.pinned (OpenSpec.ofChange alignWordsSpec)

/-- ITS FALSE NEIGHBOUR: 'it returns false'. Refute it at one input. -/
def alignWordsWrong : ChangeSpec := { name := "alignWords", fn := fun _ => fun
  | [d1, d2, d3, d4, d5] => { results := [.lit (.bool false)], args := [d1, d2, d3, d4, d5] }
  | _ => none }
def AlignWordsWrongFalsely : Prop := alignWordsRow.holds Tryz.pinned (OpenSpec.ofChange alignWordsWrong)

/- THE SECOND FORM. 'bulk': how many values and letters a reading holds, each counted each time it is reached (what is shared counts as often as it is met; a slice's spare places count too). A statement '..UptoSaid' is the law's where the arguments, and the package variables that the reading takes, are together of bulk at most 1048576: NARROWER than '..Said'. Prove '..Said' where nothing that the law and all that it calls make is longer than what came in: it says more and counts as full. Else prove '..UptoSaid'. A law counts once. -/
mutual
def uptoBulk {H : Type} : DataW H → Nat
  | .lit (.string bytes) => bytes.length + 1
  | .lit _ => 1
  | .nil => 1
  | .ptr d => uptoBulk d + 1
  | .slice elems spare => uptoBulkAll elems + uptoBulkAll spare + 1
  | .agg parts => uptoBulkAll parts + 1
  | .iface _ d => uptoBulk d + 1
  | .map entries => uptoBulkEntries entries + 1
  | .held _ => 1
def uptoBulkAll {H : Type} : List (DataW H) → Nat
  | [] => 0
  | d :: r => uptoBulk d + uptoBulkAll r
def uptoBulkEntries {H : Type} : List (Lit × DataW H) → Nat
  | [] => 0
  | x :: r => uptoBulkEntry x + uptoBulkEntries r
def uptoBulkEntry {H : Type} : Lit × DataW H → Nat
  | (.string bytes, d) => bytes.length + uptoBulk d + 1
  | (_, d) => uptoBulk d + 1
 end
def uptoSmall : (H : Type) → List (DataW H) → Bool := fun _ ds => decide (uptoBulkAll ds ≤ 1048576)
def OpenSpec.upto (s : _root_.Go.ChangeSpec) : _root_.Go.OpenSpec := { _root_.Go.OpenSpec.ofChange s with cond := some uptoSmall }

/-- 'casebooklaw43.AlignLeast', WHERE WHAT IT READS IS OF BULK AT MOST 1048576: true; the input reads as it did. -/
def alignLeastUptoRow : OpenClaim := { program := "ytjdpnadhgjohnaagreatdoor", sum := "ffa15ac8909c633622ba766380c382edf3e6ff62f69f6139e1c7c4353fcebe8d", func := "casebook/casebooklaw43.AlignLeast", spec := "alignLeast", unfollowed := true, recurses := true, named := ["internal/strconv.uint64pow10", "math/bits.deBruijn32tab", "math/bits.deBruijn64tab"], apart := false, laid := [("math/bits.deBruijn32tab", laid_math_bits_deBruijn32tab), ("math/bits.deBruijn64tab", laid_math_bits_deBruijn64tab), ("internal/strconv.uint64pow10", laid_internal_strconv_uint64pow10)], narrowed := true }
def AlignLeastUptoSaid : Prop := alignLeastUptoRow.holds Tryz.pinned (OpenSpec.upto alignLeastSpec)

/-- 'casebooklaw43.AlignPrograms', WHERE WHAT IT READS IS OF BULK AT MOST 1048576: true; the input reads as it did. -/
def alignProgramsUptoRow : OpenClaim := { program := "ytjdpnadhgjohnaagreatdoor", sum := "ffa15ac8909c633622ba766380c382edf3e6ff62f69f6139e1c7c4353fcebe8d", func := "casebook/casebooklaw43.AlignPrograms", spec := "alignPrograms", unfollowed := true, recurses := true, named := ["internal/strconv.uint64pow10", "math/bits.deBruijn32tab", "math/bits.deBruijn64tab"], apart := false, laid := [("math/bits.deBruijn32tab", laid_math_bits_deBruijn32tab), ("math/bits.deBruijn64tab", laid_math_bits_deBruijn64tab), ("internal/strconv.uint64pow10", laid_internal_strconv_uint64pow10)], narrowed := true }
def AlignProgramsUptoSaid : Prop := alignProgramsUptoRow.holds Tryz.pinned (OpenSpec.upto alignProgramsSpec)

/-- 'casebooklaw43.AlignCheapest', WHERE WHAT IT READS IS OF BULK AT MOST 1048576: true; the input reads as it did. -/
def alignCheapestUptoRow : OpenClaim := { program := "ytjdpnadhgjohnaagreatdoor", sum := "ffa15ac8909c633622ba766380c382edf3e6ff62f69f6139e1c7c4353fcebe8d", func := "casebook/casebooklaw43.AlignCheapest", spec := "alignCheapest", unfollowed := true, recurses := true, named := ["internal/strconv.uint64pow10", "math/bits.deBruijn32tab", "math/bits.deBruijn64tab"], apart := false, laid := [("math/bits.deBruijn32tab", laid_math_bits_deBruijn32tab), ("math/bits.deBruijn64tab", laid_math_bits_deBruijn64tab), ("internal/strconv.uint64pow10", laid_internal_strconv_uint64pow10)], narrowed := true }
def AlignCheapestUptoSaid : Prop := alignCheapestUptoRow.holds Tryz.pinned (OpenSpec.upto alignCheapestSpec)

/-- 'casebooklaw43.AlignBounds', WHERE WHAT IT READS IS OF BULK AT MOST 1048576: true; the input reads as it did. -/
def alignBoundsUptoRow : OpenClaim := { program := "ytjdpnadhgjohnaagreatdoor", sum := "ffa15ac8909c633622ba766380c382edf3e6ff62f69f6139e1c7c4353fcebe8d", func := "casebook/casebooklaw43.AlignBounds", spec := "alignBounds", unfollowed := true, recurses := true, named := ["internal/strconv.uint64pow10", "math/bits.deBruijn32tab", "math/bits.deBruijn64tab"], apart := false, laid := [("math/bits.deBruijn32tab", laid_math_bits_deBruijn32tab), ("math/bits.deBruijn64tab", laid_math_bits_deBruijn64tab), ("internal/strconv.uint64pow10", laid_internal_strconv_uint64pow10)], narrowed := true }
def AlignBoundsUptoSaid : Prop := alignBoundsUptoRow.holds Tryz.pinned (OpenSpec.upto alignBoundsSpec)

/-- 'casebooklaw43.AlignRight', WHERE WHAT IT READS IS OF BULK AT MOST 1048576: true; the input reads as it did. -/
def alignRightUptoRow : OpenClaim := { program := "ytjdpnadhgjohnaagreatdoor", sum := "ffa15ac8909c633622ba766380c382edf3e6ff62f69f6139e1c7c4353fcebe8d", func := "casebook/casebooklaw43.AlignRight", spec := "alignRight", unfollowed := true, recurses := true, named := ["internal/strconv.uint64pow10", "math/bits.deBruijn32tab", "math/bits.deBruijn64tab"], apart := false, laid := [("math/bits.deBruijn32tab", laid_math_bits_deBruijn32tab), ("math/bits.deBruijn64tab", laid_math_bits_deBruijn64tab), ("internal/strconv.uint64pow10", laid_internal_strconv_uint64pow10)], narrowed := true }
def AlignRightUptoSaid : Prop := alignRightUptoRow.holds Tryz.pinned (OpenSpec.upto alignRightSpec)

/-- 'casebooklaw43.AlignWords', WHERE WHAT IT READS IS OF BULK AT MOST 1048576: true; the input reads as it did. -/
def alignWordsUptoRow : OpenClaim := { program := "ytjdpnadhgjohnaagreatdoor", sum := "ffa15ac8909c633622ba766380c382edf3e6ff62f69f6139e1c7c4353fcebe8d", func := "casebook/casebooklaw43.AlignWords", spec := "alignWords", unfollowed := true, recurses := true, named := ["internal/strconv.uint64pow10", "math/bits.deBruijn32tab", "math/bits.deBruijn64tab"], apart := false, laid := [("math/bits.deBruijn32tab", laid_math_bits_deBruijn32tab), ("math/bits.deBruijn64tab", laid_math_bits_deBruijn64tab), ("internal/strconv.uint64pow10", laid_internal_strconv_uint64pow10)], narrowed := true }
def AlignWordsUptoSaid : Prop := alignWordsUptoRow.holds Tryz.pinned (OpenSpec.upto alignWordsSpec)

end Rows
end Go.Proofs.YtjdpnadhgjohnaaGreatDoor
