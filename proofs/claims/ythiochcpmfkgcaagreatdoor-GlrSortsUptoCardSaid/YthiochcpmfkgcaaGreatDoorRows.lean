/-
  NARROWER THAN 'FOR EVERY INPUT', by the rows' own cells (each row's printed sentence says how): GlrRun: laid · GlrPrefix: laid · GlrLong: laid · GlrParts: laid · GlrSorts: laid · GlrBound: laid.
  DERIVED. THE GIVEN ROWS OF THIS SEAT. 6 by the template 'for every input the law returns true; each argument reads behind the call as it read before'; 0 by the template 'total and deterministic' (their statements: YthiochcpmfkgcaaGreatDoorTotals.lean).
  GIVEN WITH THE SEED: the statements are not yours to turn. If you find one false, say at which input.
  Laid BY PROGRAM, IN A SANDBOX (cutbox-rows.mjs): the forced cells as the released guide's own fill.sh prints them over the translation 093db28f3e5830ec… (all of the seat's roots in one cut). By AI agents, Wed Nov 11 2026. No macro, syntax, notation, axiom, sorry.
-/
import Derived.Test.YthiochcpmfkgcaaGreatDoorChecked
import GoSem.Claim
import GoSem.ClaimJoined
import GoSem.ClaimMapViews
import Derived.JoinedTies
import Derived.KernelRfl
namespace Go.Proofs.YthiochcpmfkgcaaGreatDoor
/- THE CELL 'sum', in the pinned program and in every row, IS THE sha256 OF THE DUMP (.gsa) THAT YthiochcpmfkgcaaGreatDoorProg.lean LOADS. Nothing in Lean hashes anything: it is a label: what it is worth is what the hold of that sum in a sandbox is worth. -/
noncomputable def Tryz.pinned : Pinned := { name := "ythiochcpmfkgcaagreatdoor", sum := "093db28f3e5830ec76c66c0f61cc81daa1f30c0bec9eb0e08443a5c2fd8d6875", checked := Tryz.checked }
namespace Rows
def none {H : Type} : Left H := { results := [], args := [] }

/- WHAT THE LISTED PACKAGE-LEVEL VARIABLES READ AS WHEN THE CALL BEGINS. Each datum BY PROGRAM (the guide's laid-datum.mjs) off the statement by which the dump's own 'gosem.cut.vars' lays the variable. In a bare row this is a premise. The card (YthiochcpmfkgcaaGreatDoorCards.lean) ties it to the program's text. -/
def laid_math_bits_deBruijn32tab {H : Type} : DataW H := .agg [.lit (.int .u8 0), .lit (.int .u8 1), .lit (.int .u8 28), .lit (.int .u8 2), .lit (.int .u8 29), .lit (.int .u8 14), .lit (.int .u8 24), .lit (.int .u8 3), .lit (.int .u8 30), .lit (.int .u8 22), .lit (.int .u8 20), .lit (.int .u8 15), .lit (.int .u8 25), .lit (.int .u8 17), .lit (.int .u8 4), .lit (.int .u8 8), .lit (.int .u8 31), .lit (.int .u8 27), .lit (.int .u8 13), .lit (.int .u8 23), .lit (.int .u8 21), .lit (.int .u8 19), .lit (.int .u8 16), .lit (.int .u8 7), .lit (.int .u8 26), .lit (.int .u8 12), .lit (.int .u8 18), .lit (.int .u8 6), .lit (.int .u8 11), .lit (.int .u8 5), .lit (.int .u8 10), .lit (.int .u8 9)]
def laid_math_bits_deBruijn64tab {H : Type} : DataW H := .agg [.lit (.int .u8 0), .lit (.int .u8 1), .lit (.int .u8 56), .lit (.int .u8 2), .lit (.int .u8 57), .lit (.int .u8 49), .lit (.int .u8 28), .lit (.int .u8 3), .lit (.int .u8 61), .lit (.int .u8 58), .lit (.int .u8 42), .lit (.int .u8 50), .lit (.int .u8 38), .lit (.int .u8 29), .lit (.int .u8 17), .lit (.int .u8 4), .lit (.int .u8 62), .lit (.int .u8 47), .lit (.int .u8 59), .lit (.int .u8 36), .lit (.int .u8 45), .lit (.int .u8 43), .lit (.int .u8 51), .lit (.int .u8 22), .lit (.int .u8 53), .lit (.int .u8 39), .lit (.int .u8 33), .lit (.int .u8 30), .lit (.int .u8 24), .lit (.int .u8 18), .lit (.int .u8 12), .lit (.int .u8 5), .lit (.int .u8 63), .lit (.int .u8 55), .lit (.int .u8 48), .lit (.int .u8 27), .lit (.int .u8 60), .lit (.int .u8 41), .lit (.int .u8 37), .lit (.int .u8 16), .lit (.int .u8 46), .lit (.int .u8 35), .lit (.int .u8 44), .lit (.int .u8 21), .lit (.int .u8 52), .lit (.int .u8 32), .lit (.int .u8 23), .lit (.int .u8 11), .lit (.int .u8 54), .lit (.int .u8 26), .lit (.int .u8 40), .lit (.int .u8 15), .lit (.int .u8 34), .lit (.int .u8 20), .lit (.int .u8 31), .lit (.int .u8 10), .lit (.int .u8 25), .lit (.int .u8 14), .lit (.int .u8 19), .lit (.int .u8 9), .lit (.int .u8 13), .lit (.int .u8 8), .lit (.int .u8 7), .lit (.int .u8 6)]
def laid_internal_strconv_uint64pow10 {H : Type} : DataW H := .agg [.lit (.int .u64 1), .lit (.int .u64 10), .lit (.int .u64 100), .lit (.int .u64 1000), .lit (.int .u64 10000), .lit (.int .u64 100000), .lit (.int .u64 1000000), .lit (.int .u64 10000000), .lit (.int .u64 100000000), .lit (.int .u64 1000000000), .lit (.int .u64 10000000000), .lit (.int .u64 100000000000), .lit (.int .u64 1000000000000), .lit (.int .u64 10000000000000), .lit (.int .u64 100000000000000), .lit (.int .u64 1000000000000000), .lit (.int .u64 10000000000000000), .lit (.int .u64 100000000000000000), .lit (.int .u64 1000000000000000000), .lit (.int .u64 10000000000000000000)]

/-- 'rosettalaw10.GlrRun': WHATEVER THE INPUT: true; the input reads as it did. -/
def glrRunSpec : ChangeSpec := { name := "glrRun", fn := fun _ => fun
  | [d1, d2] => { results := [.lit (.bool true)], args := [d1, d2] }
  | _ => none }
def glrRunRow : OpenClaim := { program := "ythiochcpmfkgcaagreatdoor", sum := "093db28f3e5830ec76c66c0f61cc81daa1f30c0bec9eb0e08443a5c2fd8d6875", func := "rosetta/rosettalaw10.GlrRun", spec := "glrRun", inPlace := ["internal/abi.NoEscape"], unfollowed := true, recurses := true, named := ["internal/strconv.uint64pow10", "math/bits.deBruijn32tab", "math/bits.deBruijn64tab"], plainKeys := false, apart := false, laid := [("math/bits.deBruijn32tab", laid_math_bits_deBruijn32tab), ("math/bits.deBruijn64tab", laid_math_bits_deBruijn64tab), ("internal/strconv.uint64pow10", laid_internal_strconv_uint64pow10)] }
def GlrRunSaid : Prop := glrRunRow.holds Tryz.pinned (OpenSpec.ofChange glrRunSpec)

/-- ITS FALSE NEIGHBOUR: 'it returns false'. Refute it at one input. -/
def glrRunWrong : ChangeSpec := { name := "glrRun", fn := fun _ => fun
  | [d1, d2] => { results := [.lit (.bool false)], args := [d1, d2] }
  | _ => none }
def GlrRunWrongFalsely : Prop := glrRunRow.holds Tryz.pinned (OpenSpec.ofChange glrRunWrong)

/-- 'rosettalaw10.GlrPrefix': WHATEVER THE INPUT: true; the input reads as it did. -/
def glrPrefixSpec : ChangeSpec := { name := "glrPrefix", fn := fun _ => fun
  | [d1, d2] => { results := [.lit (.bool true)], args := [d1, d2] }
  | _ => none }
def glrPrefixRow : OpenClaim := { program := "ythiochcpmfkgcaagreatdoor", sum := "093db28f3e5830ec76c66c0f61cc81daa1f30c0bec9eb0e08443a5c2fd8d6875", func := "rosetta/rosettalaw10.GlrPrefix", spec := "glrPrefix", inPlace := ["internal/abi.NoEscape"], unfollowed := true, recurses := true, named := ["internal/strconv.uint64pow10", "math/bits.deBruijn32tab", "math/bits.deBruijn64tab"], plainKeys := false, apart := false, laid := [("math/bits.deBruijn32tab", laid_math_bits_deBruijn32tab), ("math/bits.deBruijn64tab", laid_math_bits_deBruijn64tab), ("internal/strconv.uint64pow10", laid_internal_strconv_uint64pow10)] }
def GlrPrefixSaid : Prop := glrPrefixRow.holds Tryz.pinned (OpenSpec.ofChange glrPrefixSpec)

/-- ITS FALSE NEIGHBOUR: 'it returns false'. Refute it at one input. -/
def glrPrefixWrong : ChangeSpec := { name := "glrPrefix", fn := fun _ => fun
  | [d1, d2] => { results := [.lit (.bool false)], args := [d1, d2] }
  | _ => none }
def GlrPrefixWrongFalsely : Prop := glrPrefixRow.holds Tryz.pinned (OpenSpec.ofChange glrPrefixWrong)

/-- 'rosettalaw10.GlrLong': WHATEVER THE INPUT: true; the input reads as it did. -/
def glrLongSpec : ChangeSpec := { name := "glrLong", fn := fun _ => fun
  | [d] => { results := [.lit (.bool true)], args := [d] }
  | _ => none }
def glrLongRow : OpenClaim := { program := "ythiochcpmfkgcaagreatdoor", sum := "093db28f3e5830ec76c66c0f61cc81daa1f30c0bec9eb0e08443a5c2fd8d6875", func := "rosetta/rosettalaw10.GlrLong", spec := "glrLong", inPlace := ["internal/abi.NoEscape"], unfollowed := true, recurses := true, named := ["internal/strconv.uint64pow10", "math/bits.deBruijn32tab", "math/bits.deBruijn64tab"], plainKeys := false, apart := false, laid := [("math/bits.deBruijn32tab", laid_math_bits_deBruijn32tab), ("math/bits.deBruijn64tab", laid_math_bits_deBruijn64tab), ("internal/strconv.uint64pow10", laid_internal_strconv_uint64pow10)] }
def GlrLongSaid : Prop := glrLongRow.holds Tryz.pinned (OpenSpec.ofChange glrLongSpec)

/-- ITS FALSE NEIGHBOUR: 'it returns false'. Refute it at one input. -/
def glrLongWrong : ChangeSpec := { name := "glrLong", fn := fun _ => fun
  | [d] => { results := [.lit (.bool false)], args := [d] }
  | _ => none }
def GlrLongWrongFalsely : Prop := glrLongRow.holds Tryz.pinned (OpenSpec.ofChange glrLongWrong)

/-- 'rosettalaw10.GlrParts': WHATEVER THE INPUT: true; the input reads as it did. -/
def glrPartsSpec : ChangeSpec := { name := "glrParts", fn := fun _ => fun
  | [d1, d2, d3] => { results := [.lit (.bool true)], args := [d1, d2, d3] }
  | _ => none }
def glrPartsRow : OpenClaim := { program := "ythiochcpmfkgcaagreatdoor", sum := "093db28f3e5830ec76c66c0f61cc81daa1f30c0bec9eb0e08443a5c2fd8d6875", func := "rosetta/rosettalaw10.GlrParts", spec := "glrParts", inPlace := ["internal/abi.NoEscape"], unfollowed := true, recurses := true, named := ["internal/strconv.uint64pow10", "math/bits.deBruijn32tab", "math/bits.deBruijn64tab"], plainKeys := false, apart := false, laid := [("math/bits.deBruijn32tab", laid_math_bits_deBruijn32tab), ("math/bits.deBruijn64tab", laid_math_bits_deBruijn64tab), ("internal/strconv.uint64pow10", laid_internal_strconv_uint64pow10)] }
def GlrPartsSaid : Prop := glrPartsRow.holds Tryz.pinned (OpenSpec.ofChange glrPartsSpec)

/-- ITS FALSE NEIGHBOUR: 'it returns false'. Refute it at one input. -/
def glrPartsWrong : ChangeSpec := { name := "glrParts", fn := fun _ => fun
  | [d1, d2, d3] => { results := [.lit (.bool false)], args := [d1, d2, d3] }
  | _ => none }
def GlrPartsWrongFalsely : Prop := glrPartsRow.holds Tryz.pinned (OpenSpec.ofChange glrPartsWrong)

/-- 'rosettalaw10.GlrSorts': WHATEVER THE INPUT: true; the input reads as it did. -/
def glrSortsSpec : ChangeSpec := { name := "glrSorts", fn := fun _ => fun
  | [d1, d2] => { results := [.lit (.bool true)], args := [d1, d2] }
  | _ => none }
def glrSortsRow : OpenClaim := { program := "ythiochcpmfkgcaagreatdoor", sum := "093db28f3e5830ec76c66c0f61cc81daa1f30c0bec9eb0e08443a5c2fd8d6875", func := "rosetta/rosettalaw10.GlrSorts", spec := "glrSorts", inPlace := ["internal/abi.NoEscape"], unfollowed := true, recurses := true, named := ["internal/strconv.uint64pow10", "math/bits.deBruijn32tab", "math/bits.deBruijn64tab"], plainKeys := false, apart := false, laid := [("math/bits.deBruijn32tab", laid_math_bits_deBruijn32tab), ("math/bits.deBruijn64tab", laid_math_bits_deBruijn64tab), ("internal/strconv.uint64pow10", laid_internal_strconv_uint64pow10)] }
def GlrSortsSaid : Prop := glrSortsRow.holds Tryz.pinned (OpenSpec.ofChange glrSortsSpec)

/-- ITS FALSE NEIGHBOUR: 'it returns false'. Refute it at one input. -/
def glrSortsWrong : ChangeSpec := { name := "glrSorts", fn := fun _ => fun
  | [d1, d2] => { results := [.lit (.bool false)], args := [d1, d2] }
  | _ => none }
def GlrSortsWrongFalsely : Prop := glrSortsRow.holds Tryz.pinned (OpenSpec.ofChange glrSortsWrong)

/-- 'rosettalaw10.GlrBound': WHATEVER THE INPUT: true; the input reads as it did. -/
def glrBoundSpec : ChangeSpec := { name := "glrBound", fn := fun _ => fun
  | [d1, d2, d3] => { results := [.lit (.bool true)], args := [d1, d2, d3] }
  | _ => none }
def glrBoundRow : OpenClaim := { program := "ythiochcpmfkgcaagreatdoor", sum := "093db28f3e5830ec76c66c0f61cc81daa1f30c0bec9eb0e08443a5c2fd8d6875", func := "rosetta/rosettalaw10.GlrBound", spec := "glrBound", inPlace := ["internal/abi.NoEscape"], unfollowed := true, recurses := true, named := ["internal/strconv.uint64pow10", "math/bits.deBruijn32tab", "math/bits.deBruijn64tab"], plainKeys := false, apart := false, laid := [("math/bits.deBruijn32tab", laid_math_bits_deBruijn32tab), ("math/bits.deBruijn64tab", laid_math_bits_deBruijn64tab), ("internal/strconv.uint64pow10", laid_internal_strconv_uint64pow10)] }
def GlrBoundSaid : Prop := glrBoundRow.holds Tryz.pinned (OpenSpec.ofChange glrBoundSpec)

/-- ITS FALSE NEIGHBOUR: 'it returns false'. Refute it at one input. -/
def glrBoundWrong : ChangeSpec := { name := "glrBound", fn := fun _ => fun
  | [d1, d2, d3] => { results := [.lit (.bool false)], args := [d1, d2, d3] }
  | _ => none }
def GlrBoundWrongFalsely : Prop := glrBoundRow.holds Tryz.pinned (OpenSpec.ofChange glrBoundWrong)

/- THE SECOND FORM. 'bulk': how many values and letters a reading holds, each counted each time it is reached (what is shared counts as often as it is met; a slice's spare places count too). A statement '..UptoSaid' is the law's where the arguments, and the package variables that the reading takes, are together of bulk at most 1048576: NARROWER than '..Said'. Prove '..Said' where nothing that the law and all that it calls make is longer than what came in: it says more and counts as full. Else prove '..UptoSaid'. A law counts once. -/
mutual
def uptoBulk {H : Type} : DataW H → Nat
  | .lit (.string bytes) => bytes.length + 1
  | .lit _ => 1
  | .nil => 1
  | .ptr d => uptoBulk d + 1
  | .slice elems spare => uptoBulkAll elems + uptoBulkAll spare + 1
  | .agg parts => uptoBulkAll parts + 1
  | .iface _ d => uptoBulk d + 1
  | .map entries => uptoBulkEntries entries + 1
  | .held _ => 1
def uptoBulkAll {H : Type} : List (DataW H) → Nat
  | [] => 0
  | d :: r => uptoBulk d + uptoBulkAll r
def uptoBulkEntries {H : Type} : List (Lit × DataW H) → Nat
  | [] => 0
  | x :: r => uptoBulkEntry x + uptoBulkEntries r
def uptoBulkEntry {H : Type} : Lit × DataW H → Nat
  | (.string bytes, d) => bytes.length + uptoBulk d + 1
  | (_, d) => uptoBulk d + 1
 end
def uptoSmall : (H : Type) → List (DataW H) → Bool := fun _ ds => decide (uptoBulkAll ds ≤ 1048576)
def OpenSpec.upto (s : _root_.Go.ChangeSpec) : _root_.Go.OpenSpec := { _root_.Go.OpenSpec.ofChange s with cond := some uptoSmall }

/-- 'rosettalaw10.GlrRun', WHERE WHAT IT READS IS OF BULK AT MOST 1048576: true; the input reads as it did. -/
def glrRunUptoRow : OpenClaim := { program := "ythiochcpmfkgcaagreatdoor", sum := "093db28f3e5830ec76c66c0f61cc81daa1f30c0bec9eb0e08443a5c2fd8d6875", func := "rosetta/rosettalaw10.GlrRun", spec := "glrRun", inPlace := ["internal/abi.NoEscape"], unfollowed := true, recurses := true, named := ["internal/strconv.uint64pow10", "math/bits.deBruijn32tab", "math/bits.deBruijn64tab"], plainKeys := false, apart := false, laid := [("math/bits.deBruijn32tab", laid_math_bits_deBruijn32tab), ("math/bits.deBruijn64tab", laid_math_bits_deBruijn64tab), ("internal/strconv.uint64pow10", laid_internal_strconv_uint64pow10)], narrowed := true }
def GlrRunUptoSaid : Prop := glrRunUptoRow.holds Tryz.pinned (OpenSpec.upto glrRunSpec)

/-- 'rosettalaw10.GlrPrefix', WHERE WHAT IT READS IS OF BULK AT MOST 1048576: true; the input reads as it did. -/
def glrPrefixUptoRow : OpenClaim := { program := "ythiochcpmfkgcaagreatdoor", sum := "093db28f3e5830ec76c66c0f61cc81daa1f30c0bec9eb0e08443a5c2fd8d6875", func := "rosetta/rosettalaw10.GlrPrefix", spec := "glrPrefix", inPlace := ["internal/abi.NoEscape"], unfollowed := true, recurses := true, named := ["internal/strconv.uint64pow10", "math/bits.deBruijn32tab", "math/bits.deBruijn64tab"], plainKeys := false, apart := false, laid := [("math/bits.deBruijn32tab", laid_math_bits_deBruijn32tab), ("math/bits.deBruijn64tab", laid_math_bits_deBruijn64tab), ("internal/strconv.uint64pow10", laid_internal_strconv_uint64pow10)], narrowed := true }
def GlrPrefixUptoSaid : Prop := glrPrefixUptoRow.holds Tryz.pinned (OpenSpec.upto glrPrefixSpec)

/-- 'rosettalaw10.GlrLong', WHERE WHAT IT READS IS OF BULK AT MOST 1048576: true; the input reads as it did. -/
def glrLongUptoRow : OpenClaim := { program := "ythiochcpmfkgcaagreatdoor", sum := "093db28f3e5830ec76c66c0f61cc81daa1f30c0bec9eb0e08443a5c2fd8d6875", func := "rosetta/rosettalaw10.GlrLong", spec := "glrLong", inPlace := ["internal/abi.NoEscape"], unfollowed := true, recurses := true, named := ["internal/strconv.uint64pow10", "math/bits.deBruijn32tab", "math/bits.deBruijn64tab"], plainKeys := false, apart := false, laid := [("math/bits.deBruijn32tab", laid_math_bits_deBruijn32tab), ("math/bits.deBruijn64tab", laid_math_bits_deBruijn64tab), ("internal/strconv.uint64pow10", laid_internal_strconv_uint64pow10)], narrowed := true }
def GlrLongUptoSaid : Prop := glrLongUptoRow.holds Tryz.pinned (OpenSpec.upto glrLongSpec)

/-- 'rosettalaw10.GlrParts', WHERE WHAT IT READS IS OF BULK AT MOST 1048576: true; the input reads as it did. -/
def glrPartsUptoRow : OpenClaim := { program := "ythiochcpmfkgcaagreatdoor", sum := "093db28f3e5830ec76c66c0f61cc81daa1f30c0bec9eb0e08443a5c2fd8d6875", func := "rosetta/rosettalaw10.GlrParts", spec := "glrParts", inPlace := ["internal/abi.NoEscape"], unfollowed := true, recurses := true, named := ["internal/strconv.uint64pow10", "math/bits.deBruijn32tab", "math/bits.deBruijn64tab"], plainKeys := false, apart := false, laid := [("math/bits.deBruijn32tab", laid_math_bits_deBruijn32tab), ("math/bits.deBruijn64tab", laid_math_bits_deBruijn64tab), ("internal/strconv.uint64pow10", laid_internal_strconv_uint64pow10)], narrowed := true }
def GlrPartsUptoSaid : Prop := glrPartsUptoRow.holds Tryz.pinned (OpenSpec.upto glrPartsSpec)

/-- 'rosettalaw10.GlrSorts', WHERE WHAT IT READS IS OF BULK AT MOST 1048576: true; the input reads as it did. -/
def glrSortsUptoRow : OpenClaim := { program := "ythiochcpmfkgcaagreatdoor", sum := "093db28f3e5830ec76c66c0f61cc81daa1f30c0bec9eb0e08443a5c2fd8d6875", func := "rosetta/rosettalaw10.GlrSorts", spec := "glrSorts", inPlace := ["internal/abi.NoEscape"], unfollowed := true, recurses := true, named := ["internal/strconv.uint64pow10", "math/bits.deBruijn32tab", "math/bits.deBruijn64tab"], plainKeys := false, apart := false, laid := [("math/bits.deBruijn32tab", laid_math_bits_deBruijn32tab), ("math/bits.deBruijn64tab", laid_math_bits_deBruijn64tab), ("internal/strconv.uint64pow10", laid_internal_strconv_uint64pow10)], narrowed := true }
def GlrSortsUptoSaid : Prop := glrSortsUptoRow.holds Tryz.pinned (OpenSpec.upto glrSortsSpec)

/-- 'rosettalaw10.GlrBound', WHERE WHAT IT READS IS OF BULK AT MOST 1048576: true; the input reads as it did. -/
def glrBoundUptoRow : OpenClaim := { program := "ythiochcpmfkgcaagreatdoor", sum := "093db28f3e5830ec76c66c0f61cc81daa1f30c0bec9eb0e08443a5c2fd8d6875", func := "rosetta/rosettalaw10.GlrBound", spec := "glrBound", inPlace := ["internal/abi.NoEscape"], unfollowed := true, recurses := true, named := ["internal/strconv.uint64pow10", "math/bits.deBruijn32tab", "math/bits.deBruijn64tab"], plainKeys := false, apart := false, laid := [("math/bits.deBruijn32tab", laid_math_bits_deBruijn32tab), ("math/bits.deBruijn64tab", laid_math_bits_deBruijn64tab), ("internal/strconv.uint64pow10", laid_internal_strconv_uint64pow10)], narrowed := true }
def GlrBoundUptoSaid : Prop := glrBoundUptoRow.holds Tryz.pinned (OpenSpec.upto glrBoundSpec)

end Rows
end Go.Proofs.YthiochcpmfkgcaaGreatDoor
