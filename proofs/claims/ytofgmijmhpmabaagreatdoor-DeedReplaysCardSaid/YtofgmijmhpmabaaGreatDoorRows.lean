/-
  NARROWER THAN 'FOR EVERY INPUT', by the rows' own cells (each row's printed sentence says how): DeedApplies: laid · DeedUndoes: laid · DeedThere: laid · DeedTexts: laid · DeedReplays: laid · DeedAdds: laid · DeedMakes: laid · DeedFits: laid · DeedBack: laid.
  DERIVED. THE GIVEN ROWS OF THIS SEAT. 9 by the template 'for every input the law returns true; each argument reads behind the call as it read before'; 0 by the template 'total and deterministic' (their statements: YtofgmijmhpmabaaGreatDoorTotals.lean).
  GIVEN WITH THE SEED: the statements are not yours to turn. If you find one false, say at which input.
  Laid BY PROGRAM, IN A SANDBOX (cutbox-rows.mjs): the forced cells as the released guide's own fill.sh prints them over the translation 772de8453db7f67f… (all of the seat's roots in one cut). By AI agents, Wed Nov 11 2026. No macro, syntax, notation, axiom, sorry.
-/
import Derived.Test.YtofgmijmhpmabaaGreatDoorChecked
import GoSem.Claim
import GoSem.ClaimJoined
import GoSem.ClaimMapViews
import Derived.JoinedTies
import Derived.KernelRfl
namespace Go.Proofs.YtofgmijmhpmabaaGreatDoor
/- THE CELL 'sum', in the pinned program and in every row, IS THE sha256 OF THE DUMP (.gsa) THAT YtofgmijmhpmabaaGreatDoorProg.lean LOADS. Nothing in Lean hashes anything: it is a label: what it is worth is what the hold of that sum in a sandbox is worth. -/
noncomputable def Tryz.pinned : Pinned := { name := "ytofgmijmhpmabaagreatdoor", sum := "772de8453db7f67f2d476a71a22ba0bd40576cec681fa2fb350baad84a4f9786", checked := Tryz.checked }
namespace Rows
def none {H : Type} : Left H := { results := [], args := [] }

/- WHAT THE LISTED PACKAGE-LEVEL VARIABLES READ AS WHEN THE CALL BEGINS. Each datum BY PROGRAM (the guide's laid-datum.mjs) off the statement by which the dump's own 'gosem.cut.vars' lays the variable. In a bare row this is a premise. The card (YtofgmijmhpmabaaGreatDoorCards.lean) ties it to the program's text. -/
def laid_math_bits_deBruijn32tab {H : Type} : DataW H := .agg [.lit (.int .u8 0), .lit (.int .u8 1), .lit (.int .u8 28), .lit (.int .u8 2), .lit (.int .u8 29), .lit (.int .u8 14), .lit (.int .u8 24), .lit (.int .u8 3), .lit (.int .u8 30), .lit (.int .u8 22), .lit (.int .u8 20), .lit (.int .u8 15), .lit (.int .u8 25), .lit (.int .u8 17), .lit (.int .u8 4), .lit (.int .u8 8), .lit (.int .u8 31), .lit (.int .u8 27), .lit (.int .u8 13), .lit (.int .u8 23), .lit (.int .u8 21), .lit (.int .u8 19), .lit (.int .u8 16), .lit (.int .u8 7), .lit (.int .u8 26), .lit (.int .u8 12), .lit (.int .u8 18), .lit (.int .u8 6), .lit (.int .u8 11), .lit (.int .u8 5), .lit (.int .u8 10), .lit (.int .u8 9)]
def laid_math_bits_deBruijn64tab {H : Type} : DataW H := .agg [.lit (.int .u8 0), .lit (.int .u8 1), .lit (.int .u8 56), .lit (.int .u8 2), .lit (.int .u8 57), .lit (.int .u8 49), .lit (.int .u8 28), .lit (.int .u8 3), .lit (.int .u8 61), .lit (.int .u8 58), .lit (.int .u8 42), .lit (.int .u8 50), .lit (.int .u8 38), .lit (.int .u8 29), .lit (.int .u8 17), .lit (.int .u8 4), .lit (.int .u8 62), .lit (.int .u8 47), .lit (.int .u8 59), .lit (.int .u8 36), .lit (.int .u8 45), .lit (.int .u8 43), .lit (.int .u8 51), .lit (.int .u8 22), .lit (.int .u8 53), .lit (.int .u8 39), .lit (.int .u8 33), .lit (.int .u8 30), .lit (.int .u8 24), .lit (.int .u8 18), .lit (.int .u8 12), .lit (.int .u8 5), .lit (.int .u8 63), .lit (.int .u8 55), .lit (.int .u8 48), .lit (.int .u8 27), .lit (.int .u8 60), .lit (.int .u8 41), .lit (.int .u8 37), .lit (.int .u8 16), .lit (.int .u8 46), .lit (.int .u8 35), .lit (.int .u8 44), .lit (.int .u8 21), .lit (.int .u8 52), .lit (.int .u8 32), .lit (.int .u8 23), .lit (.int .u8 11), .lit (.int .u8 54), .lit (.int .u8 26), .lit (.int .u8 40), .lit (.int .u8 15), .lit (.int .u8 34), .lit (.int .u8 20), .lit (.int .u8 31), .lit (.int .u8 10), .lit (.int .u8 25), .lit (.int .u8 14), .lit (.int .u8 19), .lit (.int .u8 9), .lit (.int .u8 13), .lit (.int .u8 8), .lit (.int .u8 7), .lit (.int .u8 6)]
def laid_internal_strconv_uint64pow10 {H : Type} : DataW H := .agg [.lit (.int .u64 1), .lit (.int .u64 10), .lit (.int .u64 100), .lit (.int .u64 1000), .lit (.int .u64 10000), .lit (.int .u64 100000), .lit (.int .u64 1000000), .lit (.int .u64 10000000), .lit (.int .u64 100000000), .lit (.int .u64 1000000000), .lit (.int .u64 10000000000), .lit (.int .u64 100000000000), .lit (.int .u64 1000000000000), .lit (.int .u64 10000000000000), .lit (.int .u64 100000000000000), .lit (.int .u64 1000000000000000), .lit (.int .u64 10000000000000000), .lit (.int .u64 100000000000000000), .lit (.int .u64 1000000000000000000), .lit (.int .u64 10000000000000000000)]

/-- 'tableaulaw06.DeedApplies': WHATEVER THE INPUT: true; the input reads as it did. -/
def deedAppliesSpec : ChangeSpec := { name := "deedApplies", fn := fun _ => fun
  | [d1, d2] => { results := [.lit (.bool true)], args := [d1, d2] }
  | _ => none }
def deedAppliesRow : OpenClaim := { program := "ytofgmijmhpmabaagreatdoor", sum := "772de8453db7f67f2d476a71a22ba0bd40576cec681fa2fb350baad84a4f9786", func := "tableau/tableaulaw06.DeedApplies", spec := "deedApplies", inPlace := ["slices.overlaps[int]", "internal/abi.NoEscape"], unfollowed := true, recurses := true, named := ["internal/strconv.uint64pow10", "math/bits.deBruijn32tab", "math/bits.deBruijn64tab"], apart := false, laid := [("math/bits.deBruijn32tab", laid_math_bits_deBruijn32tab), ("math/bits.deBruijn64tab", laid_math_bits_deBruijn64tab), ("internal/strconv.uint64pow10", laid_internal_strconv_uint64pow10)] }
def DeedAppliesSaid : Prop := deedAppliesRow.holds Tryz.pinned (OpenSpec.ofChange deedAppliesSpec)

/-- ITS FALSE NEIGHBOUR: 'it returns false'. Refute it at one input. -/
def deedAppliesWrong : ChangeSpec := { name := "deedApplies", fn := fun _ => fun
  | [d1, d2] => { results := [.lit (.bool false)], args := [d1, d2] }
  | _ => none }
def DeedAppliesWrongFalsely : Prop := deedAppliesRow.holds Tryz.pinned (OpenSpec.ofChange deedAppliesWrong)

/-- 'tableaulaw06.DeedUndoes': WHATEVER THE INPUT: true; the input reads as it did. -/
def deedUndoesSpec : ChangeSpec := { name := "deedUndoes", fn := fun _ => fun
  | [d1, d2] => { results := [.lit (.bool true)], args := [d1, d2] }
  | _ => none }
def deedUndoesRow : OpenClaim := { program := "ytofgmijmhpmabaagreatdoor", sum := "772de8453db7f67f2d476a71a22ba0bd40576cec681fa2fb350baad84a4f9786", func := "tableau/tableaulaw06.DeedUndoes", spec := "deedUndoes", inPlace := ["slices.overlaps[int]", "internal/abi.NoEscape"], unfollowed := true, recurses := true, named := ["internal/strconv.uint64pow10", "math/bits.deBruijn32tab", "math/bits.deBruijn64tab"], apart := false, laid := [("math/bits.deBruijn32tab", laid_math_bits_deBruijn32tab), ("math/bits.deBruijn64tab", laid_math_bits_deBruijn64tab), ("internal/strconv.uint64pow10", laid_internal_strconv_uint64pow10)] }
def DeedUndoesSaid : Prop := deedUndoesRow.holds Tryz.pinned (OpenSpec.ofChange deedUndoesSpec)

/-- ITS FALSE NEIGHBOUR: 'it returns false'. Refute it at one input. -/
def deedUndoesWrong : ChangeSpec := { name := "deedUndoes", fn := fun _ => fun
  | [d1, d2] => { results := [.lit (.bool false)], args := [d1, d2] }
  | _ => none }
def DeedUndoesWrongFalsely : Prop := deedUndoesRow.holds Tryz.pinned (OpenSpec.ofChange deedUndoesWrong)

/-- 'tableaulaw06.DeedThere': WHATEVER THE INPUT: true; the input reads as it did. -/
def deedThereSpec : ChangeSpec := { name := "deedThere", fn := fun _ => fun
  | [d1, d2] => { results := [.lit (.bool true)], args := [d1, d2] }
  | _ => none }
def deedThereRow : OpenClaim := { program := "ytofgmijmhpmabaagreatdoor", sum := "772de8453db7f67f2d476a71a22ba0bd40576cec681fa2fb350baad84a4f9786", func := "tableau/tableaulaw06.DeedThere", spec := "deedThere", inPlace := ["slices.overlaps[int]", "internal/abi.NoEscape"], unfollowed := true, recurses := true, named := ["internal/strconv.uint64pow10", "math/bits.deBruijn32tab", "math/bits.deBruijn64tab"], apart := false, laid := [("math/bits.deBruijn32tab", laid_math_bits_deBruijn32tab), ("math/bits.deBruijn64tab", laid_math_bits_deBruijn64tab), ("internal/strconv.uint64pow10", laid_internal_strconv_uint64pow10)] }
def DeedThereSaid : Prop := deedThereRow.holds Tryz.pinned (OpenSpec.ofChange deedThereSpec)

/-- ITS FALSE NEIGHBOUR: 'it returns false'. Refute it at one input. -/
def deedThereWrong : ChangeSpec := { name := "deedThere", fn := fun _ => fun
  | [d1, d2] => { results := [.lit (.bool false)], args := [d1, d2] }
  | _ => none }
def DeedThereWrongFalsely : Prop := deedThereRow.holds Tryz.pinned (OpenSpec.ofChange deedThereWrong)

/-- 'tableaulaw06.DeedTexts': WHATEVER THE INPUT: true; the input reads as it did. -/
def deedTextsSpec : ChangeSpec := { name := "deedTexts", fn := fun _ => fun
  | [d] => { results := [.lit (.bool true)], args := [d] }
  | _ => none }
def deedTextsRow : OpenClaim := { program := "ytofgmijmhpmabaagreatdoor", sum := "772de8453db7f67f2d476a71a22ba0bd40576cec681fa2fb350baad84a4f9786", func := "tableau/tableaulaw06.DeedTexts", spec := "deedTexts", inPlace := ["slices.overlaps[int]", "internal/abi.NoEscape"], unfollowed := true, recurses := true, named := ["internal/strconv.uint64pow10", "math/bits.deBruijn32tab", "math/bits.deBruijn64tab"], apart := false, laid := [("math/bits.deBruijn32tab", laid_math_bits_deBruijn32tab), ("math/bits.deBruijn64tab", laid_math_bits_deBruijn64tab), ("internal/strconv.uint64pow10", laid_internal_strconv_uint64pow10)] }
def DeedTextsSaid : Prop := deedTextsRow.holds Tryz.pinned (OpenSpec.ofChange deedTextsSpec)

/-- ITS FALSE NEIGHBOUR: 'it returns false'. Refute it at one input. -/
def deedTextsWrong : ChangeSpec := { name := "deedTexts", fn := fun _ => fun
  | [d] => { results := [.lit (.bool false)], args := [d] }
  | _ => none }
def DeedTextsWrongFalsely : Prop := deedTextsRow.holds Tryz.pinned (OpenSpec.ofChange deedTextsWrong)

/-- 'tableaulaw06.DeedReplays': WHATEVER THE INPUT: true; the input reads as it did. -/
def deedReplaysSpec : ChangeSpec := { name := "deedReplays", fn := fun _ => fun
  | [d1, d2] => { results := [.lit (.bool true)], args := [d1, d2] }
  | _ => none }
def deedReplaysRow : OpenClaim := { program := "ytofgmijmhpmabaagreatdoor", sum := "772de8453db7f67f2d476a71a22ba0bd40576cec681fa2fb350baad84a4f9786", func := "tableau/tableaulaw06.DeedReplays", spec := "deedReplays", inPlace := ["slices.overlaps[int]", "internal/abi.NoEscape"], unfollowed := true, recurses := true, named := ["internal/strconv.uint64pow10", "math/bits.deBruijn32tab", "math/bits.deBruijn64tab"], apart := false, laid := [("math/bits.deBruijn32tab", laid_math_bits_deBruijn32tab), ("math/bits.deBruijn64tab", laid_math_bits_deBruijn64tab), ("internal/strconv.uint64pow10", laid_internal_strconv_uint64pow10)] }
def DeedReplaysSaid : Prop := deedReplaysRow.holds Tryz.pinned (OpenSpec.ofChange deedReplaysSpec)

/-- ITS FALSE NEIGHBOUR: 'it returns false'. Refute it at one input. -/
def deedReplaysWrong : ChangeSpec := { name := "deedReplays", fn := fun _ => fun
  | [d1, d2] => { results := [.lit (.bool false)], args := [d1, d2] }
  | _ => none }
def DeedReplaysWrongFalsely : Prop := deedReplaysRow.holds Tryz.pinned (OpenSpec.ofChange deedReplaysWrong)

/-- 'tableaulaw06.DeedAdds': WHATEVER THE INPUT: true; the input reads as it did. -/
def deedAddsSpec : ChangeSpec := { name := "deedAdds", fn := fun _ => fun
  | [d1, d2, d3, d4, d5] => { results := [.lit (.bool true)], args := [d1, d2, d3, d4, d5] }
  | _ => none }
def deedAddsRow : OpenClaim := { program := "ytofgmijmhpmabaagreatdoor", sum := "772de8453db7f67f2d476a71a22ba0bd40576cec681fa2fb350baad84a4f9786", func := "tableau/tableaulaw06.DeedAdds", spec := "deedAdds", inPlace := ["slices.overlaps[int]", "internal/abi.NoEscape"], unfollowed := true, recurses := true, named := ["internal/strconv.uint64pow10", "math/bits.deBruijn32tab", "math/bits.deBruijn64tab"], apart := false, laid := [("math/bits.deBruijn32tab", laid_math_bits_deBruijn32tab), ("math/bits.deBruijn64tab", laid_math_bits_deBruijn64tab), ("internal/strconv.uint64pow10", laid_internal_strconv_uint64pow10)] }
def DeedAddsSaid : Prop := deedAddsRow.holds Tryz.pinned (OpenSpec.ofChange deedAddsSpec)

/-- ITS FALSE NEIGHBOUR: 'it returns false'. Refute it at one input. -/
def deedAddsWrong : ChangeSpec := { name := "deedAdds", fn := fun _ => fun
  | [d1, d2, d3, d4, d5] => { results := [.lit (.bool false)], args := [d1, d2, d3, d4, d5] }
  | _ => none }
def DeedAddsWrongFalsely : Prop := deedAddsRow.holds Tryz.pinned (OpenSpec.ofChange deedAddsWrong)

/-- 'tableaulaw06.DeedMakes': WHATEVER THE INPUT: true; the input reads as it did. -/
def deedMakesSpec : ChangeSpec := { name := "deedMakes", fn := fun _ => fun
  | [d1, d2] => { results := [.lit (.bool true)], args := [d1, d2] }
  | _ => none }
def deedMakesRow : OpenClaim := { program := "ytofgmijmhpmabaagreatdoor", sum := "772de8453db7f67f2d476a71a22ba0bd40576cec681fa2fb350baad84a4f9786", func := "tableau/tableaulaw06.DeedMakes", spec := "deedMakes", inPlace := ["slices.overlaps[int]", "internal/abi.NoEscape"], unfollowed := true, recurses := true, named := ["internal/strconv.uint64pow10", "math/bits.deBruijn32tab", "math/bits.deBruijn64tab"], apart := false, laid := [("math/bits.deBruijn32tab", laid_math_bits_deBruijn32tab), ("math/bits.deBruijn64tab", laid_math_bits_deBruijn64tab), ("internal/strconv.uint64pow10", laid_internal_strconv_uint64pow10)] }
def DeedMakesSaid : Prop := deedMakesRow.holds Tryz.pinned (OpenSpec.ofChange deedMakesSpec)

/-- ITS FALSE NEIGHBOUR: 'it returns false'. Refute it at one input. -/
def deedMakesWrong : ChangeSpec := { name := "deedMakes", fn := fun _ => fun
  | [d1, d2] => { results := [.lit (.bool false)], args := [d1, d2] }
  | _ => none }
def DeedMakesWrongFalsely : Prop := deedMakesRow.holds Tryz.pinned (OpenSpec.ofChange deedMakesWrong)

/-- 'tableaulaw06.DeedFits': WHATEVER THE INPUT: true; the input reads as it did. -/
def deedFitsSpec : ChangeSpec := { name := "deedFits", fn := fun _ => fun
  | [d1, d2] => { results := [.lit (.bool true)], args := [d1, d2] }
  | _ => none }
def deedFitsRow : OpenClaim := { program := "ytofgmijmhpmabaagreatdoor", sum := "772de8453db7f67f2d476a71a22ba0bd40576cec681fa2fb350baad84a4f9786", func := "tableau/tableaulaw06.DeedFits", spec := "deedFits", inPlace := ["slices.overlaps[int]", "internal/abi.NoEscape"], unfollowed := true, recurses := true, named := ["internal/strconv.uint64pow10", "math/bits.deBruijn32tab", "math/bits.deBruijn64tab"], apart := false, laid := [("math/bits.deBruijn32tab", laid_math_bits_deBruijn32tab), ("math/bits.deBruijn64tab", laid_math_bits_deBruijn64tab), ("internal/strconv.uint64pow10", laid_internal_strconv_uint64pow10)] }
def DeedFitsSaid : Prop := deedFitsRow.holds Tryz.pinned (OpenSpec.ofChange deedFitsSpec)

/-- ITS FALSE NEIGHBOUR: 'it returns false'. Refute it at one input. -/
def deedFitsWrong : ChangeSpec := { name := "deedFits", fn := fun _ => fun
  | [d1, d2] => { results := [.lit (.bool false)], args := [d1, d2] }
  | _ => none }
def DeedFitsWrongFalsely : Prop := deedFitsRow.holds Tryz.pinned (OpenSpec.ofChange deedFitsWrong)

/-- 'tableaulaw06.DeedBack': WHATEVER THE INPUT: true; the input reads as it did. -/
def deedBackSpec : ChangeSpec := { name := "deedBack", fn := fun _ => fun
  | [d1, d2] => { results := [.lit (.bool true)], args := [d1, d2] }
  | _ => none }
def deedBackRow : OpenClaim := { program := "ytofgmijmhpmabaagreatdoor", sum := "772de8453db7f67f2d476a71a22ba0bd40576cec681fa2fb350baad84a4f9786", func := "tableau/tableaulaw06.DeedBack", spec := "deedBack", inPlace := ["slices.overlaps[int]", "internal/abi.NoEscape"], unfollowed := true, recurses := true, named := ["internal/strconv.uint64pow10", "math/bits.deBruijn32tab", "math/bits.deBruijn64tab"], apart := false, laid := [("math/bits.deBruijn32tab", laid_math_bits_deBruijn32tab), ("math/bits.deBruijn64tab", laid_math_bits_deBruijn64tab), ("internal/strconv.uint64pow10", laid_internal_strconv_uint64pow10)] }
def DeedBackSaid : Prop := deedBackRow.holds Tryz.pinned (OpenSpec.ofChange deedBackSpec)

/-- ITS FALSE NEIGHBOUR: 'it returns false'. Refute it at one input. -/
def deedBackWrong : ChangeSpec := { name := "deedBack", fn := fun _ => fun
  | [d1, d2] => { results := [.lit (.bool false)], args := [d1, d2] }
  | _ => none }
def DeedBackWrongFalsely : Prop := deedBackRow.holds Tryz.pinned (OpenSpec.ofChange deedBackWrong)

/- THE SECOND FORM. 'bulk': how many values and letters a reading holds, each counted each time it is reached (what is shared counts as often as it is met; a slice's spare places count too). A statement '..UptoSaid' is the law's where the arguments, and the package variables that the reading takes, are together of bulk at most 1048576: NARROWER than '..Said'. Prove '..Said' where nothing that the law and all that it calls make is longer than what came in: it says more and counts as full. Else prove '..UptoSaid'. A law counts once. -/
mutual
def uptoBulk {H : Type} : DataW H → Nat
  | .lit (.string bytes) => bytes.length + 1
  | .lit _ => 1
  | .nil => 1
  | .ptr d => uptoBulk d + 1
  | .slice elems spare => uptoBulkAll elems + uptoBulkAll spare + 1
  | .agg parts => uptoBulkAll parts + 1
  | .iface _ d => uptoBulk d + 1
  | .map entries => uptoBulkEntries entries + 1
  | .held _ => 1
def uptoBulkAll {H : Type} : List (DataW H) → Nat
  | [] => 0
  | d :: r => uptoBulk d + uptoBulkAll r
def uptoBulkEntries {H : Type} : List (Lit × DataW H) → Nat
  | [] => 0
  | x :: r => uptoBulkEntry x + uptoBulkEntries r
def uptoBulkEntry {H : Type} : Lit × DataW H → Nat
  | (.string bytes, d) => bytes.length + uptoBulk d + 1
  | (_, d) => uptoBulk d + 1
 end
def uptoSmall : (H : Type) → List (DataW H) → Bool := fun _ ds => decide (uptoBulkAll ds ≤ 1048576)
def OpenSpec.upto (s : _root_.Go.ChangeSpec) : _root_.Go.OpenSpec := { _root_.Go.OpenSpec.ofChange s with cond := some uptoSmall }

/-- 'tableaulaw06.DeedApplies', WHERE WHAT IT READS IS OF BULK AT MOST 1048576: true; the input reads as it did. -/
def deedAppliesUptoRow : OpenClaim := { program := "ytofgmijmhpmabaagreatdoor", sum := "772de8453db7f67f2d476a71a22ba0bd40576cec681fa2fb350baad84a4f9786", func := "tableau/tableaulaw06.DeedApplies", spec := "deedApplies", inPlace := ["slices.overlaps[int]", "internal/abi.NoEscape"], unfollowed := true, recurses := true, named := ["internal/strconv.uint64pow10", "math/bits.deBruijn32tab", "math/bits.deBruijn64tab"], apart := false, laid := [("math/bits.deBruijn32tab", laid_math_bits_deBruijn32tab), ("math/bits.deBruijn64tab", laid_math_bits_deBruijn64tab), ("internal/strconv.uint64pow10", laid_internal_strconv_uint64pow10)], narrowed := true }
def DeedAppliesUptoSaid : Prop := deedAppliesUptoRow.holds Tryz.pinned (OpenSpec.upto deedAppliesSpec)

/-- 'tableaulaw06.DeedUndoes', WHERE WHAT IT READS IS OF BULK AT MOST 1048576: true; the input reads as it did. -/
def deedUndoesUptoRow : OpenClaim := { program := "ytofgmijmhpmabaagreatdoor", sum := "772de8453db7f67f2d476a71a22ba0bd40576cec681fa2fb350baad84a4f9786", func := "tableau/tableaulaw06.DeedUndoes", spec := "deedUndoes", inPlace := ["slices.overlaps[int]", "internal/abi.NoEscape"], unfollowed := true, recurses := true, named := ["internal/strconv.uint64pow10", "math/bits.deBruijn32tab", "math/bits.deBruijn64tab"], apart := false, laid := [("math/bits.deBruijn32tab", laid_math_bits_deBruijn32tab), ("math/bits.deBruijn64tab", laid_math_bits_deBruijn64tab), ("internal/strconv.uint64pow10", laid_internal_strconv_uint64pow10)], narrowed := true }
def DeedUndoesUptoSaid : Prop := deedUndoesUptoRow.holds Tryz.pinned (OpenSpec.upto deedUndoesSpec)

/-- 'tableaulaw06.DeedThere', WHERE WHAT IT READS IS OF BULK AT MOST 1048576: true; the input reads as it did. -/
def deedThereUptoRow : OpenClaim := { program := "ytofgmijmhpmabaagreatdoor", sum := "772de8453db7f67f2d476a71a22ba0bd40576cec681fa2fb350baad84a4f9786", func := "tableau/tableaulaw06.DeedThere", spec := "deedThere", inPlace := ["slices.overlaps[int]", "internal/abi.NoEscape"], unfollowed := true, recurses := true, named := ["internal/strconv.uint64pow10", "math/bits.deBruijn32tab", "math/bits.deBruijn64tab"], apart := false, laid := [("math/bits.deBruijn32tab", laid_math_bits_deBruijn32tab), ("math/bits.deBruijn64tab", laid_math_bits_deBruijn64tab), ("internal/strconv.uint64pow10", laid_internal_strconv_uint64pow10)], narrowed := true }
def DeedThereUptoSaid : Prop := deedThereUptoRow.holds Tryz.pinned (OpenSpec.upto deedThereSpec)

/-- 'tableaulaw06.DeedTexts', WHERE WHAT IT READS IS OF BULK AT MOST 1048576: true; the input reads as it did. -/
def deedTextsUptoRow : OpenClaim := { program := "ytofgmijmhpmabaagreatdoor", sum := "772de8453db7f67f2d476a71a22ba0bd40576cec681fa2fb350baad84a4f9786", func := "tableau/tableaulaw06.DeedTexts", spec := "deedTexts", inPlace := ["slices.overlaps[int]", "internal/abi.NoEscape"], unfollowed := true, recurses := true, named := ["internal/strconv.uint64pow10", "math/bits.deBruijn32tab", "math/bits.deBruijn64tab"], apart := false, laid := [("math/bits.deBruijn32tab", laid_math_bits_deBruijn32tab), ("math/bits.deBruijn64tab", laid_math_bits_deBruijn64tab), ("internal/strconv.uint64pow10", laid_internal_strconv_uint64pow10)], narrowed := true }
def DeedTextsUptoSaid : Prop := deedTextsUptoRow.holds Tryz.pinned (OpenSpec.upto deedTextsSpec)

/-- 'tableaulaw06.DeedReplays', WHERE WHAT IT READS IS OF BULK AT MOST 1048576: true; the input reads as it did. -/
def deedReplaysUptoRow : OpenClaim := { program := "ytofgmijmhpmabaagreatdoor", sum := "772de8453db7f67f2d476a71a22ba0bd40576cec681fa2fb350baad84a4f9786", func := "tableau/tableaulaw06.DeedReplays", spec := "deedReplays", inPlace := ["slices.overlaps[int]", "internal/abi.NoEscape"], unfollowed := true, recurses := true, named := ["internal/strconv.uint64pow10", "math/bits.deBruijn32tab", "math/bits.deBruijn64tab"], apart := false, laid := [("math/bits.deBruijn32tab", laid_math_bits_deBruijn32tab), ("math/bits.deBruijn64tab", laid_math_bits_deBruijn64tab), ("internal/strconv.uint64pow10", laid_internal_strconv_uint64pow10)], narrowed := true }
def DeedReplaysUptoSaid : Prop := deedReplaysUptoRow.holds Tryz.pinned (OpenSpec.upto deedReplaysSpec)

/-- 'tableaulaw06.DeedAdds', WHERE WHAT IT READS IS OF BULK AT MOST 1048576: true; the input reads as it did. -/
def deedAddsUptoRow : OpenClaim := { program := "ytofgmijmhpmabaagreatdoor", sum := "772de8453db7f67f2d476a71a22ba0bd40576cec681fa2fb350baad84a4f9786", func := "tableau/tableaulaw06.DeedAdds", spec := "deedAdds", inPlace := ["slices.overlaps[int]", "internal/abi.NoEscape"], unfollowed := true, recurses := true, named := ["internal/strconv.uint64pow10", "math/bits.deBruijn32tab", "math/bits.deBruijn64tab"], apart := false, laid := [("math/bits.deBruijn32tab", laid_math_bits_deBruijn32tab), ("math/bits.deBruijn64tab", laid_math_bits_deBruijn64tab), ("internal/strconv.uint64pow10", laid_internal_strconv_uint64pow10)], narrowed := true }
def DeedAddsUptoSaid : Prop := deedAddsUptoRow.holds Tryz.pinned (OpenSpec.upto deedAddsSpec)

/-- 'tableaulaw06.DeedMakes', WHERE WHAT IT READS IS OF BULK AT MOST 1048576: true; the input reads as it did. -/
def deedMakesUptoRow : OpenClaim := { program := "ytofgmijmhpmabaagreatdoor", sum := "772de8453db7f67f2d476a71a22ba0bd40576cec681fa2fb350baad84a4f9786", func := "tableau/tableaulaw06.DeedMakes", spec := "deedMakes", inPlace := ["slices.overlaps[int]", "internal/abi.NoEscape"], unfollowed := true, recurses := true, named := ["internal/strconv.uint64pow10", "math/bits.deBruijn32tab", "math/bits.deBruijn64tab"], apart := false, laid := [("math/bits.deBruijn32tab", laid_math_bits_deBruijn32tab), ("math/bits.deBruijn64tab", laid_math_bits_deBruijn64tab), ("internal/strconv.uint64pow10", laid_internal_strconv_uint64pow10)], narrowed := true }
def DeedMakesUptoSaid : Prop := deedMakesUptoRow.holds Tryz.pinned (OpenSpec.upto deedMakesSpec)

/-- 'tableaulaw06.DeedFits', WHERE WHAT IT READS IS OF BULK AT MOST 1048576: true; the input reads as it did. -/
def deedFitsUptoRow : OpenClaim := { program := "ytofgmijmhpmabaagreatdoor", sum := "772de8453db7f67f2d476a71a22ba0bd40576cec681fa2fb350baad84a4f9786", func := "tableau/tableaulaw06.DeedFits", spec := "deedFits", inPlace := ["slices.overlaps[int]", "internal/abi.NoEscape"], unfollowed := true, recurses := true, named := ["internal/strconv.uint64pow10", "math/bits.deBruijn32tab", "math/bits.deBruijn64tab"], apart := false, laid := [("math/bits.deBruijn32tab", laid_math_bits_deBruijn32tab), ("math/bits.deBruijn64tab", laid_math_bits_deBruijn64tab), ("internal/strconv.uint64pow10", laid_internal_strconv_uint64pow10)], narrowed := true }
def DeedFitsUptoSaid : Prop := deedFitsUptoRow.holds Tryz.pinned (OpenSpec.upto deedFitsSpec)

/-- 'tableaulaw06.DeedBack', WHERE WHAT IT READS IS OF BULK AT MOST 1048576: true; the input reads as it did. -/
def deedBackUptoRow : OpenClaim := { program := "ytofgmijmhpmabaagreatdoor", sum := "772de8453db7f67f2d476a71a22ba0bd40576cec681fa2fb350baad84a4f9786", func := "tableau/tableaulaw06.DeedBack", spec := "deedBack", inPlace := ["slices.overlaps[int]", "internal/abi.NoEscape"], unfollowed := true, recurses := true, named := ["internal/strconv.uint64pow10", "math/bits.deBruijn32tab", "math/bits.deBruijn64tab"], apart := false, laid := [("math/bits.deBruijn32tab", laid_math_bits_deBruijn32tab), ("math/bits.deBruijn64tab", laid_math_bits_deBruijn64tab), ("internal/strconv.uint64pow10", laid_internal_strconv_uint64pow10)], narrowed := true }
def DeedBackUptoSaid : Prop := deedBackUptoRow.holds Tryz.pinned (OpenSpec.upto deedBackSpec)

end Rows
end Go.Proofs.YtofgmijmhpmabaaGreatDoor
