/-
  NARROWER THAN 'FOR EVERY INPUT', by the rows' own cells (each row's printed sentence says how): ExpfamEncloses: laid · ExpfamPowers: laid · ExpfamLess: laid · ExpfamWhole: laid · ExpfamOwn: laid · ExpfamProducts: laid · ExpfamRises: laid.
  DERIVED. THE GIVEN ROWS OF THIS SEAT. 7 by the template 'for every input the law returns true; each argument reads behind the call as it read before'; 0 by the template 'total and deterministic' (their statements: YtgdkokgeldnliaaGreatDoorTotals.lean).
  GIVEN WITH THE SEED: the statements are not yours to turn. If you find one false, say at which input.
  Laid BY PROGRAM, IN A SANDBOX (cutbox-rows.mjs): the forced cells as the released guide's own fill.sh prints them over the translation 2431e0cb6dd47191… (all of the seat's roots in one cut). By AI agents, Wed Nov 11 2026. No macro, syntax, notation, axiom, sorry.
-/
import Derived.Test.YtgdkokgeldnliaaGreatDoorChecked
import GoSem.Claim
import GoSem.ClaimJoined
import GoSem.ClaimMapViews
import Derived.JoinedTies
import Derived.KernelRfl
namespace Go.Proofs.YtgdkokgeldnliaaGreatDoor
/- THE CELL 'sum', in the pinned program and in every row, IS THE sha256 OF THE DUMP (.gsa) THAT YtgdkokgeldnliaaGreatDoorProg.lean LOADS. Nothing in Lean hashes anything: it is a label: what it is worth is what the hold of that sum in a sandbox is worth. -/
noncomputable def Tryz.pinned : Pinned := { name := "ytgdkokgeldnliaagreatdoor", sum := "2431e0cb6dd471912851446e9b9ff27ec63383204828c093f0b05a2814163fc8", checked := Tryz.checked }
namespace Rows
def none {H : Type} : Left H := { results := [], args := [] }

/- WHAT THE LISTED PACKAGE-LEVEL VARIABLES READ AS WHEN THE CALL BEGINS. Each datum BY PROGRAM (the guide's laid-datum.mjs) off the statement by which the dump's own 'gosem.cut.vars' lays the variable. In a bare row this is a premise. The card (YtgdkokgeldnliaaGreatDoorCards.lean) ties it to the program's text. -/
def laid_math_bits_deBruijn64tab {H : Type} : DataW H := .agg [.lit (.int .u8 0), .lit (.int .u8 1), .lit (.int .u8 56), .lit (.int .u8 2), .lit (.int .u8 57), .lit (.int .u8 49), .lit (.int .u8 28), .lit (.int .u8 3), .lit (.int .u8 61), .lit (.int .u8 58), .lit (.int .u8 42), .lit (.int .u8 50), .lit (.int .u8 38), .lit (.int .u8 29), .lit (.int .u8 17), .lit (.int .u8 4), .lit (.int .u8 62), .lit (.int .u8 47), .lit (.int .u8 59), .lit (.int .u8 36), .lit (.int .u8 45), .lit (.int .u8 43), .lit (.int .u8 51), .lit (.int .u8 22), .lit (.int .u8 53), .lit (.int .u8 39), .lit (.int .u8 33), .lit (.int .u8 30), .lit (.int .u8 24), .lit (.int .u8 18), .lit (.int .u8 12), .lit (.int .u8 5), .lit (.int .u8 63), .lit (.int .u8 55), .lit (.int .u8 48), .lit (.int .u8 27), .lit (.int .u8 60), .lit (.int .u8 41), .lit (.int .u8 37), .lit (.int .u8 16), .lit (.int .u8 46), .lit (.int .u8 35), .lit (.int .u8 44), .lit (.int .u8 21), .lit (.int .u8 52), .lit (.int .u8 32), .lit (.int .u8 23), .lit (.int .u8 11), .lit (.int .u8 54), .lit (.int .u8 26), .lit (.int .u8 40), .lit (.int .u8 15), .lit (.int .u8 34), .lit (.int .u8 20), .lit (.int .u8 31), .lit (.int .u8 10), .lit (.int .u8 25), .lit (.int .u8 14), .lit (.int .u8 19), .lit (.int .u8 9), .lit (.int .u8 13), .lit (.int .u8 8), .lit (.int .u8 7), .lit (.int .u8 6)]
def laid_ulp_expfam_forms {H : Type} : DataW H := .agg [.agg [.lit (.int .i64 0), .lit (.bool false)], .agg [.lit (.int .i64 0), .lit (.bool false)], .agg [.lit (.int .i64 2), .lit (.bool false)], .agg [.lit (.int .i64 10), .lit (.bool false)], .agg [.lit (.int .i64 0), .lit (.bool true)], .agg [.lit (.int .i64 2), .lit (.bool true)], .agg [.lit (.int .i64 10), .lit (.bool true)]]

/-- 'ulplaw15.ExpfamEncloses': WHATEVER THE INPUT: true; the input reads as it did. -/
def expfamEnclosesSpec : ChangeSpec := { name := "expfamEncloses", fn := fun _ => fun
  | [d1, d2, d3] => { results := [.lit (.bool true)], args := [d1, d2, d3] }
  | _ => none }
def expfamEnclosesRow : OpenClaim := { program := "ytgdkokgeldnliaagreatdoor", sum := "2431e0cb6dd471912851446e9b9ff27ec63383204828c093f0b05a2814163fc8", func := "ulp/ulplaw15.ExpfamEncloses", spec := "expfamEncloses", inPlace := ["math/bits.Add64", "math/bits.Sub64"], unfollowed := true, recurses := true, named := ["ulp/expfam.forms", "math/bits.deBruijn64tab", "math/bits.divideError", "math/bits.overflowError"], apart := false, laid := [("math/bits.deBruijn64tab", laid_math_bits_deBruijn64tab), ("ulp/expfam.forms", laid_ulp_expfam_forms)] }
def ExpfamEnclosesSaid : Prop := expfamEnclosesRow.holds Tryz.pinned (OpenSpec.ofChange expfamEnclosesSpec)

/-- ITS FALSE NEIGHBOUR: 'it returns false'. Refute it at one input. -/
def expfamEnclosesWrong : ChangeSpec := { name := "expfamEncloses", fn := fun _ => fun
  | [d1, d2, d3] => { results := [.lit (.bool false)], args := [d1, d2, d3] }
  | _ => none }
def ExpfamEnclosesWrongFalsely : Prop := expfamEnclosesRow.holds Tryz.pinned (OpenSpec.ofChange expfamEnclosesWrong)

/-- 'ulplaw15.ExpfamPowers': WHATEVER THE INPUT: true; the input reads as it did. -/
def expfamPowersSpec : ChangeSpec := { name := "expfamPowers", fn := fun _ => fun
  | [d1, d2, d3] => { results := [.lit (.bool true)], args := [d1, d2, d3] }
  | _ => none }
def expfamPowersRow : OpenClaim := { program := "ytgdkokgeldnliaagreatdoor", sum := "2431e0cb6dd471912851446e9b9ff27ec63383204828c093f0b05a2814163fc8", func := "ulp/ulplaw15.ExpfamPowers", spec := "expfamPowers", inPlace := ["math/bits.Add64", "math/bits.Sub64"], unfollowed := true, recurses := true, named := ["math/bits.deBruijn64tab", "math/bits.divideError", "math/bits.overflowError", "ulp/expfam.forms"], apart := false, laid := [("math/bits.deBruijn64tab", laid_math_bits_deBruijn64tab), ("ulp/expfam.forms", laid_ulp_expfam_forms)] }
def ExpfamPowersSaid : Prop := expfamPowersRow.holds Tryz.pinned (OpenSpec.ofChange expfamPowersSpec)

/-- ITS FALSE NEIGHBOUR: 'it returns false'. Refute it at one input. -/
def expfamPowersWrong : ChangeSpec := { name := "expfamPowers", fn := fun _ => fun
  | [d1, d2, d3] => { results := [.lit (.bool false)], args := [d1, d2, d3] }
  | _ => none }
def ExpfamPowersWrongFalsely : Prop := expfamPowersRow.holds Tryz.pinned (OpenSpec.ofChange expfamPowersWrong)

/-- 'ulplaw15.ExpfamLess': WHATEVER THE INPUT: true; the input reads as it did. -/
def expfamLessSpec : ChangeSpec := { name := "expfamLess", fn := fun _ => fun
  | [d1, d2, d3, d4] => { results := [.lit (.bool true)], args := [d1, d2, d3, d4] }
  | _ => none }
def expfamLessRow : OpenClaim := { program := "ytgdkokgeldnliaagreatdoor", sum := "2431e0cb6dd471912851446e9b9ff27ec63383204828c093f0b05a2814163fc8", func := "ulp/ulplaw15.ExpfamLess", spec := "expfamLess", inPlace := ["math/bits.Add64", "math/bits.Sub64"], unfollowed := true, recurses := true, named := ["ulp/expfam.forms", "math/bits.deBruijn64tab", "math/bits.divideError", "math/bits.overflowError"], apart := false, laid := [("math/bits.deBruijn64tab", laid_math_bits_deBruijn64tab), ("ulp/expfam.forms", laid_ulp_expfam_forms)] }
def ExpfamLessSaid : Prop := expfamLessRow.holds Tryz.pinned (OpenSpec.ofChange expfamLessSpec)

/-- ITS FALSE NEIGHBOUR: 'it returns false'. Refute it at one input. -/
def expfamLessWrong : ChangeSpec := { name := "expfamLess", fn := fun _ => fun
  | [d1, d2, d3, d4] => { results := [.lit (.bool false)], args := [d1, d2, d3, d4] }
  | _ => none }
def ExpfamLessWrongFalsely : Prop := expfamLessRow.holds Tryz.pinned (OpenSpec.ofChange expfamLessWrong)

/-- 'ulplaw15.ExpfamWhole': WHATEVER THE INPUT: true; the input reads as it did. -/
def expfamWholeSpec : ChangeSpec := { name := "expfamWhole", fn := fun _ => fun
  | [d1, d2] => { results := [.lit (.bool true)], args := [d1, d2] }
  | _ => none }
def expfamWholeRow : OpenClaim := { program := "ytgdkokgeldnliaagreatdoor", sum := "2431e0cb6dd471912851446e9b9ff27ec63383204828c093f0b05a2814163fc8", func := "ulp/ulplaw15.ExpfamWhole", spec := "expfamWhole", inPlace := ["math/bits.Add64", "math/bits.Sub64"], unfollowed := true, recurses := true, named := ["ulp/expfam.forms", "math/bits.deBruijn64tab", "math/bits.divideError", "math/bits.overflowError"], apart := false, laid := [("math/bits.deBruijn64tab", laid_math_bits_deBruijn64tab), ("ulp/expfam.forms", laid_ulp_expfam_forms)] }
def ExpfamWholeSaid : Prop := expfamWholeRow.holds Tryz.pinned (OpenSpec.ofChange expfamWholeSpec)

/-- ITS FALSE NEIGHBOUR: 'it returns false'. Refute it at one input. -/
def expfamWholeWrong : ChangeSpec := { name := "expfamWhole", fn := fun _ => fun
  | [d1, d2] => { results := [.lit (.bool false)], args := [d1, d2] }
  | _ => none }
def ExpfamWholeWrongFalsely : Prop := expfamWholeRow.holds Tryz.pinned (OpenSpec.ofChange expfamWholeWrong)

/-- 'ulplaw15.ExpfamOwn': WHATEVER THE INPUT: true; the input reads as it did. -/
def expfamOwnSpec : ChangeSpec := { name := "expfamOwn", fn := fun _ => fun
  | [d1, d2, d3] => { results := [.lit (.bool true)], args := [d1, d2, d3] }
  | _ => none }
def expfamOwnRow : OpenClaim := { program := "ytgdkokgeldnliaagreatdoor", sum := "2431e0cb6dd471912851446e9b9ff27ec63383204828c093f0b05a2814163fc8", func := "ulp/ulplaw15.ExpfamOwn", spec := "expfamOwn", inPlace := ["math/bits.Add64", "math/bits.Sub64"], unfollowed := true, recurses := true, named := ["ulp/expfam.forms", "math/bits.deBruijn64tab", "math/bits.divideError", "math/bits.overflowError"], apart := false, laid := [("math/bits.deBruijn64tab", laid_math_bits_deBruijn64tab), ("ulp/expfam.forms", laid_ulp_expfam_forms)] }
def ExpfamOwnSaid : Prop := expfamOwnRow.holds Tryz.pinned (OpenSpec.ofChange expfamOwnSpec)

/-- ITS FALSE NEIGHBOUR: 'it returns false'. Refute it at one input. -/
def expfamOwnWrong : ChangeSpec := { name := "expfamOwn", fn := fun _ => fun
  | [d1, d2, d3] => { results := [.lit (.bool false)], args := [d1, d2, d3] }
  | _ => none }
def ExpfamOwnWrongFalsely : Prop := expfamOwnRow.holds Tryz.pinned (OpenSpec.ofChange expfamOwnWrong)

/-- 'ulplaw15.ExpfamProducts': WHATEVER THE INPUT: true; the input reads as it did. -/
def expfamProductsSpec : ChangeSpec := { name := "expfamProducts", fn := fun _ => fun
  | [d1, d2, d3, d4, d5] => { results := [.lit (.bool true)], args := [d1, d2, d3, d4, d5] }
  | _ => none }
def expfamProductsRow : OpenClaim := { program := "ytgdkokgeldnliaagreatdoor", sum := "2431e0cb6dd471912851446e9b9ff27ec63383204828c093f0b05a2814163fc8", func := "ulp/ulplaw15.ExpfamProducts", spec := "expfamProducts", inPlace := ["math/bits.Add64", "math/bits.Sub64"], unfollowed := true, recurses := true, named := ["ulp/expfam.forms", "math/bits.deBruijn64tab", "math/bits.divideError", "math/bits.overflowError"], apart := false, laid := [("math/bits.deBruijn64tab", laid_math_bits_deBruijn64tab), ("ulp/expfam.forms", laid_ulp_expfam_forms)] }
def ExpfamProductsSaid : Prop := expfamProductsRow.holds Tryz.pinned (OpenSpec.ofChange expfamProductsSpec)

/-- ITS FALSE NEIGHBOUR: 'it returns false'. Refute it at one input. -/
def expfamProductsWrong : ChangeSpec := { name := "expfamProducts", fn := fun _ => fun
  | [d1, d2, d3, d4, d5] => { results := [.lit (.bool false)], args := [d1, d2, d3, d4, d5] }
  | _ => none }
def ExpfamProductsWrongFalsely : Prop := expfamProductsRow.holds Tryz.pinned (OpenSpec.ofChange expfamProductsWrong)

/-- 'ulplaw15.ExpfamRises': WHATEVER THE INPUT: true; the input reads as it did. -/
def expfamRisesSpec : ChangeSpec := { name := "expfamRises", fn := fun _ => fun
  | [d1, d2, d3, d4, d5] => { results := [.lit (.bool true)], args := [d1, d2, d3, d4, d5] }
  | _ => none }
def expfamRisesRow : OpenClaim := { program := "ytgdkokgeldnliaagreatdoor", sum := "2431e0cb6dd471912851446e9b9ff27ec63383204828c093f0b05a2814163fc8", func := "ulp/ulplaw15.ExpfamRises", spec := "expfamRises", inPlace := ["math/bits.Add64", "math/bits.Sub64"], unfollowed := true, recurses := true, named := ["ulp/expfam.forms", "math/bits.deBruijn64tab", "math/bits.divideError", "math/bits.overflowError"], apart := false, laid := [("math/bits.deBruijn64tab", laid_math_bits_deBruijn64tab), ("ulp/expfam.forms", laid_ulp_expfam_forms)] }
def ExpfamRisesSaid : Prop := expfamRisesRow.holds Tryz.pinned (OpenSpec.ofChange expfamRisesSpec)

/-- ITS FALSE NEIGHBOUR: 'it returns false'. Refute it at one input. -/
def expfamRisesWrong : ChangeSpec := { name := "expfamRises", fn := fun _ => fun
  | [d1, d2, d3, d4, d5] => { results := [.lit (.bool false)], args := [d1, d2, d3, d4, d5] }
  | _ => none }
def ExpfamRisesWrongFalsely : Prop := expfamRisesRow.holds Tryz.pinned (OpenSpec.ofChange expfamRisesWrong)

/- THE SECOND FORM. 'bulk': how many values and letters a reading holds, each counted each time it is reached (what is shared counts as often as it is met; a slice's spare places count too). A statement '..UptoSaid' is the law's where the arguments, and the package variables that the reading takes, are together of bulk at most 1048576: NARROWER than '..Said'. Prove '..Said' where nothing that the law and all that it calls make is longer than what came in: it says more and counts as full. Else prove '..UptoSaid'. A law counts once. -/
mutual
def uptoBulk {H : Type} : DataW H → Nat
  | .lit (.string bytes) => bytes.length + 1
  | .lit _ => 1
  | .nil => 1
  | .ptr d => uptoBulk d + 1
  | .slice elems spare => uptoBulkAll elems + uptoBulkAll spare + 1
  | .agg parts => uptoBulkAll parts + 1
  | .iface _ d => uptoBulk d + 1
  | .map entries => uptoBulkEntries entries + 1
  | .held _ => 1
def uptoBulkAll {H : Type} : List (DataW H) → Nat
  | [] => 0
  | d :: r => uptoBulk d + uptoBulkAll r
def uptoBulkEntries {H : Type} : List (Lit × DataW H) → Nat
  | [] => 0
  | x :: r => uptoBulkEntry x + uptoBulkEntries r
def uptoBulkEntry {H : Type} : Lit × DataW H → Nat
  | (.string bytes, d) => bytes.length + uptoBulk d + 1
  | (_, d) => uptoBulk d + 1
 end
def uptoSmall : (H : Type) → List (DataW H) → Bool := fun _ ds => decide (uptoBulkAll ds ≤ 1048576)
def OpenSpec.upto (s : _root_.Go.ChangeSpec) : _root_.Go.OpenSpec := { _root_.Go.OpenSpec.ofChange s with cond := some uptoSmall }

/-- 'ulplaw15.ExpfamEncloses', WHERE WHAT IT READS IS OF BULK AT MOST 1048576: true; the input reads as it did. -/
def expfamEnclosesUptoRow : OpenClaim := { program := "ytgdkokgeldnliaagreatdoor", sum := "2431e0cb6dd471912851446e9b9ff27ec63383204828c093f0b05a2814163fc8", func := "ulp/ulplaw15.ExpfamEncloses", spec := "expfamEncloses", inPlace := ["math/bits.Add64", "math/bits.Sub64"], unfollowed := true, recurses := true, named := ["ulp/expfam.forms", "math/bits.deBruijn64tab", "math/bits.divideError", "math/bits.overflowError"], apart := false, laid := [("math/bits.deBruijn64tab", laid_math_bits_deBruijn64tab), ("ulp/expfam.forms", laid_ulp_expfam_forms)], narrowed := true }
def ExpfamEnclosesUptoSaid : Prop := expfamEnclosesUptoRow.holds Tryz.pinned (OpenSpec.upto expfamEnclosesSpec)

/-- 'ulplaw15.ExpfamPowers', WHERE WHAT IT READS IS OF BULK AT MOST 1048576: true; the input reads as it did. -/
def expfamPowersUptoRow : OpenClaim := { program := "ytgdkokgeldnliaagreatdoor", sum := "2431e0cb6dd471912851446e9b9ff27ec63383204828c093f0b05a2814163fc8", func := "ulp/ulplaw15.ExpfamPowers", spec := "expfamPowers", inPlace := ["math/bits.Add64", "math/bits.Sub64"], unfollowed := true, recurses := true, named := ["math/bits.deBruijn64tab", "math/bits.divideError", "math/bits.overflowError", "ulp/expfam.forms"], apart := false, laid := [("math/bits.deBruijn64tab", laid_math_bits_deBruijn64tab), ("ulp/expfam.forms", laid_ulp_expfam_forms)], narrowed := true }
def ExpfamPowersUptoSaid : Prop := expfamPowersUptoRow.holds Tryz.pinned (OpenSpec.upto expfamPowersSpec)

/-- 'ulplaw15.ExpfamLess', WHERE WHAT IT READS IS OF BULK AT MOST 1048576: true; the input reads as it did. -/
def expfamLessUptoRow : OpenClaim := { program := "ytgdkokgeldnliaagreatdoor", sum := "2431e0cb6dd471912851446e9b9ff27ec63383204828c093f0b05a2814163fc8", func := "ulp/ulplaw15.ExpfamLess", spec := "expfamLess", inPlace := ["math/bits.Add64", "math/bits.Sub64"], unfollowed := true, recurses := true, named := ["ulp/expfam.forms", "math/bits.deBruijn64tab", "math/bits.divideError", "math/bits.overflowError"], apart := false, laid := [("math/bits.deBruijn64tab", laid_math_bits_deBruijn64tab), ("ulp/expfam.forms", laid_ulp_expfam_forms)], narrowed := true }
def ExpfamLessUptoSaid : Prop := expfamLessUptoRow.holds Tryz.pinned (OpenSpec.upto expfamLessSpec)

/-- 'ulplaw15.ExpfamWhole', WHERE WHAT IT READS IS OF BULK AT MOST 1048576: true; the input reads as it did. -/
def expfamWholeUptoRow : OpenClaim := { program := "ytgdkokgeldnliaagreatdoor", sum := "2431e0cb6dd471912851446e9b9ff27ec63383204828c093f0b05a2814163fc8", func := "ulp/ulplaw15.ExpfamWhole", spec := "expfamWhole", inPlace := ["math/bits.Add64", "math/bits.Sub64"], unfollowed := true, recurses := true, named := ["ulp/expfam.forms", "math/bits.deBruijn64tab", "math/bits.divideError", "math/bits.overflowError"], apart := false, laid := [("math/bits.deBruijn64tab", laid_math_bits_deBruijn64tab), ("ulp/expfam.forms", laid_ulp_expfam_forms)], narrowed := true }
def ExpfamWholeUptoSaid : Prop := expfamWholeUptoRow.holds Tryz.pinned (OpenSpec.upto expfamWholeSpec)

/-- 'ulplaw15.ExpfamOwn', WHERE WHAT IT READS IS OF BULK AT MOST 1048576: true; the input reads as it did. -/
def expfamOwnUptoRow : OpenClaim := { program := "ytgdkokgeldnliaagreatdoor", sum := "2431e0cb6dd471912851446e9b9ff27ec63383204828c093f0b05a2814163fc8", func := "ulp/ulplaw15.ExpfamOwn", spec := "expfamOwn", inPlace := ["math/bits.Add64", "math/bits.Sub64"], unfollowed := true, recurses := true, named := ["ulp/expfam.forms", "math/bits.deBruijn64tab", "math/bits.divideError", "math/bits.overflowError"], apart := false, laid := [("math/bits.deBruijn64tab", laid_math_bits_deBruijn64tab), ("ulp/expfam.forms", laid_ulp_expfam_forms)], narrowed := true }
def ExpfamOwnUptoSaid : Prop := expfamOwnUptoRow.holds Tryz.pinned (OpenSpec.upto expfamOwnSpec)

/-- 'ulplaw15.ExpfamProducts', WHERE WHAT IT READS IS OF BULK AT MOST 1048576: true; the input reads as it did. -/
def expfamProductsUptoRow : OpenClaim := { program := "ytgdkokgeldnliaagreatdoor", sum := "2431e0cb6dd471912851446e9b9ff27ec63383204828c093f0b05a2814163fc8", func := "ulp/ulplaw15.ExpfamProducts", spec := "expfamProducts", inPlace := ["math/bits.Add64", "math/bits.Sub64"], unfollowed := true, recurses := true, named := ["ulp/expfam.forms", "math/bits.deBruijn64tab", "math/bits.divideError", "math/bits.overflowError"], apart := false, laid := [("math/bits.deBruijn64tab", laid_math_bits_deBruijn64tab), ("ulp/expfam.forms", laid_ulp_expfam_forms)], narrowed := true }
def ExpfamProductsUptoSaid : Prop := expfamProductsUptoRow.holds Tryz.pinned (OpenSpec.upto expfamProductsSpec)

/-- 'ulplaw15.ExpfamRises', WHERE WHAT IT READS IS OF BULK AT MOST 1048576: true; the input reads as it did. -/
def expfamRisesUptoRow : OpenClaim := { program := "ytgdkokgeldnliaagreatdoor", sum := "2431e0cb6dd471912851446e9b9ff27ec63383204828c093f0b05a2814163fc8", func := "ulp/ulplaw15.ExpfamRises", spec := "expfamRises", inPlace := ["math/bits.Add64", "math/bits.Sub64"], unfollowed := true, recurses := true, named := ["ulp/expfam.forms", "math/bits.deBruijn64tab", "math/bits.divideError", "math/bits.overflowError"], apart := false, laid := [("math/bits.deBruijn64tab", laid_math_bits_deBruijn64tab), ("ulp/expfam.forms", laid_ulp_expfam_forms)], narrowed := true }
def ExpfamRisesUptoSaid : Prop := expfamRisesUptoRow.holds Tryz.pinned (OpenSpec.upto expfamRisesSpec)

end Rows
end Go.Proofs.YtgdkokgeldnliaaGreatDoor
