/-
  No cell of these rows narrows 'for every input' (looked for: loops, veiled, ifaces, maps, wideKeys, modest, calm, conditions, laid).
  DERIVED. THE GIVEN ROWS OF THIS SEAT. 7 by the template 'for every input the law returns true; each argument reads behind the call as it read before'; 0 by the template 'total and deterministic' (their statements: YtihdnjgjjhhpgaaTotals.lean).
  GIVEN WITH THE SEED: the statements are not yours to turn. If you find one false, say at which input.
  Laid BY PROGRAM, IN A SANDBOX (cutbox-rows.mjs): the forced cells as the released guide's own fill.sh prints them over the translation 3becd0d1704e8f0c… (all of the seat's roots in one cut). By AI agents, Wed Nov 11 2026. No macro, syntax, notation, axiom, sorry.
-/
import Derived.Test.YtihdnjgjjhhpgaaChecked
import GoSem.Claim
import GoSem.ClaimJoined
import GoSem.ClaimMapViews
import Derived.JoinedTies
import Derived.KernelRfl
namespace Go.Proofs.Ytihdnjgjjhhpgaa
/- THE CELL 'sum', in the pinned program and in every row, IS THE sha256 OF THE DUMP (.gsa) THAT YtihdnjgjjhhpgaaProg.lean LOADS. Nothing in Lean hashes anything: it is a label: what it is worth is what the hold of that sum in a sandbox is worth. -/
noncomputable def Try.pinned : Pinned := { name := "ytihdnjgjjhhpgaa", sum := "3becd0d1704e8f0c607d530fc6837d497ff8537358de1dc6402f766b7411f1c3", checked := Try.checked }
namespace Rows
def none {H : Type} : Left H := { results := [], args := [] }

/-- 'ulplaw02.FlagsSets': WHATEVER THE INPUT: true; the input reads as it did. -/
def flagsSetsSpec : ChangeSpec := { name := "flagsSets", fn := fun _ => fun
  | [d1, d2] => { results := [.lit (.bool true)], args := [d1, d2] }
  | _ => none }
def flagsSetsRow : OpenClaim := { program := "ytihdnjgjjhhpgaa", sum := "3becd0d1704e8f0c607d530fc6837d497ff8537358de1dc6402f766b7411f1c3", func := "ulp/ulplaw02.FlagsSets", spec := "flagsSets", inPlace := ["internal/abi.NoEscape", "internal/bytealg.MakeNoZero"], unfollowed := true, recurses := true, apart := false }
def FlagsSetsSaid : Prop := flagsSetsRow.holds Try.pinned (OpenSpec.ofChange flagsSetsSpec)

/-- ITS FALSE NEIGHBOUR: 'it returns false'. Refute it at one input. -/
def flagsSetsWrong : ChangeSpec := { name := "flagsSets", fn := fun _ => fun
  | [d1, d2] => { results := [.lit (.bool false)], args := [d1, d2] }
  | _ => none }
def FlagsSetsWrongFalsely : Prop := flagsSetsRow.holds Try.pinned (OpenSpec.ofChange flagsSetsWrong)

/-- 'ulplaw02.FlagsRules': WHATEVER THE INPUT: true; the input reads as it did. -/
def flagsRulesSpec : ChangeSpec := { name := "flagsRules", fn := fun _ => fun
  | [d1, d2, d3] => { results := [.lit (.bool true)], args := [d1, d2, d3] }
  | _ => none }
def flagsRulesRow : OpenClaim := { program := "ytihdnjgjjhhpgaa", sum := "3becd0d1704e8f0c607d530fc6837d497ff8537358de1dc6402f766b7411f1c3", func := "ulp/ulplaw02.FlagsRules", spec := "flagsRules", inPlace := ["internal/abi.NoEscape", "internal/bytealg.MakeNoZero"], unfollowed := true, recurses := true, apart := false }
def FlagsRulesSaid : Prop := flagsRulesRow.holds Try.pinned (OpenSpec.ofChange flagsRulesSpec)

/-- ITS FALSE NEIGHBOUR: 'it returns false'. Refute it at one input. -/
def flagsRulesWrong : ChangeSpec := { name := "flagsRules", fn := fun _ => fun
  | [d1, d2, d3] => { results := [.lit (.bool false)], args := [d1, d2, d3] }
  | _ => none }
def FlagsRulesWrongFalsely : Prop := flagsRulesRow.holds Try.pinned (OpenSpec.ofChange flagsRulesWrong)

/-- 'ulplaw02.FlagsTexts': WHATEVER THE INPUT: true; the input reads as it did. -/
def flagsTextsSpec : ChangeSpec := { name := "flagsTexts", fn := fun _ => fun
  | [d1, d2] => { results := [.lit (.bool true)], args := [d1, d2] }
  | _ => none }
def flagsTextsRow : OpenClaim := { program := "ytihdnjgjjhhpgaa", sum := "3becd0d1704e8f0c607d530fc6837d497ff8537358de1dc6402f766b7411f1c3", func := "ulp/ulplaw02.FlagsTexts", spec := "flagsTexts", inPlace := ["internal/abi.NoEscape", "internal/bytealg.MakeNoZero"], unfollowed := true, recurses := true, apart := false }
def FlagsTextsSaid : Prop := flagsTextsRow.holds Try.pinned (OpenSpec.ofChange flagsTextsSpec)

/-- ITS FALSE NEIGHBOUR: 'it returns false'. Refute it at one input. -/
def flagsTextsWrong : ChangeSpec := { name := "flagsTexts", fn := fun _ => fun
  | [d1, d2] => { results := [.lit (.bool false)], args := [d1, d2] }
  | _ => none }
def FlagsTextsWrongFalsely : Prop := flagsTextsRow.holds Try.pinned (OpenSpec.ofChange flagsTextsWrong)

/-- 'ulplaw02.FlagsBack': WHATEVER THE INPUT: true; the input reads as it did. -/
def flagsBackSpec : ChangeSpec := { name := "flagsBack", fn := fun _ => fun
  | [d1, d2] => { results := [.lit (.bool true)], args := [d1, d2] }
  | _ => none }
def flagsBackRow : OpenClaim := { program := "ytihdnjgjjhhpgaa", sum := "3becd0d1704e8f0c607d530fc6837d497ff8537358de1dc6402f766b7411f1c3", func := "ulp/ulplaw02.FlagsBack", spec := "flagsBack", inPlace := ["internal/abi.NoEscape", "internal/bytealg.MakeNoZero"], unfollowed := true, recurses := true, apart := false }
def FlagsBackSaid : Prop := flagsBackRow.holds Try.pinned (OpenSpec.ofChange flagsBackSpec)

/-- ITS FALSE NEIGHBOUR: 'it returns false'. Refute it at one input. -/
def flagsBackWrong : ChangeSpec := { name := "flagsBack", fn := fun _ => fun
  | [d1, d2] => { results := [.lit (.bool false)], args := [d1, d2] }
  | _ => none }
def FlagsBackWrongFalsely : Prop := flagsBackRow.holds Try.pinned (OpenSpec.ofChange flagsBackWrong)

/-- 'ulplaw02.FlagsSticky': WHATEVER THE INPUT: true; the input reads as it did. -/
def flagsStickySpec : ChangeSpec := { name := "flagsSticky", fn := fun _ => fun
  | [d1, d2] => { results := [.lit (.bool true)], args := [d1, d2] }
  | _ => none }
def flagsStickyRow : OpenClaim := { program := "ytihdnjgjjhhpgaa", sum := "3becd0d1704e8f0c607d530fc6837d497ff8537358de1dc6402f766b7411f1c3", func := "ulp/ulplaw02.FlagsSticky", spec := "flagsSticky", inPlace := ["internal/abi.NoEscape", "internal/bytealg.MakeNoZero"], unfollowed := true, recurses := true, apart := false }
def FlagsStickySaid : Prop := flagsStickyRow.holds Try.pinned (OpenSpec.ofChange flagsStickySpec)

/-- ITS FALSE NEIGHBOUR: 'it returns false'. Refute it at one input. -/
def flagsStickyWrong : ChangeSpec := { name := "flagsSticky", fn := fun _ => fun
  | [d1, d2] => { results := [.lit (.bool false)], args := [d1, d2] }
  | _ => none }
def FlagsStickyWrongFalsely : Prop := flagsStickyRow.holds Try.pinned (OpenSpec.ofChange flagsStickyWrong)

/-- 'ulplaw02.FlagsHeld': WHATEVER THE INPUT: true; the input reads as it did. -/
def flagsHeldSpec : ChangeSpec := { name := "flagsHeld", fn := fun _ => fun
  | [d1, d2] => { results := [.lit (.bool true)], args := [d1, d2] }
  | _ => none }
def flagsHeldRow : OpenClaim := { program := "ytihdnjgjjhhpgaa", sum := "3becd0d1704e8f0c607d530fc6837d497ff8537358de1dc6402f766b7411f1c3", func := "ulp/ulplaw02.FlagsHeld", spec := "flagsHeld", inPlace := ["internal/abi.NoEscape", "internal/bytealg.MakeNoZero"], unfollowed := true, recurses := true, apart := false }
def FlagsHeldSaid : Prop := flagsHeldRow.holds Try.pinned (OpenSpec.ofChange flagsHeldSpec)

/-- ITS FALSE NEIGHBOUR: 'it returns false'. Refute it at one input. -/
def flagsHeldWrong : ChangeSpec := { name := "flagsHeld", fn := fun _ => fun
  | [d1, d2] => { results := [.lit (.bool false)], args := [d1, d2] }
  | _ => none }
def FlagsHeldWrongFalsely : Prop := flagsHeldRow.holds Try.pinned (OpenSpec.ofChange flagsHeldWrong)

/-- 'ulplaw02.FlagsSteps': WHATEVER THE INPUT: true; the input reads as it did. -/
def flagsStepsSpec : ChangeSpec := { name := "flagsSteps", fn := fun _ => fun
  | [d] => { results := [.lit (.bool true)], args := [d] }
  | _ => none }
def flagsStepsRow : OpenClaim := { program := "ytihdnjgjjhhpgaa", sum := "3becd0d1704e8f0c607d530fc6837d497ff8537358de1dc6402f766b7411f1c3", func := "ulp/ulplaw02.FlagsSteps", spec := "flagsSteps", inPlace := ["internal/abi.NoEscape", "internal/bytealg.MakeNoZero"], unfollowed := true, recurses := true, apart := false }
def FlagsStepsSaid : Prop := flagsStepsRow.holds Try.pinned (OpenSpec.ofChange flagsStepsSpec)

/-- ITS FALSE NEIGHBOUR: 'it returns false'. Refute it at one input. -/
def flagsStepsWrong : ChangeSpec := { name := "flagsSteps", fn := fun _ => fun
  | [d] => { results := [.lit (.bool false)], args := [d] }
  | _ => none }
def FlagsStepsWrongFalsely : Prop := flagsStepsRow.holds Try.pinned (OpenSpec.ofChange flagsStepsWrong)

/- THE SECOND FORM. 'bulk': how many values and letters a reading holds, each counted each time it is reached (what is shared counts as often as it is met; a slice's spare places count too). A statement '..UptoSaid' is the law's where the arguments, and the package variables that the reading takes, are together of bulk at most 1048576: NARROWER than '..Said'. Prove '..Said' where nothing that the law and all that it calls make is longer than what came in: it says more and counts as full. Else prove '..UptoSaid'. A law counts once. -/
mutual
def uptoBulk {H : Type} : DataW H → Nat
  | .lit (.string bytes) => bytes.length + 1
  | .lit _ => 1
  | .nil => 1
  | .ptr d => uptoBulk d + 1
  | .slice elems spare => uptoBulkAll elems + uptoBulkAll spare + 1
  | .agg parts => uptoBulkAll parts + 1
  | .iface _ d => uptoBulk d + 1
  | .map entries => uptoBulkEntries entries + 1
  | .held _ => 1
def uptoBulkAll {H : Type} : List (DataW H) → Nat
  | [] => 0
  | d :: r => uptoBulk d + uptoBulkAll r
def uptoBulkEntries {H : Type} : List (Lit × DataW H) → Nat
  | [] => 0
  | x :: r => uptoBulkEntry x + uptoBulkEntries r
def uptoBulkEntry {H : Type} : Lit × DataW H → Nat
  | (.string bytes, d) => bytes.length + uptoBulk d + 1
  | (_, d) => uptoBulk d + 1
 end
def uptoSmall : (H : Type) → List (DataW H) → Bool := fun _ ds => decide (uptoBulkAll ds ≤ 1048576)
def OpenSpec.upto (s : _root_.Go.ChangeSpec) : _root_.Go.OpenSpec := { _root_.Go.OpenSpec.ofChange s with cond := some uptoSmall }

/-- 'ulplaw02.FlagsSets', WHERE WHAT IT READS IS OF BULK AT MOST 1048576: true; the input reads as it did. -/
def flagsSetsUptoRow : OpenClaim := { program := "ytihdnjgjjhhpgaa", sum := "3becd0d1704e8f0c607d530fc6837d497ff8537358de1dc6402f766b7411f1c3", func := "ulp/ulplaw02.FlagsSets", spec := "flagsSets", inPlace := ["internal/abi.NoEscape", "internal/bytealg.MakeNoZero"], unfollowed := true, recurses := true, apart := false, narrowed := true }
def FlagsSetsUptoSaid : Prop := flagsSetsUptoRow.holds Try.pinned (OpenSpec.upto flagsSetsSpec)

/-- 'ulplaw02.FlagsRules', WHERE WHAT IT READS IS OF BULK AT MOST 1048576: true; the input reads as it did. -/
def flagsRulesUptoRow : OpenClaim := { program := "ytihdnjgjjhhpgaa", sum := "3becd0d1704e8f0c607d530fc6837d497ff8537358de1dc6402f766b7411f1c3", func := "ulp/ulplaw02.FlagsRules", spec := "flagsRules", inPlace := ["internal/abi.NoEscape", "internal/bytealg.MakeNoZero"], unfollowed := true, recurses := true, apart := false, narrowed := true }
def FlagsRulesUptoSaid : Prop := flagsRulesUptoRow.holds Try.pinned (OpenSpec.upto flagsRulesSpec)

/-- 'ulplaw02.FlagsTexts', WHERE WHAT IT READS IS OF BULK AT MOST 1048576: true; the input reads as it did. -/
def flagsTextsUptoRow : OpenClaim := { program := "ytihdnjgjjhhpgaa", sum := "3becd0d1704e8f0c607d530fc6837d497ff8537358de1dc6402f766b7411f1c3", func := "ulp/ulplaw02.FlagsTexts", spec := "flagsTexts", inPlace := ["internal/abi.NoEscape", "internal/bytealg.MakeNoZero"], unfollowed := true, recurses := true, apart := false, narrowed := true }
def FlagsTextsUptoSaid : Prop := flagsTextsUptoRow.holds Try.pinned (OpenSpec.upto flagsTextsSpec)

/-- 'ulplaw02.FlagsBack', WHERE WHAT IT READS IS OF BULK AT MOST 1048576: true; the input reads as it did. -/
def flagsBackUptoRow : OpenClaim := { program := "ytihdnjgjjhhpgaa", sum := "3becd0d1704e8f0c607d530fc6837d497ff8537358de1dc6402f766b7411f1c3", func := "ulp/ulplaw02.FlagsBack", spec := "flagsBack", inPlace := ["internal/abi.NoEscape", "internal/bytealg.MakeNoZero"], unfollowed := true, recurses := true, apart := false, narrowed := true }
def FlagsBackUptoSaid : Prop := flagsBackUptoRow.holds Try.pinned (OpenSpec.upto flagsBackSpec)

/-- 'ulplaw02.FlagsSticky', WHERE WHAT IT READS IS OF BULK AT MOST 1048576: true; the input reads as it did. -/
def flagsStickyUptoRow : OpenClaim := { program := "ytihdnjgjjhhpgaa", sum := "3becd0d1704e8f0c607d530fc6837d497ff8537358de1dc6402f766b7411f1c3", func := "ulp/ulplaw02.FlagsSticky", spec := "flagsSticky", inPlace := ["internal/abi.NoEscape", "internal/bytealg.MakeNoZero"], unfollowed := true, recurses := true, apart := false, narrowed := true }
def FlagsStickyUptoSaid : Prop := flagsStickyUptoRow.holds Try.pinned (OpenSpec.upto flagsStickySpec)

/-- 'ulplaw02.FlagsHeld', WHERE WHAT IT READS IS OF BULK AT MOST 1048576: true; the input reads as it did. -/
def flagsHeldUptoRow : OpenClaim := { program := "ytihdnjgjjhhpgaa", sum := "3becd0d1704e8f0c607d530fc6837d497ff8537358de1dc6402f766b7411f1c3", func := "ulp/ulplaw02.FlagsHeld", spec := "flagsHeld", inPlace := ["internal/abi.NoEscape", "internal/bytealg.MakeNoZero"], unfollowed := true, recurses := true, apart := false, narrowed := true }
def FlagsHeldUptoSaid : Prop := flagsHeldUptoRow.holds Try.pinned (OpenSpec.upto flagsHeldSpec)

/-- 'ulplaw02.FlagsSteps', WHERE WHAT IT READS IS OF BULK AT MOST 1048576: true; the input reads as it did. -/
def flagsStepsUptoRow : OpenClaim := { program := "ytihdnjgjjhhpgaa", sum := "3becd0d1704e8f0c607d530fc6837d497ff8537358de1dc6402f766b7411f1c3", func := "ulp/ulplaw02.FlagsSteps", spec := "flagsSteps", inPlace := ["internal/abi.NoEscape", "internal/bytealg.MakeNoZero"], unfollowed := true, recurses := true, apart := false, narrowed := true }
def FlagsStepsUptoSaid : Prop := flagsStepsUptoRow.holds Try.pinned (OpenSpec.upto flagsStepsSpec)

end Rows
end Go.Proofs.Ytihdnjgjjhhpgaa
