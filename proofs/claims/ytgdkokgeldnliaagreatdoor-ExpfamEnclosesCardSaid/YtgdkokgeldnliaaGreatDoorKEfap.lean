/- Contracts of functions and plain lemmas that the laws of this seat lean on. -/
import Derived.Test.YtgdkokgeldnliaaGreatDoorKEfab
import Derived.Test.YtgdkokgeldnliaaGreatDoorKEfac
import Derived.Test.YtgdkokgeldnliaaGreatDoorKEfae
import Derived.Test.YtgdkokgeldnliaaGreatDoorKEfag
import Derived.Test.YtgdkokgeldnliaaGreatDoorRows
import Derived.WalkKit
import Derived.WalkSpells
import Derived.WalkLawsBesides
import Derived.Lib.Hide
import Derived.Deep.QuietTactic
import Derived.BigQuiet
import Derived.StillTail
import Derived.Below
import Derived.Deep.MidRow
import Derived.Laws.Tables
import Derived.Laws.CopyRow
import Derived.IntWalk
import Derived.Test.YtgdkokgeldnliaaGreatDoorShelf
import Derived.Lib.BitFns
import Derived.Lib.ItoaNum
import Derived.Lib.TrailingZeros
import Derived.Deep.DeepCutAuto
import Derived.Deep.CutBlock
import Derived.Laws.AppendOwn
import Derived.Laws.AppendOwnNone
import Derived.Laws.CopyOwn
import Derived.RegionTactic
namespace Go.Proofs.YtgdkokgeldnliaaGreatDoor
set_option linter.unusedSimpArgs false
set_option linter.unusedVariables false
set_option linter.unusedSectionVars false
set_option linter.constructorNameAsVariable false
set_option linter.unnecessarySimpa false
section
set_option maxRecDepth 10000
set_option maxHeartbeats 1000000
open Go.RowKit
theorem aB9 (f : Int) : AC Tryz.prog TabW 21 [.lit (.int .u8 f)] (.lit (.bool (decide (4 <= f) && decide (f <= 6)))) := by
 refine aAd Tryz.func21 rfl (by kernel_rfl) aAc Tryz.mixed rfl rfl (by kernel_rfl) ?_
 simp only [aAl, Tryz.ntmps21, dyV, ivV, fxV, fxV]
 refine aAa fun K1 g1 => ?_
 refine aAb fun os => ?_
 try simp (disch := omega) only [xq, simprocAttr, dyV, ivV, fxV, fxV]
 refine g1 _ ?_
 refine aAa fun K2 g2 => ?_
 refine aAx ?_
 try simp (disch := omega) only [xq, simprocAttr, dyV, ivV, fxV, fxV]
 refine gx (fun c1 => ?_) (fun c1 => ?_)
 ·rw [c1]
  try simp only [xn] at c1
  try simp (disch := omega) only [xq, simprocAttr, dyV, ivV, fxV, fxV]
  refine g2 _ ?_
  refine aAe ?_
  simp only [endX, resX, resV, Tryz.results21]
  try simp (disch := omega) only [xq, simprocAttr, dyV, ivV, fxV, fxV]
  simp [*]
 ·rw [c1]
  try simp only [xn] at c1
  try simp (disch := omega) only [xq, simprocAttr, dyV, ivV, fxV, fxV]
  refine g2 _ ?_
  refine aAe ?_
  simp only [endX, resX, resV, Tryz.results21]
  try simp (disch := omega) only [xq, simprocAttr, dyV, ivV, fxV, fxV]
  simp [*]
end
end Go.Proofs.YtgdkokgeldnliaaGreatDoor
