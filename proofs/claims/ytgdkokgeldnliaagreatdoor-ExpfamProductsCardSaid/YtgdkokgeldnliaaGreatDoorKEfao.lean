/- Contracts of functions and plain lemmas that the laws of this seat lean on. -/
import Derived.Test.YtgdkokgeldnliaaGreatDoorKEfae
import Derived.Test.YtgdkokgeldnliaaGreatDoorKEfaf
import Derived.Test.YtgdkokgeldnliaaGreatDoorKEfaj
import Derived.Test.YtgdkokgeldnliaaGreatDoorRows
import Derived.WalkKit
import Derived.WalkSpells
import Derived.WalkLawsBesides
import Derived.Lib.Hide
import Derived.Deep.QuietTactic
import Derived.BigQuiet
import Derived.Test.YtgdkokgeldnliaaGreatDoorShelf
import Derived.Lib.BitFns
import Derived.Lib.ItoaNum
import Derived.Lib.TrailingZeros
import Derived.Deep.DeepCutAuto
import Derived.Deep.CutBlock
import Derived.Laws.AppendOwn
import Derived.Laws.AppendOwnNone
import Derived.Laws.CopyOwn
namespace Go.Proofs.YtgdkokgeldnliaaGreatDoor
set_option linter.unusedSimpArgs false
set_option linter.unusedVariables false
set_option linter.unusedSectionVars false
set_option linter.constructorNameAsVariable false
set_option linter.unnecessarySimpa false
section
theorem aNm {n : Nat} (hn : n = 0 \/ n = 2 \/ n = 10) {l : Iv} (h : LogI n l) : 0 <= l.hi.v := by
 by_cases h0 : n = 0
 · have := h.2; rw [if_pos h0] at this; rw [this.2]; decide
 · have h1 := h.2; rw [if_neg h0] at h1
   have hr : (1 : Rat) <= (n : Rat) := by rcases hn with rfl | rfl | rfl <;> first | exact absurd rfl h0 | decide +kernel
   exact aFF (by grind) (show lnL 0 n from aBs aC0 Rat.le_refl hr) h1.2
theorem aF3 {n : Nat} (hn : n = 0 \/ n = 2 \/ n = 10) {a b : Iv} (ha : LogI n a) (hb : LogI n b) : a.lo.v <= b.hi.v := by
 have h1 := ha.2
 have h2 := hb.2
 by_cases h0 : n = 0
 · rw [if_pos h0] at h1 h2; rw [h1.1, h2.2]; exact Rat.le_refl
 · rw [if_neg h0] at h1 h2
   have hr : (0 : Rat) < (n : Rat) := by rcases hn with rfl | rfl | rfl <;> first | exact absurd rfl h0 | decide +kernel
   exact aK4 hr h1 h2
theorem aF4 {n : Nat} (hn : n = 0 \/ n = 2 \/ n = 10) {a b c : Iv} (ha : LogI n a) (hb : LogI n b) (hc : LogI n c) : ∃ x, 0 <= x /\ a.has x /\ b.has x /\ c.has x := by
 have p1 := aNm hn ha
 have p2' := aNm hn hb
 have p3 := aNm hn hc
 have m1 := aF3 hn ha hb
 have m2 := aF3 hn ha hc
 have m3 := aF3 hn hb hc
 have m4 := aF3 hn hb ha
 have m5 := aF3 hn hc ha
 have m6 := aF3 hn hc hb
 have s1 := ha.1
 have s2 := hb.1
 have s3 := hc.1
 refine ⟨max (max (max a.lo.v b.lo.v) c.lo.v) 0, ?_, ⟨?_, ?_⟩, ⟨?_, ?_⟩, ⟨?_, ?_⟩⟩ <;> grind
end
end Go.Proofs.YtgdkokgeldnliaaGreatDoor
