/- ExpfamPowers: whatever the input, the law returns true, and the input reads as it did: the tied card. -/
import Derived.Test.YtgdkokgeldnliaaGreatDoorKEfav
import Derived.Test.YtgdkokgeldnliaaGreatDoorCards
import Derived.Test.YtgdkokgeldnliaaGreatDoorTie
namespace Go.Proofs.YtgdkokgeldnliaaGreatDoor
set_option linter.unusedSimpArgs false
set_option linter.unusedVariables false
set_option linter.unusedSectionVars false
set_option linter.constructorNameAsVariable false
set_option linter.unnecessarySimpa false
section
set_option maxRecDepth 100000
open Go.ChangeShapes Go.WideShapes Go.ChangeAt Go.RowKit
theorem aXn : ∀ t ∈ Tryz.f4.params.toList, Tryz.prog.readableRec t = true /\ t < Tryz.prog.types.size := by
 rw [Tryz.params4]
 intro t ht
 simp only [List.mem_cons, List.not_mem_nil, or_false] at ht
 rcases ht with rfl | rfl | rfl
 all_goals exact ⟨by kernel_rfl, of_decide_eq_true (by kernel_rfl)⟩
theorem aPS (os : Os) (started : os.Started) (H : Type) (enc : TypeId × Value -> H) :
   ReturnsInHanded {} Tryz.checked os 4 .any (fun w args => (Rows.expfamPowersSpec.pre enc Tryz.prog Tryz.f4 [] false w args /\ laidMetH Tryz.prog aBo w) /\ sizedMet enc Tryz.prog Tryz.f4 (OpenSpec.ofChange Rows.expfamPowersSpec) false w args)
     (Rows.expfamPowersSpec.post enc Tryz.prog Tryz.f4 false true false false) := by
 refine returnsInHanded_of_change_and (C := Tryz.checked) (X := fun w _ => laidMetH Tryz.prog aBo w) (fun _ _ _ hh h => h.of_heap hh) Tryz.own started (by kernel_rfl) Tryz.func4
   (ChangeSpec.witness_shaped (enc := enc) (C := Tryz.checked) (os := os) (X := fun w _ => laidMetH Tryz.prog aBo w) false (World.laidAll Tryz.prog os aBo) #[.int .i64 0, .agg #[.bool false, .slice none 0 0, .int .i64 0], .int .i64 0] 8 (World.laidAll_os _ _ _)
     (World.shaped_of_ZipB (by kernel_rfl) (by kernel_rfl)) (by kernel_rfl) (by kernel_rfl) (by kernel_rfl)
     (by rw [MakeChecks.laidMetH_plain _ _ _ (by kernel_rfl)]; exact laidMet_laidAll _ (by kernel_rfl) (by kernel_rfl))) ?_
 intro W base args ds gs before hval0 hW _ _ hL _
 have hval : ∀ (j : Nat) t v, Tryz.f4.params[j]? = some t -> args[j]? = some v -> Value.okWide Tryz.prog W .any base t v := hval0
 have hW' := hW
 obtain ⟨p, q, hA0, hV, rfl, _, _⟩ := hW
 have hA : DataW.TrodAll enc Tryz.prog W 0 (fun _ => true) true Tryz.f4.params.toList args.toList ds p := hA0
 rw [Tryz.params4] at hA hval
 obtain ⟨v0, vs0, d0, ds0, p0, q0, hargs, rfl, rfl, h0, r0⟩ := trodAll_cons hA
 obtain ⟨v1, vs1, d1, ds1, p1, q1, rfl, rfl, rfl, h1, r1⟩ := trodAll_cons r0
 obtain ⟨v2, vs2, d2, ds2, p2, q2, rfl, rfl, rfl, h2, r2⟩ := trodAll_cons r1
 obtain ⟨rfl, rfl, rfl⟩ := trodAll_nil r2
 obtain rfl : args = #[v0, v1, v2] := by cases args; simp_all
 obtain ⟨rfl, rfl⟩ := trodVars_none hV
 obtain ⟨a0, rfl, rfl, rfl, w0⟩ := open_int Tryz.underlying3 (hval 0 3 v0 rfl rfl) h0
 have b0 := bounds_i64 w0
 obtain ⟨g1, x1, k1, c1, e1, l1, rfl, u1, w1⟩ := aQT (hval 1 27 v1 rfl rfl) h1
 have b1 := bounds_i64 w1
 obtain ⟨a2, rfl, rfl, rfl, w2⟩ := open_int Tryz.underlying3 (hval 2 3 v2 rfl rfl) h2
 have b2 := bounds_i64 w2
 rw [MakeChecks.laidMetH_plain _ _ _ (by kernel_rfl)] at hL
 have hT := aEV hL
 have hac := aSu (xa := x1) (na := k1) (ca := c1) (la := l1) g1 e1 a0 a2
 have walk := (hac.2 (fun _ => False) [] W [.int .i64 a0, .agg #[.bool g1, .slice x1 k1 c1, .int .i64 e1], .int .i64 a2] ⟨hT, u1⟩ (fun _ h => h.elim) (by simp only [RepL, Rep, dyS]; exact ⟨_, _, rfl, rfl, _, _, rfl, ⟨_, rfl, _, _, rfl, rfl, _, _, rfl, rfl, _, _, rfl, rfl, rfl⟩, _, _, rfl, rfl, rfl⟩)).mono (R' := fun e w' => e = .returned (.bool true) /\ Below W.heap.size W w') fun e w' h => by
   obtain ⟨v, h1, h2, h3⟩ := h
   simp only [Rep] at h2
   subst h2
   exact ⟨h1, h3⟩
 refine walk.mono fun e W' ⟨he, hb⟩ => ?_
 subst he
 exact ⟨_, rfl, aF6 Tryz.laidOut hW' hb rfl (by kernel_rfl) Tryz.underlying4 aXn rfl rfl rfl⟩
theorem aU0 : Rows.ExpfamPowersSaid :=
 OpenClaim.holds_of_wide 4 Tryz.f4 rfl rfl rfl rfl rfl rfl rfl ⟨rfl, rfl, rfl, rfl, rfl⟩ rfl rfl rfl rfl rfl (by kernel_rfl) Tryz.func4 (by kernel_rfl)
   (of_decide_eq_true (by kernel_rfl)) (by unfold Func.isWrapper; first | (rw [if_pos (by decide +kernel)]; kernel_rfl) | (rw [if_neg (by decide +kernel)]; exact ⟨rfl, rfl⟩))
   (fun os started H enc _ => aPS os started H enc)
theorem xp_card : Rows.ExpfamPowersCardSaid :=
 Claim7.holds_tied_plain_at .later [] _ _ _ _ aU0 (fun _ h => by cases h) (by kernel_rfl) (fun _ h => by cases h) expfamPowers_row_tie rfl ⟨rfl, rfl⟩ (by kernel_rfl) rfl
   (fun f fn hf hfn => by
     obtain rfl : f = 4 := Option.some.inj ((show Tryz.prog.funcNamed "ulp/ulplaw15.ExpfamPowers" = some 4 by kernel_rfl).symm.trans hf) |>.symm
     obtain rfl : fn = Tryz.f4 := (Option.some.inj (Tryz.func4.symm.trans hfn)).symm
     exact ⟨by kernel_rfl, fun j t ht => by
       rw [Tryz.params4] at ht
       have hm : t ∈ [3, 27, 3] := by simpa using Array.mem_of_getElem? ht
       simp only [List.mem_cons, List.not_mem_nil, or_false] at hm
       rcases hm with rfl | rfl | rfl
       · exact (show Tryz.prog.wantsStandIn 3 = false by kernel_rfl)
       · exact (show Tryz.prog.wantsStandIn 27 = false by kernel_rfl)
       · exact (show Tryz.prog.wantsStandIn 3 = false by kernel_rfl)⟩)
   (by kernel_rfl)
#print axioms xp_card
end
end Go.Proofs.YtgdkokgeldnliaaGreatDoor
