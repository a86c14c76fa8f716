/- Contracts of functions and plain lemmas that the laws of this seat lean on. -/
import Derived.Test.YtgdkokgeldnliaaGreatDoorKEfaa
import Derived.Test.YtgdkokgeldnliaaGreatDoorKEfab
import Derived.Test.YtgdkokgeldnliaaGreatDoorKEfac
import Derived.Test.YtgdkokgeldnliaaGreatDoorKEfad
import Derived.Test.YtgdkokgeldnliaaGreatDoorKEfae
import Derived.Test.YtgdkokgeldnliaaGreatDoorKEfaf
import Derived.Test.YtgdkokgeldnliaaGreatDoorKEfag
import Derived.Test.YtgdkokgeldnliaaGreatDoorKEfah
import Derived.Test.YtgdkokgeldnliaaGreatDoorKEfai
import Derived.Test.YtgdkokgeldnliaaGreatDoorKEfaj
import Derived.Test.YtgdkokgeldnliaaGreatDoorRows
import Derived.WalkKit
import Derived.WalkSpells
import Derived.WalkLawsBesides
import Derived.Lib.Hide
import Derived.Deep.QuietTactic
import Derived.BigQuiet
import Derived.StillTail
import Derived.Below
import Derived.Deep.MidRow
import Derived.Laws.Tables
import Derived.Laws.CopyRow
import Derived.IntWalk
import Derived.Test.YtgdkokgeldnliaaGreatDoorShelf
import Derived.Lib.BitFns
import Derived.Lib.ItoaNum
import Derived.Lib.TrailingZeros
import Derived.Deep.DeepCutAuto
import Derived.Deep.CutBlock
import Derived.Laws.AppendOwn
import Derived.Laws.AppendOwnNone
import Derived.Laws.CopyOwn
import Derived.RegionTactic
import Derived.ProofKit
import Derived.OpenShut
import Derived.Carry
import Derived.Lib.LaidU8
import Derived.Lay
namespace Go.Proofs.YtgdkokgeldnliaaGreatDoor
set_option linter.unusedSimpArgs false
set_option linter.unusedVariables false
set_option linter.unusedSectionVars false
set_option linter.constructorNameAsVariable false
set_option linter.unnecessarySimpa false
section
theorem aGa (x : Nat) : aBl x = fD x := rfl
def fB (f : Int) : Nat := if f = 2 \/ f = 5 then 2 else if f = 3 \/ f = 6 then 10 else 0
def fL (f : Int) : Bool := decide (4 <= f)
def noE (f : Int) (p : Int) : Prop := ¬ (1 <= f /\ f <= 6) \/ p < 8 \/ 2048 < p
instance (f p : Int) : Decidable (noE f p) := by unfold noE; infer_instance
def aAq (f : Int) (x : Nat) (p : Int) : Iv × Int := if noE f p then (aAp, 2) else if bitE x = 2047 then (aAp, 5) else aA1 (fB f) (fL f) (aBl x) p.toNat
def refE (f : Int) (x : Nat) (p : Int) : Iv × Int := if noE f p then (aAp, 2) else if bitE x = 2047 then (aAp, 5) else aBq (fB f) (fL f) (aBl x) p.toNat
theorem aEa (f : Int) : fB f = 0 \/ fB f = 2 \/ fB f = 10 := by unfold fB; split <;> (try split) <;> simp
theorem six {f : Int} (h : 1 <= f /\ f <= 6) : f = 1 \/ f = 2 \/ f = 3 \/ f = 4 \/ f = 5 \/ f = 6 := by omega
theorem aBj (f : Int) (x : Nat) (hx : x < 18446744073709551616) (p : Int) : AC Tryz.prog TabF 10 [.lit (.int .u8 f), .lit (.int .u64 ((x : Nat) : Int)), .lit (.int .i64 p)] (.tup [ivV (aAq f x p).1, .lit (.int .i64 (aAq f x p).2)]) := by
 unfold aAq
 by_cases h : noE f p
 · rw [if_pos h]; exact aRC f x p h
 · rw [if_neg h]
   unfold noE at h
   obtain ⟨k, rfl⟩ := Int.eq_ofNat_of_zero_le (show 0 <= p by omega)
   rw [Int.toNat_natCast]
   by_cases he : bitE x = 2047
   · rw [if_pos he]
     rcases six (f := f) (by omega) with rfl | rfl | rfl | rfl | rfl | rfl
     · exact aNF x hx he k (by omega)
     · exact aNE x hx he k (by omega)
     · exact aND x hx he k (by omega)
     · exact aNC x hx he k (by omega)
     · exact aNB x hx he k (by omega)
     · exact aNA x hx he k (by omega)
   · rw [if_neg he]
     rcases six (f := f) (by omega) with rfl | rfl | rfl | rfl | rfl | rfl
     · exact aTN x hx he k (by omega)
     · exact aTM x hx he k (by omega)
     · exact aTL x hx he k (by omega)
     · exact aTK x hx he k (by omega)
     · exact aTJ x hx he k (by omega)
     · exact aTI x hx he k (by omega)
theorem aE2 : ib aAp = 0 /\ ie aAp = 0 := ⟨by decide, by decide⟩
theorem aKI {v : Iv} (h : aBb v = true) : ib v <= 65536 /\ ie v <= 32768 := by
 unfold aBb at h
 simp only [Bool.and_eq_true] at h
 have h1 := aCJ h.1.1
 have h2 := aCJ h.1.2
 exact mk_b (a := v.lo) (b := v.hi) (B := 65536) (E := 32768) (by omega) (by omega)
theorem aAJ {f : Int} {x : Nat} {p : Int} (h : (aAq f x p).2 = 0) :
   (1 <= f /\ f <= 6) /\ (8 <= p /\ p <= 2048) /\ bitE x ≠ 2047 /\ aBb (aAq f x p).1 = true /\ aDx (fB f) (fL f) (fD x) p.toNat (aAq f x p).1 /\
   (fL f = false -> -(aAo (fB f) : Rat) <= (fD x).v) /\ (fD x).v <= (aAo (fB f) : Rat) := by
 unfold aAq at *
 by_cases h1 : noE f p
 · rw [if_pos h1] at h; cases h
 · rw [if_neg h1] at h ⊢
   by_cases h2 : bitE x = 2047
   · rw [if_pos h2] at h; cases h
   · rw [if_neg h2] at h ⊢
     unfold noE at h1
     rw [aGa] at h ⊢
     obtain ⟨a, b, c⟩ := aMv (p := p.toNat) (t := fD x) (aEa f) (by omega) (by omega) (aLg x) (fL f) h
     exact ⟨by omega, by omega, h2, a.2.2.2.1, a, b, c⟩
theorem aTf {f : Int} {x : Nat} {p : Int} (h : (aAq f x p).2 ≠ 0) : (aAq f x p).1 = aAp := by
 unfold aAq at *
 by_cases h1 : noE f p
 · rw [if_pos h1]
 · rw [if_neg h1] at h ⊢
   by_cases h2 : bitE x = 2047
   · rw [if_pos h2]
   · rw [if_neg h2] at h ⊢
     unfold noE at h1
     rw [aGa] at h ⊢
     exact (aGc (p := p.toNat) (t := fD x) (aEa f) (by omega) (by omega) (aLg x) (fL f)).2.1 h
theorem aBu (f : Int) (x : Nat) (p : Int) : ib (aAq f x p).1 <= 65536 /\ ie (aAq f x p).1 <= 32768 := by
 by_cases h : (aAq f x p).2 = 0
 · exact aKI (aAJ h).2.2.2.1
 · rw [aTf h]; have := aE2; omega
theorem aHa (f : Int) (x : Nat) (p : Int) : aKs (aAq f x p) (refE f x p) p := by
 unfold aAq refE
 by_cases h1 : noE f p
 · rw [if_pos h1, if_pos h1]; exact ⟨rfl, fun _ => rfl, fun h => by cases h⟩
 · rw [if_neg h1, if_neg h1]
   by_cases h2 : bitE x = 2047
   · rw [if_pos h2, if_pos h2]; exact ⟨rfl, fun _ => rfl, fun h => by cases h⟩
   · rw [if_neg h2, if_neg h2]
     unfold noE at h1
     rw [aGa]
     have := aGc (p := p.toNat) (t := fD x) (aEa f) (by omega) (by omega) (aLg x) (fL f)
     rwa [show ((p.toNat : Nat) : Int) = p by omega] at this
end
section
theorem aJ7 {v : Iv} {d : D} (h1 : aBb v = true) (h2 : aAT d = true) (h3 : v.lo.v <= d.v) (h4 : d.v <= v.hi.v) : hasI v d = true := by
 unfold hasI
 rw [h1, h2, decide_eq_true ((aCV _ _).2 h3), decide_eq_true ((aCV _ _).2 h4)]; rfl
theorem aLa {n : Int} (h : n.natAbs < 1000000) : aAT (intD n) = true := by
 have hs := aAW n
 have : bl n.natAbs <= 20 := aC8 (by omega)
 exact aDG (by omega) (by omega)
theorem aLf : (fD 4613937818241073152).v = 3 := by decide +kernel
theorem aW2 : (fD 9223372036854775808).m = 0 := by decide +kernel
theorem aHs {f : Int} {x : Nat} {p : Int} (hf : 1 <= f /\ f <= 6) (hp : 8 <= p /\ p <= 2048) (he : bitE x ≠ 2047) (h1 : fL f = false -> -(aAo (fB f) : Rat) <= (fD x).v) (h2 : (fD x).v <= (aAo (fB f) : Rat)) : (aAq f x p).2 = 0 := by
 have ha := aHa f x p
 rw [ha.1]
 unfold refE
 rw [if_neg (by unfold noE; omega), if_neg he]
 have a := aFw (fB f) (fD x)
 have b := aGN (fB f) (fD x)
 unfold aBq
 rw [aGa]
 have c1 : decide (0 < cmpD (fD x) (intD (aAo (fB f) : Int))) = false := decide_eq_false (by have := a.2 h2; omega)
 rw [c1, Bool.false_or]
 cases hb : aAR (fB f) (fD x)
 · simp only [Bool.false_and, Bool.false_eq_true, if_false]
   split <;> rfl
 · cases hl : fL f
   · rw [hb] at b
     have := of_decide_eq_true b.symm
     have := h1 hl
     grind
   · rfl
theorem aVH : (aAq 2 4613937818241073152 64).2 = 0 := by
 refine aHs (by omega) (by omega) (by decide) (fun _ => ?_) ?_
 · rw [aLf]; decide +kernel
 · rw [aLf]; decide +kernel
theorem aRi : hasI (aAq 2 4613937818241073152 64).1 (intD 8) = true := by
 obtain ⟨_, _, _, hr, hs, _, _⟩ := aAJ aVH
 have hw := (aIy (k := 3) (.inl rfl) hs).1 (by rw [aLf]; rfl)
 have e1 : ((2 : Nat) : Rat) ^ 3 - aDz (fL 2) = 8 := by decide +kernel
 rw [e1] at hw
 refine aJ7 hr (aLa (by decide)) ?_ ?_
 · rw [aEw]; exact hw.1
 · rw [aEw]; exact hw.2
theorem aMd : aDs (aAq 2 4613937818241073152 64).1 64 = true := ((aHa 2 4613937818241073152 64).2.2 aVH).2.2.2.1
theorem aXy : aAq 4 9223372036854775808 64 = (aAp, 0) := by
 unfold aAq
 rw [if_neg (by unfold noE; omega), if_neg (by decide), aGa]
 have hv := aBL.2 aW2
 have b := aGN (fB 4) (fD 9223372036854775808)
 have a := aFw (fB 4) (fD 9223372036854775808)
 have hb : aAR (fB 4) (fD 9223372036854775808) = false := by rw [b, hv]; decide +kernel
 have hi : inB (fB 4) (fD 9223372036854775808) = true := by
   unfold inB
   rw [hb, decide_eq_true (a.2 (by rw [hv]; decide +kernel))]; rfl
 unfold aA1
 rw [hb, hi, aW2]
 rfl
theorem aXx : aAq 1 9218868437227405311 64 = (aAp, 3) := by
 unfold aAq
 rw [if_neg (by unfold noE; omega), if_neg (by decide), aGa]
 have hn : fN 9218868437227405311 = false := by decide
 have hv : (fD 9218868437227405311).v = fA 9218868437227405311 := by rw [fD_v, hn]; rfl
 have hl := aUJ (x := 9218868437227405311) (by decide)
 have he : fE 9218868437227405311 = 2046 := by decide
 rw [he] at hl
 have h14 := aA7 (show ((14 : Nat) : Int) <= ((2046 : Nat) : Int) - 1023 by decide)
 rw [(aCi 14 (k := 16384) rfl).1] at h14
 have e14 : ((16384 : Nat) : Rat) = 16384 := rfl
 rw [e14] at h14
 have a := aFw (fB 1) (fD 9218868437227405311)
 have e : (aAo (fB 1) : Rat) = 11000 := rfl
 have hi : inB (fB 1) (fD 9218868437227405311) = false := by
   unfold inB
   have : ¬ cmpD (fD 9218868437227405311) (intD (aAo (fB 1) : Int)) <= 0 := fun h => by
     have := a.1 h
     rw [e, hv] at this; grind
   rw [decide_eq_false this, Bool.and_false]
 have hL : fL 1 = false := rfl
 unfold aA1
 rw [hi, hL, Bool.and_false]
 rfl
theorem aVq {n : Nat} {t : D} {p : Nat} (h : t.canon) : powV n t p = aA1 n false t p := by
 unfold powV aA1
 rw [aCL h]
 simp only [Bool.and_false, Bool.false_eq_true, if_false]
theorem aVG : (powV 10 (intD 2) 64).2 = 0 /\ hasI (powV 10 (intD 2) 64).1 (intD 100) = true /\ aBb (powV 10 (intD 2) 64).1 = true := by
 have hv : (intD 2).v = 2 := aEw 2
 have hsm : (intD 2).m = 0 \/ p2 (-16898) <= (intD 2).av := by
   right
   rw [aBh, hv, if_neg (by decide +kernel)]
   have := aA7 (show (-16898 : Int) <= 0 by omega)
   rw [aCt] at this
   grind
 have a := aFw 10 (intD 2)
 have b := aGN 10 (intD 2)
 have e : (aAo 10 : Rat) = 4800 := rfl
 rw [e, hv] at a b
 have hb : aAR 10 (intD 2) = false := by rw [b]; decide +kernel
 have hag := aGc (n := 10) (p := 64) (t := intD 2) (by omega) (by omega) (by omega) hsm false
 have h0 : (aA1 10 false (intD 2) 64).2 = 0 := by
   rw [hag.1]
   unfold aBq
   have c1 : decide (0 < cmpD (intD 2) (intD (aAo 10 : Int))) = false := decide_eq_false (by have := a.2 (by decide +kernel); omega)
   rw [c1, hb]; rfl
 obtain ⟨hs, _, _⟩ := aMv (n := 10) (p := 64) (t := intD 2) (by omega) (by omega) (by omega) hsm false h0
 rw [aVq (aFI 2)]
 have hr := hs.2.2.2.1
 have hw := (aIy (k := 2) (.inr rfl) hs).1 hv
 have e1 : ((10 : Nat) : Rat) ^ 2 - aDz false = 100 := by decide +kernel
 rw [e1] at hw
 refine ⟨h0, aJ7 hr (aLa (by decide)) ?_ ?_, hr⟩
 · rw [aEw]; exact hw.1
 · rw [aEw]; exact hw.2
end
section
set_option maxRecDepth 10000
set_option maxHeartbeats 4000000
open Go.RowKit
theorem aCD  : AC Tryz.prog TabF 12 [] (.lit (.bool true)) := by
 have c1 : ((4613937818241073152 : Nat) : Int) = 4613937818241073152 := rfl
 have c2' : ((9223372036854775808 : Nat) : Int) = 9223372036854775808 := rfl
 have c3' : ((9218868437227405311 : Nat) : Int) = 9218868437227405311 := rfl
 have e1 := aBj 2 4613937818241073152 (by decide) 64
 have e2 := aBj 4 9223372036854775808 (by decide) 64
 have e3 := aBj 1 9218868437227405311 (by decide) 64
 rw [c1, aVH] at e1
 rw [c2', aXy] at e2
 rw [c3', aXx] at e3
 clear c1 c2' c3'
 have hf2 : aAT (intD 2) = true := aLa (by decide)
 have e4 := aRz (intD 2) hf2 64 (by omega)
 rw [aVG.1] at e4
 have s1 := aBu 2 4613937818241073152 64
 have s4 := aKI aVG.2.2
 have z8 := aAW 8
 have z100 := aAW 100
 have b8 : bl (8 : Int).natAbs = 4 := by decide
 have b100 : bl (100 : Int).natAbs = 7 := by decide
 have h1 := aGe (aAq 2 4613937818241073152 64).1 (intD 8) (by omega)
 rw [aRi] at h1
 have h2 := aJn (aAq 2 4613937818241073152 64).1 64 (by omega) (fun _ => by have := aBe (aAq 2 4613937818241073152 64).1; omega) (by omega)
 rw [aMd] at h2
 have z0 := aE2
 have h3 := aHc aAp aAp (by omega)
 rw [(aIf aAp aAp).2 rfl] at h3
 have h4 := aGe (powV 10 (intD 2) 64).1 (intD 100) (by omega)
 rw [aVG.2.1] at h4
 have i2 := (aB4 2 (by omega)).1
 have i8 := (aB4 8 (by omega)).1
 have i100 := (aB4 100 (by omega)).1
 have k64 : ((64 : Nat) : Int) = 64 := rfl
 rw [k64] at e4
 generalize (aAq 2 4613937818241073152 64).1 = A at *
 generalize (powV 10 (intD 2) 64).1 = Cq at *
 generalize intD 2 = D2 at *
 generalize intD 8 = D8 at *
 generalize intD 100 = D100 at *
 refine aAd Tryz.func12 rfl (by kernel_rfl) aCo Tryz.mixed rfl rfl (by kernel_rfl) ?_
 simp only [aAl, Tryz.ntmps12, dyV, ivV, fxV, fxV, aAp, aAY]
 repeat' first
  | refine aAa fun K g => ?_
  | refine goK (by assumption) ?_
  | (refine aAe ?_; try simp only [aAm, aAg, reduceIte, Nat.reduceEqDiff])
  | ((first
  | refine aAU rfl fun os => ?_
  | refine aLC (by kernel_rfl) ?_
  | refine gd1 rfl rfl ?_
  | refine gd0 rfl rfl (by exact Nat.le_of_ble_eq_true rfl) ?_
  | refine cxo (e1) ?_
  | refine cxo (e2) ?_
  | refine cxo (e3) ?_
  | refine cxo (AC.weak (i2) fun _ q => q.1) ?_
  | refine cxo (AC.weak (e4) fun _ q => q.1) ?_
  | refine cxd (AC.weak (i8) fun _ q => q.1) ?_
  | refine cxd (AC.weak (h1) fun _ q => q.1) ?_
  | refine cxd (AC.weak (h2) fun _ q => q.1) ?_
  | refine cxd (AC.weak (h3) fun _ q => q.1) ?_
  | refine cxd (AC.weak (i100) fun _ q => q.1) ?_
  | refine cxd (AC.weak (h4) fun _ q => q.1) ?_
  | refine cxd (AC.weak (aDZ 6) fun _ q => q.1) ?_
  | simp only [endX, resX, resV, Tryz.results12]) <;> try (simp (disch := omega) only [xq, simprocAttr, dyV, ivV, fxV, fxV, aAp, aAY]))
  | ((first | refine gx (fun c => ?_) (fun c => ?_) | refine gdt rfl rfl rfl (fun c => ?_) (fun c => ?_)) <;> first | exact absurd c (by decide) | ((try rw [c]); (try simp only [xn] at c); try (simp (disch := omega) only [xq, simprocAttr, dyV, ivV, fxV, fxV, aAp, aAY])))
  | (first | done | rfl | (simp; done)
     done)
end
section
open Go.ChangeShapes Go.WideShapes Go.ChangeAt Go.RowKit
theorem aJH {P : Program} {W : World} {name : String} {k : IntKind} {zs : List Int} {g : Nat} {t e : TypeId} {n : Nat}
   (hg : P.globalNamed name = some g) (hty : (P.globals[g]?).map (·.type) = some t) (ht : P.underlying t = some (.array n e)) (he : P.underlying e = some (.int k)) (hce : P.cellsOf e = 1) (hct : P.cellsOf t = n)
   (h : Lib.VarReads P W name (Lib.tabData k zs)) : Lib.TabIs P W name k zs := by
 obtain ⟨g', t', cs, fuel, p, hg', ht', hvar, hd⟩ := h
 obtain rfl := Option.some.inj (hg.symm.trans hg')
 obtain rfl := Option.some.inj (hty.symm.trans ht')
 unfold Lib.TabIs
 rw [hvar, <- Lib.cells_of_tab ht he hce hct hd]
theorem aSN : (Rows.laid_math_bits_deBruijn64tab : DataW Unit) = Lib.tabData .u8 (Lib.deBruijn64tab.map fun (x : Nat) => (x : Int)) := by kernel_rfl
def aBo : List (String × DataW Unit) := Rows.expfamEnclosesRow.laid
theorem aPh {H : Type} {enc : TypeId × Value -> H} {P : Program} {w : World} {base : Nat} {sp : Nat -> Bool} {held : Bool} {fuel : Nat} {t t0 t1 : TypeId} {fs : Array Field} {k : IntKind} {cs : List Value} {z : Int} {b : Bool} {p : List MemPlace}
   (ht : P.underlying t = some (.struct fs)) (hs : fs.size = 2) (h0 : (fs[0]?).map (fun f => (f.type, f.offset)) = some (t0, 0)) (h1 : (fs[1]?).map (fun f => (f.type, f.offset)) = some (t1, 1))
   (u0 : P.underlying t0 = some (.int k)) (u1 : P.underlying t1 = some .bool) (c0 : P.cellsOf t0 = 1) (c1 : P.cellsOf t1 = 1)
   (h : DataW.trod enc P w base sp held fuel t cs = some (.agg [.lit (.int k z), .lit (.bool b)], p)) : cs[0]? = some (.int k z) /\ cs[1]? = some (.bool b) := by
 obtain ⟨xs, n, rfl, hx, _, hl, hall⟩ := DataW.trod_struct ht h
 have hxs : xs.map (·.1) = [.lit (.int k z), .lit (.bool b)] := by
   have := congrArg Prod.fst hx
   simpa using this.symm
 obtain ⟨x0, x1, rfl⟩ : ∃ x0 x1, xs = [x0, x1] := by
   have : xs.length = 2 := by rw [hl, hs]
   match xs, this with
   | [a, b], _ => exact ⟨a, b, rfl⟩
 simp only [List.map_cons, List.map_nil, List.cons.injEq, and_true] at hxs
 obtain ⟨f0, hf0, e0⟩ := Option.map_eq_some_iff.1 h0
 obtain ⟨f1, hf1, e1⟩ := Option.map_eq_some_iff.1 h1
 simp only [Prod.mk.injEq] at e0 e1
 have a0 := hall 0 f0 hf0
 have a1 := hall 1 f1 hf1
 rw [e0.1, e0.2, c0] at a0
 rw [e1.1, e1.2, c1] at a1
 obtain ⟨z', hc0, g0, _⟩ := DataW.trod_int u0 a0
 obtain ⟨b', hc1, g1⟩ := DataW.trod_bool u1 a1
 rw [g0] at hxs
 rw [g1] at hxs
 simp only [DataW.lit.injEq, Lit.int.injEq, Lit.bool.injEq, true_and] at hxs
 obtain ⟨rfl, rfl⟩ := hxs
 constructor
 · have := congrArg (·[0]?) hc0
   simpa [List.getElem?_take, List.getElem?_drop] using this
 · have := congrArg (·[0]?) hc1
   simpa [List.getElem?_take, List.getElem?_drop] using this
theorem aRx (i : Nat) (hi : i < 7) : ∃ z b, (match (Rows.laid_ulp_expfam_forms : DataW Unit) with | .agg ds => ds[i]? | _ => none) = some (.agg [.lit (.int .i64 z), .lit (.bool b)]) /\ aFJ[i * 2]? = some (.int .i64 z) /\ aFJ[i * 2 + 1]? = some (.bool b) := by
 match i, hi with
 | 0, _ => exact ⟨_, _, rfl, rfl, rfl⟩
 | 1, _ => exact ⟨_, _, rfl, rfl, rfl⟩
 | 2, _ => exact ⟨_, _, rfl, rfl, rfl⟩
 | 3, _ => exact ⟨_, _, rfl, rfl, rfl⟩
 | 4, _ => exact ⟨_, _, rfl, rfl, rfl⟩
 | 5, _ => exact ⟨_, _, rfl, rfl, rfl⟩
 | 6, _ => exact ⟨_, _, rfl, rfl, rfl⟩
theorem aEV {W : World} (h : laidMet Tryz.prog aBo W) : TabF W := by
 constructor
 · have h1 := Lib.laidMet.reads h (n := "math/bits.deBruijn64tab") (d := Rows.laid_math_bits_deBruijn64tab) (.head _)
   rw [aSN] at h1
   have h2 := aJH (P := Tryz.prog) (g := 1) (t := 165) (e := 5) (n := 64) (by kernel_rfl) (by kernel_rfl) Tryz.underlying165 Tryz.underlying5 (by kernel_rfl) (by kernel_rfl) h1
   intro j hj
   have hc := h2.cell (g := 1) (by kernel_rfl) j (by simpa using hj)
   rw [hc]
   congr 2
   simp only [List.getD_eq_getElem?_getD, List.getElem?_map]
   cases h3 : Lib.deBruijn64tab[j]? <;> simp
 · obtain ⟨g', t', cs, fuel, p, hg', ht', hvar, hd⟩ := Lib.laidMet.reads h (n := "ulp/expfam.forms") (d := Rows.laid_ulp_expfam_forms) (.tail _ (.head _))
   have hg : Tryz.prog.globalNamed "ulp/expfam.forms" = some 0 := by kernel_rfl
   have hty : (Tryz.prog.globals[0]?).map (·.type) = some 67 := by kernel_rfl
   obtain rfl := Option.some.inj (hg.symm.trans hg')
   obtain rfl := Option.some.inj (hty.symm.trans ht')
   have ce : Tryz.prog.cellsOf 66 = 2 := by kernel_rfl
   intro j u hj
   rw [World.var?_cell hg hvar j]
   obtain ⟨i, hi, hji⟩ : ∃ i, i < 7 /\ (j = i * 2 \/ j = i * 2 + 1) := by
     have : j < 14 := by
       have := (List.getElem?_eq_some_iff.1 hj).1
       exact this
     exact ⟨j / 2, by omega, by omega⟩
   obtain ⟨z, b, hd1, hc0, hc1⟩ := aRx i hi
   obtain ⟨fuel', d, q, hdi, htr⟩ := Lib.array_elem Tryz.underlying67 hd i hi
   have hdd : d = .agg [.lit (.int .i64 z), .lit (.bool b)] := by
     have hd1' := hd1
     unfold Rows.laid_ulp_expfam_forms at hd1'
     exact Option.some.inj (hdi.symm.trans hd1')
   rw [hdd, ce] at htr
   obtain ⟨k0, k1⟩ := aPh (t0 := 3) (t1 := 4) Tryz.underlying66 (by kernel_rfl) (by kernel_rfl) (by kernel_rfl) Tryz.underlying3 Tryz.underlying4 (by kernel_rfl) (by kernel_rfl) htr
   rw [List.getElem?_take, List.getElem?_drop] at k0 k1
   simp only [Nat.zero_lt_succ, if_true, Nat.one_lt_two, Nat.add_zero] at k0 k1
   rcases hji with rfl | rfl
   · rw [hc0] at hj
     rw [<- hj, <- Array.getElem?_toList]; exact k0
   · rw [hc1] at hj
     rw [<- hj, <- Array.getElem?_toList]; exact k1
end
section
open Go.RowKit
def noP (n : Int) (t : D) (p : Int) : Prop := aAT t = false \/ p < 8 \/ 3968 < p \/ (n ≠ 0 /\ n ≠ 2 /\ n ≠ 10)
instance (n : Int) (t : D) (p : Int) : Decidable (noP n t p) := by unfold noP; infer_instance
end
end Go.Proofs.YtgdkokgeldnliaaGreatDoor
