/- Contracts of functions and plain lemmas that the laws of this seat lean on. -/
import Derived.Test.YtgdkokgeldnliaaGreatDoorKEfaa
import Derived.Test.YtgdkokgeldnliaaGreatDoorKEfab
import Derived.Test.YtgdkokgeldnliaaGreatDoorRows
import Derived.WalkKit
import Derived.WalkSpells
import Derived.WalkLawsBesides
import Derived.Lib.Hide
import Derived.Deep.QuietTactic
import Derived.BigQuiet
import Derived.StillTail
import Derived.Below
import Derived.Deep.MidRow
import Derived.Laws.Tables
import Derived.Laws.CopyRow
import Derived.IntWalk
import Derived.Test.YtgdkokgeldnliaaGreatDoorShelf
import Derived.Lib.BitFns
import Derived.Lib.ItoaNum
import Derived.Lib.TrailingZeros
namespace Go.Proofs.YtgdkokgeldnliaaGreatDoor
set_option linter.unusedSimpArgs false
set_option linter.unusedVariables false
set_option linter.unusedSectionVars false
set_option linter.constructorNameAsVariable false
set_option linter.unnecessarySimpa false
section
open Go.RowKit
section
variable {P : Program} {I : World -> Prop}
theorem aAa {x y : Code} {Q : Exit -> St -> Prop} {σ : St} (h : ∀ K : St -> Prop, (∀ σ, wpx P I y Q σ -> K σ) -> wpx P I x (aAm K Q) σ) : wpx P I (.seq x y) Q σ := h _ fun _ h => h
theorem aAx {id : Nat} {ops : Array Oper} {Q : Exit -> St -> Prop} {σ : St} (h : opsX P I ops (Q .normal) ops.toList σ) : wpx P I (.region id ops false) Q σ := .inl ⟨rfl, h⟩
theorem aD3 {id : Nat} {ops : Array Oper} {Q : Exit -> St -> Prop} {σ : St} (n : Nat) (hB : aKC ops n = true) (hn : Nat.ble n ops.size = true) (h : aBB P I ops (fun σ' => opsX P I ops (Q .normal) (ops.toList.drop n) σ') (ops.toList.take n) σ) :
   wpx P I (.region id ops true) Q σ := .inr ⟨rfl, n, hB, Nat.le_of_ble_eq_true hn, h⟩
theorem aAv {id : Nat} {c : Code} {Q : Exit -> St -> Prop} {σ : St} (h : wpx P I c (aAg id Q) σ) : wpx P I (.block id c) Q σ := h
theorem aAe {Q : Exit -> St -> Prop} {σ : St} (h : Q .ret σ) : wpx P I .ret Q σ := h
theorem aAk {Q : Exit -> St -> Prop} {σ : St} (h : Q .normal σ) : wpx P I .skip Q σ := h
theorem aDh {id : Nat} {Q : Exit -> St -> Prop} {σ : St} (h : Q (.exit id) σ) : wpx P I (.exit id) Q σ := h
theorem aAf {c : Operand} {x y : Code} {Q : Exit -> St -> Prop} {σ : St} {b : Bool} (hc : σ.ev c = .lit (.bool b)) (h1 : b = true -> wpx P I x Q σ) (h2 : b = false -> wpx P I y Q σ) : wpx P I (.cond c x y) Q σ := ⟨b, hc, h1, h2⟩
def opsY (P : Program) (I : World -> Prop) (ops : Array Oper) (K : St -> Prop) (l : List Oper) (σ : St) : Prop := opsX P I ops K l σ
def aVK (P : Program) (I : World -> Prop) (ops : Array Oper) (K : St -> Prop) (l : List Oper) (σ : St) : Prop := aBB P I ops K l σ
theorem cxo {ops : Array Oper} {K : St -> Prop} {l : List Oper} {g : FuncId} {args : List AV} {r : AV} {m : AMem} {st : AV -> AMem -> St} (h : AC P I g args r) (h2 : opsX P I ops K l (st r m)) : CX P I g args m (fun r m' => opsY P I ops K l (st r m')) := h.cx m h2
def aH6 (P : Program) (I : World -> Prop) (ops : Array Oper) (K : St -> Prop) : List Tmp -> List Oper -> St -> Prop
 | _, [], σ => K σ
 | ds, o :: l, σ => match o.op with
   | .store _ _ _ | .box _ _ => opsX P I ops K (o :: l) σ
   | .alloc t => match o.guard, zerT P t, o.dst with
     | none, some z, some d => d < σ.n /\ ds.contains d = false /\ aH6 P I ops K (d :: ds) l (σ.new (some d) t (z.map aEN))
     | _, _, _ => False
   | _ => False
def aBk (P : Program) (I : World -> Prop) (ops : Array Oper) (K : St -> Prop) : List Oper -> St -> Prop
 | [], σ => K σ
 | o :: l, σ => match o.op with
   | .store _ _ _ | .box _ _ => opsX P I ops K (o :: l) σ
   | .alloc _ => aH6 P I ops K [] (o :: l) σ
   | _ => match o.guard with
     | none => o.dst.isSome = true /\ aEt P I (fun σ' => aBk P I ops K l σ') σ o
     | some (j, b) => match aCQ ops σ j b with
       | some c => o.dst.isSome = true /\ (c = b -> aEt P I (fun σ' => aBk P I ops K l σ') σ o) /\ (c = (!b) -> dOk σ o.dst /\ aBk P I ops K l (σ.put o.dst .un))
       | none => False
def aT0 (P : Program) (I : World -> Prop) (ops : Array Oper) (K : St -> Prop) (ds : List Tmp) (z : Option (List Value)) (t : TypeId) (dd : Option Tmp) (l : List Oper) (σ : St) : Prop :=
 match z, dd with
 | some z, some d => d < σ.n /\ ds.contains d = false /\ aH6 P I ops K (d :: ds) l (σ.new (some d) t (z.map aEN))
 | _, _ => False
def aTZ (P : Program) (I : World -> Prop) (ops : Array Oper) (K : St -> Prop) (l : List Oper) (σ : St) : Prop := aBk P I ops K l σ
theorem cxd {ops : Array Oper} {K : St -> Prop} {l : List Oper} {g : FuncId} {args : List AV} {r : AV} {st : AV -> St} (h : AC P I g args r) (h2 : aBk P I ops K l (st r)) : ∃ r, AC P I g args r /\ aTZ P I ops K l (st r) := ⟨r, h, h2⟩
def aCl : List Oper -> Nat
 | [] => 0
 | o :: l => match o.op with
   | .store _ _ _ | .box _ _ => 0
   | _ => aCl l + 1
theorem aJ6 : ∀ l : List Oper, aCl l <= l.length
 | [] => Nat.le_refl _
 | o :: l => by
   unfold aCl
   split
   · exact Nat.zero_le _
   · exact Nat.zero_le _
   · exact Nat.succ_le_succ (aJ6 l)
theorem aJZ {K K' : St -> Prop} {σ : St} {o : Oper} (hK : ∀ σ, K σ -> K' σ) (h : aEt P I K σ o) : aEt P I K' σ o := by
 unfold aEt at h ⊢
 split at h
 · split at h
   · split at h
     · obtain ⟨h1, r, h2, h3⟩ := h
       exact ⟨h1, r, h2, hK _ h3⟩
     · exact h.elim
   · split at h
     · exact ⟨h.1, hK _ h.2⟩
     · exact h.elim
   · exact h.elim
 · split at h
   · exact ⟨h.1, hK _ h.2⟩
   · exact h.elim
 · split at h
   · obtain ⟨h1, u, h2, h3⟩ := h
     exact ⟨h1, u, h2, hK _ h3⟩
   · split at h
     · exact ⟨h.1, hK _ h.2⟩
     · exact h.elim
 · split at h
   · exact ⟨h.1, hK _ h.2⟩
   · exact h.elim
theorem aHV {ops : Array Oper} {K : St -> Prop} : ∀ (l : List Oper) (ds : List Tmp) (σ : St), aH6 P I ops K ds l σ -> aFT P (fun σ' => opsX P I ops K (l.drop (aCl l)) σ') ds (l.take (aCl l)) σ
 | [], ds, σ, h => h
 | o :: l, ds, σ, h => by
   unfold aH6 at h
   unfold aCl
   split at h
   · rename_i e
     simp only [e, List.drop_zero, List.take_zero, aFT]
     exact h
   · rename_i e
     simp only [e, List.drop_zero, List.take_zero, aFT]
     exact h
   · rename_i t e
     simp only [e, List.drop_succ_cons, List.take_succ_cons, aFT]
     split at h
     · rename_i z d e1 e2 e3
       rw [e1]
       simp only [e2, e3]
       exact ⟨h.1, h.2.1, aHV l _ _ h.2.2⟩
     · exact h.elim
   · exact h.elim
theorem aHb {ops : Array Oper} {K : St -> Prop} : ∀ (l : List Oper) (σ : St), aBk P I ops K l σ -> aBB P I ops (fun σ' => opsX P I ops K (l.drop (aCl l)) σ') (l.take (aCl l)) σ
 | [], σ, h => h
 | o :: l, σ, h => by
   unfold aBk at h
   split at h
   · rename_i e
     unfold aCl
     simp only [e, List.drop_zero, List.take_zero, aBB]
     exact h
   · rename_i e
     unfold aCl
     simp only [e, List.drop_zero, List.take_zero, aBB]
     exact h
   · rename_i t e
     have h2 := aHV (o :: l) [] σ h
     unfold aCl at h2 ⊢
     simp only [e, List.drop_succ_cons, List.take_succ_cons, aBB] at h2 ⊢
     have hg : o.guard = none := by
       unfold aH6 at h
       rw [e] at h
       simp only at h
       split at h
       · assumption
       · exact h.elim
     rw [hg]
     simp only
     exact h2
   · rename_i e1 e2 e3
     have hl : aCl (o :: l) = aCl l + 1 := by
       show (match o.op with | .store _ _ _ | .box _ _ => 0 | _ => aCl l + 1) = aCl l + 1
       split
       · rename_i e; exact absurd e (e1 _ _ _)
       · rename_i e; exact absurd e (e2 _ _)
       · rfl
     rw [hl]
     simp only [List.drop_succ_cons, List.take_succ_cons]
     unfold aBB
     split at h
     · rename_i hg
       rw [hg]
       simp only
       exact ⟨h.1, aJZ (fun σ' h' => aHb l σ' h') h.2⟩
     · rename_i j b hg
       rw [hg]
       simp only
       split at h
       · rename_i c hc
         rw [hc]
         exact ⟨h.1, fun e => aJZ (fun σ' h' => aHb l σ' h') (h.2.1 e), fun e => ⟨(h.2.2 e).1, aHb l _ (h.2.2 e).2⟩⟩
       · exact h.elim
theorem aUs {id : Nat} {ops : Array Oper} {Q : Exit -> St -> Prop} {σ : St} (hB : aKC ops (aCl ops.toList) = true) (h : aBk P I ops (Q .normal) ops.toList σ) : wpx P I (.region id ops true) Q σ :=
 .inr ⟨rfl, aCl ops.toList, hB, by have := aJ6 ops.toList; simpa using this, aHb _ _ h⟩
def St.upd (σ : St) (d : Option Tmp) (r : AV) (m : AMem) : St := ({ σ with m := m } : St).put d r
def callM (P : Program) (I : World -> Prop) (a : AV) (args : List AV) (σ : St) (d : Option Tmp) (K : AV -> AMem -> Prop) : Prop :=
 match a with
 | .clo f cap => dOk σ d /\ CX P I f (args ++ cap) σ.m K
 | _ => False
def aR5 (P : Program) (I : World -> Prop) (a : AV) (args : List AV) (σ : St) (d : Option Tmp) (K : AV -> Prop) : Prop :=
 match a with
 | .clo f cap => dOk σ d /\ ∃ r, AC P I f (args ++ cap) r /\ K r
 | _ => False
def aI0 (P : Program) (I : World -> Prop) (t : TypeId) (x : AV) (σ : St) (d : Option Tmp) (K : AV -> Prop) : Prop :=
 match x with
 | .lit (.pointer (some a)) => dOk σ d /\ ∃ u, GL P I t a u /\ K (litA u)
 | x => match aK2 P σ.m t x with
   | some r => dOk σ d /\ K r
   | none => False
def aSd (o : Option AV) (d n : Nat) (Q : AV -> Prop) : Prop :=
 match o with
 | some r => d < n /\ Q r
 | none => False
theorem cxh {ops : Array Oper} {K : St -> Prop} {l : List Oper} {g : FuncId} {args : List AV} {r : AV} {st : AV -> St} (h : AC P I g args r) (h2 : aBB P I ops K l (st r)) : ∃ r, AC P I g args r /\ aVK P I ops K l (st r) := ⟨r, h, h2⟩
def aBI (o : Option AV) (σ : St) (d : Option Tmp) (K : St -> Prop) : Prop :=
 match o with
 | some r => dOk σ d /\ K (σ.put d r)
 | none => False
def aWe (o : Option AMem) (σ : St) (d : Option Tmp) (K : St -> Prop) : Prop :=
 match o with
 | some m => d = none /\ K { σ with m := m }
 | none => False
def aUa (o : Option (List AV)) (σ : St) (d : Option Tmp) (t : TypeId) (K : St -> Prop) : Prop :=
 match o with
 | some l => dOk σ d /\ K (σ.new d t l)
 | none => False
def aQO (P : Program) (I : World -> Prop) (ops : Array Oper) (K : St -> Prop) (c y z : AV) (dd : Option Tmp) (l : List Oper) (σ : St) : Prop :=
 match c with
 | .lit (.bool b) => dOk σ dd /\ (b = true -> opsX P I ops K l (σ.put dd y)) /\ (b = false -> opsX P I ops K l (σ.put dd z))
 | _ => False
def aHT (P : Program) (I : World -> Prop) (ops : Array Oper) (K : St -> Prop) (o : Option Bool) (b : Bool) (oo : Oper) (l : List Oper) (σ : St) : Prop :=
 match o with
 | some c => (c = b -> opsX P I ops K (oo :: l) σ) /\ (c = (!b) -> dOk σ oo.dst /\ opsX P I ops K l (σ.put oo.dst .un))
 | none => False
def aWY (P : Program) (I : World -> Prop) (ops : Array Oper) (K : St -> Prop) (o : Option Bool) (b : Bool) (oo : Oper) (l : List Oper) (σ : St) : Prop :=
 match o with
 | some c => oo.dst.isSome = true /\ (c = b -> aBk P I ops K (oo :: l) σ) /\ (c = (!b) -> dOk σ oo.dst /\ aBk P I ops K l (σ.put oo.dst .un))
 | none => False
theorem gd {ops : Array Oper} {K : St -> Prop} {c b : Bool} {d : Tmp} {op : Op} {ty : TypeId} {ps : String} {af : Array Edge} {l : List Oper} {σ : St} (h1 : c = b -> aBk P I ops K (⟨some d, op, ty, ps, af, none⟩ :: l) σ) (h2 : c = (!b) -> dOk σ (some d) /\ aBk P I ops K l (σ.put (some d) .un)) : aWY P I ops K (some c) b ⟨some d, op, ty, ps, af, none⟩ l σ := ⟨rfl, h1, h2⟩
theorem gx {ops : Array Oper} {K : St -> Prop} {c b : Bool} {oo : Oper} {l : List Oper} {σ : St} (h1 : c = b -> opsX P I ops K (oo :: l) σ) (h2 : c = (!b) -> dOk σ oo.dst /\ opsX P I ops K l (σ.put oo.dst .un)) : aHT P I ops K (some c) b oo l σ := ⟨h1, h2⟩
end
theorem xo : (∀ P I ops K σ, opsX P I ops K [] σ = K σ) /\
   (∀ ix P I ops K l σ dd ty ps af T x, opsX P I ops K (⟨dd, .indexAddr T x ix, ty, ps, af, none⟩ :: l) σ = aBI (idxV P T (σ.ev x) (σ.ev ix)) σ dd (opsX P I ops K l)) /\
   (∀ ix P I ops K l σ dd ty ps af T x, opsX P I ops K (⟨dd, .index T x ix, ty, ps, af, none⟩ :: l) σ = aBI (eltV P T (σ.ev x) (σ.ev ix)) σ dd (opsX P I ops K l)) /\
   (∀ lo hi P I ops K l σ dd ty ps af T x, opsX P I ops K (⟨dd, .slice T x lo hi none, ty, ps, af, none⟩ :: l) σ = aBI (sliV P T (σ.ev x) (lo.map σ.ev) (hi.map σ.ev)) σ dd (opsX P I ops K l)) /\
   (∀ fn cap P I ops K l σ dd ty ps af, opsX P I ops K (⟨dd, .makeFunc fn #[] cap, ty, ps, af, none⟩ :: l) σ = aBI (cloV fn [] (cap.toList.map σ.ev)) σ dd (opsX P I ops K l)) /\
   (∀ P I ops K l σ dd ty ps af x, opsX P I ops K (⟨dd, .nilCheck x, ty, ps, af, none⟩ :: l) σ = aBI (nilV (σ.ev x)) σ dd (opsX P I ops K l)) /\
   (∀ lnn P I ops K l σ dd ty ps af T parts, opsX P I ops K (⟨dd, .buildSlice T lnn parts, ty, ps, af, none⟩ :: l) σ = aBI (bslV P T lnn (parts.toList.map fun p1 => (p1.1, σ.ev p1.2))) σ dd (opsX P I ops K l)) /\
   (∀ P I ops K l σ dd ty ps af x, opsX P I ops K (⟨dd, .move x, ty, ps, af, none⟩ :: l) σ = aBI (some (σ.ev x)) σ dd (opsX P I ops K l)) /\
   (∀ P I ops K l σ dd ty ps af x, opsX P I ops K (⟨dd, .assign x, ty, ps, af, none⟩ :: l) σ = aBI (some (σ.ev x)) σ dd (opsX P I ops K l)) /\
   (∀ P I ops K l σ dd ty ps af T x f, opsX P I ops K (⟨dd, .fieldAddr T x f, ty, ps, af, none⟩ :: l) σ = aBI (fadV P T f (σ.ev x)) σ dd (opsX P I ops K l)) /\
   (∀ P I ops K l σ dd ty ps af T x f, opsX P I ops K (⟨dd, .field T x f, ty, ps, af, none⟩ :: l) σ = aBI (fldV P T f (σ.ev x)) σ dd (opsX P I ops K l)) /\
   (∀ P I ops K l σ dd ty ps af T U x y op, opsX P I ops K (⟨dd, .binOp op T x y U, ty, ps, af, none⟩ :: l) σ = aBI (binV P op T (σ.ev x) (σ.ev y)) σ dd (opsX P I ops K l)) /\
   (∀ P I ops K l σ dd ty ps af T x uop, opsX P I ops K (⟨dd, .unOp uop T x, ty, ps, af, none⟩ :: l) σ = aBI (unV uop (σ.ev x)) σ dd (opsX P I ops K l)) /\
   (∀ P I ops K l σ dd ty ps af T U x, opsX P I ops K (⟨dd, .convert T U x, ty, ps, af, none⟩ :: l) σ = aBI (cvtV P T U (σ.ev x)) σ dd (opsX P I ops K l)) /\
   (∀ P I ops K l σ dd ty ps af x f, opsX P I ops K (⟨dd, .extract x f, ty, ps, af, none⟩ :: l) σ = aBI (extV f (σ.ev x)) σ dd (opsX P I ops K l)) /\
   (∀ P I ops K l σ dd ty ps af T parts, opsX P I ops K (⟨dd, .build T parts, ty, ps, af, none⟩ :: l) σ = aBI (bldV P T (parts.toList.map fun p1 => (p1.1, σ.ev p1.2))) σ dd (opsX P I ops K l)) /\
   (∀ P I ops K l σ dd ty ps af bi aa ats, opsX P I ops K (⟨dd, .call ⟨.builtin bi, aa, ats⟩, ty, ps, af, none⟩ :: l) σ = aBI (aHd P σ bi aa.toList ats.toList) σ dd (opsX P I ops K l)) /\
   (∀ P I ops K l σ dd ty ps af x aa ats, opsX P I ops K (⟨dd, .call ⟨.value x, aa, ats⟩, ty, ps, af, none⟩ :: l) σ = callM P I (σ.ev x) (aa.toList.map σ.ev) σ dd (fun r1 m1 => opsY P I ops K l (σ.upd dd r1 m1))) /\
   (∀ P I ops K l σ dd ty ps af T x, opsX P I ops K (⟨dd, .load T x, ty, ps, af, none⟩ :: l) σ = aI0 P I T (σ.ev x) σ dd (fun r1 => opsX P I ops K l (σ.put dd r1))) /\
   (∀ P I ops K l σ dd ty ps af T, opsX P I ops K (⟨dd, .alloc T, ty, ps, af, none⟩ :: l) σ = aUa ((zerT P T).map fun z1 => z1.map aEN) σ dd T (opsX P I ops K l)) /\
   (∀ P I ops K l σ dd ty ps af T x, opsX P I ops K (⟨dd, .box T x, ty, ps, af, none⟩ :: l) σ = aUa (aCc (σ.ev x)) σ dd T (opsX P I ops K l)) /\
   (∀ P I ops K l σ dd ty ps af T x y, opsX P I ops K (⟨dd, .store T x y, ty, ps, af, none⟩ :: l) σ = aWe (aAy P σ.m T (σ.ev x) (σ.ev y)) σ dd (opsX P I ops K l)) := by
 refine ⟨?_, ?_, ?_, ?_, ?_, ?_, ?_, ?_, ?_, ?_, ?_, ?_, ?_, ?_, ?_, ?_, ?_, ?_, ?_, ?_, ?_, ?_⟩
 all_goals intros
 all_goals first | rfl | (simp only [opsX, aKA]; unfold aUa; cases zerT _ _ <;> rfl) | (simp only [opsX, aKA]; unfold callM opsY; split <;> simp_all [St.upd]) | (simp only [opsX, aKA, aEt]; unfold aI0; split <;> simp_all) | (simp only [opsX, aKA, aEt]; unfold aBI; split <;> simp_all)
theorem xh : (∀ P I ops K σ, aBB P I ops K [] σ = K σ) /\
   (∀ ix P I ops K l σ dd ty ps af T x, aBB P I ops K (⟨dd, .indexAddr T x ix, ty, ps, af, none⟩ :: l) σ = (dd.isSome = true /\ aBI (idxV P T (σ.ev x) (σ.ev ix)) σ dd (aBB P I ops K l))) /\
   (∀ ix P I ops K l σ dd ty ps af T x, aBB P I ops K (⟨dd, .index T x ix, ty, ps, af, none⟩ :: l) σ = (dd.isSome = true /\ aBI (eltV P T (σ.ev x) (σ.ev ix)) σ dd (aBB P I ops K l))) /\
   (∀ lo hi P I ops K l σ dd ty ps af T x, aBB P I ops K (⟨dd, .slice T x lo hi none, ty, ps, af, none⟩ :: l) σ = (dd.isSome = true /\ aBI (sliV P T (σ.ev x) (lo.map σ.ev) (hi.map σ.ev)) σ dd (aBB P I ops K l))) /\
   (∀ fn cap P I ops K l σ dd ty ps af, aBB P I ops K (⟨dd, .makeFunc fn #[] cap, ty, ps, af, none⟩ :: l) σ = (dd.isSome = true /\ aBI (cloV fn [] (cap.toList.map σ.ev)) σ dd (aBB P I ops K l))) /\
   (∀ P I ops K l σ dd ty ps af x, aBB P I ops K (⟨dd, .nilCheck x, ty, ps, af, none⟩ :: l) σ = (dd.isSome = true /\ aBI (nilV (σ.ev x)) σ dd (aBB P I ops K l))) /\
   (∀ lnn P I ops K l σ dd ty ps af T parts, aBB P I ops K (⟨dd, .buildSlice T lnn parts, ty, ps, af, none⟩ :: l) σ = (dd.isSome = true /\ aBI (bslV P T lnn (parts.toList.map fun p1 => (p1.1, σ.ev p1.2))) σ dd (aBB P I ops K l))) /\
   (∀ P I ops K l σ dd ty ps af x, aBB P I ops K (⟨dd, .move x, ty, ps, af, none⟩ :: l) σ = (dd.isSome = true /\ aBI (some (σ.ev x)) σ dd (aBB P I ops K l))) /\
   (∀ P I ops K l σ dd ty ps af x, aBB P I ops K (⟨dd, .assign x, ty, ps, af, none⟩ :: l) σ = (dd.isSome = true /\ aBI (some (σ.ev x)) σ dd (aBB P I ops K l))) /\
   (∀ P I ops K l σ dd ty ps af T x f, aBB P I ops K (⟨dd, .fieldAddr T x f, ty, ps, af, none⟩ :: l) σ = (dd.isSome = true /\ aBI (fadV P T f (σ.ev x)) σ dd (aBB P I ops K l))) /\
   (∀ P I ops K l σ dd ty ps af T x f, aBB P I ops K (⟨dd, .field T x f, ty, ps, af, none⟩ :: l) σ = (dd.isSome = true /\ aBI (fldV P T f (σ.ev x)) σ dd (aBB P I ops K l))) /\
   (∀ P I ops K l σ dd ty ps af T U x y op, aBB P I ops K (⟨dd, .binOp op T x y U, ty, ps, af, none⟩ :: l) σ = (dd.isSome = true /\ aBI (binV P op T (σ.ev x) (σ.ev y)) σ dd (aBB P I ops K l))) /\
   (∀ P I ops K l σ dd ty ps af T x uop, aBB P I ops K (⟨dd, .unOp uop T x, ty, ps, af, none⟩ :: l) σ = (dd.isSome = true /\ aBI (unV uop (σ.ev x)) σ dd (aBB P I ops K l))) /\
   (∀ P I ops K l σ dd ty ps af T U x, aBB P I ops K (⟨dd, .convert T U x, ty, ps, af, none⟩ :: l) σ = (dd.isSome = true /\ aBI (cvtV P T U (σ.ev x)) σ dd (aBB P I ops K l))) /\
   (∀ P I ops K l σ dd ty ps af x f, aBB P I ops K (⟨dd, .extract x f, ty, ps, af, none⟩ :: l) σ = (dd.isSome = true /\ aBI (extV f (σ.ev x)) σ dd (aBB P I ops K l))) /\
   (∀ P I ops K l σ dd ty ps af T parts, aBB P I ops K (⟨dd, .build T parts, ty, ps, af, none⟩ :: l) σ = (dd.isSome = true /\ aBI (bldV P T (parts.toList.map fun p1 => (p1.1, σ.ev p1.2))) σ dd (aBB P I ops K l))) /\
   (∀ P I ops K l σ dd ty ps af bi aa ats, aBB P I ops K (⟨dd, .call ⟨.builtin bi, aa, ats⟩, ty, ps, af, none⟩ :: l) σ = (dd.isSome = true /\ aBI (aHd P σ bi aa.toList ats.toList) σ dd (aBB P I ops K l))) /\
   (∀ P I ops K l σ dd ty ps af x aa ats, aBB P I ops K (⟨dd, .call ⟨.value x, aa, ats⟩, ty, ps, af, none⟩ :: l) σ = (dd.isSome = true /\ aR5 P I (σ.ev x) (aa.toList.map σ.ev) σ dd (fun r1 => aVK P I ops K l (σ.put dd r1)))) /\
   (∀ P I ops K l σ dd ty ps af T x, aBB P I ops K (⟨dd, .load T x, ty, ps, af, none⟩ :: l) σ = (dd.isSome = true /\ aI0 P I T (σ.ev x) σ dd (fun r1 => aBB P I ops K l (σ.put dd r1)))) := by
 refine ⟨?_, ?_, ?_, ?_, ?_, ?_, ?_, ?_, ?_, ?_, ?_, ?_, ?_, ?_, ?_, ?_, ?_, ?_, ?_⟩
 all_goals intros
 all_goals first | rfl | (simp only [aBB, aEt]; unfold aBI; split <;> simp_all) | (simp only [aBB, aEt]; unfold aR5 aVK; split <;> simp_all) | (simp only [aBB, aEt]; unfold aI0; split <;> simp_all)
theorem xd : (∀ P I ops K σ, aBk P I ops K [] σ = K σ) /\
   (∀ ix P I ops K l σ dd ty ps af T x, aBk P I ops K (⟨dd, .indexAddr T x ix, ty, ps, af, none⟩ :: l) σ = (dd.isSome = true /\ aBI (idxV P T (σ.ev x) (σ.ev ix)) σ dd (aBk P I ops K l))) /\
   (∀ ix P I ops K l σ dd ty ps af T x, aBk P I ops K (⟨dd, .index T x ix, ty, ps, af, none⟩ :: l) σ = (dd.isSome = true /\ aBI (eltV P T (σ.ev x) (σ.ev ix)) σ dd (aBk P I ops K l))) /\
   (∀ lo hi P I ops K l σ dd ty ps af T x, aBk P I ops K (⟨dd, .slice T x lo hi none, ty, ps, af, none⟩ :: l) σ = (dd.isSome = true /\ aBI (sliV P T (σ.ev x) (lo.map σ.ev) (hi.map σ.ev)) σ dd (aBk P I ops K l))) /\
   (∀ fn cap P I ops K l σ dd ty ps af, aBk P I ops K (⟨dd, .makeFunc fn #[] cap, ty, ps, af, none⟩ :: l) σ = (dd.isSome = true /\ aBI (cloV fn [] (cap.toList.map σ.ev)) σ dd (aBk P I ops K l))) /\
   (∀ P I ops K l σ dd ty ps af x, aBk P I ops K (⟨dd, .nilCheck x, ty, ps, af, none⟩ :: l) σ = (dd.isSome = true /\ aBI (nilV (σ.ev x)) σ dd (aBk P I ops K l))) /\
   (∀ lnn P I ops K l σ dd ty ps af T parts, aBk P I ops K (⟨dd, .buildSlice T lnn parts, ty, ps, af, none⟩ :: l) σ = (dd.isSome = true /\ aBI (bslV P T lnn (parts.toList.map fun p1 => (p1.1, σ.ev p1.2))) σ dd (aBk P I ops K l))) /\
   (∀ P I ops K l σ dd ty ps af x, aBk P I ops K (⟨dd, .move x, ty, ps, af, none⟩ :: l) σ = (dd.isSome = true /\ aBI (some (σ.ev x)) σ dd (aBk P I ops K l))) /\
   (∀ P I ops K l σ dd ty ps af x, aBk P I ops K (⟨dd, .assign x, ty, ps, af, none⟩ :: l) σ = (dd.isSome = true /\ aBI (some (σ.ev x)) σ dd (aBk P I ops K l))) /\
   (∀ P I ops K l σ dd ty ps af T x f, aBk P I ops K (⟨dd, .fieldAddr T x f, ty, ps, af, none⟩ :: l) σ = (dd.isSome = true /\ aBI (fadV P T f (σ.ev x)) σ dd (aBk P I ops K l))) /\
   (∀ P I ops K l σ dd ty ps af T x f, aBk P I ops K (⟨dd, .field T x f, ty, ps, af, none⟩ :: l) σ = (dd.isSome = true /\ aBI (fldV P T f (σ.ev x)) σ dd (aBk P I ops K l))) /\
   (∀ P I ops K l σ dd ty ps af T U x y op, aBk P I ops K (⟨dd, .binOp op T x y U, ty, ps, af, none⟩ :: l) σ = (dd.isSome = true /\ aBI (binV P op T (σ.ev x) (σ.ev y)) σ dd (aBk P I ops K l))) /\
   (∀ P I ops K l σ dd ty ps af T x uop, aBk P I ops K (⟨dd, .unOp uop T x, ty, ps, af, none⟩ :: l) σ = (dd.isSome = true /\ aBI (unV uop (σ.ev x)) σ dd (aBk P I ops K l))) /\
   (∀ P I ops K l σ dd ty ps af T U x, aBk P I ops K (⟨dd, .convert T U x, ty, ps, af, none⟩ :: l) σ = (dd.isSome = true /\ aBI (cvtV P T U (σ.ev x)) σ dd (aBk P I ops K l))) /\
   (∀ P I ops K l σ dd ty ps af x f, aBk P I ops K (⟨dd, .extract x f, ty, ps, af, none⟩ :: l) σ = (dd.isSome = true /\ aBI (extV f (σ.ev x)) σ dd (aBk P I ops K l))) /\
   (∀ P I ops K l σ dd ty ps af T parts, aBk P I ops K (⟨dd, .build T parts, ty, ps, af, none⟩ :: l) σ = (dd.isSome = true /\ aBI (bldV P T (parts.toList.map fun p1 => (p1.1, σ.ev p1.2))) σ dd (aBk P I ops K l))) /\
   (∀ P I ops K l σ dd ty ps af bi aa ats, aBk P I ops K (⟨dd, .call ⟨.builtin bi, aa, ats⟩, ty, ps, af, none⟩ :: l) σ = (dd.isSome = true /\ aBI (aHd P σ bi aa.toList ats.toList) σ dd (aBk P I ops K l))) /\
   (∀ P I ops K l σ dd ty ps af x aa ats, aBk P I ops K (⟨dd, .call ⟨.value x, aa, ats⟩, ty, ps, af, none⟩ :: l) σ = (dd.isSome = true /\ aR5 P I (σ.ev x) (aa.toList.map σ.ev) σ dd (fun r1 => aTZ P I ops K l (σ.put dd r1)))) /\
   (∀ P I ops K l σ dd ty ps af T x, aBk P I ops K (⟨dd, .load T x, ty, ps, af, none⟩ :: l) σ = (dd.isSome = true /\ aI0 P I T (σ.ev x) σ dd (fun r1 => aBk P I ops K l (σ.put dd r1)))) /\
   (∀ P I ops K l σ dd ty ps af x y z, aBk P I ops K (⟨dd, .pick x y z, ty, ps, af, none⟩ :: l) σ = (dd.isSome = true /\ aBI (aQP (σ.ev x) (σ.ev y) (σ.ev z)) σ dd (aBk P I ops K l))) /\
   (∀ P I ops K l σ dd ty ps af T x, aBk P I ops K (⟨dd, .box T x, ty, ps, af, none⟩ :: l) σ = opsX P I ops K (⟨dd, .box T x, ty, ps, af, none⟩ :: l) σ) /\
   (∀ P I ops K l σ dd ty ps af T x y, aBk P I ops K (⟨dd, .store T x y, ty, ps, af, none⟩ :: l) σ = opsX P I ops K (⟨dd, .store T x y, ty, ps, af, none⟩ :: l) σ) /\
   (∀ P I ops K l σ dd ty ps af T, aBk P I ops K (⟨dd, .alloc T, ty, ps, af, none⟩ :: l) σ = aT0 P I ops K [] (zerT P T) T dd l σ) /\
   (∀ ds P I ops K σ, aH6 P I ops K ds [] σ = K σ) /\
   (∀ ds P I ops K l σ dd ty ps af T, aH6 P I ops K ds (⟨dd, .alloc T, ty, ps, af, none⟩ :: l) σ = aT0 P I ops K ds (zerT P T) T dd l σ) /\
   (∀ ds P I ops K l σ dd ty ps af T x, aH6 P I ops K ds (⟨dd, .box T x, ty, ps, af, none⟩ :: l) σ = opsX P I ops K (⟨dd, .box T x, ty, ps, af, none⟩ :: l) σ) /\
   (∀ ds P I ops K l σ dd ty ps af T x y, aH6 P I ops K ds (⟨dd, .store T x y, ty, ps, af, none⟩ :: l) σ = opsX P I ops K (⟨dd, .store T x y, ty, ps, af, none⟩ :: l) σ) /\
   (∀ ds zs P I ops K l T t n m d, aT0 P I ops K ds (some zs) T (some d) l ⟨t, n, m⟩ = (d < n /\ ds.contains d = false /\ aH6 P I ops K (d :: ds) l ⟨(d, .ptr m.length 0) :: t, n, m ++ [(T, zs.map aEN)]⟩)) := by
 refine ⟨?_, ?_, ?_, ?_, ?_, ?_, ?_, ?_, ?_, ?_, ?_, ?_, ?_, ?_, ?_, ?_, ?_, ?_, ?_, ?_, ?_, ?_, ?_, ?_, ?_, ?_, ?_, ?_⟩
 all_goals intros
 all_goals first | rfl | (simp only [aBk, aEt]; unfold aBI; split <;> simp_all) | (simp only [aBk, aEt]; unfold aR5 aTZ; split <;> simp_all) | (simp only [aBk, aEt]; unfold aI0; split <;> simp_all) | (simp only [aBk, aH6]; unfold aT0; split <;> simp_all)
theorem xi : (∀ (P : Program) (T : TypeId) (i : Nat) (k : Nat) (p : Int), idxA P T p (.ptr k i) = (match arrT P T with | some (n1, e1) => (match szT P e1 with | some s1 => if 0 <= p /\ p < n1 then some (.ptr k (i + p.toNat * s1)) else none | none => none) | none => none)) /\
   (∀ (es : List AV) (P : Program) (T : TypeId) (p : Int), idxA P T p (.fp es) = (match arrT P T with | some (n1, e1) => (match szT P e1 with | some s1 => if 0 <= p /\ p < n1 then some (.fp (es.drop (p.toNat * s1))) else none | none => none) | none => none)) /\
   (∀ (bb : Nat) (P : Program) (T : TypeId) (i : Nat) (p : Int), idxA P T p (.lit (.pointer (some ⟨bb, i, none⟩))) = (match arrT P T with | some (n1, e1) => (match szT P e1 with | some s1 => if 0 <= p /\ p < n1 then some (.lit (.pointer (some ⟨bb, i + p.toNat * s1, none⟩))) else none | none => none) | none => none)) /\
   (∀ (P : Program) (T : TypeId) (lv : List AV) (p : Int) (ik : IntKind), eltV P T (.agg lv) (.lit (.int ik p)) = (match arrT P T with | some (n1, e1) => (match szT P e1 with | some s1 => if 0 <= p /\ p < n1 then aKW P e1 (lv.drop (p.toNat * s1)) else none | none => none) | none => none)) /\
   (∀ (es : List AV) (P : Program) (T : TypeId) (n : Nat) (p : Int), idxA P T p (.arr n es) = (match sliE P T with | some e1 => (match szT P e1 with | some s1 => if 0 <= p /\ p < (n : Int) then some (.fp (es.drop (p.toNat * s1))) else none | none => none) | none => none)) /\
   (∀ (es : List AV) (P : Program) (T : TypeId) (n : Nat) (p : Int) (ik : IntKind), sliV P T (.arr n es) (some (.lit (.int ik p))) none = (match sliE P T with | some e1 => (match szT P e1 with | some s1 => if 0 <= p /\ p <= (n : Int) then some (.arr (n - p.toNat) ((es.take (n * s1)).drop (p.toNat * s1))) else none | none => none) | none => none)) /\
   (∀ (P : Program) (T : TypeId) (n : Nat) (p : Int), idxA P T p (.num n) = (match sliE P T with | some e1 => (match szT P e1 with | some 1 => if 0 <= p /\ p < ((limbsOf n).length : Nat) then some (.fp [.lit (.int .u64 (gw (limbsOf n) p.toNat : Nat))]) else none | _ => none) | none => none)) /\
   (∀ (P : Program) (T : TypeId) (kl : List Nat) (p : Int), idxA P T p (.wds kl) = (match sliE P T with | some e1 => (match szT P e1 with | some 1 => if 0 <= p /\ p < (kl.length : Nat) then some (.fp [.lit (.int .u64 (gw kl p.toNat : Nat))]) else none | _ => none) | none => none)) /\
   (∀ (P : Program) (T : TypeId) (U : TypeId) (p : Int) (ik : IntKind), cvtV P T U (.lit (.int ik p)) = (match intT P T, intT P U with | some _, some k1 => some (.lit (.int k1 (k1.wrap p))) | _, _ => none)) := by
 refine ⟨?_, ?_, ?_, ?_, ?_, ?_, ?_, ?_, ?_⟩
 all_goals intros
 all_goals rfl
theorem xlw : ∀ (P : Program) (I : World -> Prop) (T : TypeId) (k i : Nat) (t : List (Nat × AV)) (n : Nat) (m : AMem) (d : Nat) (Q : AV -> Prop), aI0 P I T (.ptr k i) ⟨t, n, m⟩ (some d) Q = aSd (aAS P m T k i) d n Q := by
 intros
 unfold aI0 aSd
 simp only [aK2]
 split <;> simp_all [dOk]
theorem xlf : ∀ (P : Program) (I : World -> Prop) (T : TypeId) (es : List AV) (t : List (Nat × AV)) (n : Nat) (m : AMem) (d : Nat) (Q : AV -> Prop), aI0 P I T (.fp es) ⟨t, n, m⟩ (some d) Q = aSd (aKW P T es) d n Q := by
 intros
 unfold aI0 aSd
 simp only [aK2]
 split <;> simp_all [dOk]
theorem xbq : (∀ (r : AV) (d n : Nat) (Q : AV -> Prop), aSd (some r) d n Q = (d < n /\ Q r)) := fun _ _ _ _ => rfl
theorem xv : (∀ (K : St -> Prop) (t : List (Nat × AV)) (n : Nat) (m : AMem) (d : Nat) (r : AV), aBI (some r) ⟨t, n, m⟩ (some d) K = (d < n /\ K ⟨(d, r) :: t, n, m⟩)) /\
   (∀ (K : St -> Prop) (T : TypeId) (t : List (Nat × AV)) (n : Nat) (m : AMem) (d : Nat) (lv : List AV), aUa (some lv) ⟨t, n, m⟩ (some d) T K = (d < n /\ K ⟨(d, .ptr m.length 0) :: t, n, m ++ [(T, lv)]⟩)) /\
   (∀ (K : St -> Prop) (t : List (Nat × AV)) (n : Nat) (m : AMem) (mm : AMem), aWe (some mm) ⟨t, n, m⟩ none K = K ⟨t, n, mm⟩) /\
   (∀ (cv : List AV) (P : Program) (I : World -> Prop) (t : List (Nat × AV)) (n : Nat) (m : AMem) (d : Nat) (g : FuncId) (args : List AV) (Q : AV -> Prop), aR5 P I (.clo g cv) args ⟨t, n, m⟩ (some d) Q = (d < n /\ ∃ r1, AC P I g (args ++ cv) r1 /\ Q r1)) /\
   (∀ (cv : List AV) (QM : AV -> AMem -> Prop) (P : Program) (I : World -> Prop) (t : List (Nat × AV)) (n : Nat) (m : AMem) (d : Nat) (g : FuncId) (args : List AV), callM P I (.clo g cv) args ⟨t, n, m⟩ (some d) QM = (d < n /\ CX P I g (args ++ cv) m QM)) /\
   (∀ (cv : List AV) (QM : AV -> AMem -> Prop) (P : Program) (I : World -> Prop) (t : List (Nat × AV)) (n : Nat) (m : AMem) (g : FuncId) (args : List AV), callM P I (.clo g cv) args ⟨t, n, m⟩ none QM = CX P I g (args ++ cv) m QM) /\
   (∀ (t : List (Nat × AV)) (n : Nat) (m : AMem) (mm : AMem) (d : Nat) (r : AV), (⟨t, n, m⟩ : St).upd (some d) r mm = ⟨(d, r) :: t, n, mm⟩) /\
   (∀ (t : List (Nat × AV)) (n : Nat) (m : AMem) (mm : AMem) (r : AV), (⟨t, n, m⟩ : St).upd none r mm = ⟨t, n, mm⟩) /\
   (∀ (t : List (Nat × AV)) (n : Nat) (m : AMem) (g : FuncId), (⟨t, n, m⟩ : St).ev (.func g) = .clo g []) /\
   (∀ (t : List (Nat × AV)) (n : Nat) (m : AMem) (g : FuncId), (⟨t, n, m⟩ : St).ev (.global g) = .lit (.pointer (some ⟨g, 0, none⟩))) /\
   (∀ (t : List (Nat × AV)) (n : Nat) (m : AMem), (⟨t, n, m⟩ : St).ev (.const .nilFunc) = .lit .nilFunc) /\
   (∀ (bb : Nat) (P : Program) (I : World -> Prop) (T : TypeId) (t : List (Nat × AV)) (n : Nat) (m : AMem) (d : Nat) (i : Nat) (Q : AV -> Prop), aI0 P I T (.lit (.pointer (some ⟨bb, i, none⟩))) ⟨t, n, m⟩ (some d) Q = (d < n /\ ∃ u1, GL P I T ⟨bb, i, none⟩ u1 /\ Q (litA u1))) /\
   (∀ (es : List AV) (P : Program) (T : TypeId), aKW P T es = (match aggT P T with | some true => (match szT P T with | some n1 => if n1 <= es.length then some (.agg (es.take n1)) else none | none => none) | some false => es[0]? | none => none)) /\
   (∀ (av : AV) (P : Program) (T : TypeId) (p : Int) (ik : IntKind), idxV P T av (.lit (.int ik p)) = idxA P T p av) /\
   (∀ (es : List AV) (P : Program) (T : TypeId) (f : Nat), fadV P T f (.fp es) = (fldT P T f).map (fun d1 => .fp (es.drop d1))) /\
   (∀ (bb : Nat) (P : Program) (T : TypeId) (f : Nat) (i : Nat), fadV P T f (.lit (.pointer (some ⟨bb, i, none⟩))) = (fldT P T f).map (fun d1 => .lit (.pointer (some ⟨bb, i + d1, none⟩)))) /\
   (∀ (lv : List AV) (g : FuncId), cloV (.func g) [] lv = some (.clo g lv)) /\
   (∀ (av : AV) (r : AV), aQP (.lit (.bool true)) r av = some r) /\
   (∀ (av : AV) (r : AV), aQP (.lit (.bool false)) r av = some av) /\
   (∀ (i : Nat) (k : Nat), nilV (.ptr k i) = some (.ptr k i)) /\
   (∀ (es : List AV), nilV (.fp es) = some (.fp es)) /\
   (∀ (cv : List AV) (g : FuncId), nilV (.clo g cv) = some (.clo g cv)) /\
   (∀ (es : List AV) (n : Nat), aNo (.arr n es) = some (.lit (.int .i64 (n : Nat)))) /\
   (∀ (cv : List AV) (g : FuncId), aCc (.clo g cv) = some [.clo g cv]) /\
   (∀ (es : List AV) (n : Nat), aCc (.arr n es) = some [.arr n es]) /\
   (∀ (es : List AV), aCc (.fp es) = some [.fp es]) /\
   (∀ (i : Nat) (k : Nat), aCc (.ptr k i) = some [.ptr k i]) /\
   (∀ (kl : List Nat), aCc (.wds kl) = some [.wds kl]) /\
   (∀ (cv : List AV) (g : FuncId), oneA (.clo g cv) = true) /\
   (∀ (es : List AV) (n : Nat), oneA (.arr n es) = true) /\
   (∀ (es : List AV), oneA (.fp es) = true) /\
   (∀ (i : Nat) (k : Nat), oneA (.ptr k i) = true) /\
   (∀ (kl : List Nat), oneA (.wds kl) = true) /\
   (aCc (.lit .nilFunc) = some [.lit .nilFunc]) /\
   (oneA (.lit .nilFunc) = true) /\
   (aEN .nilFunc = .lit .nilFunc) /\
   (∀ (t : List (Nat × AV)) (n : Nat) (m : AMem) (d : Nat) (r : AV), (⟨t, n, m⟩ : St).put (some d) r = ⟨(d, r) :: t, n, m⟩) /\
   (∀ (t : List (Nat × AV)) (n : Nat) (m : AMem) (i : Nat), (⟨t, n, m⟩ : St).ev (.tmp i) = getT t i) /\
   (∀ (t : List (Nat × AV)) (n : Nat) (m : AMem) (b : Bool), (⟨t, n, m⟩ : St).ev (.const (.bool b)) = .lit (.bool b)) /\
   (∀ (t : List (Nat × AV)) (n : Nat) (m : AMem) (p : Int) (ik : IntKind), (⟨t, n, m⟩ : St).ev (.const (.int ik p)) = .lit (.int ik p)) /\
   (∀ (t : List (Nat × AV)) (n : Nat) (m : AMem), (⟨t, n, m⟩ : St).ev (.const (.slice none 0 0)) = .num 0) /\
   (∀ (t : List (Nat × AV)) (d : Nat) (r : AV) (i : Nat), getT ((d, r) :: t) i = (if i = d then r else getT t i)) /\
   (∀ (P : Program) (T : TypeId) (m : AMem) (i : Nat) (k : Nat), aK2 P m T (.ptr k i) = aAS P m T k i) /\
   (∀ (P : Program) (T : TypeId) (f : Nat) (i : Nat) (k : Nat), fadV P T f (.ptr k i) = (fldT P T f).map (fun d1 => .ptr k (i + d1))) /\
   (∀ (i : Nat) (lv : List AV), extV i (.tup lv) = lv[i]?) /\
   (∀ (kl : List Nat), aNo (.wds kl) = some (.lit (.int .i64 (kl.length : Nat)))) /\
   (∀ (k : Nat), aNo (.num k) = some (.lit (.int .i64 ((limbsOf k).length : Nat)))) /\
   (∀ (lv : List AV), aCc (.agg lv) = some lv) /\
   (∀ (k : Nat), aCc (.num k) = some [.num k]) /\
   (∀ (b : Bool), aCc (.lit (.bool b)) = some [.lit (.bool b)]) /\
   (∀ (p : Int) (ik : IntKind), aCc (.lit (.int ik p)) = some [.lit (.int ik p)]) /\
   (∀ (k : Nat), oneA (.num k) = true) /\
   (∀ (b : Bool), oneA (.lit (.bool b)) = true) /\
   (∀ (p : Int) (ik : IntKind), oneA (.lit (.int ik p)) = true) /\
   (∀ (b : Bool), aEN (.bool b) = .lit (.bool b)) /\
   (∀ (p : Int) (ik : IntKind), aEN (.int ik p) = .lit (.int ik p)) /\
   (∀ (p : Int) (ik : IntKind), unV .neg (.lit (.int ik p)) = some (.lit (.int ik (ik.wrap (0 - p))))) /\
   (∀ (b : Bool), unV .not (.lit (.bool b)) = some (.lit (.bool (!b)))) := by
 refine ⟨?_, ?_, ?_, ?_, ?_, ?_, ?_, ?_, ?_, ?_, ?_, ?_, ?_, ?_, ?_, ?_, ?_, ?_, ?_, ?_, ?_, ?_, ?_, ?_, ?_, ?_, ?_, ?_, ?_, ?_, ?_, ?_, ?_, ?_, ?_, ?_, ?_, ?_, ?_, ?_, ?_, ?_, ?_, ?_, ?_, ?_, ?_, ?_, ?_, ?_, ?_, ?_, ?_, ?_, ?_, ?_, ?_, ?_⟩
 all_goals intros
 all_goals first | rfl | (simp [aWe]; done) | (simp [callM, dOk]; done)
theorem xw : (∀ (P : Program) (T : TypeId) (p : Int) (q : Int) (ik : IntKind), binV P .add T (.lit (.int ik p)) (.lit (.int ik q)) = some (.lit (.int ik (ik.wrap (p + q))))) /\
   (∀ (P : Program) (T : TypeId) (p : Int) (q : Int) (ik : IntKind), binV P .sub T (.lit (.int ik p)) (.lit (.int ik q)) = some (.lit (.int ik (ik.wrap (p - q))))) /\
   (∀ (P : Program) (T : TypeId) (p : Int) (q : Int) (ik : IntKind), binV P .mul T (.lit (.int ik p)) (.lit (.int ik q)) = some (.lit (.int ik (ik.wrap (p * q))))) /\
   (∀ (P : Program) (T : TypeId) (p : Int) (q : Int) (ik : IntKind), binV P .eql T (.lit (.int ik p)) (.lit (.int ik q)) = some (.lit (.bool (p == q)))) /\
   (∀ (P : Program) (T : TypeId) (p : Int) (q : Int) (ik : IntKind), binV P .neq T (.lit (.int ik p)) (.lit (.int ik q)) = some (.lit (.bool (!(p == q))))) /\
   (∀ (P : Program) (T : TypeId) (p : Int) (q : Int) (ik : IntKind), binV P .lss T (.lit (.int ik p)) (.lit (.int ik q)) = some (.lit (.bool (decide (p < q))))) /\
   (∀ (P : Program) (T : TypeId) (p : Int) (q : Int) (ik : IntKind), binV P .leq T (.lit (.int ik p)) (.lit (.int ik q)) = some (.lit (.bool (decide (p <= q))))) /\
   (∀ (P : Program) (T : TypeId) (p : Int) (q : Int) (ik : IntKind), binV P .gtr T (.lit (.int ik p)) (.lit (.int ik q)) = some (.lit (.bool (decide (q < p))))) /\
   (∀ (P : Program) (T : TypeId) (p : Int) (q : Int) (ik : IntKind), binV P .geq T (.lit (.int ik p)) (.lit (.int ik q)) = some (.lit (.bool (decide (q <= p))))) /\
   (∀ (P : Program) (T : TypeId) (p : Int) (q : Int) (ik : IntKind), binV P .quo T (.lit (.int ik p)) (.lit (.int ik q)) = (if q = 0 then none else some (.lit (.int ik (ik.wrap (p.tdiv q)))))) /\
   (∀ (P : Program) (T : TypeId) (p : Int) (q : Int) (ik : IntKind), binV P .rem T (.lit (.int ik p)) (.lit (.int ik q)) = (if q = 0 then none else some (.lit (.int ik (p.tmod q))))) /\
   (∀ (P : Program) (T : TypeId) (p : Int) (q : Int) (ik : IntKind), binV P .and T (.lit (.int ik p)) (.lit (.int ik q)) = some (.lit (.int ik (aFS ik (· &&& ·) p q)))) /\
   (∀ (P : Program) (T : TypeId) (p : Int) (q : Int) (ik : IntKind), binV P .or T (.lit (.int ik p)) (.lit (.int ik q)) = some (.lit (.int ik (aFS ik (· ||| ·) p q)))) /\
   (∀ (P : Program) (T : TypeId) (p : Int) (q : Int) (ik : IntKind), binV P .xor T (.lit (.int ik p)) (.lit (.int ik q)) = some (.lit (.int ik (aFS ik (· ^^^ ·) p q)))) /\
   (∀ (P : Program) (T : TypeId) (p : Int) (q : Int) (ik : IntKind) (jk : IntKind), binV P .shl T (.lit (.int ik p)) (.lit (.int jk q)) = (if 0 <= q then some (.lit (.int ik (shlI ik p q))) else none)) /\
   (∀ (P : Program) (T : TypeId) (p : Int) (q : Int) (ik : IntKind) (jk : IntKind), binV P .shr T (.lit (.int ik p)) (.lit (.int jk q)) = (if 0 <= q then some (.lit (.int ik (shrI ik p q))) else none)) /\
   (∀ (p : Int) (q : Int) (ik : IntKind), aNk (.lit (.int ik p)) (.lit (.int ik q)) = some (.lit (.int ik (if p < q then q else p)))) /\
   (∀ (p : Int) (q : Int) (ik : IntKind), aNh (.lit (.int ik p)) (.lit (.int ik q)) = some (.lit (.int ik (if q < p then q else p)))) := by
 refine ⟨?_, ?_, ?_, ?_, ?_, ?_, ?_, ?_, ?_, ?_, ?_, ?_, ?_, ?_, ?_, ?_, ?_, ?_⟩
 all_goals intros
 all_goals simp only [binV, binA, if_true, Option.map_some, aNk, aNh]
 all_goals split <;> rfl
theorem xe : (∀ (P : Program) (T : TypeId) (b : Bool) (c : Bool), binV P .eql T (.lit (.bool b)) (.lit (.bool c)) = (if aNN P T = true then some (.lit (.bool (b == c))) else none)) /\
   (∀ (P : Program) (T : TypeId) (b : Bool) (c : Bool), binV P .neq T (.lit (.bool b)) (.lit (.bool c)) = (if aNN P T = true then some (.lit (.bool (!(b == c)))) else none)) := by
 refine ⟨?_, ?_⟩
 all_goals intros
 all_goals simp only [binV, binA]
 all_goals split <;> rfl
theorem xl : aEN (.slice none 0 0) = .num 0 /\
   (∀ (a : AV) (l : List AV), (a :: l)[0]? = some a) /\ (∀ (a : AV) (l : List AV) (i : Nat), (a :: l)[i + 1]? = l[i]?) /\
   (∀ l : List AV, l.drop 0 = l) /\ (∀ (a : AV) (l : List AV) (i : Nat), (a :: l).drop (i + 1) = l.drop i) /\ (∀ i : Nat, ([] : List AV).drop i = []) /\
   (∀ l : List AV, l.take 0 = []) /\ (∀ (a : AV) (l : List AV) (i : Nat), (a :: l).take (i + 1) = a :: l.take i) /\ (∀ i : Nat, ([] : List AV).take i = []) /\
   ([] : List AV).length = 0 /\ (∀ (a : AV) (l : List AV), (a :: l).length = l.length + 1) /\
   (∀ l : List AV, [] ++ l = l) /\ (∀ l : List AV, l ++ [] = l) /\ (∀ (a : AV) (l r : List AV), (a :: l) ++ r = a :: (l ++ r)) /\
   ([] : List AV).all oneA = true /\ (∀ (a : AV) (l : List AV), (a :: l).all oneA = (oneA a && l.all oneA)) /\
   (∀ (a : TypeId × List AV) (l : AMem), (a :: l)[0]? = some a) /\ (∀ (a : TypeId × List AV) (l : AMem) (i : Nat), (a :: l)[i + 1]? = l[i]?) /\
   (∀ (a b : TypeId × List AV) (l : AMem), (a :: l).set 0 b = b :: l) /\ (∀ (a b : TypeId × List AV) (l : AMem) (i : Nat), (a :: l).set (i + 1) b = a :: l.set i b) /\
   ([] : AMem).length = 0 /\ (∀ (a : TypeId × List AV) (l : AMem), (a :: l).length = l.length + 1) /\
   (∀ l : AMem, [] ++ l = l) /\ (∀ (a : TypeId × List AV) (l r : AMem), (a :: l) ++ r = a :: (l ++ r)) /\
   (∀ (a : Nat × Nat) (l : List (Nat × Nat)), (a :: l)[0]? = some a) /\ (∀ (a : Nat × Nat) (l : List (Nat × Nat)) (i : Nat), (a :: l)[i + 1]? = l[i]?) /\
   (∀ l : List Operand, l.toArray.toList = l) /\ (∀ l : List TypeId, l.toArray.toList = l) /\ (∀ l : List Oper, l.toArray.toList = l) /\ (∀ l : List (Nat × Operand), l.toArray.toList = l) /\
   (∀ f : Operand -> AV, [].map f = []) /\ (∀ (f : Operand -> AV) (a : Operand) (l : List Operand), (a :: l).map f = f a :: l.map f) /\
   (∀ f : Value -> AV, [].map f = []) /\ (∀ (f : Value -> AV) (a : Value) (l : List Value), (a :: l).map f = f a :: l.map f) /\
   (∀ f : Nat × Operand -> Nat × AV, [].map f = []) /\ (∀ (f : Nat × Operand -> Nat × AV) (a : Nat × Operand) (l : List (Nat × Operand)), (a :: l).map f = f a :: l.map f) /\
   (∀ (f : Nat -> AV) (a : Nat), (some a).map f = some (f a)) /\ (∀ (f : List Value -> List AV) (a : List Value), (some a).map f = some (f a)) /\ (∀ (f : List AV -> AV) (a : List AV), (some a).map f = some (f a)) /\
   (∀ l : List Oper, l.drop 0 = l) /\ (∀ (a : Oper) (l : List Oper) (i : Nat), (a :: l).drop (i + 1) = l.drop i) /\ (∀ i : Nat, ([] : List Oper).drop i = []) /\
   (∀ l : List Oper, l.take 0 = []) /\ (∀ (a : Oper) (l : List Oper) (i : Nat), (a :: l).take (i + 1) = a :: l.take i) /\ (∀ i : Nat, ([] : List Oper).take i = []) /\
   (∀ p : Prop, (True /\ p) = p) /\ (true && true) = true /\ (∀ (K : St -> Prop) (Q : Exit -> St -> Prop), aAm K Q .normal = K) /\ (∀ a : Nat, (some a).isSome = true) /\ (∀ i : Nat, 0 + i = i) := by
 refine ⟨rfl, ?_⟩
 simp
 intro K Q
 rfl
theorem xg : (∀ (P : Program) (I : World -> Prop) (ops : Array Oper) (K : St -> Prop) (l : List Oper) (σ : St) (dd : Option Tmp) (op : Op) (ty : TypeId) (ps : String) (af : Array Edge) (f : Nat) (b : Bool), opsX P I ops K (⟨dd, op, ty, ps, af, some (f, b)⟩ :: l) σ = aHT P I ops K (aCQ ops σ f b) b ⟨dd, op, ty, ps, af, none⟩ l σ) /\
   (∀ (P : Program) (I : World -> Prop) (ops : Array Oper) (K : St -> Prop) (l : List Oper) (σ : St) (oo : Oper), aHT P I ops K (some true) true oo l σ = opsX P I ops K (oo :: l) σ) /\
   (∀ (P : Program) (I : World -> Prop) (ops : Array Oper) (K : St -> Prop) (l : List Oper) (σ : St) (oo : Oper), aHT P I ops K (some false) true oo l σ = (dOk σ oo.dst /\ opsX P I ops K l (σ.put oo.dst .un))) /\
   (∀ (P : Program) (I : World -> Prop) (ops : Array Oper) (K : St -> Prop) (l : List Oper) (σ : St) (oo : Oper), aHT P I ops K (some false) false oo l σ = opsX P I ops K (oo :: l) σ) /\
   (∀ (P : Program) (I : World -> Prop) (ops : Array Oper) (K : St -> Prop) (l : List Oper) (σ : St) (oo : Oper), aHT P I ops K (some true) false oo l σ = (dOk σ oo.dst /\ opsX P I ops K l (σ.put oo.dst .un))) := by
 refine ⟨?_, ?_, ?_, ?_, ?_⟩
 · intro P I ops K l σ dd op ty ps af f b
   simp only [opsX, aHT]
   cases aCQ ops σ f b with
   | none => rfl
   | some c => cases op <;> rfl
 all_goals intros
 all_goals simp [aHT]
theorem xp : (∀ (P : Program) (I : World -> Prop) (ops : Array Oper) (K : St -> Prop) (l : List Oper) (σ : St) (dd : Option Tmp) (x y z : Operand) (ty : TypeId) (ps : String) (af : Array Edge), opsX P I ops K (⟨dd, .pick x y z, ty, ps, af, none⟩ :: l) σ = aQO P I ops K (σ.ev x) (σ.ev y) (σ.ev z) dd l σ) /\
   (∀ (P : Program) (I : World -> Prop) (ops : Array Oper) (K : St -> Prop) (l : List Oper) (σ : St) (dd : Option Tmp) (y z : AV), aQO P I ops K (.lit (.bool true)) y z dd l σ = (dOk σ dd /\ opsX P I ops K l (σ.put dd y))) /\
   (∀ (P : Program) (I : World -> Prop) (ops : Array Oper) (K : St -> Prop) (l : List Oper) (σ : St) (dd : Option Tmp) (y z : AV), aQO P I ops K (.lit (.bool false)) y z dd l σ = (dOk σ dd /\ opsX P I ops K l (σ.put dd z))) := by
 refine ⟨?_, ?_, ?_⟩
 · intro P I ops K l σ dd x y z ty ps af
   simp only [opsX, aKA, aQO]
   apply propext
   constructor
   · rintro ⟨h1, b, h2, h3, h4⟩
     rw [h2]
     exact ⟨h1, h3, h4⟩
   · intro h
     split at h
     · rename_i b hb
       exact ⟨h.1, b, hb, h.2.1, h.2.2⟩
     · exact h.elim
 all_goals intros
 all_goals simp [aQO]
theorem gdt {P : Program} {I : World -> Prop} {ops : Array Oper} {K : St -> Prop} {l : List Oper} {σ : St} {dd : Option Tmp} {op : Op} {ty : TypeId} {ps : String} {af : Array Edge} {f : Nat} {b : Bool} {c : Bool} (hc : aCQ ops σ f b = some c) (hno : (match op with | .store _ _ _ | .box _ _ | .alloc _ => false | _ => true) = true) (hd : dd.isSome = true)
   (h1 : c = b -> aBk P I ops K (⟨dd, op, ty, ps, af, none⟩ :: l) σ) (h2 : c = (!b) -> dOk σ dd /\ aBk P I ops K l (σ.put dd .un)) : aBk P I ops K (⟨dd, op, ty, ps, af, some (f, b)⟩ :: l) σ := by
 cases op <;> first
   | (cases hno; done)
   | (simp only [aBk, hc]; exact ⟨hd, fun e => (h1 e).2, h2⟩)
theorem gd1 {P : Program} {I : World -> Prop} {ops : Array Oper} {K : St -> Prop} {l : List Oper} {σ : St} {d : Tmp} {op : Op} {ty : TypeId} {ps : String} {af : Array Edge} {f : Nat} {b : Bool} (hc : aCQ ops σ f b = some b) (hno : (match op with | .store _ _ _ | .box _ _ | .alloc _ => false | _ => true) = true) (h1 : aBk P I ops K (⟨some d, op, ty, ps, af, none⟩ :: l) σ) : aBk P I ops K (⟨some d, op, ty, ps, af, some (f, b)⟩ :: l) σ :=
 gdt hc hno rfl (fun _ => h1) (fun e => by cases b <;> cases e)
theorem gd0 {P : Program} {I : World -> Prop} {ops : Array Oper} {K : St -> Prop} {l : List Oper} {σ : St} {d : Tmp} {op : Op} {ty : TypeId} {ps : String} {af : Array Edge} {f : Nat} {b : Bool} (hc : aCQ ops σ f b = some (!b)) (hno : (match op with | .store _ _ _ | .box _ _ | .alloc _ => false | _ => true) = true) (hd : d < σ.n) (h2 : aBk P I ops K l (σ.put (some d) .un)) : aBk P I ops K (⟨some d, op, ty, ps, af, some (f, b)⟩ :: l) σ :=
 gdt hc hno rfl (fun e => by cases b <;> cases e) (fun _ => ⟨hd, h2⟩)
theorem xb : (∀ (P : Program) (σ : St) (T : TypeId) (x : Operand) (ts : List TypeId), aHd P σ .len [x] (T :: ts) = (if sliT P T = true then aNo (σ.ev x) else none)) /\
   (∀ (P : Program) (σ : St) (x : Operand) (y : Operand) (ts : List TypeId), aHd P σ .max [x, y] ts = aNk (σ.ev x) (σ.ev y)) /\
   (∀ (P : Program) (σ : St) (x : Operand) (y : Operand) (ts : List TypeId), aHd P σ .min [x, y] ts = aNh (σ.ev x) (σ.ev y)) := by
 refine ⟨?_, ?_, ?_⟩
 all_goals intros
 all_goals rfl
end
section
open Go.RowKit
theorem Tryz.ty : (aggT Tryz.prog 1 = some false) /\
   (szT Tryz.prog 1 = some 1) /\
   (zerT Tryz.prog 1 = some [.nilFunc]) /\
   (aggT Tryz.prog 2 = some false) /\
   (szT Tryz.prog 2 = some 1) /\
   (zerT Tryz.prog 2 = some [.int .i64 0]) /\
   (intT Tryz.prog 2 = some .i64) /\
   (aggT Tryz.prog 3 = some false) /\
   (szT Tryz.prog 3 = some 1) /\
   (zerT Tryz.prog 3 = some [.int .i64 0]) /\
   (intT Tryz.prog 3 = some .i64) /\
   (aggT Tryz.prog 4 = some false) /\
   (szT Tryz.prog 4 = some 1) /\
   (zerT Tryz.prog 4 = some [.bool false]) /\
   (aNN Tryz.prog 4 = true) /\
   (aggT Tryz.prog 22 = some false) /\
   (szT Tryz.prog 22 = some 1) /\
   (zerT Tryz.prog 22 = some [.int .u8 0]) /\
   (intT Tryz.prog 22 = some .u8) /\
   (aggT Tryz.prog 23 = some false) /\
   (szT Tryz.prog 23 = some 1) /\
   (zerT Tryz.prog 23 = some [.int .u64 0]) /\
   (intT Tryz.prog 23 = some .u64) /\
   (aggT Tryz.prog 24 = some false) /\
   (szT Tryz.prog 24 = some 1) /\
   (zerT Tryz.prog 24 = some [.slice none 0 0]) /\
   (sliE Tryz.prog 24 = some 23) /\
   (sliT Tryz.prog 24 = true) /\
   (aggT Tryz.prog 25 = some false) /\
   (szT Tryz.prog 25 = some 1) /\
   (zerT Tryz.prog 25 = some [.slice none 0 0]) /\
   (sliE Tryz.prog 25 = some 23) /\
   (sliT Tryz.prog 25 = true) /\
   (aggT Tryz.prog 27 = some true) /\
   (szT Tryz.prog 27 = some 3) /\
   (zerT Tryz.prog 27 = some [.bool false, .slice none 0 0, .int .i64 0]) /\
   (fldT Tryz.prog 27 0 = some 0) /\
   (fldX Tryz.prog 27 0 = some (false, 0, 1)) /\
   (fldT Tryz.prog 27 1 = some 1) /\
   (fldX Tryz.prog 27 1 = some (false, 1, 1)) /\
   (fldT Tryz.prog 27 2 = some 2) /\
   (fldX Tryz.prog 27 2 = some (false, 2, 1)) /\
   (bldT Tryz.prog 27 = some ([(0, 1), (1, 1), (2, 1)], [.bool false, .slice none 0 0, .int .i64 0])) /\
   (aggT Tryz.prog 29 = some true) /\
   (szT Tryz.prog 29 = some 6) /\
   (zerT Tryz.prog 29 = some [.bool false, .slice none 0 0, .int .i64 0, .bool false, .slice none 0 0, .int .i64 0]) /\
   (fldT Tryz.prog 29 0 = some 0) /\
   (fldX Tryz.prog 29 0 = some (true, 0, 3)) /\
   (fldT Tryz.prog 29 1 = some 3) /\
   (fldX Tryz.prog 29 1 = some (true, 3, 3)) /\
   (bldT Tryz.prog 29 = some ([(0, 3), (3, 3)], [.bool false, .slice none 0 0, .int .i64 0, .bool false, .slice none 0 0, .int .i64 0])) /\
   (aggT Tryz.prog 30 = some false) /\
   (szT Tryz.prog 30 = some 1) /\
   (zerT Tryz.prog 30 = some [.int .i64 0]) /\
   (intT Tryz.prog 30 = some .i64) /\
   (aggT Tryz.prog 55 = some false) /\
   (szT Tryz.prog 55 = some 1) /\
   (zerT Tryz.prog 55 = some [.slice none 0 0]) /\
   (sliE Tryz.prog 55 = some 29) /\
   (sliT Tryz.prog 55 = true) /\
   (aggT Tryz.prog 66 = some true) /\
   (szT Tryz.prog 66 = some 2) /\
   (zerT Tryz.prog 66 = some [.int .i64 0, .bool false]) /\
   (fldT Tryz.prog 66 0 = some 0) /\
   (fldX Tryz.prog 66 0 = some (false, 0, 1)) /\
   (fldT Tryz.prog 66 1 = some 1) /\
   (fldX Tryz.prog 66 1 = some (false, 1, 1)) /\
   (bldT Tryz.prog 66 = some ([(0, 1), (1, 1)], [.int .i64 0, .bool false])) /\
   (aggT Tryz.prog 67 = some true) /\
   (szT Tryz.prog 67 = some 14) /\
   (zerT Tryz.prog 67 = some [.int .i64 0, .bool false, .int .i64 0, .bool false, .int .i64 0, .bool false, .int .i64 0, .bool false, .int .i64 0, .bool false, .int .i64 0, .bool false, .int .i64 0, .bool false]) /\
   (arrT Tryz.prog 67 = some (7, 66)) /\
   (bldT Tryz.prog 67 = some ([(0, 2), (2, 2), (4, 2), (6, 2), (8, 2), (10, 2), (12, 2)], [.int .i64 0, .bool false, .int .i64 0, .bool false, .int .i64 0, .bool false, .int .i64 0, .bool false, .int .i64 0, .bool false, .int .i64 0, .bool false, .int .i64 0, .bool false])) /\
   (aggT Tryz.prog 68 = some false) /\
   (szT Tryz.prog 68 = some 1) /\
   (zerT Tryz.prog 68 = some [.int .u8 0]) /\
   (intT Tryz.prog 68 = some .u8) /\
   (aggT Tryz.prog 70 = some true) /\
   (szT Tryz.prog 70 = some 2) /\
   (zerT Tryz.prog 70 = some [.int .u8 0, .int .i64 0]) /\
   (fldT Tryz.prog 70 0 = some 0) /\
   (fldX Tryz.prog 70 0 = some (false, 0, 1)) /\
   (fldT Tryz.prog 70 1 = some 1) /\
   (fldX Tryz.prog 70 1 = some (false, 1, 1)) /\
   (bldT Tryz.prog 70 = some ([(0, 1), (1, 1)], [.int .u8 0, .int .i64 0])) /\
   (aggT Tryz.prog 77 = some false) /\
   (szT Tryz.prog 77 = some 1) /\
   (zerT Tryz.prog 77 = some [.nilFunc]) /\
   (aggT Tryz.prog 79 = some false) /\
   (szT Tryz.prog 79 = some 1) /\
   (zerT Tryz.prog 79 = some [.nilFunc]) /\
   (aggT Tryz.prog 91 = some true) /\
   (szT Tryz.prog 91 = some 3) /\
   (zerT Tryz.prog 91 = some [.bool false, .int .i64 0, .int .u64 0]) /\
   (fldT Tryz.prog 91 0 = some 0) /\
   (fldX Tryz.prog 91 0 = some (false, 0, 1)) /\
   (fldT Tryz.prog 91 1 = some 1) /\
   (fldX Tryz.prog 91 1 = some (false, 1, 1)) /\
   (fldT Tryz.prog 91 2 = some 2) /\
   (fldX Tryz.prog 91 2 = some (false, 2, 1)) /\
   (bldT Tryz.prog 91 = some ([(0, 1), (1, 1), (2, 1)], [.bool false, .int .i64 0, .int .u64 0])) /\
   (aggT Tryz.prog 92 = some false) /\
   (szT Tryz.prog 92 = some 1) /\
   (zerT Tryz.prog 92 = some [.int .u64 0]) /\
   (intT Tryz.prog 92 = some .u64) /\
   (aggT Tryz.prog 98 = some false) /\
   (szT Tryz.prog 98 = some 1) /\
   (zerT Tryz.prog 98 = some [.slice none 0 0]) /\
   (sliE Tryz.prog 98 = some 27) /\
   (sliT Tryz.prog 98 = true) /\
   (aggT Tryz.prog 115 = some true) /\
   (szT Tryz.prog 115 = some 3) /\
   (zerT Tryz.prog 115 = some [.bool false, .slice none 0 0, .int .i64 0]) /\
   (fldT Tryz.prog 115 0 = some 0) /\
   (fldX Tryz.prog 115 0 = some (false, 0, 1)) /\
   (fldT Tryz.prog 115 1 = some 1) /\
   (fldX Tryz.prog 115 1 = some (false, 1, 1)) /\
   (fldT Tryz.prog 115 2 = some 2) /\
   (fldX Tryz.prog 115 2 = some (false, 2, 1)) /\
   (bldT Tryz.prog 115 = some ([(0, 1), (1, 1), (2, 1)], [.bool false, .slice none 0 0, .int .i64 0])) /\
   (aggT Tryz.prog 128 = some false) /\
   (szT Tryz.prog 128 = some 1) /\
   (zerT Tryz.prog 128 = some [.nilFunc]) /\
   (aggT Tryz.prog 136 = some true) /\
   (szT Tryz.prog 136 = some 2) /\
   (zerT Tryz.prog 136 = some [.slice none 0 0, .int .u64 0]) /\
   (fldT Tryz.prog 136 0 = some 0) /\
   (fldX Tryz.prog 136 0 = some (false, 0, 1)) /\
   (fldT Tryz.prog 136 1 = some 1) /\
   (fldX Tryz.prog 136 1 = some (false, 1, 1)) /\
   (bldT Tryz.prog 136 = some ([(0, 1), (1, 1)], [.slice none 0 0, .int .u64 0])) /\
   (aggT Tryz.prog 146 = some true) /\
   (szT Tryz.prog 146 = some 2) /\
   (zerT Tryz.prog 146 = some [.slice none 0 0, .int .u64 0]) /\
   (fldT Tryz.prog 146 0 = some 0) /\
   (fldX Tryz.prog 146 0 = some (false, 0, 1)) /\
   (fldT Tryz.prog 146 1 = some 1) /\
   (fldX Tryz.prog 146 1 = some (false, 1, 1)) /\
   (bldT Tryz.prog 146 = some ([(0, 1), (1, 1)], [.slice none 0 0, .int .u64 0])) /\
   (aggT Tryz.prog 150 = some false) /\
   (szT Tryz.prog 150 = some 1) /\
   (zerT Tryz.prog 150 = some [.nilFunc]) /\
   (aggT Tryz.prog 151 = some false) /\
   (szT Tryz.prog 151 = some 1) /\
   (zerT Tryz.prog 151 = some [.nilFunc]) /\
   (aggT Tryz.prog 156 = some true) /\
   (szT Tryz.prog 156 = some 2) /\
   (zerT Tryz.prog 156 = some [.nilFunc, .bool false]) /\
   (fldT Tryz.prog 156 0 = some 0) /\
   (fldX Tryz.prog 156 0 = some (false, 0, 1)) /\
   (fldT Tryz.prog 156 1 = some 1) /\
   (fldX Tryz.prog 156 1 = some (false, 1, 1)) /\
   (bldT Tryz.prog 156 = some ([(0, 1), (1, 1)], [.nilFunc, .bool false])) /\
   (aggT Tryz.prog 157 = some true) /\
   (szT Tryz.prog 157 = some 16) /\
   (zerT Tryz.prog 157 = some [.nilFunc, .bool false, .nilFunc, .bool false, .nilFunc, .bool false, .nilFunc, .bool false, .nilFunc, .bool false, .nilFunc, .bool false, .nilFunc, .bool false, .nilFunc, .bool false]) /\
   (arrT Tryz.prog 157 = some (8, 156)) /\
   (bldT Tryz.prog 157 = some ([(0, 2), (2, 2), (4, 2), (6, 2), (8, 2), (10, 2), (12, 2), (14, 2)], [.nilFunc, .bool false, .nilFunc, .bool false, .nilFunc, .bool false, .nilFunc, .bool false, .nilFunc, .bool false, .nilFunc, .bool false, .nilFunc, .bool false, .nilFunc, .bool false])) /\
   (aggT Tryz.prog 171 = some true) /\
   (szT Tryz.prog 171 = some 4) /\
   (zerT Tryz.prog 171 = some [.slice none 0 0, .int .u64 0, .slice none 0 0, .int .u64 0]) /\
   (arrT Tryz.prog 171 = some (2, 146)) /\
   (bldT Tryz.prog 171 = some ([(0, 2), (2, 2)], [.slice none 0 0, .int .u64 0, .slice none 0 0, .int .u64 0])) :=
 ⟨by kernel_rfl, by kernel_rfl, by kernel_rfl, by kernel_rfl, by kernel_rfl, by kernel_rfl, by kernel_rfl, by kernel_rfl, by kernel_rfl, by kernel_rfl, by kernel_rfl, by kernel_rfl, by kernel_rfl, by kernel_rfl, by kernel_rfl, by kernel_rfl, by kernel_rfl, by kernel_rfl, by kernel_rfl, by kernel_rfl, by kernel_rfl, by kernel_rfl, by kernel_rfl, by kernel_rfl, by kernel_rfl, by kernel_rfl, by kernel_rfl, by kernel_rfl, by kernel_rfl, by kernel_rfl, by kernel_rfl, by kernel_rfl, by kernel_rfl, by kernel_rfl, by kernel_rfl, by kernel_rfl, by kernel_rfl, by kernel_rfl, by kernel_rfl, by kernel_rfl, by kernel_rfl, by kernel_rfl, by kernel_rfl, by kernel_rfl, by kernel_rfl, by kernel_rfl, by kernel_rfl, by kernel_rfl, by kernel_rfl, by kernel_rfl, by kernel_rfl, by kernel_rfl, by kernel_rfl, by kernel_rfl, by kernel_rfl, by kernel_rfl, by kernel_rfl, by kernel_rfl, by kernel_rfl, by kernel_rfl, by kernel_rfl, by kernel_rfl, by kernel_rfl, by kernel_rfl, by kernel_rfl, by kernel_rfl, by kernel_rfl, by kernel_rfl, by kernel_rfl, by kernel_rfl, by kernel_rfl, by kernel_rfl, by kernel_rfl, by kernel_rfl, by kernel_rfl, by kernel_rfl, by kernel_rfl, by kernel_rfl, by kernel_rfl, by kernel_rfl, by kernel_rfl, by kernel_rfl, by kernel_rfl, by kernel_rfl, by kernel_rfl, by kernel_rfl, by kernel_rfl, by kernel_rfl, by kernel_rfl, by kernel_rfl, by kernel_rfl, by kernel_rfl, by kernel_rfl, by kernel_rfl, by kernel_rfl, by kernel_rfl, by kernel_rfl, by kernel_rfl, by kernel_rfl, by kernel_rfl, by kernel_rfl, by kernel_rfl, by kernel_rfl, by kernel_rfl, by kernel_rfl, by kernel_rfl, by kernel_rfl, by kernel_rfl, by kernel_rfl, by kernel_rfl, by kernel_rfl, by kernel_rfl, by kernel_rfl, by kernel_rfl, by kernel_rfl, by kernel_rfl, by kernel_rfl, by kernel_rfl, by kernel_rfl, by kernel_rfl, by kernel_rfl, by kernel_rfl, by kernel_rfl, by kernel_rfl, by kernel_rfl, by kernel_rfl, by kernel_rfl, by kernel_rfl, by kernel_rfl, by kernel_rfl, by kernel_rfl, by kernel_rfl, by kernel_rfl, by kernel_rfl, by kernel_rfl, by kernel_rfl, by kernel_rfl, by kernel_rfl, by kernel_rfl, by kernel_rfl, by kernel_rfl, by kernel_rfl, by kernel_rfl, by kernel_rfl, by kernel_rfl, by kernel_rfl, by kernel_rfl, by kernel_rfl, by kernel_rfl, by kernel_rfl, by kernel_rfl, by kernel_rfl, by kernel_rfl, by kernel_rfl, by kernel_rfl, by kernel_rfl, by kernel_rfl, by kernel_rfl, by kernel_rfl, by kernel_rfl, by kernel_rfl, by kernel_rfl, by kernel_rfl⟩
theorem w64 {n : Int} (h : -9223372036854775808 <= n /\ n <= 9223372036854775807) : IntKind.i64.wrap n = n := IntWalk.i64_in _ (by omega)
theorem aCn (n : Int) : IntKind.u64.wrap n = n % 18446744073709551616 := by
 unfold IntKind.wrap
 have hs : IntKind.u64.signed = false := rfl
 have hb : IntKind.u64.bits = 64 := rfl
 simp [hs, hb]
theorem xm : (∀ (l : AMem) (x : TypeId × List AV), (l ++ [x])[l.length]? = some x) /\ (∀ (l : AMem) (x y : TypeId × List AV), (l ++ [x]).set l.length y = l ++ [y]) /\ (∀ (l : AMem) (x : TypeId × List AV), (l ++ [x]).length = l.length + 1) /\
   (∀ (l : AMem) (x y : TypeId × List AV), (l ++ [x] ++ [y])[l.length + 1]? = some y) /\ (∀ (l : AMem) (x y : TypeId × List AV), (l ++ [x] ++ [y])[l.length]? = some x) /\
   (∀ (l : AMem) (x y z : TypeId × List AV), (l ++ [x] ++ [y]).set (l.length + 1) z = l ++ [x] ++ [z]) /\ (∀ (l : AMem) (x y z : TypeId × List AV), (l ++ [x] ++ [y]).set l.length z = l ++ [z] ++ [y]) := by
 refine ⟨fun l x => by simp, fun l x y => by simp, fun l x => by simp, fun l x y => by simp [List.getElem?_append_right], fun l x y => by simp, fun l x y z => by simp, fun l x y z => by simp⟩
theorem aAb {P : Program} {I : World -> Prop} {id : Nat} {ops : Array Oper} {Q : Exit -> St -> Prop} {σ : St} (h : ∀ os : Array Oper, opsX P I os (Q .normal) ops.toList σ) : wpx P I (.region id ops false) Q σ := aAx (h ops)
theorem aAB {P : Program} {I : World -> Prop} {id : Nat} {ops : Array Oper} {Q : Exit -> St -> Prop} {σ : St} (hB : aKC ops (aCl ops.toList) = true) (h : ∀ os : Array Oper, aBk P I os (Q .normal) ops.toList σ) : wpx P I (.region id ops true) Q σ := aUs hB (h ops)
theorem hk {P : Program} {I : World -> Prop} {K : St -> Prop} {c : Code} {Q : Exit -> St -> Prop} {σ : St} (g : ∀ σ, wpx P I c Q σ -> K σ) (h : wpx P I c Q σ) : K σ := g σ h
theorem aDg {P : Program} {I : World -> Prop} {c : Code} {Q : Exit -> St -> Prop} {σ : St} (R : Nat -> St -> Prop) (n : Nat) (h0 : R n σ) (h : ∀ n σ', R n σ' -> wpx P I c (aAm (fun σ'' => ∃ k, k < n /\ R k σ'') Q) σ') : wpx P I (.loop c) Q σ := ⟨R, ⟨n, h0⟩, h⟩
theorem cxoz {P : Program} {I : World -> Prop} {ops : Array Oper} {K : St -> Prop} {l : List Oper} {g : FuncId} {args : List AV} {r : AV} {m : AMem} {st : AV -> AMem -> St} {Z : Prop} (h : AC P I g args r /\ Z) (h2 : Z -> opsX P I ops K l (st r m)) : CX P I g args m (fun r m' => opsY P I ops K l (st r m')) := cxo h.1 (h2 h.2)
theorem cxdz {P : Program} {I : World -> Prop} {ops : Array Oper} {K : St -> Prop} {l : List Oper} {g : FuncId} {args : List AV} {r : AV} {st : AV -> St} {Z : Prop} (h : AC P I g args r /\ Z) (h2 : Z -> aBk P I ops K l (st r)) : ∃ r, AC P I g args r /\ aTZ P I ops K l (st r) := cxd h.1 (h2 h.2)
theorem cxin {P : Program} {I : World -> Prop} {f : FuncId} {fn : Func} {c : Code} {args : List AV} {m : AMem} {Q : AV -> AMem -> Prop} (hf : P.funcs[f]? = some fn) (hb : fn.body = some c) (hk : aHW P f = true) (hI : aHK I) (hmix : P.follows .mixedOrders = true)
   (hlen : Nat.ble args.length fn.ntmps = true) (h : wpx P I c (endM P fn Q) ⟨aAl 0 args, fn.ntmps, m⟩) : CX P I f args m Q := aR1 hf hb hk hI hmix hlen h
theorem aCU {P : Program} {fn : Func} {Q : AV -> AMem -> Prop} {σ : St} {r : AV} (h : resX P σ fn = some r) (h2 : Q r σ.m) : endM P fn Q .ret σ := ⟨r, h, h2⟩
theorem aIo {P : Program} {fn : Func} {Q : AV -> AMem -> Prop} {σ : St} {r : AV} (h : resX P σ fn = some r) (h2 : Q r σ.m) : endM P fn Q .normal σ := ⟨r, h, h2⟩
end
section
open Go.RowKit
theorem xza {α : Type} : (∀ (a : α) (l : List α), (a :: l).length = l.length + 1) /\ (([] : List α).length = 0) /\ (∀ (l : List α) (i : Nat), l.toArray[i]? = l[i]?) /\ (∀ (a : α) (l : List α), (a :: l)[0]? = some a) /\ (∀ (a : α) (l : List α) (i : Nat), (a :: l)[i + 1]? = l[i]?) :=
 ⟨fun _ _ => rfl, rfl, fun _ _ => List.getElem?_toArray .., fun _ _ => rfl, fun _ _ _ => rfl⟩
theorem xzb {α : Type} [BEq α] : (∀ a : α, ([] : List α).contains a = false) /\ (∀ (a x : α) (l : List α), (x :: l).contains a = (a == x || l.contains a)) := ⟨fun _ => List.contains_nil, fun _ _ _ => List.contains_cons⟩
theorem xzc {α β : Type} : (∀ (a : α) (f : α -> Option β), (some a).bind f = f a) /\ (∀ (a : α) (f : α -> β), (some a).map f = some (f a)) /\ (∀ f : α -> β, Option.map f none = none) := ⟨fun _ _ => rfl, fun _ _ => rfl, fun _ => rfl⟩
theorem xzd : (∀ b : Bool, (b || false) = b) /\ (∀ b : Bool, (false || b) = b) /\ (∀ b : Bool, (b || b) = b) /\ ((!true) = false) /\ ((!false) = true) /\ (∀ n : Nat, (n : Int).toNat = n) /\ (∀ p : Prop, (p /\ p) = p) /\ (∀ p : Prop, (p /\ True) = p) /\ (∀ p : Prop, (True /\ p) = p) /\
   (∀ h : Decidable True, @decide True h = true) /\ (∀ h : Decidable False, @decide False h = false) /\ (∀ a b : Int, (a > b) = (b < a)) /\ (∀ a b : Int, (a >= b) = (b <= a)) /\ (∀ a b : Nat, (a > b) = (b < a)) /\ (∀ a b : Nat, (a >= b) = (b <= a)) :=
 ⟨Bool.or_false, Bool.false_or, Bool.or_self, rfl, rfl, Int.toNat_natCast, and_self, and_true, true_and, fun _ => decide_eq_true trivial, fun _ => decide_eq_false id, fun _ _ => rfl, fun _ _ => rfl, fun _ _ => rfl, fun _ _ => rfl⟩
theorem tx1 (K : St -> Prop) (Q : Exit -> St -> Prop) (σ : St) : aAm K Q .ret σ = Q .ret σ := rfl
theorem tx2 (K : St -> Prop) (Q : Exit -> St -> Prop) (i : Nat) (σ : St) : aAm K Q (.exit i) σ = Q (.exit i) σ := rfl
theorem bx1 (j : Nat) (Q : Exit -> St -> Prop) (σ : St) : aAg j Q .ret σ = Q .ret σ := rfl
theorem bx2 (j : Nat) (Q : Exit -> St -> Prop) (σ : St) : aAg j Q .normal σ = Q .normal σ := rfl
theorem xq : type_of% @xo /\ type_of% @xd /\ type_of% @xm /\ type_of% @xg /\ type_of% @xp /\ type_of% @xlw /\ type_of% @xlf /\ type_of% @xbq /\ type_of% @xv /\ type_of% @xw /\ type_of% @xe /\ type_of% @xb /\ type_of% @xl /\ type_of% @xi /\ type_of% @xza /\ type_of% @xzb /\ type_of% @xzc /\ type_of% @xzd /\ type_of% @w64 /\ type_of% @Tryz.ty /\ type_of% @aAm.eq_1 /\ type_of% @tx1 /\ type_of% @tx2 /\ type_of% @aAg.eq_1 /\ type_of% @bx1 /\ type_of% @bx2 /\ type_of% @aAS.eq_1 /\ type_of% @aAQ.eq_1 /\ type_of% @aAQ.eq_2 /\ type_of% @aI8.eq_1 /\ type_of% @aI8.eq_2 /\ type_of% @bslV.eq_1 /\ type_of% @aAy.eq_1 /\ type_of% @bldV.eq_1 /\ type_of% @fldV.eq_1 /\ type_of% @aNk.eq_1 /\ type_of% @aNh.eq_1 /\ type_of% @litA.eq_1 /\ type_of% @litA.eq_2 /\ type_of% @aCQ.eq_1 /\ type_of% @dstAt.eq_1 /\ type_of% @dOk.eq_1 /\ type_of% @dOk.eq_2 :=
 ⟨@xo, @xd, @xm, @xg, @xp, @xlw, @xlf, @xbq, @xv, @xw, @xe, @xb, @xl, @xi, @xza, @xzb, @xzc, @xzd, @w64, @Tryz.ty, @aAm.eq_1, @tx1, @tx2, @aAg.eq_1, @bx1, @bx2, @aAS.eq_1, @aAQ.eq_1, @aAQ.eq_2, @aI8.eq_1, @aI8.eq_2, @bslV.eq_1, @aAy.eq_1, @bldV.eq_1, @fldV.eq_1, @aNk.eq_1, @aNh.eq_1, @litA.eq_1, @litA.eq_2, @aCQ.eq_1, @dstAt.eq_1, @dOk.eq_1, @dOk.eq_2⟩
theorem xn : (∀ (p : Prop) [Decidable p], (decide p = true) = p) /\ (∀ (p : Prop) [Decidable p], (decide p = false) = ¬ p) /\ (∀ a b : Int, ((a == b) = true) = (a = b)) /\ (∀ a b : Nat, ((a == b) = true) = (a = b)) /\ (∀ a b : Bool, ((a == b) = true) = (a = b)) /\
   (∀ a b : Int, ((a == b) = false) = ¬ (a = b)) /\ (∀ a b : Nat, ((a == b) = false) = ¬ (a = b)) /\ (∀ a b : Bool, ((a == b) = false) = ¬ (a = b)) /\ (∀ a b : Int, ((a != b) = true) = ¬ (a = b)) /\ (∀ a b : Nat, ((a != b) = true) = ¬ (a = b)) /\ (∀ a b : Bool, ((a != b) = true) = ¬ (a = b)) /\
   (∀ b : Bool, ((!b) = true) = (b = false)) /\ (∀ b : Bool, ((!b) = false) = (b = true)) /\ ((!true) = false) /\ ((!false) = true) /\ (∀ (p : Prop) [Decidable p], (¬ ¬ p) = p) /\ (∀ a b : Int, (a ≠ b) = ¬ (a = b)) /\ (∀ a b : Nat, (a ≠ b) = ¬ (a = b)) /\ (∀ a b : Bool, (a ≠ b) = ¬ (a = b)) := by
 refine ⟨fun _ _ => decide_eq_true_eq, fun _ _ => by simp, ?_, ?_, ?_, ?_, ?_, ?_, ?_, ?_, ?_, ?_, ?_, rfl, rfl, fun p _ => by simp, fun _ _ => rfl, fun _ _ => rfl, fun _ _ => rfl⟩
 all_goals
   intros
   simp
section
variable {P : Program} {I : World -> Prop}
theorem goK {K R : St -> Prop} {σ : St} (g : ∀ σ, R σ -> K σ) (h : R σ) : K σ := g σ h
def noG : List Oper -> Bool
 | [] => true
 | o :: l => match o.guard with
   | none => noG l
   | some _ => false
theorem aAU {id : Nat} {ops : Array Oper} {Q : Exit -> St -> Prop} {σ : St} (_ : noG ops.toList = true) (h : ∀ os : Array Oper, opsX P I os (Q .normal) ops.toList σ) : wpx P I (.region id ops false) Q σ := aAb h
theorem aB7 {id : Nat} {ops : Array Oper} {Q : Exit -> St -> Prop} {σ : St} (h : opsX P I ops (Q .normal) ops.toList σ) : wpx P I (.region id ops false) Q σ := aAx h
theorem aCR {id : Nat} {ops : Array Oper} {Q : Exit -> St -> Prop} {σ : St} (_ : noG ops.toList = true) (hB : aKC ops (aCl ops.toList) = true) (h : ∀ os : Array Oper, aBk P I os (Q .normal) ops.toList σ) : wpx P I (.region id ops true) Q σ := aAB hB h
theorem aLC {id : Nat} {ops : Array Oper} {Q : Exit -> St -> Prop} {σ : St} (hB : aKC ops (aCl ops.toList) = true) (h : aBk P I ops (Q .normal) ops.toList σ) : wpx P I (.region id ops true) Q σ := aUs hB h
end
end
section
set_option maxHeartbeats 1000000
open Go.RowKit
def aUh (w : World) (lo : Nat) (l : List Nat) (e : Ending) (w' : World) : Prop := ∃ v, e = .returned v /\ Num lo w' v (valN l) /\ w = w'
theorem aIa {lo : Nat} {w : World} {x : Option Addr} {cap k : Nat} {l : List Nat} (hk : k <= l.length) (hz : ∀ j, k <= j -> gw l j = 0) (hl : k = 0 \/ gw l (k - 1) ≠ 0) (h : aAE lo w (.slice x l.length cap) l) :
   Num lo w (.slice x k k) (valN l) := by
 have hc : l.length <= cap := by
   obtain ⟨_, _, e, hc, _⟩ := h
   injection e with _ _ e
   subst e; exact hc
 have h1 := h.take k k hk (Nat.le_refl _) (Nat.le_trans hk hc)
 have h2 := aJS h.ok k hk hz hl
 have h3 : (limbsOf (valN l)).length = k := by rw [<- h2, List.length_take, Nat.min_eq_left hk]
 unfold Num
 rw [<- h2]
 exact h1
theorem aBM (lo : Nat) (a : Value) (l : List Nat) (w : World) (ha : aAE lo w a l) :
   Calls Tryz.prog 93 #[a] w (aUh w lo l) := by
 have ha0 := ha
 obtain ⟨x, cap, rfl, hcap, hcm, hok, hx⟩ := ha
 have HA := Lib.hid ha0
 have HX := Lib.hid hx
 clear ha0 hx
 go_enter Tryz.func93, Tryz.ntmps93
 go_wp2_with fail
 go_loop [3] (fun i => ∃ k : Nat, k <= l.length /\ i = .int .i64 k /\ Hid (∀ j, k <= j -> gw l j = 0)) (fun i => (intOf i).toNat)
 case atStart => exact ⟨l.length, Nat.le_refl _, rfl, fun j hj => aGk hj⟩
 case round =>
   obtain ⟨k, hk, rfl, hz⟩ := hrel
   by_cases h0 : k = 0
   · subst h0
     go_wp2
     go_ret
     exact ⟨_, rfl, aIa hk hz.out (.inl rfl) HA.out, rfl⟩
   · obtain ⟨m, rfl⟩ : ∃ m, k = m + 1 := ⟨k - 1, by omega⟩
     obtain ⟨b, off, rfl, hlo, hc⟩ := HX.out m (by omega)
     cases hv : (((gw l m : Nat) : Int) == 0)
     · have hne : m + 1 = 0 \/ gw l (m + 1 - 1) ≠ 0 := .inr (by rw [Nat.add_sub_cancel]; have := beq_eq_false_iff_ne.1 hv; omega)
       have HN := Lib.hid hne
       clear hne
       go_wp2
       go_ret
       exact ⟨_, rfl, aIa hk hz.out HN.out HA.out, rfl⟩
     · have hz' : Hid (∀ j, m <= j -> gw l j = 0) := fun j hj => by
         by_cases e : m = j
         · subst e; have := beq_iff_eq.1 hv; omega
         · exact hz.out j (by omega)
       clear hz
       go_wp2
       go_round
       case rel => exact ⟨m, by omega, rfl, hz'⟩
       case measure => simp [intOf]
theorem aUV (n : Int) (w : World) (h0 : 0 <= n) (h1 : n < 18446744073709551616) :
   Calls Tryz.prog 92 #[.int .u64 n] w (aCW w w.heap.size n.toNat) := by
 cases hv : (n == 0)
 · have hne : n ≠ 0 := beq_eq_false_iff_ne.1 hv
   have hl : limbsOf n.toNat = [n.toNat] := by
     rw [aC7 (by omega), Nat.mod_eq_of_lt (by omega), Nat.div_eq_of_lt (by omega), aAZ]
   have HL := Lib.hid hl
   have HN := Lib.hid hne
   clear hl hne
   go_enter Tryz.func92, Tryz.ntmps92
   go_wp2
   go_ret
   refine ⟨_, rfl, ?_, (Below.refl _ _).alloc (Nat.le_refl _) _⟩
   have hn : ((n.toNat : Nat) : Int) = n := Int.toNat_of_nonneg h0
   have hb : Blk (w.alloc (.cells (wArr [n.toNat]) 23)) w.heap.size (wArr [n.toNat]) 23 := Blk.new _ _ _
   have hw : wArr [n.toNat] = #[Value.int .u64 n] := by simp [wArr, hn]
   unfold Num
   rw [HL.out]
   have := aAE.ofBlk_all (lo := w.heap.size) hb (Nat.le_refl _) (aIi (by omega) aFD) (by simp)
   rw [hw] at this
   exact this
 · have e : n = 0 := beq_iff_eq.1 hv
   subst e
   go_enter Tryz.func92, Tryz.ntmps92
   go_wp2
   go_ret
   exact ⟨_, rfl, Num.zero _ _ _ _ (by omega), Below.refl _ _⟩
end
section
def bl (n : Nat) : Nat := if n = 0 then 0 else Nat.log2 n + 1
theorem aGM : bl 0 = 0 := rfl
theorem aD6 {n : Nat} (h : n ≠ 0) : 0 < bl n := by unfold bl; rw [if_neg h]; omega
theorem aDO (n : Nat) : n < 2 ^ bl n := by
 unfold bl
 split
 · rename_i h; subst h; decide
 · exact Nat.lt_log2_self
theorem aHJ {n : Nat} (h : n ≠ 0) : 2 ^ (bl n - 1) <= n := by
 unfold bl; rw [if_neg h, Nat.add_sub_cancel]; exact Nat.log2_self_le h
theorem aFQ {n k : Nat} (h1 : 2 ^ k <= n) (h2 : n < 2 ^ (k + 1)) : bl n = k + 1 := by
 have hn : n ≠ 0 := by have := Nat.two_pow_pos k; omega
 have a := aDO n
 have b := aHJ hn
 have c := aD6 hn
 have d : k < bl n := (Nat.pow_lt_pow_iff_right (by decide : 1 < 2)).1 (Nat.lt_of_le_of_lt h1 a)
 have e : bl n - 1 < k + 1 := (Nat.pow_lt_pow_iff_right (by decide : 1 < 2)).1 (Nat.lt_of_le_of_lt b h2)
 omega
theorem aC8 {n k : Nat} (h : n < 2 ^ k) : bl n <= k := by
 by_cases hn : n = 0
 · subst hn; rw [aGM]; exact Nat.zero_le _
 · have b := aHJ hn
   have : bl n - 1 < k := (Nat.pow_lt_pow_iff_right (by decide : 1 < 2)).1 (Nat.lt_of_le_of_lt b h)
   omega
theorem aFR {a b : Nat} (h : a <= b) : bl a <= bl b := aC8 (Nat.lt_of_le_of_lt h (aDO b))
theorem aT9 {n : Nat} (h : n ≠ 0) (k : Nat) : bl (n * 2 ^ k) = bl n + k := by
 obtain ⟨m, hm⟩ : ∃ m, bl n = m + 1 := ⟨bl n - 1, by have := aD6 h; omega⟩
 have a := aDO n
 have b := aHJ h
 rw [hm] at a b
 rw [Nat.add_sub_cancel] at b
 rw [hm, show m + 1 + k = m + k + 1 by omega]
 apply aFQ
 · rw [Nat.pow_add]; exact Nat.mul_le_mul_right _ b
 · rw [show m + k + 1 = (m + 1) + k by omega, Nat.pow_add]
   exact Nat.mul_lt_mul_of_pos_right a (Nat.two_pow_pos k)
theorem aJs (n : Nat) : bl n = Lib.bitLen n \/ 18446744073709551616 <= n := by
 by_cases hb : 18446744073709551616 <= n
 · exact .inr hb
 left
 by_cases hn : n = 0
 · subst hn; rfl
 · obtain ⟨h0, h2, h1⟩ := Lib.bitLenAux_bounds 64 n (by omega) hn
   show bl n = Lib.bitLenAux 64 n
   obtain ⟨m, hm⟩ : ∃ m, Lib.bitLenAux 64 n = m + 1 := ⟨Lib.bitLenAux 64 n - 1, by omega⟩
   rw [hm] at h1 h2 ⊢
   exact aFQ (by simpa using h2) h1
theorem aOL {n : Nat} (h : n ≠ 0) : bl n = 64 * ((limbsOf n).length - 1) + Lib.bitLen (gw (limbsOf n) ((limbsOf n).length - 1)) := by
 have hl : (limbsOf n).length ≠ 0 := by rw [Ne, aAG]; exact h
 obtain ⟨m, hm⟩ : ∃ m, (limbsOf n).length = m + 1 := ⟨_, (Nat.succ_pred_eq_of_ne_zero hl).symm⟩
 have h2 : n = vt (limbsOf n) (m + 1) := by rw [aBn _ _ (by omega), aAi]
 have h3 := aJE (aBg n) m
 have h4 := aFH h
 have h5 := aA3 (aBg n) m
 rw [hm, Nat.add_sub_cancel] at h4 ⊢
 rw [aAC] at h2
 generalize gw (limbsOf n) m = t at *
 generalize vt (limbsOf n) m = u at *
 have e := (aJs t).resolve_right (by omega)
 rw [<- e]
 obtain ⟨k, hk⟩ : ∃ k, bl t = k + 1 := ⟨bl t - 1, by have := aD6 h4; omega⟩
 have a := aDO t
 have b := aHJ h4
 rw [hk] at a b
 rw [Nat.add_sub_cancel] at b
 rw [hk, <- Nat.add_assoc]
 rw [aDo] at h2 h3
 apply aFQ
 · rw [Nat.pow_add, Nat.mul_comm, h2]; exact Nat.le_trans (Nat.mul_le_mul_right _ b) (Nat.le_add_left _ _)
 · rw [Nat.add_assoc, Nat.pow_add, h2]
   have : (t + 1) * 2 ^ (64 * m) <= 2 ^ (k + 1) * 2 ^ (64 * m) := Nat.mul_le_mul_right _ a
   rw [Nat.add_mul, Nat.one_mul] at this
   rw [Nat.mul_comm (2 ^ (64 * m))]
   omega
def tz (n : Nat) : Nat := if h : n = 0 then 0 else if n % 2 = 1 then 0 else tz (n / 2) + 1
termination_by n
decreasing_by omega
theorem aP1 : tz 0 = 0 := by unfold tz; rfl
theorem aN4 {n : Nat} (h : n % 2 = 1) : tz n = 0 := by
 unfold tz
 split
 · rfl
 · rfl
theorem aP3 {n : Nat} (h0 : n ≠ 0) (h : n % 2 = 0) : tz n = tz (n / 2) + 1 := by
 conv => lhs; unfold tz
 rw [dif_neg h0, if_neg (by omega)]
theorem aP2 {m : Nat} (h : m % 2 = 1) (k : Nat) : tz (2 ^ k * m) = k := by
 induction k with
 | zero => rw [Nat.pow_zero, Nat.one_mul]; exact aN4 h
 | succ k ih =>
   have hp := Nat.two_pow_pos k
   have hm : m ≠ 0 := by omega
   have hne : 2 ^ (k + 1) * m ≠ 0 := Nat.mul_ne_zero (by have := Nat.two_pow_pos (k + 1); omega) hm
   have e : 2 ^ (k + 1) * m = 2 * (2 ^ k * m) := by rw [Nat.pow_succ]; grind
   rw [aP3 hne (by omega), e, Nat.mul_div_cancel_left _ (by decide), ih]
theorem aGr {n : Nat} (h : n ≠ 0) : ∃ m, n = 2 ^ tz n * m /\ m % 2 = 1 := by
 induction n using Nat.strongRecOn with
 | _ n ih =>
   by_cases ho : n % 2 = 1
   · rw [aN4 ho]; exact ⟨n, by simp, ho⟩
   · obtain ⟨m, h1, h2⟩ := ih (n / 2) (by omega) (by omega)
     rw [aP3 h (by omega)]
     refine ⟨m, ?_, h2⟩
     rw [Nat.pow_succ]
     have : n = 2 * (n / 2) := by omega
     rw [this, h1]
     have e := aP2 h2 (tz (n / 2))
     rw [<- h1] at e
     grind
theorem aLI {n k m : Nat} (h : n = 2 ^ k * m) (hm : m % 2 = 1) : tz n = k := by rw [h]; exact aP2 hm k
theorem aMW {n : Nat} (h : n ≠ 0) : tz n < bl n := by
 obtain ⟨m, h1, h2⟩ := aGr h
 have : 2 ^ tz n <= n := by
                           conv => rhs; rw [h1]
                           exact Nat.le_mul_of_pos_right _ (by omega)
 exact (Nat.pow_lt_pow_iff_right (by decide : 1 < 2)).1 (Nat.lt_of_le_of_lt this (aDO n))
end
section
set_option maxHeartbeats 1000000
open Go.RowKit
theorem aOV (lo : Nat) (a : Value) (l : List Nat) (w : World) (ha : aAE lo w a l) (hl : (limbsOf (valN l)).length <= 17592186044416) :
   Calls Tryz.prog 149 #[a] w fun e w' => e = .returned (.int .i64 ((bl (valN l) : Nat) : Int)) /\ w = w' := by
 have hlen := hl
 clear hl
 generalize hn : valN l = n at *
 have HN := Lib.hid hn
 clear hn
 go_enter Tryz.func149, Tryz.ntmps149
 go_wp2_with fail
 refine (aBM lo _ l _ ha).mono ?_
 rintro e w1 ⟨v, rfl, hv, rfl⟩
 rw [HN.out] at hv
 obtain ⟨x, cap, rfl, hcap, hcm, hok, hx⟩ := hv
 by_cases h0 : n = 0
 · subst h0
   have e0 : (limbsOf 0).length = 0 := by rw [aAZ]; rfl
   clear hx hok
   go_wp2
   go_ret
   exact ⟨rfl, rfl⟩
 · have hL : (limbsOf n).length ≠ 0 := by rw [Ne, aAG]; exact h0
   have hbl := aOL h0
   have HBL := Lib.hid hbl
   have hgw := aA3 hok.1 ((limbsOf n).length - 1)
   have hb64 := Lib.bitLen_le (gw (limbsOf n) ((limbsOf n).length - 1)) 64 (by decide) hgw
   obtain ⟨m, hm⟩ : ∃ m, (limbsOf n).length = m + 1 := ⟨_, (Nat.succ_pred_eq_of_ne_zero hL).symm⟩
   obtain ⟨b, off, rfl, hlo, hc⟩ := hx m (by omega)
   rw [hm] at hlen hcap hgw hb64
   rw [Nat.add_sub_cancel] at hgw hb64
   have hbe : (((m : Nat) : Int) + 1 == 0) = false := beq_eq_false_iff_ne.2 (by omega)
   have HM := Lib.hid hm
   clear hbl hx hok
   rw [HM.out]
   clear hm h0 hL
   go_wp2_with (go_at_call 174; refine (Tryz.bits_Len64 _ _ (by omega) (by omega)).mono ?_; rintro e w1 ⟨rfl, rfl⟩)
   go_ret
   refine ⟨aEH ?_, rfl⟩
   rw [HBL.out, HM.out, Nat.add_sub_cancel]
   omega
theorem aWl (lo : Nat) (a : Value) (l : List Nat) (w : World) (ha : aAE lo w a l) (hl : l.length <= 17592186044416) :
   Calls Tryz.prog 149 #[a] w fun e w' => e = .returned (.int .i64 ((bl (valN l) : Nat) : Int)) /\ w = w' := aOV lo a l w ha (Nat.le_trans (aA4 (aBr ha.ok)) hl)
end
section
open Go.RowKit Go.Shelf
def aS (x y c : Nat) : Nat := (x + y + c) % 18446744073709551616
def aC (x y c : Nat) : Nat := (x + y + c) / 18446744073709551616
def sD (x y c : Nat) : Nat := (x + 18446744073709551616 - y - c) % 18446744073709551616
def sB (x y c : Nat) : Nat := if x < y + c then 1 else 0
def mH (x y : Nat) : Nat := x * y / 18446744073709551616
def mL (x y : Nat) : Nat := x * y % 18446744073709551616
theorem aJN (x y c : Nat) : aS x y c < 18446744073709551616 := Nat.mod_lt _ (by decide)
theorem aSV (x y c : Nat) : sD x y c < 18446744073709551616 := Nat.mod_lt _ (by decide)
theorem aRa (x y : Nat) : mL x y < 18446744073709551616 := Nat.mod_lt _ (by decide)
theorem aPL {x y c : Nat} (hx : x < 18446744073709551616) (hy : y < 18446744073709551616) (hc : c <= 1) : aC x y c <= 1 := by unfold aC; omega
theorem aSW (x y c : Nat) : sB x y c <= 1 := by unfold sB; split <;> omega
theorem aJO (x y c : Nat) : aS x y c + 18446744073709551616 * aC x y c = x + y + c := by unfold aS aC; omega
theorem aSU {x y c : Nat} (hx : x < 18446744073709551616) (hy : y < 18446744073709551616) (hc : c <= 1) : sD x y c + y + c = x + 18446744073709551616 * sB x y c := by
 unfold sD sB; split <;> omega
theorem aPr (x y : Nat) : mL x y + 18446744073709551616 * mH x y = x * y := by unfold mL mH; omega
theorem aWQ {x y : Nat} (hx : x < 18446744073709551616) (hy : y < 18446744073709551616) : mH x y <= 18446744073709551614 := by
 have : x * y <= 18446744073709551615 * 18446744073709551615 := Nat.mul_le_mul (by omega) (by omega)
 unfold mH; omega
theorem aSn (x y c : Nat) (hc : c <= 1) (w : World) : (callFunc 119 #[.int .u64 ((x : Nat) : Int), .int .u64 ((y : Nat) : Int), .int .u64 ((c : Nat) : Int)]).run Tryz.prog w =
   .ok (.value (.tuple #[.int .u64 ((aS x y c : Nat) : Int), .int .u64 ((aC x y c : Nat) : Int)])) w :=
 Any7.bits_Add64 Tryz.lays7_25 x y c hc w
theorem aLw (x c : Nat) (hc : c <= 1) (w : World) : (callFunc 119 #[.int .u64 ((x : Nat) : Int), .int .u64 0, .int .u64 ((c : Nat) : Int)]).run Tryz.prog w =
   .ok (.value (.tuple #[.int .u64 ((aS x 0 c : Nat) : Int), .int .u64 ((aC x 0 c : Nat) : Int)])) w := aSn x 0 c hc w
theorem aLx (x y : Nat) (w : World) : (callFunc 119 #[.int .u64 ((x : Nat) : Int), .int .u64 ((y : Nat) : Int), .int .u64 0]).run Tryz.prog w =
   .ok (.value (.tuple #[.int .u64 ((aS x y 0 : Nat) : Int), .int .u64 ((aC x y 0 : Nat) : Int)])) w := aSn x y 0 (by decide) w
theorem aSP (x y c : Nat) (hc : c <= 1) (w : World) : (callFunc 120 #[.int .u64 ((x : Nat) : Int), .int .u64 ((y : Nat) : Int), .int .u64 ((c : Nat) : Int)]).run Tryz.prog w =
   .ok (.value (.tuple #[.int .u64 ((sD x y c : Nat) : Int), .int .u64 ((sB x y c : Nat) : Int)])) w :=
 Any7.bits_Sub64 Tryz.lays7_26 x y c hc w
theorem aSO (x c : Nat) (hc : c <= 1) (w : World) : (callFunc 120 #[.int .u64 ((x : Nat) : Int), .int .u64 0, .int .u64 ((c : Nat) : Int)]).run Tryz.prog w =
   .ok (.value (.tuple #[.int .u64 ((sD x 0 c : Nat) : Int), .int .u64 ((sB x 0 c : Nat) : Int)])) w := aSP x 0 c hc w
theorem aVC (x y : Nat) (hx : x < 18446744073709551616) (hy : y < 18446744073709551616) (w : World) :
   Calls Tryz.prog 188 #[.int .u64 ((x : Nat) : Int), .int .u64 ((y : Nat) : Int)] w fun e w' => e = .returned (.tuple #[.int .u64 ((mH x y : Nat) : Int), .int .u64 ((mL x y : Nat) : Int)]) /\ w = w' :=
 (Tryz.bits_Mul64 x y hx hy w).mono fun _ _ ⟨h, h2⟩ => ⟨h, h2.symm⟩
theorem aB6 {w : World} {g : Nat} {z : List Nat} {e : TypeId} (h : Blk w g (wArr z) e) (i x : Nat) : Blk (w.setCell ⟨g, i, none⟩ (.int .u64 ((x : Nat) : Int))) g (wArr (z.set i x)) e := by
 have := h.set i (.int .u64 ((x : Nat) : Int))
 rwa [aN1 z i x _ rfl] at this
theorem aId {V X Y P s c c' x y : Nat} (h1 : V + c * P = X + Y) (h2 : s + 18446744073709551616 * c' = x + y + c) : (V + s * P) + c' * (18446744073709551616 * P) = (X + x * P) + (Y + y * P) := by
 grind
theorem aLM {V X Y P s c c' x y : Nat} (h1 : V + Y = X + c * P) (h2 : s + y + c = x + 18446744073709551616 * c') : (V + s * P) + (Y + y * P) = (X + x * P) + c' * (18446744073709551616 * P) := by
 grind
end
section
set_option maxRecDepth 100000
set_option maxHeartbeats 2000000
open Go.RowKit
def aSF (w : World) (x y : List Nat) (u6 u22 : Value) (wr : World) : Prop :=
 ∃ (i c : Nat) (z : List Nat), i <= x.length /\ u22 = .int .i64 i /\ u6 = .int .u64 c /\ c <= 1 /\ z.length = x.length + 1 /\ okW z /\ vt z i + c * pw i = vt x i + vt y i /\
   Blk wr w.heap.size (wArr z) 23 /\ Below w.heap.size w wr
theorem aHh {w wr : World} {x y z : List Nat} {i c s c' : Nat} (hs : vt z i + c * pw i = vt x i + vt y i) (hzl : z.length = x.length + 1) (hzo : okW z) (hlt : i < x.length) (h1 : s < 18446744073709551616) (h2 : c' <= 1)
   (h3 : s + 18446744073709551616 * c' = gw x i + gw y i + c) (hz : Blk wr w.heap.size (wArr z) 23) (hb : Below w.heap.size w wr) :
   aSF w x y (.int .u64 ((c' : Nat) : Int)) (.int .i64 (((i : Nat) : Int) + 1)) (wr.setCell ⟨w.heap.size, i, none⟩ (.int .u64 ((s : Nat) : Int))) := by
 refine ⟨i + 1, c', z.set i s, by omega, by go_num, rfl, h2, by rw [List.length_set]; exact hzl, aCk hzo _ _ h1, ?_, aB6 hz i s, hb.setCell (Nat.le_refl _) _⟩
 rw [aAC, aEP _ _ _ _ (Nat.le_refl _), aBa _ _ _ (by omega), aBz, aAC, aAC]
 exact aId hs h3
theorem aMG {x y z : List Nat} {c : Nat} (hs : vt z x.length + c * pw x.length = vt x x.length + vt y x.length) (hzl : z.length = x.length + 1) (hxy : y.length <= x.length) :
   valN (z.set x.length c) = valN x + valN y := by
 rw [<- aBn (z.set x.length c) (x.length + 1) (by rw [List.length_set]; omega), aAC, aEP _ _ _ _ (Nat.le_refl _), aBa _ _ _ (by omega), hs, aBn _ _ (Nat.le_refl _), aBn _ _ hxy]
theorem aXk (lo : Nat) (a b : Value) (xa xb : List Nat) (w : World) (ha : aAE lo w a xa) (hb : aAE lo w b xb) (hla : xa.length <= 1099511627775) (_ : xb.length <= 1099511627775) (hxy : xb.length <= xa.length) :
   Calls Tryz.prog 89 #[a, b] w (aCW w w.heap.size (valN xa + valN xb)) := by
 have hoka := ha.ok
 have hokb := hb.ok
 obtain ⟨pa, ca, rfl, hca, hcma, _, hxa⟩ := ha
 obtain ⟨pb, cb, rfl, hcb, hcmb, _, hxb⟩ := hb
 have HXA := Lib.hid hxa
 have HXB := Lib.hid hxb
 clear hxa hxb
 have hmk := aBW 24 Tryz.underlying24 (xa.length + 1) (by omega)
 have hc1 : (((xa.length : Nat) : Int) + 1) = ((xa.length + 1 : Nat) : Int) := by omega
 have hmk' : ∀ w : World, (Instr.makeSlice 24 (.int .i64 (((xa.length : Nat) : Int) + 1)) (.int .i64 (((xa.length : Nat) : Int) + 1))).run Tryz.prog w = .ok (.slice (some ⟨w.heap.size, 0, none⟩) (xa.length + 1) (xa.length + 1)) (w.alloc (.cells (wArr (List.replicate (xa.length + 1) 0)) 23)) := fun w => by rw [hc1]; exact hmk w
 clear hmk hc1
 go_enter Tryz.func89, Tryz.ntmps89
 go_wp2_with fail
 clear hmk'
 go_loopw [6, 22] (fun u6 u22 wr => aSF w xa xb u6 u22 wr) (fun _ u22 _ => xa.length - (intOf u22).toNat)
 case atStart => exact ⟨0, 0, List.replicate (xa.length + 1) 0, by omega, rfl, rfl, by omega, by simp, aBi _, by simp [vt], Blk.new _ _ _, (Below.refl _ _).alloc (Nat.le_refl _) _⟩
 case round =>
   obtain ⟨i, c, z, hi, rfl, rfl, hc, hzl, hzo, hsum, hz, hbl⟩ := hrel
   have HS := Lib.hid hsum
   have HZ := Lib.hid hzl
   clear hsum hzl
   by_cases hlt : i < xa.length
   · obtain ⟨b1, o1, rfl, _, hcx⟩ := HXA.out i hlt
     have hcx' := (hbl.cell (World.block_lt_of_cell? w _ hcx)).trans hcx
     have zc := hz.cell i _ (aBK z i (by have := HZ.out; omega))
     have zf := hz.free i
     have hxi := aA3 hoka i
     have hyi := aA3 hokb i
     clear hcx
     by_cases hlt2 : i < xb.length
     · obtain ⟨b2, o2, rfl, _, hcy⟩ := HXB.out i hlt2
       have hcy' := (hbl.cell (World.block_lt_of_cell? w _ hcy)).trans hcy
       have hadd := aSn (gw xa i) (gw xb i) c hc
       clear hcy
       go_wp2
       go_roundw
       case rel => exact aHh HS.out HZ.out hzo hlt (aJN _ _ _) (aPL hxi hyi hc) (aJO _ _ _) hz hbl
       case measure => simp [intOf]; omega
     · have hadd := aLw (gw xa i) c hc
       have hy0 : gw xb i = 0 := aGk (by omega)
       have HY := Lib.hid hy0
       clear hy0
       go_wp2
       go_roundw
       case rel => exact aHh HS.out HZ.out hzo hlt (aJN _ _ _) (aPL hxi (by omega) hc) (by rw [HY.out]; exact aJO _ _ _) hz hbl
       case measure => simp [intOf]; omega
   · obtain rfl : i = xa.length := by omega
     have zc := hz.cell xa.length _ (aBK z xa.length (by have := HZ.out; omega))
     have zf := hz.free xa.length
     have hc2 : c < 18446744073709551616 := by omega
     go_wp2_with fail
     have hz2 := aB6 hz xa.length c
     have hbl2 := hbl.setCell (show w.heap.size <= (⟨w.heap.size, xa.length, none⟩ : Addr).block from Nat.le_refl _) (.int .u64 ((c : Nat) : Int))
     have hw2 := aAE.ofBlk_all (lo := w.heap.size) hz2 (Nat.le_refl _) (aCk hzo _ _ hc2) (by rw [List.length_set]; have := HZ.out; omega)
     rw [List.length_set, HZ.out] at hw2
     refine (aBM w.heap.size _ _ _ hw2).mono ?_
     rintro e w3 ⟨v, rfl, hv, rfl⟩
     rw [aMG HS.out HZ.out hxy] at hv
     go_wp2
     go_ret
     exact ⟨_, rfl, hv, hbl2⟩
theorem aXj (lo : Nat) (a b : Value) (xa xb : List Nat) (w : World) (ha : aAE lo w a xa) (hb : aAE lo w b xb) (_ : xa.length <= 1099511627775) (hlb : xb.length <= 1099511627775) (hxy : xa.length < xb.length) :
   Calls Tryz.prog 89 #[a, b] w (aCW w w.heap.size (valN xa + valN xb)) := by
 have hoka := ha.ok
 have hokb := hb.ok
 obtain ⟨pa, ca, rfl, hca, hcma, _, hxa⟩ := ha
 obtain ⟨pb, cb, rfl, hcb, hcmb, _, hxb⟩ := hb
 have HXA := Lib.hid hxa
 have HXB := Lib.hid hxb
 clear hxa hxb
 have hmk := aBW 24 Tryz.underlying24 (xb.length + 1) (by omega)
 have hc1 : (((xb.length : Nat) : Int) + 1) = ((xb.length + 1 : Nat) : Int) := by omega
 have hmk' : ∀ w : World, (Instr.makeSlice 24 (.int .i64 (((xb.length : Nat) : Int) + 1)) (.int .i64 (((xb.length : Nat) : Int) + 1))).run Tryz.prog w = .ok (.slice (some ⟨w.heap.size, 0, none⟩) (xb.length + 1) (xb.length + 1)) (w.alloc (.cells (wArr (List.replicate (xb.length + 1) 0)) 23)) := fun w => by rw [hc1]; exact hmk w
 clear hmk hc1
 go_enter Tryz.func89, Tryz.ntmps89
 go_wp2_with fail
 clear hmk'
 go_loopw [6, 22] (fun u6 u22 wr => aSF w xb xa u6 u22 wr) (fun _ u22 _ => xb.length - (intOf u22).toNat)
 case atStart => exact ⟨0, 0, List.replicate (xb.length + 1) 0, by omega, rfl, rfl, by omega, by simp, aBi _, by simp [vt], Blk.new _ _ _, (Below.refl _ _).alloc (Nat.le_refl _) _⟩
 case round =>
   obtain ⟨i, c, z, hi, rfl, rfl, hc, hzl, hzo, hsum, hz, hbl⟩ := hrel
   have HS := Lib.hid hsum
   have HZ := Lib.hid hzl
   clear hsum hzl
   by_cases hlt : i < xb.length
   · obtain ⟨b1, o1, rfl, _, hcx⟩ := HXB.out i hlt
     have hcx' := (hbl.cell (World.block_lt_of_cell? w _ hcx)).trans hcx
     have zc := hz.cell i _ (aBK z i (by have := HZ.out; omega))
     have zf := hz.free i
     have hxi := aA3 hokb i
     have hyi := aA3 hoka i
     clear hcx
     by_cases hlt2 : i < xa.length
     · obtain ⟨b2, o2, rfl, _, hcy⟩ := HXA.out i hlt2
       have hcy' := (hbl.cell (World.block_lt_of_cell? w _ hcy)).trans hcy
       have hadd := aSn (gw xb i) (gw xa i) c hc
       clear hcy
       go_wp2
       go_roundw
       case rel => exact aHh HS.out HZ.out hzo hlt (aJN _ _ _) (aPL hxi hyi hc) (aJO _ _ _) hz hbl
       case measure => simp [intOf]; omega
     · have hadd := aLw (gw xb i) c hc
       have hy0 : gw xa i = 0 := aGk (by omega)
       have HY := Lib.hid hy0
       clear hy0
       go_wp2
       go_roundw
       case rel => exact aHh HS.out HZ.out hzo hlt (aJN _ _ _) (aPL hxi (by omega) hc) (by rw [HY.out]; exact aJO _ _ _) hz hbl
       case measure => simp [intOf]; omega
   · obtain rfl : i = xb.length := by omega
     have zc := hz.cell xb.length _ (aBK z xb.length (by have := HZ.out; omega))
     have zf := hz.free xb.length
     have hc2 : c < 18446744073709551616 := by omega
     go_wp2_with fail
     have hz2 := aB6 hz xb.length c
     have hbl2 := hbl.setCell (show w.heap.size <= (⟨w.heap.size, xb.length, none⟩ : Addr).block from Nat.le_refl _) (.int .u64 ((c : Nat) : Int))
     have hw2 := aAE.ofBlk_all (lo := w.heap.size) hz2 (Nat.le_refl _) (aCk hzo _ _ hc2) (by rw [List.length_set]; have := HZ.out; omega)
     rw [List.length_set, HZ.out] at hw2
     refine (aBM w.heap.size _ _ _ hw2).mono ?_
     rintro e w3 ⟨v, rfl, hv, rfl⟩
     rw [aMG HS.out HZ.out (by omega)] at hv
     go_wp2
     go_ret
     exact ⟨_, rfl, by rw [Nat.add_comm (valN xa)]; exact hv, hbl2⟩
theorem aWp (lo : Nat) (a b : Value) (xa xb : List Nat) (w : World) (ha : aAE lo w a xa) (hb : aAE lo w b xb) (hla : xa.length <= 1099511627775) (hlb : xb.length <= 1099511627775) :
   Calls Tryz.prog 89 #[a, b] w (aCW w w.heap.size (valN xa + valN xb)) := by
 by_cases h : xb.length <= xa.length
 · exact aXk lo a b xa xb w ha hb hla hlb h
 · exact aXj lo a b xa xb w ha hb hla hlb (by omega)
end
section
set_option maxRecDepth 100000
set_option maxHeartbeats 2000000
open Go.RowKit
theorem aWs {l : List Nat} {i : Nat} (h : valN l < pw i) : vt l i = valN l := by
 have h1 := aDb l i
 rw [aHk]
 have : valN (l.drop i) = 0 := by
   apply Nat.eq_zero_of_not_pos
   intro hp
   have := Nat.mul_le_mul_left (pw i) hp
   omega
 rw [this] at h1; omega
def aUS (w : World) (x y : List Nat) (u6 u14 : Value) (wr : World) : Prop :=
 ∃ (i c : Nat) (z : List Nat), i <= x.length /\ u14 = .int .i64 i /\ u6 = .int .u64 c /\ c <= 1 /\ z.length = x.length /\ okW z /\ vt z i + vt y i = vt x i + c * pw i /\
   Blk wr w.heap.size (wArr z) 23 /\ Below w.heap.size w wr
theorem aLL {w wr : World} {x y z : List Nat} {i c s c' : Nat} (hs : vt z i + vt y i = vt x i + c * pw i) (hzl : z.length = x.length) (hzo : okW z) (hlt : i < x.length) (h1 : s < 18446744073709551616) (h2 : c' <= 1)
   (h3 : s + gw y i + c = gw x i + 18446744073709551616 * c') (hz : Blk wr w.heap.size (wArr z) 23) (hb : Below w.heap.size w wr) :
   aUS w x y (.int .u64 ((c' : Nat) : Int)) (.int .i64 (((i : Nat) : Int) + 1)) (wr.setCell ⟨w.heap.size, i, none⟩ (.int .u64 ((s : Nat) : Int))) := by
 refine ⟨i + 1, c', z.set i s, by omega, by go_num, rfl, h2, by rw [List.length_set]; exact hzl, aCk hzo _ _ h1, ?_, aB6 hz i s, hb.setCell (Nat.le_refl _) _⟩
 rw [aAC, aEP _ _ _ _ (Nat.le_refl _), aBa _ _ _ (by omega), aBz, aAC, aAC]
 exact aLM hs h3
theorem aQh {x y z : List Nat} {c : Nat} (hx : okW x) (hzo : okW z) (hs : vt z x.length + vt y x.length = vt x x.length + c * pw x.length) (hzl : z.length = x.length) (hyx : valN y <= valN x) :
   valN z = valN x - valN y := by
 have e1 := aBn z x.length (by omega)
 have e2 := aBn x x.length (Nat.le_refl _)
 have e3 := aBr hx
 have e4 := aWs (l := y) (i := x.length) (by omega)
 have e5 := aBr hzo
 rw [hzl] at e5
 rw [e1, e2, e4] at hs
 have : c = 0 := by
   apply Nat.eq_zero_of_not_pos
   intro hp
   have := Nat.mul_le_mul_right (pw x.length) hp
   omega
 subst this
 omega
theorem aWg (lo : Nat) (a b : Value) (xa xb : List Nat) (w : World) (ha : aAE lo w a xa) (hb : aAE lo w b xb) (hla : xa.length <= 1099511627775) (hv : valN xb <= valN xa) :
   Calls Tryz.prog 91 #[a, b] w (aCW w w.heap.size (valN xa - valN xb)) := by
 have hoka := ha.ok
 have hokb := hb.ok
 have HV := Lib.hid hv
 clear hv
 obtain ⟨pa, ca, rfl, hca, hcma, _, hxa⟩ := ha
 obtain ⟨pb, cb, rfl, hcb, hcmb, _, hxb⟩ := hb
 have HXA := Lib.hid hxa
 have HXB := Lib.hid hxb
 clear hxa hxb
 have hmk := aBW 24 Tryz.underlying24 xa.length (by omega)
 go_enter Tryz.func91, Tryz.ntmps91
 go_wp2_with fail
 clear hmk
 go_loopw [6, 14] (fun u6 u14 wr => aUS w xa xb u6 u14 wr) (fun _ u14 _ => xa.length - (intOf u14).toNat)
 case atStart => exact ⟨0, 0, List.replicate xa.length 0, by omega, rfl, rfl, by omega, by simp, aBi _, by simp [vt], Blk.new _ _ _, (Below.refl _ _).alloc (Nat.le_refl _) _⟩
 case round =>
   obtain ⟨i, c, z, hi, rfl, rfl, hc, hzl, hzo, hsum, hz, hbl⟩ := hrel
   have HS := Lib.hid hsum
   have HZ := Lib.hid hzl
   clear hsum hzl
   by_cases hlt : i < xa.length
   · obtain ⟨b1, o1, rfl, _, hcx⟩ := HXA.out i hlt
     have hcx' := (hbl.cell (World.block_lt_of_cell? w _ hcx)).trans hcx
     have zc := hz.cell i _ (aBK z i (by have := HZ.out; omega))
     have zf := hz.free i
     have hxi := aA3 hoka i
     have hyi := aA3 hokb i
     clear hcx
     by_cases hlt2 : i < xb.length
     · obtain ⟨b2, o2, rfl, _, hcy⟩ := HXB.out i hlt2
       have hcy' := (hbl.cell (World.block_lt_of_cell? w _ hcy)).trans hcy
       have hadd := aSP (gw xa i) (gw xb i) c hc
       clear hcy
       go_wp2
       go_roundw
       case rel => exact aLL HS.out HZ.out hzo hlt (aSV _ _ _) (aSW _ _ _) (aSU hxi hyi hc) hz hbl
       case measure => simp [intOf]; omega
     · have hadd := aSO (gw xa i) c hc
       have hy0 : gw xb i = 0 := aGk (by omega)
       have HY := Lib.hid hy0
       clear hy0
       go_wp2
       go_roundw
       case rel => exact aLL HS.out HZ.out hzo hlt (aSV _ _ _) (aSW _ _ _) (by rw [HY.out]; exact aSU hxi (by omega) hc) hz hbl
       case measure => simp [intOf]; omega
   · obtain rfl : i = xa.length := by omega
     go_wp2_with fail
     have hw2 := aAE.ofBlk_all (lo := w.heap.size) hz (Nat.le_refl _) hzo (by have := HZ.out; omega)
     rw [HZ.out] at hw2
     refine (aBM w.heap.size _ _ _ hw2).mono ?_
     rintro e w3 ⟨v, rfl, hv, rfl⟩
     rw [aQh hoka hzo HS.out HZ.out HV.out] at hv
     go_wp2
     go_ret
     exact ⟨_, rfl, hv, hbl⟩
end
section
theorem aP4 {x : Nat} (h0 : x ≠ 0) (h1 : x < 18446744073709551616) : Lib.ctz 64 x = tz x /\ tz x < 64 := by
 obtain ⟨m, hm, hl⟩ := Lib.ctzFrom_spec 64 x (by omega) h1
 have e : Lib.ctz 64 x = Lib.ctzFrom 64 x := by unfold Lib.ctz; rw [if_neg h0]
 have := aLI hm (by omega)
 rw [e, this]
 exact ⟨rfl, hl⟩
theorem aSJ {l : List Nat} {i : Nat} (hl : okW l) (hz : ∀ j, j < i -> gw l j = 0) (hi : gw l i ≠ 0) : tz (valN l) = 64 * i + tz (gw l i) /\ valN l ≠ 0 := by
 have h1 : vt l i = 0 := by
   have : vt l i = vt (List.replicate i 0) i := aKx i fun j hj => by rw [hz j hj, aDW]
   rw [this, aDT]
 have h2 := aDb l (i + 1)
 rw [<- aHk, aAC, h1, Nat.zero_add, aBz] at h2
 have hw := aA3 hl i
 obtain ⟨m, hm, ho⟩ := aGr hi
 have ht := (aP4 hi hw).2
 generalize gw l i = x at *
 generalize valN (l.drop (i + 1)) = r at *
 have e64 : (18446744073709551616 : Nat) = 2 ^ tz x * (2 * 2 ^ (63 - tz x)) := by
   rw [<- Nat.mul_assoc, Nat.mul_comm _ 2, <- Nat.pow_succ', <- Nat.pow_add, show tz x + 1 + (63 - tz x) = 64 by omega]
 have key : valN l = 2 ^ (64 * i + tz x) * (m + 2 * (2 ^ (63 - tz x) * r)) := by
   rw [Nat.pow_add, <- aDo, h2]
   conv => lhs; rw [hm, e64]
   grind
 refine ⟨aLI key (by omega), ?_⟩
 rw [key]
 exact Nat.mul_ne_zero (by have := Nat.two_pow_pos (64 * i + tz x); omega) (by omega)
theorem aOX {l : List Nat} (hz : ∀ j, j < l.length -> gw l j = 0) : valN l = 0 := by
 have : vt l l.length = vt (List.replicate l.length 0) l.length := aKx _ fun j hj => by rw [hz j hj, aDW]
 rw [<- aBn l l.length (Nat.le_refl _), this, aDT]
theorem aSc {l : List Nat} (hl : okW l) (i : Nat) : valN l / 2 ^ i % 2 = gw l (i / 64) / 2 ^ (i % 64) % 2 := by
 have h2 := aDb l (i / 64 + 1)
 rw [<- aHk, aAC, aBz] at h2
 have hv := aJE hl (i / 64)
 have hw := aA3 hl (i / 64)
 have hi : 2 ^ i = pw (i / 64) * 2 ^ (i % 64) := by rw [aDo, <- Nat.pow_add]; congr 1; omega
 rw [hi, <- Nat.div_div_eq_div_mul]
 have e1 : valN l / pw (i / 64) = gw l (i / 64) + 18446744073709551616 * valN (l.drop (i / 64 + 1)) := by
   rw [h2]
   have : vt l (i / 64) + gw l (i / 64) * pw (i / 64) + 18446744073709551616 * pw (i / 64) * valN (l.drop (i / 64 + 1)) = vt l (i / 64) + pw (i / 64) * (gw l (i / 64) + 18446744073709551616 * valN (l.drop (i / 64 + 1))) := by grind
   rw [this, Nat.add_mul_div_left _ _ (aHP _), Nat.div_eq_of_lt hv, Nat.zero_add]
 rw [e1]
 have hr : i % 64 < 64 := Nat.mod_lt _ (by decide)
 generalize i % 64 = r at *
 generalize gw l (i / 64) = x at *
 generalize valN (l.drop (i / 64 + 1)) = t at *
 have e64 : (18446744073709551616 : Nat) = 2 ^ r * (2 * 2 ^ (63 - r)) := by
   rw [<- Nat.mul_assoc, Nat.mul_comm _ 2, <- Nat.pow_succ', <- Nat.pow_add, show r + 1 + (63 - r) = 64 by omega]
 rw [e64, Nat.mul_assoc, Nat.add_mul_div_left _ _ (Nat.two_pow_pos r)]
 have : 2 * 2 ^ (63 - r) * t = 2 * (2 ^ (63 - r) * t) := Nat.mul_assoc _ _ _
 omega
theorem aLE {x y : List Nat} (hx : okW x) (hl : x.length = y.length) (k : Nat) (hs : ∀ j, k < j -> j < x.length -> gw x j = gw y j) (h : gw x k < gw y k) : valN x < valN y := by
 have e : valN (x.drop (k + 1)) = valN (y.drop (k + 1)) := by
   have : x.drop (k + 1) = y.drop (k + 1) := by
     apply List.ext_getElem?
     intro i
     rw [List.getElem?_drop, List.getElem?_drop]
     by_cases hi : k + 1 + i < x.length
     · have := hs (k + 1 + i) (by omega) hi
       rw [aCN hi, aCN (by omega)] at this
       rw [List.getElem?_eq_getElem hi, List.getElem?_eq_getElem (by omega), this]
     · rw [List.getElem?_eq_none (by omega), List.getElem?_eq_none (by omega)]
   rw [this]
 have h1 := aDb x (k + 1)
 have h2 := aDb y (k + 1)
 rw [<- aHk, aAC] at h1 h2
 have a := aJE hx k
 have b : (gw x k + 1) * pw k <= gw y k * pw k := Nat.mul_le_mul_right _ h
 rw [Nat.add_mul, Nat.one_mul] at b
 rw [h1, h2, e]
 omega
theorem aOY {x y : List Nat} (hl : x.length = y.length) (hs : ∀ j, j < x.length -> gw x j = gw y j) : valN x = valN y := by
 rw [<- aBn x x.length (Nat.le_refl _), <- aBn y x.length (by omega)]
 exact aKx _ hs
end
section
theorem aIB (l : List Nat) (k s : Nat) (hk : k < l.length) : ∀ n, k < n -> vt (l.set k s) n + gw l k * pw k = vt l n + s * pw k := by
 intro n
 induction n with
 | zero => intro h; omega
 | succ n ih =>
   intro h
   rw [aAC, aAC]
   by_cases e : k = n
   · subst e
     rw [aEP _ _ _ _ (Nat.le_refl _), aBa _ _ _ hk]
     omega
   · rw [aBH _ _ _ _ e]
     have := ih (by omega)
     omega
def shL (x k : Nat) : Nat := x * 2 ^ k % 18446744073709551616
def shH (x k : Nat) : Nat := x * 2 ^ k / 18446744073709551616
theorem aM2 (x k : Nat) : shL x k + 18446744073709551616 * shH x k = x * 2 ^ k := by unfold shL shH; omega
theorem aJF {k : Nat} (h : k <= 64) : (18446744073709551616 : Nat) = 2 ^ (64 - k) * 2 ^ k := by
 rw [<- Nat.pow_add, show 64 - k + k = 64 by omega]
theorem aKG (x k : Nat) (hk : k <= 64) : shL x k % 2 ^ k = 0 := by
 unfold shL
 rw [aJF hk, Nat.mul_mod_mul_right, Nat.mul_mod_left]
theorem aUy {x : Nat} (hx : x < 18446744073709551616) (k : Nat) : shH x k < 2 ^ k := by
 unfold shH
 rw [Nat.div_lt_iff_lt_mul (by decide), Nat.mul_comm (2 ^ k)]
 exact Nat.mul_lt_mul_of_pos_right hx (Nat.two_pow_pos k)
theorem aM3 {x k : Nat} (hk : k <= 64) : shH x k = x / 2 ^ (64 - k) := by
 unfold shH
 rw [aJF hk, Nat.mul_comm (2 ^ (64 - k)), <- Nat.div_div_eq_div_mul, Nat.mul_div_cancel _ (Nat.two_pow_pos k)]
theorem aLU (x k : Nat) : shL x k < 18446744073709551616 := Nat.mod_lt _ (by decide)
theorem aKF {c x k : Nat} (hc : c < 2 ^ k) (hk : k < 64) : c + shL x k < 18446744073709551616 := by
 have h1 := aKG x k (by omega)
 have h2 := aLU x k
 have h3 := aJF (k := k) (by omega)
 have h4 := Nat.div_add_mod (shL x k) (2 ^ k)
 rw [h1, Nat.add_zero] at h4
 have h5 : shL x k / 2 ^ k < 2 ^ (64 - k) := by
   rw [Nat.div_lt_iff_lt_mul (Nat.two_pow_pos k), <- h3]; exact h2
 have h6 : 2 ^ k * (shL x k / 2 ^ k + 1) <= 2 ^ k * 2 ^ (64 - k) := Nat.mul_le_mul_left _ h5
 rw [Nat.mul_comm (2 ^ k) (2 ^ (64 - k)), <- h3, Nat.mul_add, h4] at h6
 omega
end
section
set_option maxRecDepth 100000
set_option maxHeartbeats 2000000
open Go.RowKit
theorem aTs {x y c zk : Nat} (hx : x < 18446744073709551616) (hy : y < 18446744073709551616) (hc : c < 18446744073709551616) (hz : zk < 18446744073709551616) :
   aS zk (aS (mL x y) c 0) 0 + 18446744073709551616 * (mH x y + aC (mL x y) c 0 + aC zk (aS (mL x y) c 0) 0) = x * y + c + zk /\
   mH x y + aC (mL x y) c 0 <= 18446744073709551615 /\ mH x y + aC (mL x y) c 0 + aC zk (aS (mL x y) c 0) 0 <= 18446744073709551615 := by
 have h1 := aPr x y
 have h2 := aJO (mL x y) c 0
 have h3 := aJO zk (aS (mL x y) c 0) 0
 have h4 : x * y <= 18446744073709551615 * 18446744073709551615 := Nat.mul_le_mul (by omega) (by omega)
 have h5 := aJN (mL x y) c 0
 have h6 := aJN zk (aS (mL x y) c 0) 0
 have h7 := aRa x y
 generalize x * y = t at *
 generalize aS zk (aS (mL x y) c 0) 0 = s at *
 generalize aC zk (aS (mL x y) c 0) 0 = c2 at *
 generalize aS (mL x y) c 0 = s1 at *
 generalize aC (mL x y) c 0 = c1 at *
 generalize mL x y = l at *
 generalize mH x y = h at *
 omega
def aWj (g : Nat) (w : World) (x y : List Nat) (i : Nat) (u8 u33 : Value) (wr : World) : Prop :=
 ∃ (j c : Nat) (z : List Nat), j <= y.length /\ u33 = .int .i64 j /\ u8 = .int .u64 c /\ c < 18446744073709551616 /\ z.length = x.length + y.length /\ okW z /\
   vt z (i + y.length) + c * pw (i + j) = vt x i * valN y + gw x i * pw i * vt y j /\ Blk wr g (wArr z) 23 /\ Below w.heap.size w wr
def aUW (g : Nat) (w : World) (x y : List Nat) (u26 : Value) (wr : World) : Prop :=
 ∃ (i : Nat) (z : List Nat), i <= x.length /\ u26 = .int .i64 i /\ z.length = x.length + y.length /\ okW z /\ vt z (i + y.length) = vt x i * valN y /\ Blk wr g (wArr z) 23 /\ Below w.heap.size w wr
theorem aMa {g : Nat} {w wr : World} {x y z : List Nat} {i j c s h : Nat} {e : Int} (he : e = ((h : Nat) : Int)) (hg : w.heap.size <= g) (hi : i < x.length) (hj : j < y.length) (hzl : z.length = x.length + y.length) (hzo : okW z)
   (hs : vt z (i + y.length) + c * pw (i + j) = vt x i * valN y + gw x i * pw i * vt y j) (h1 : s < 18446744073709551616) (h2 : h <= 18446744073709551615)
   (h3 : s + 18446744073709551616 * h = gw x i * gw y j + c + gw z (i + j)) (hz : Blk wr g (wArr z) 23) (hb : Below w.heap.size w wr) :
   aWj g w x y i (.int .u64 e) (.int .i64 (((j : Nat) : Int) + 1)) (wr.setCell ⟨g, i + j, none⟩ (.int .u64 ((s : Nat) : Int))) := by
 subst he
 refine ⟨j + 1, h, z.set (i + j) s, by omega, by go_num, rfl, by omega, by rw [List.length_set]; exact hzl, aCk hzo _ _ h1, ?_, aB6 hz (i + j) s, hb.setCell hg _⟩
 have e := aIB z (i + j) s (by omega) (i + y.length) (by omega)
 rw [aAC, <- Nat.add_assoc, aBz, aGm]
 rw [aGm] at e hs
 generalize vt (z.set (i + j) s) (i + y.length) = V' at *
 generalize vt z (i + y.length) = V at *
 generalize gw z (i + j) = zk at *
 generalize gw x i = xi at *
 generalize gw y j = yj at *
 generalize pw i = P at *
 generalize pw j = Q at *
 generalize vt y j = Yj at *
 generalize vt x i * valN y = W at *
 grind
theorem aK0 {g : Nat} {w wr : World} {x y z : List Nat} {i c : Nat} (hg : w.heap.size <= g) (hi : i < x.length) (hzl : z.length = x.length + y.length) (hzo : okW z) (hc : c < 18446744073709551616)
   (hs : vt z (i + y.length) + c * pw (i + y.length) = vt x i * valN y + gw x i * pw i * vt y y.length) (hz : Blk wr g (wArr z) 23) (hb : Below w.heap.size w wr) :
   aUW g w x y (.int .i64 (((i : Nat) : Int) + 1)) (wr.setCell ⟨g, i + y.length, none⟩ (.int .u64 ((c : Nat) : Int))) := by
 refine ⟨i + 1, z.set (i + y.length) c, by omega, by go_num, by rw [List.length_set]; exact hzl, aCk hzo _ _ hc, ?_, aB6 hz _ c, hb.setCell hg _⟩
 rw [show i + 1 + y.length = (i + y.length) + 1 by omega, aAC, aEP _ _ _ _ (Nat.le_refl _), aBa _ _ _ (by omega), hs, aBn y _ (Nat.le_refl _), aAC, Nat.add_mul]
theorem aWi (lo : Nat) (a b : Value) (xa xb : List Nat) (w : World) (ha : aAE lo w a xa) (hb : aAE lo w b xb) (hla : xa.length <= 549755813888) (hlb : xb.length <= 549755813888) :
   Calls Tryz.prog 165 #[a, b] w (aCW w w.heap.size (valN xa * valN xb)) := by
 have hna := aA4 (aBr ha.ok)
 have hnb := aA4 (aBr hb.ok)
 have e1 := aAi (valN xa)
 have e2 := aAi (valN xb)
 go_enter Tryz.func165, Tryz.ntmps165
 go_wp2_with fail
 refine (aBM lo _ xa _ ha).mono ?_
 rintro e w1 ⟨v1, rfl, hv1, hw⟩
 subst hw
 go_wp2_with fail
 refine (aBM lo _ xb _ hb).mono ?_
 rintro e w1 ⟨v2, rfl, hv2, hw⟩
 subst hw
 have hv1' := hv1.words
 have hv2' := hv2.words
 clear hv1 hv2 ha hb
 generalize limbsOf (valN xa) = x at *
 generalize limbsOf (valN xb) = y at *
 have E1 := Lib.hid e1
 have E2 := Lib.hid e2
 clear e1 e2
 have hokx := hv1'.ok
 have hoky := hv2'.ok
 obtain ⟨pa, ca, rfl, hca, hcma, _, hxa⟩ := hv1'
 obtain ⟨pb, cb, rfl, hcb, hcmb, _, hxb⟩ := hv2'
 have HXA := Lib.hid hxa
 have HXB := Lib.hid hxb
 have hlx : x.length <= 549755813888 := Nat.le_trans hna hla
 have hly : y.length <= 549755813888 := Nat.le_trans hnb hlb
 clear hxa hxb hna hnb hla hlb
 have hmk := aBW 24 Tryz.underlying24 (x.length + y.length) (by omega)
 have hmk' : ∀ w : World, (Instr.makeSlice 24 (.int .i64 (((x.length : Nat) : Int) + ((y.length : Nat) : Int))) (.int .i64 (((x.length : Nat) : Int) + ((y.length : Nat) : Int)))).run Tryz.prog w = .ok (.slice (some ⟨w.heap.size, 0, none⟩) (x.length + y.length) (x.length + y.length)) (w.alloc (.cells (wArr (List.replicate (x.length + y.length) 0)) 23)) := fun w => by
   rw [show ((x.length : Nat) : Int) + ((y.length : Nat) : Int) = ((x.length + y.length : Nat) : Int) by omega]; exact hmk w
 clear hmk
 go_wp2_with fail
 clear hmk'
 go_loopw [26] (fun u26 wr => aUW w.heap.size w x y u26 wr) (fun u26 _ => x.length - (intOf u26).toNat)
 case atStart => exact ⟨0, List.replicate (x.length + y.length) 0, by omega, rfl, by simp, aBi _, by rw [aDT]; simp [vt], Blk.new _ _ _, (Below.refl _ _).alloc (Nat.le_refl _) _⟩
 case round =>
   obtain ⟨i, z, hi, rfl, hzl, hzo, hsum, hz, hbl⟩ := hrel
   by_cases hlt : i < x.length
   · obtain ⟨b1, o1, rfl, _, hcx⟩ := HXA.out i hlt
     have hcx' := (hbl.cell (World.block_lt_of_cell? w _ hcx)).trans hcx
     have hxi := aA3 hokx i
     have start : aWj w.heap.size w x y i (.int .u64 0) (.int .i64 0) wr := ⟨0, 0, z, by omega, rfl, rfl, by omega, hzl, hzo, by rw [hsum]; simp [vt], hz, hbl⟩
     clear hcx hzl hzo hsum hz hbl
     go_wp2_with fail
     obtain ⟨wo, rfl⟩ : ∃ wo : World, wo = wr := ⟨_, rfl⟩
     go_loopw [8, 33] (fun u8 u33 wr => aWj w.heap.size w x y i u8 u33 wr) (fun _ u33 _ => y.length - (intOf u33).toNat)
     case atStart => exact start
     case round =>
       clear start hcx'
       obtain ⟨j, c, z, hj, rfl, rfl, hc, hzl, hzo, hsum, hz, hbl⟩ := hrel
       have HS := Lib.hid hsum
       have HZ := Lib.hid hzl
       clear hsum hzl
       by_cases hlt2 : j < y.length
       · obtain ⟨b2, o2, rfl, _, hcy⟩ := HXB.out j hlt2
         have hcy' := (hbl.cell (World.block_lt_of_cell? w _ hcy)).trans hcy
         have hyj := aA3 hoky j
         have hzk := aA3 hzo (i + j)
         obtain ⟨q1, q2, q3⟩ := aTs hxi hyj hc hzk
         have Q1 := Lib.hid q1
         have zc := hz.cell (i + j) _ (aBK z (i + j) (by have := HZ.out; omega))
         have zf := hz.free (i + j)
         have ha1 := aLx (mL (gw x i) (gw y j)) c
         have ha2 := aLx (gw z (i + j)) (aS (mL (gw x i) (gw y j)) c 0)
         clear hcy q1
         go_wp2_with (go_at_call 188; refine (aVC (gw x i) (gw y j) hxi hyj _).mono ?_; rintro e w2 ⟨rfl, rfl⟩)
         go_roundw
         case rel => exact aMa (by simp) (Nat.le_refl _) hlt hlt2 HZ.out hzo HS.out (aJN _ _ _) q3 Q1.out hz hbl
         case measure => simp [intOf]; omega
       · obtain rfl : j = y.length := by omega
         have zc := hz.cell (i + y.length) _ (aBK z (i + y.length) (by have := HZ.out; omega))
         have zf := hz.free (i + y.length)
         go_wp2_with fail
         go_roundw
         case rel => exact aK0 (Nat.le_refl _) hlt HZ.out hzo hc HS.out hz hbl
         case measure => simp [intOf]; omega
   · obtain rfl : i = x.length := by omega
     have hw2 := aAE.ofBlk_all (lo := w.heap.size) hz (Nat.le_refl _) hzo (by omega)
     have HS := Lib.hid hsum
     have HZ := Lib.hid hzl
     clear hsum hzl
     rw [HZ.out] at hw2
     go_wp2_with fail
     refine (aBM w.heap.size _ _ _ hw2).mono ?_
     rintro e w3 ⟨v, rfl, hv, rfl⟩
     have hval : valN z = valN x * valN y := by
       have h1 := HS.out
       rw [aBn z _ (by have := HZ.out; omega), aBn x _ (Nat.le_refl _)] at h1
       exact h1
     rw [hval, E1.out, E2.out] at hv
     clear hval
     go_wp2
     go_ret
     exact ⟨_, rfl, hv, hbl⟩
end
section
set_option maxRecDepth 100000
set_option maxHeartbeats 2000000
open Go.RowKit
def TabW (w : World) : Prop := TabAt 1 Lib.deBruijn64tab w
theorem TabW.call {w w' : World} (h : TabW w) (hb : Below w.heap.size w w') : TabW w' := fun j hj => by
 have := h j hj
 exact (hb.cell (World.block_lt_of_cell? w _ this)).trans this
theorem tz64 (x : Nat) (h0 : x ≠ 0) (hx : x < 18446744073709551616) (w : World) (hT : TabW w) :
   Calls Tryz.prog 148 #[.int .u64 ((x : Nat) : Int)] w fun e w' => e = .returned (.int .i64 ((tz x : Nat) : Int)) /\ w = w' :=
 (Any7.bits_TrailingZeros64 Tryz.lays7_29 x hx w fun _ => hT).mono fun _ _ ⟨h, h2⟩ => ⟨by rw [h, (aP4 h0 hx).1], h2.symm⟩
theorem aNW (lo : Nat) (a : Value) (l : List Nat) (w : World) (ha : aAE lo w a l) (hl : l.length <= 17592186044416) (hT : TabW w) :
   Calls Tryz.prog 114 #[a] w fun e w' => e = .returned (.int .i64 ((tz (valN l) : Nat) : Int)) /\ w = w' := by
 have hok := ha.ok
 have HT := Lib.hid hT
 clear hT
 obtain ⟨x, cap, rfl, hcap, hcm, _, hx⟩ := ha
 have HX := Lib.hid hx
 clear hx
 go_enter Tryz.func114, Tryz.ntmps114
 go_wp2_with fail
 go_loop [7] (fun u => ∃ k : Nat, k <= l.length /\ u = .int .i64 k /\ Hid (∀ j, j < k -> gw l j = 0)) (fun u => l.length - (intOf u).toNat)
 case atStart => exact ⟨0, Nat.zero_le _, rfl, fun j hj => by omega⟩
 case round =>
   obtain ⟨k, hk, rfl, hz⟩ := hrel
   by_cases hlt : k < l.length
   · obtain ⟨b, off, rfl, _, hc⟩ := HX.out k hlt
     cases hv : (((gw l k : Nat) : Int) != 0)
     · have hz' : Hid (∀ j, j < k + 1 -> gw l j = 0) := fun j hj => by
         by_cases e : j = k
         · subst e; simp at hv; omega
         · exact hz.out j (by omega)
       clear hz
       go_wp2
       go_round
       case rel => exact ⟨k + 1, by omega, by go_num, hz'⟩
       case measure => simp [intOf]; omega
     · have hne : gw l k ≠ 0 := by intro e; rw [e] at hv; simp at hv
       have hg := aA3 hok k
       obtain ⟨ht, _⟩ := aSJ hok hz.out hne
       have hb := (aP4 hne hg).2
       have HTZ := Lib.hid ht
       have HNE := Lib.hid hne
       clear hz ht hne
       go_wp2_with (go_at_call 148; refine (tz64 _ HNE.out hg _ HT.out).mono ?_; rintro e w1 ⟨rfl, rfl⟩)
       go_ret
       exact ⟨aEH (by rw [HTZ.out]; omega), rfl⟩
   · obtain rfl : k = l.length := by omega
     have h0 := aOX hz.out
     have H0 := Lib.hid h0
     clear h0 hz
     go_wp2
     go_ret
     exact ⟨aEH (by rw [H0.out, aP1]; rfl), rfl⟩
theorem aEO (n : Int) (h0 : 0 <= n) (h1 : n < 2 ^ 64) : IntKind.u64.wrap n = n := by rw [IntKind.wrap_u64]; omega
theorem aD8 (x r : Nat) : ((x : Nat) : Int) / 2 ^ r = ((x / 2 ^ r : Nat) : Int) := by simp
theorem aKg {x : Nat} (h : x < 18446744073709551616) (r : Nat) : x / 2 ^ r < 18446744073709551616 := Nat.lt_of_le_of_lt (Nat.div_le_self _ _) h
def cmpN (a b : Nat) : Int := if a < b then -1 else if b < a then 1 else 0
theorem aW4 {x y : List Nat} {k : Nat} (hx : okW x) (hl : x.length = y.length) (hs : ∀ j, k < j -> j < x.length -> gw x j = gw y j) (h : gw x k < gw y k) : cmpN (valN x) (valN y) = -1 := by
 unfold cmpN; rw [if_pos (aLE hx hl k hs h)]
theorem aW5 {x y : List Nat} {k : Nat} (hy : okW y) (hl : x.length = y.length) (hs : ∀ j, k < j -> j < x.length -> gw x j = gw y j) (h : gw y k < gw x k) : cmpN (valN x) (valN y) = 1 := by
 have := aLE hy hl.symm k (fun j h1 h2 => (hs j h1 (by omega)).symm) h
 unfold cmpN; rw [if_neg (by omega), if_pos this]
theorem aNK {a b : Nat} (h : (limbsOf a).length < (limbsOf b).length) : a < b := by
 have h1 := aHv a
 have hb : b ≠ 0 := by intro e; subst e; rw [aAZ] at h; simp at h
 have h2 := aF5 hb
 exact Nat.lt_of_lt_of_le h1 (Nat.le_trans (aVo (by omega)) h2)
theorem aSC (lo : Nat) (a b : Value) (xa xb : List Nat) (w : World) (ha : aAE lo w a xa) (hb : aAE lo w b xb) :
   Calls Tryz.prog 90 #[a, b] w fun e w' => e = .returned (.int .i64 (cmpN (valN xa) (valN xb))) /\ Below w.heap.size w w' := by
 have e1 := aAi (valN xa)
 have e2 := aAi (valN xb)
 have e3 := @aNK (valN xa) (valN xb)
 have e4 := @aNK (valN xb) (valN xa)
 go_enter Tryz.func90, Tryz.ntmps90
 go_wp2_with fail
 refine (aBM lo _ xa _ ha).mono ?_
 rintro e w1 ⟨v1, rfl, hv1, hw⟩
 subst hw
 go_wp2_with fail
 refine (aBM lo _ xb _ hb).mono ?_
 rintro e w1 ⟨v2, rfl, hv2, hw⟩
 subst hw
 have hv1' := hv1.words
 have hv2' := hv2.words
 clear hv1 hv2 ha hb
 generalize limbsOf (valN xa) = x at *
 generalize limbsOf (valN xb) = y at *
 have E1 := Lib.hid e1
 have E2 := Lib.hid e2
 have E3 := Lib.hid e3
 have E4 := Lib.hid e4
 clear e1 e2 e3 e4
 have hokx := hv1'.ok
 have hoky := hv2'.ok
 obtain ⟨pa, ca, rfl, hca, hcma, _, hxa⟩ := hv1'
 obtain ⟨pb, cb, rfl, hcb, hcmb, _, hxb⟩ := hv2'
 have HXA := Lib.hid hxa
 have HXB := Lib.hid hxb
 clear hxa hxb
 by_cases hlen : x.length < y.length
 · have hne : (((x.length : Nat) : Int) != ((y.length : Nat) : Int)) = true := by rw [bne_iff_ne]; omega
   have hfin : cmpN (valN xa) (valN xb) = -1 := by unfold cmpN; rw [if_pos (E3.out hlen)]
   have HF := Lib.hid hfin
   clear hfin
   go_wp2
   go_ret
   exact ⟨aEH HF.out.symm, Below.refl _ _⟩
 by_cases hlen2 : y.length < x.length
 · have hne : (((x.length : Nat) : Int) != ((y.length : Nat) : Int)) = true := by rw [bne_iff_ne]; omega
   have hfin : cmpN (valN xa) (valN xb) = 1 := by
     have := E4.out hlen2
     unfold cmpN; rw [if_neg (by omega), if_pos this]
   have HF := Lib.hid hfin
   clear hfin
   go_wp2
   go_ret
   exact ⟨aEH HF.out.symm, Below.refl _ _⟩
 have hll : x.length = y.length := by omega
 have HL := Lib.hid hll
 have hne : (((x.length : Nat) : Int) != ((y.length : Nat) : Int)) = false := by rw [hll]; simp
 clear hll
 go_wp2_with fail
 clear hne
 go_loopw [5] (fun u wr => ∃ k : Nat, k <= x.length /\ u = .int .i64 (((k : Nat) : Int) - 1) /\ Hid (∀ j, k <= j -> j < x.length -> gw x j = gw y j) /\ ∃ n, wr = w.drewN n) (fun u _ => (intOf u + 1).toNat)
 case atStart => exact ⟨x.length, Nat.le_refl _, rfl, fun j h1 h2 => by omega, 0, rfl⟩
 case round =>
   obtain ⟨k, hk, rfl, hs, n, rfl⟩ := hrel
   by_cases h0 : k = 0
   · subst h0
     have hval := aOY HL.out (fun j hj => hs.out j (by omega) hj)
     have hfin : cmpN (valN xa) (valN xb) = 0 := by
       rw [E1.out, E2.out] at hval
       unfold cmpN; rw [if_neg (by omega), if_neg (by omega)]
     have HF := Lib.hid hfin
     clear hval hfin
     go_wp2
     go_ret
     exact ⟨aEH HF.out.symm, aBQ _ _ _⟩
   · obtain ⟨m, rfl⟩ : ∃ m, k = m + 1 := ⟨k - 1, by omega⟩
     have hcast : (((m + 1 : Nat) : Int) - 1) = ((m : Nat) : Int) := by omega
     rw [hcast]
     clear hcast
     obtain ⟨b1, o1, rfl, _, hcx⟩ := HXA.out m (by omega)
     obtain ⟨b2, o2, rfl, _, hcy⟩ := HXB.out m (by have := HL.out; omega)
     have hml : m < y.length := by have := HL.out; omega
     have hs' : ∀ j, m < j -> j < x.length -> gw x j = gw y j := fun j h1 h2 => hs.out j (by omega) h2
     have HS' := Lib.hid hs'
     clear hs hs'
     by_cases hlt : gw x m < gw y m
     · have hb1 : (((gw x m : Nat) : Int) != ((gw y m : Nat) : Int)) = true := by rw [bne_iff_ne]; omega
       have hfin : cmpN (valN xa) (valN xb) = -1 := by rw [<- E1.out, <- E2.out]; exact aW4 hokx HL.out HS'.out hlt
       have HF := Lib.hid hfin
       clear hfin
       go_wp2
       go_quiet (fail)
       go_wp2
       go_quiet (fail)
       go_wp2
       go_ret
       exact ⟨aEH HF.out.symm, ((aBQ _ _ _).trans (aBQ _ _ _)).trans (aBQ _ _ _)⟩
     by_cases hlt2 : gw y m < gw x m
     · have hb1 : (((gw x m : Nat) : Int) != ((gw y m : Nat) : Int)) = true := by rw [bne_iff_ne]; omega
       have hfin : cmpN (valN xa) (valN xb) = 1 := by rw [<- E1.out, <- E2.out]; exact aW5 hoky HL.out HS'.out hlt2
       have HF := Lib.hid hfin
       clear hfin
       go_wp2
       go_quiet (fail)
       go_wp2
       go_quiet (fail)
       go_wp2
       go_ret
       exact ⟨aEH HF.out.symm, ((aBQ _ _ _).trans (aBQ _ _ _)).trans (aBQ _ _ _)⟩
     have heq : gw x m = gw y m := by omega
     have hb1 : (((gw x m : Nat) : Int) != ((gw y m : Nat) : Int)) = false := by rw [heq]; simp
     have HEQ := Lib.hid heq
     clear heq
     go_wp2
     go_quiet (fail)
     go_wp2
     go_roundw
     case rel => exact ⟨m, by omega, rfl, fun j h1 h2 => by
       by_cases e : j = m
       · subst e; exact HEQ.out
       · exact HS'.out j (by omega) h2, n + nq, rfl⟩
     case measure => simp [intOf]
end
end Go.Proofs.YtgdkokgeldnliaaGreatDoor
