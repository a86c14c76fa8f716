/- Contracts of functions and plain lemmas that the laws of this seat lean on. -/
import Derived.Test.YtgdkokgeldnliaaGreatDoorKEfaa
import Derived.Test.YtgdkokgeldnliaaGreatDoorRows
import Derived.WalkKit
import Derived.WalkSpells
import Derived.WalkLawsBesides
import Derived.Lib.Hide
import Derived.Deep.QuietTactic
import Derived.BigQuiet
import Derived.StillTail
import Derived.Below
import Derived.Deep.MidRow
import Derived.Laws.Tables
import Derived.Laws.CopyRow
namespace Go.Proofs.YtgdkokgeldnliaaGreatDoor
set_option linter.unusedSimpArgs false
set_option linter.unusedVariables false
set_option linter.unusedSectionVars false
set_option linter.constructorNameAsVariable false
set_option linter.unnecessarySimpa false
section
open Go.RowKit
structure St where
 t : List (Nat × AV)
 n : Nat
 m : AMem
def getT : List (Nat × AV) -> Nat -> AV
 | [], _ => .any
 | (d, r) :: t, i => if i = d then r else getT t i
def St.ev (σ : St) : Operand -> AV
 | .tmp t => getT σ.t t
 | .const v => aEN v
 | .global g => .lit (.pointer (some ⟨g, 0, none⟩))
 | .func f => .clo f []
def St.put (σ : St) (d : Option Tmp) (r : AV) : St :=
 match d with
 | some d => { σ with t := (d, r) :: σ.t }
 | none => σ
def fldX (P : Program) (s : TypeId) (f : Nat) : Option (Bool × Nat × Nat) :=
 match P.underlying s with
 | some (.struct fs) => (fs[f]?).bind fun fd => (aggT P fd.type).bind fun g => (szT P fd.type).map fun n => (g, fd.offset, n)
 | _ => none
def sliT (P : Program) (t : TypeId) : Bool :=
 match P.underlying t with
 | some (.slice _) => true
 | _ => false
def aNo : AV -> Option AV
 | .num n => some (.lit (.int .i64 ((limbsOf n).length : Nat)))
 | .wds l => some (.lit (.int .i64 (l.length : Nat)))
 | .arr n _ | .sl _ _ n _ => some (.lit (.int .i64 (n : Nat)))
 | _ => none
def aNk : AV -> AV -> Option AV
 | .lit (.int k x), .lit (.int k' y) => if k = k' then some (.lit (.int k (if x < y then y else x))) else none
 | _, _ => none
def aNh : AV -> AV -> Option AV
 | .lit (.int k x), .lit (.int k' y) => if k = k' then some (.lit (.int k (if y < x then y else x))) else none
 | _, _ => none
def aHd (P : Program) (σ : St) : Builtin -> List Operand -> List TypeId -> Option AV
 | .len, [x], t :: _ => if sliT P t = true then aNo (σ.ev x) else none
 | .max, [x, y], _ => aNk (σ.ev x) (σ.ev y)
 | .min, [x, y], _ => aNh (σ.ev x) (σ.ev y)
 | _, _, _ => none
def binV (P : Program) (op : BinOp) (t : TypeId) : AV -> AV -> Option AV
 | .lit u, .lit v => (binA P op t u v).map .lit
 | _, _ => none
def unV (op : UnOp) : AV -> Option AV
 | .lit u => (unA op u).map .lit
 | _ => none
def cvtV (P : Program) (s d : TypeId) : AV -> Option AV
 | .lit (.int _ n) => match intT P s, intT P d with
   | some _, some k => some (.lit (.int k (k.wrap n)))
   | _, _ => none
 | _ => none
def extV (i : Nat) : AV -> Option AV
 | .tup l => l[i]?
 | _ => none
def aK2 (P : Program) (m : AMem) (t : TypeId) : AV -> Option AV
 | .ptr k i => aAS P m t k i
 | .fp es => aKW P t es
 | _ => none
def fadV (P : Program) (s : TypeId) (f : Nat) : AV -> Option AV
 | .ptr k i => (fldT P s f).map fun d => .ptr k (i + d)
 | .fp es => (fldT P s f).map fun d => .fp (es.drop d)
 | .lit (.pointer (some ⟨b, i, none⟩)) => (fldT P s f).map fun d => .lit (.pointer (some ⟨b, i + d, none⟩))
 | _ => none
def idxA (P : Program) (t : TypeId) (p : Int) : AV -> Option AV
 | .ptr k i => match arrT P t with
   | some (n, e) => match szT P e with
     | some s => if 0 <= p /\ p < n then some (.ptr k (i + p.toNat * s)) else none
     | none => none
   | none => none
 | .fp es => match arrT P t with
   | some (n, e) => match szT P e with
     | some s => if 0 <= p /\ p < n then some (.fp (es.drop (p.toNat * s))) else none
     | none => none
   | none => none
 | .lit (.pointer (some ⟨b, i, none⟩)) => match arrT P t with
   | some (n, e) => match szT P e with
     | some s => if 0 <= p /\ p < n then some (.lit (.pointer (some ⟨b, i + p.toNat * s, none⟩))) else none
     | none => none
   | none => none
 | .arr n es => match sliE P t with
   | some e => match szT P e with
     | some s => if 0 <= p /\ p < n then some (.fp (es.drop (p.toNat * s))) else none
     | none => none
   | none => none
 | .sl k i n _ => match sliE P t with
   | some e => match szT P e with
     | some s => if 0 <= p /\ p < n then some (.ptr k (i + p.toNat * s)) else none
     | none => none
   | none => none
 | .wds l => match sliE P t with
   | some e => match szT P e with
     | some 1 => if 0 <= p /\ p < l.length then some (.fp [.lit (.int .u64 (gw l p.toNat : Nat))]) else none
     | _ => none
   | none => none
 | .num n => match sliE P t with
   | some e => match szT P e with
     | some 1 => if 0 <= p /\ p < (limbsOf n).length then some (.fp [.lit (.int .u64 (gw (limbsOf n) p.toNat : Nat))]) else none
     | _ => none
   | none => none
 | _ => none
def idxV (P : Program) (t : TypeId) (x : AV) : AV -> Option AV
 | .lit (.int _ p) => idxA P t p x
 | _ => none
def eltV (P : Program) (t : TypeId) : AV -> AV -> Option AV
 | .agg l, .lit (.int _ p) => match arrT P t with
   | some (n, e) => match szT P e with
     | some s => if 0 <= p /\ p < n then aKW P e (l.drop (p.toNat * s)) else none
     | none => none
   | none => none
 | _, _ => none
def sliV (P : Program) (t : TypeId) : AV -> Option AV -> Option AV -> Option AV
 | .arr n es, some (.lit (.int _ p)), none => match sliE P t with
   | some e => match szT P e with
     | some s => if 0 <= p /\ p <= n then some (.arr (n - p.toNat) ((es.take (n * s)).drop (p.toNat * s))) else none
     | none => none
   | none => none
 | _, _, _ => none
def fnOf : Fn -> Option FuncId
 | .func f => some f
 | _ => none
def cloV (fn : Fn) (first : List Operand) (cap : List AV) : Option AV :=
 match first with
 | [] => (fnOf fn).map fun f => .clo f cap
 | _ => none
def nilV : AV -> Option AV
 | .ptr k i => some (.ptr k i)
 | .fp es => some (.fp es)
 | .clo f cap => some (.clo f cap)
 | _ => none
def aQP : AV -> AV -> AV -> Option AV
 | .lit (.bool b), x, y => some (bif b then x else y)
 | _, _, _ => none
def fldV (P : Program) (s : TypeId) (f : Nat) : AV -> Option AV
 | .agg l => match fldX P s f with
   | some (true, o, n) => some (.agg ((l.drop o).take n))
   | some (false, o, _) => l[o]?
   | none => none
 | _ => none
def bldV (P : Program) (t : TypeId) (parts : List (Nat × AV)) : Option AV :=
 match bldT P t with
 | some (pl, z) => (aAQ pl (z.map aEN) parts).map .agg
 | none => none
def aGq (P : Program) (σ : St) : Op -> Option AV
 | .move x | .assign x => some (σ.ev x)
 | .load t a => aK2 P σ.m t (σ.ev a)
 | .fieldAddr s x f => fadV P s f (σ.ev x)
 | .field s x f => fldV P s f (σ.ev x)
 | .binOp op t x y _ => binV P op t (σ.ev x) (σ.ev y)
 | .unOp op _ x => unV op (σ.ev x)
 | .convert s d x => cvtV P s d (σ.ev x)
 | .extract x i => extV i (σ.ev x)
 | .build t parts => bldV P t (parts.toList.map fun p => (p.1, σ.ev p.2))
 | .indexAddr t x ix => idxV P t (σ.ev x) (σ.ev ix)
 | .index t x ix => eltV P t (σ.ev x) (σ.ev ix)
 | .slice t x lo hi none => sliV P t (σ.ev x) (lo.map σ.ev) (hi.map σ.ev)
 | .makeFunc fn first cap => cloV fn first.toList (cap.toList.map σ.ev)
 | .nilCheck x => nilV (σ.ev x)
 | .pick c x y => aQP (σ.ev c) (σ.ev x) (σ.ev y)
 | .call c => match c.callee with
   | .builtin b => aHd P σ b c.args.toList c.argTypes.toList
   | _ => none
 | _ => none
theorem aLb (off : Nat) : ∀ (L : List Value) (j : Nat) (cs : Array Value), off + j + L.length <= cs.size ->
   ((L.zipIdx j).foldl (fun cs (p : Value × Nat) => cs.setIfInBounds (off + p.2) p.1) cs).toList = cs.toList.take (off + j) ++ L ++ cs.toList.drop (off + j + L.length)
 | [], j, cs, _ => by simp
 | v :: L, j, cs, h => by
   simp only [List.length_cons] at h
   rw [List.zipIdx_cons, List.foldl_cons, aLb off L (j + 1) _ (by simp; omega)]
   have e := list_seg_step cs.toList (off + j) v L (by simp; omega)
   simpa [Array.toList_setIfInBounds, Nat.add_assoc, Nat.add_comm, Nat.add_left_comm] using e
section
variable {P : Program} {S : Nat -> Prop} {β : List Nat} {w : World}
inductive Parts (S : Nat -> Prop) (β : List Nat) (w : World) : List (Nat × AV) -> List (Nat × Value) -> Prop
 | nil : Parts S β w [] []
 | cons (i : Nat) {x : AV} {v : Value} {r : List (Nat × AV)} {s : List (Nat × Value)} : Rep S β w x v -> Parts S β w r s -> Parts S β w ((i, x) :: r) ((i, v) :: s)
theorem aHD (pl : List (Nat × Nat)) : ∀ {ps : List (Nat × AV)} {qs : List (Nat × Value)}, Parts S β w ps qs -> ∀ {cs l : List AV} {vs : Array Value}, RepL S β w cs vs.toList -> aAQ pl cs ps = some l ->
   ∃ us : Array Value, Instr.fill (pl.toArray[·]?) vs qs = some us /\ RepL S β w l us.toList
 | _, _, .nil, cs, l, vs, hc, h => by
   simp only [aAQ, Option.some.injEq] at h
   subst h
   exact ⟨vs, rfl, hc⟩
 | _, _, .cons i (x := x) (v := v) (r := r) (s := s) hx hr, cs, l, vs, hc, h => by
   simp only [aAQ] at h
   split at h
   · rename_i off n l1 hpl hcx
     split at h
     · rename_i hn
       obtain ⟨hn1, hn2⟩ := hn
       have hv := aGX hx hcx
       have hlen := hv.len
       have hlen2 := hc.len
       simp only [Array.length_toList] at hlen hlen2
       have hsz : v.cells.size = n := by omega
       have hf : (v.cells.zipIdx.foldl (fun cs (p : Value × Nat) => cs.setIfInBounds (off + p.2) p.1) vs).toList = vs.toList.take off ++ v.cells.toList ++ vs.toList.drop (off + n) := by
         have := aLb off v.cells.toList 0 vs (by simp; omega)
         rw [Nat.add_zero] at this
         rw [<- Array.foldl_toList, Array.toList_zipIdx, this]
         simp [hsz]
       obtain ⟨us, h1, h2⟩ := aHD pl hr (vs := v.cells.zipIdx.foldl (fun cs (p : Value × Nat) => cs.setIfInBounds (off + p.2) p.1) vs) (by rw [hf]; exact ((hc.take off).app hv).app (hc.drop _)) h
       refine ⟨us, ?_, h2⟩
       have hpl' : pl.toArray[i]? = some (off, n) := by simpa using hpl
       simp only [Instr.fill, hpl']
       rw [if_neg (by simp; omega)]
       exact h1
     · cases h
   · cases h
theorem aKe {p p' : Nat -> Option (Nat × Nat)} (hp : ∀ i x, p i = some x -> p' i = some x) : ∀ {qs : List (Nat × Value)} {vs us : Array Value}, Instr.fill p vs qs = some us -> Instr.fill p' vs qs = some us
 | [], _, _, h => h
 | (i, v) :: qs, vs, us, h => by
   simp only [Instr.fill] at h ⊢
   cases hi : p i with
   | none => rw [hi] at h; cases h
   | some x =>
     rw [hi] at h
     rw [hp i x hi]
     obtain ⟨off, size⟩ := x
     simp only at h ⊢
     split at h
     · cases h
     · rename_i hc
       rw [if_neg hc]
       exact aKe hp h
theorem aR9 {t : TypeId} {ps : List (Nat × AV)} {qs : Array (Nat × Value)} {r : AV} (hp : Parts S β w ps qs.toList) (h : bldV P t ps = some r) : ∃ u, (Instr.build t qs).run P w = .ok u w /\ Rep S β w r u := by
 unfold bldV at h
 cases hb : bldT P t with
 | none => rw [hb] at h; cases h
 | some pz =>
   obtain ⟨pl, z⟩ := pz
   rw [hb] at h
   simp only at h
   cases hf : aAQ pl (z.map aEN) ps with
   | none => rw [hf] at h; cases h
   | some l =>
     rw [hf] at h
     simp only [Option.map_some, Option.some.injEq] at h
     subst h
     unfold bldT at hb
     cases hit : P.info? t with
     | none => simp [hit] at hb
     | some it =>
       cases hu : P.underlying t with
       | none => simp [hit, hu] at hb
       | some d =>
         cases d <;> try (simp [hit, hu] at hb; done)
         case array n e =>
           cases hz : it.zero with
           | none => simp [hit, hu, hz] at hb
           | some z0 =>
             cases hs : szT P e with
             | none => simp [hit, hu, hz, hs] at hb
             | some s =>
               simp only [hit, hu, hz, hs, Option.some.injEq, Prod.mk.injEq] at hb
               obtain ⟨rfl, rfl⟩ := hb
               obtain ⟨us, h1, h2⟩ := aHD _ hp (vs := z0.cells) (aFv _) hf
               have h3 := aKe (p' := fun i => some (i * s, s)) (fun i x hx => by
                 simp only [List.getElem?_toArray, List.getElem?_map] at hx
                 cases hr : (List.range n)[i]? with
                 | none => rw [hr] at hx; cases hx
                 | some j =>
                   rw [hr] at hx
                   have := (List.getElem?_eq_some_iff.1 hr).2
                   simp at this
                   subst this
                   simpa using hx) h1
               refine ⟨.agg us, ?_, by simp only [Rep]; exact ⟨us.toList, by simp, h2⟩⟩
               unfold szT at hs
               cases hi : P.info? e with
               | none => simp [hi] at hs
               | some ie =>
                 simp [hi] at hs
                 subst hs
                 simp [Instr.build, Sem.run_bind, run_underlying hu, zeroValue, typeInfo, hit, hz, sizeOf, hi, h3]
         case struct fields =>
           cases hz : it.zero with
           | none => simp [hit, hu, hz] at hb
           | some z0 =>
             cases hpl : fields.toList.mapM (fun f => (P.info? f.type).map fun i => (f.offset, i.size)) with
             | none => simp [hit, hu, hz, hpl] at hb
             | some places =>
               simp only [hit, hu, hz, hpl, Option.some.injEq, Prod.mk.injEq] at hb
               obtain ⟨rfl, rfl⟩ := hb
               obtain ⟨us, h1, h2⟩ := aHD places hp (vs := z0.cells) (aFv _) hf
               refine ⟨.agg us, run_build w t qs us (by simp only [Program.built, hit, hu, hz, hpl]; exact h1), ?_⟩
               simp only [Rep]
               exact ⟨us.toList, by simp, h2⟩
theorem aSH {v : Value} {l : List Nat} {p : Nat} (h : WordsS S w v l) (hp : p < l.length) : ∃ b off c, v = .slice (some ⟨b, off, none⟩) l.length c /\ Cel S w (some ⟨b, off + p, none⟩) [.int .u64 (gw l p : Nat)] := by
 obtain ⟨⟨x, cap, h1, _, _, _, h5⟩, h6⟩ := h
 obtain ⟨b, off, e, _, hc⟩ := h5 p hp
 refine ⟨b, off, cap, by rw [h1, e], b, off + p, rfl, fun _ => h6 b off none _ _ (by rw [h1, e]) (by omega), fun j u hj => ?_⟩
 cases j with
 | zero => simp at hj; subst hj; exact hc
 | succ j => simp at hj
theorem aRl {x r : AV} {v : Value} (h : aNo x = some r) (hv : Rep S β w x v) : ∃ y n c, v = .slice y n c /\ r = .lit (.int .i64 ((n : Nat) : Int)) := by
 cases x <;> simp only [aNo, reduceCtorEq, Option.some.injEq] at h
 all_goals
   subst h
   simp only [Rep] at hv
 · obtain ⟨y, c, he⟩ := aDB hv; exact ⟨y, _, c, he, rfl⟩
 · obtain ⟨y, c, he⟩ := aDB hv; exact ⟨y, _, c, he, rfl⟩
 · obtain ⟨y, c, vs, he, _⟩ := hv; exact ⟨y, _, c, he, rfl⟩
 · obtain ⟨b', _, he, _⟩ := hv; exact ⟨_, _, _, he, rfl⟩
theorem aRs {t : TypeId} {p : Int} {k : IntKind} {x r : AV} {v : Value} (h : idxA P t p x = some r) (hv : Rep S β w x v) : ∃ u, (Instr.indexAt t v (.int k p)).run P w = .ok u w /\ Rep S β w r u := by
 have wd : ∀ {l : List Nat} {e : TypeId} {c : Nat}, WordsS S w v l -> sliE P t = some e -> szT P e = some 1 -> 0 <= p -> p < l.length -> some (AV.fp [.lit (.int .u64 (gw l p.toNat : Nat))]) = some r ->
     ∃ u, (Instr.indexAt t v (.int k p)).run P w = .ok u w /\ Rep S β w r u := fun {l e c} hv ht hs h0 h1 h => by
   simp only [Option.some.injEq] at h
   subst h
   obtain ⟨b, off, c, rfl, hc⟩ := aSH (p := p.toNat) hv (by omega)
   refine ⟨_, aHA ht hs h0 h1, ?_⟩
   rw [Nat.mul_one]
   simp only [Rep]
   refine ⟨_, _, rfl, hc, ?_⟩
   simp only [RepL, Rep]
   exact ⟨_, _, rfl, rfl, rfl⟩
 unfold idxA at h
 split at h
 · split at h
   · rename_i n e ht
     split at h
     · rename_i s hs
       split at h
       · rename_i hp
         simp only [Option.some.injEq] at h
         subst h
         simp only [Rep] at hv
         obtain ⟨b, hb, rfl⟩ := hv
         exact ⟨_, aI6 ht hs hp.1 hp.2, by simp only [Rep]; exact ⟨b, hb, rfl⟩⟩
       · cases h
     · cases h
   · cases h
 · split at h
   · rename_i n e ht
     split at h
     · rename_i s hs
       split at h
       · rename_i hp
         simp only [Option.some.injEq] at h
         subst h
         simp only [Rep] at hv
         obtain ⟨a, vs, rfl, hc, hl⟩ := hv
         have hc0 := hc
         obtain ⟨b, off, rfl, _⟩ := hc0
         exact ⟨_, aI6 ht hs hp.1 hp.2, by simp only [Rep]; exact ⟨_, _, rfl, hc.drop _, hl.drop _⟩⟩
       · cases h
     · cases h
   · cases h
 · split at h
   · rename_i n e ht
     split at h
     · rename_i s hs
       split at h
       · rename_i hp
         simp only [Option.some.injEq] at h
         subst h
         simp only [Rep] at hv
         subst hv
         exact ⟨_, aI6 ht hs hp.1 hp.2, by simp only [Rep]⟩
       · cases h
     · cases h
   · cases h
 · split at h
   · rename_i e ht
     split at h
     · rename_i s hs
       split at h
       · rename_i hp
         simp only [Option.some.injEq] at h
         subst h
         simp only [Rep] at hv
         obtain ⟨a, c, vs, rfl, _, hc, hl⟩ := hv
         have hc0 := hc
         obtain ⟨b, off, rfl, _⟩ := hc0
         exact ⟨_, aHA ht hs hp.1 hp.2, by simp only [Rep]; exact ⟨_, _, rfl, hc.drop _, hl.drop _⟩⟩
       · cases h
     · cases h
   · cases h
 · split at h
   · rename_i e ht
     split at h
     · rename_i s hs
       split at h
       · rename_i hp
         simp only [Option.some.injEq] at h
         subst h
         simp only [Rep] at hv
         obtain ⟨b, hb, rfl, _⟩ := hv
         exact ⟨_, aHA ht hs hp.1 hp.2, by simp only [Rep]; exact ⟨b, hb, rfl⟩⟩
       · cases h
     · cases h
   · cases h
 · split at h
   · rename_i e ht
     split at h
     · rename_i hs
       split at h
       · rename_i hp
         exact wd (c := 0) (by simpa only [Rep] using hv) ht hs hp.1 hp.2 h
       · cases h
     · cases h
   · cases h
 · split at h
   · rename_i e ht
     split at h
     · rename_i hs
       split at h
       · rename_i hp
         exact wd (c := 0) (by simpa only [Rep] using hv) ht hs hp.1 hp.2 h
       · cases h
     · cases h
   · cases h
 · cases h
theorem aMT {σ : St} {a : Act} {o : Oper} {r : AV} (hm : MemRep S β w σ.m) (hx : ∀ x ∈ o.op.operands.toList, Rep S β w (σ.ev x) (a.eval x)) (h : aGq P σ o.op = some r) :
   ∃ u, (execOp a.eval o).run P w = .ok (.value u) w /\ Rep S β w r u := by
 obtain ⟨dst, op, ty, pos, after, guard⟩ := o
 simp only at hx h
 cases op <;> simp only [aGq, reduceCtorEq] at h
 case move x =>
   simp only [Option.some.injEq] at h; subst h
   exact ⟨a.eval x, rfl, hx x (by simp [Op.operands])⟩
 case assign x =>
   simp only [Option.some.injEq] at h; subst h
   exact ⟨a.eval x, rfl, hx x (by simp [Op.operands])⟩
 case load t x =>
   have h0 := hx x (by simp [Op.operands])
   cases hv : σ.ev x <;> rw [hv] at h <;> simp only [aK2, reduceCtorEq] at h
   · rw [hv] at h0
     obtain ⟨u, h1, h2⟩ := aJ1 hm h h0
     exact ⟨u, by simp [execOp, h1], h2⟩
   · rw [hv] at h0
     simp only [Rep] at h0
     obtain ⟨a', vs, he, hc, hl⟩ := h0
     obtain ⟨u, h1, h2⟩ := aRh h hc hl
     exact ⟨u, by simp [execOp, he, h1], h2⟩
 case fieldAddr s x f =>
   have h0 := hx x (by simp [Op.operands])
   simp only [fadV] at h
   split at h
   · rename_i k i hv
     rw [hv] at h0
     cases hf : fldT P s f with
     | none => rw [hf] at h; cases h
     | some d =>
       rw [hf] at h
       simp only [Option.map_some, Option.some.injEq] at h
       subst h
       obtain ⟨u, h1, h2⟩ := aNy hf h0
       exact ⟨u, by simp [execOp, h1], h2⟩
   · rename_i es hv
     rw [hv] at h0
     cases hf : fldT P s f with
     | none => rw [hf] at h; cases h
     | some d =>
       rw [hf] at h
       simp only [Option.map_some, Option.some.injEq] at h
       subst h
       simp only [Rep] at h0
       obtain ⟨a', vs, he, hc, hl⟩ := h0
       have hc0 := hc
       obtain ⟨b, off, rfl, _⟩ := hc0
       exact ⟨.pointer (some ⟨b, off + d, none⟩), by simp only [execOp, he, Sem.run_bind, aJb hf, Result.andThen_ok, Sem.run_pure], by simp only [Rep]; exact ⟨_, _, rfl, hc.drop d, hl.drop d⟩⟩
   · rename_i b i hv
     rw [hv] at h0
     simp only [Rep] at h0
     cases hf : fldT P s f with
     | none => rw [hf] at h; cases h
     | some d =>
       rw [hf] at h
       simp only [Option.map_some, Option.some.injEq] at h
       subst h
       exact ⟨.pointer (some ⟨b, i + d, none⟩), by simp only [execOp, h0, Sem.run_bind, aJb hf, Result.andThen_ok, Sem.run_pure], by simp only [Rep]⟩
   · cases h
 case field s x f =>
   have h0 := hx x (by simp [Op.operands])
   cases hv : σ.ev x <;> rw [hv] at h <;> simp only [fldV, reduceCtorEq] at h
   rw [hv] at h0
   simp only [Rep] at h0
   obtain ⟨vs, he, hl⟩ := h0
   unfold fldX at h
   cases hu : P.underlying s with
   | none => simp [hu] at h
   | some d =>
     cases d <;> try (simp [hu] at h; done)
     case struct fs =>
       cases hf : fs[f]? with
       | none => simp [hu, hf] at h
       | some fd =>
         cases hq : P.underlying fd.type with
         | none => simp [hu, hf, aggT, hq] at h
         | some dq =>
           cases hi : P.info? fd.type with
           | none => simp [hu, hf, aggT, hq, szT, hi] at h
           | some it =>
             have hagg : (isAgg fd.type).run P w = .ok dq.isRow w := by
               unfold isAgg
               rw [Sem.run_bind, run_underlying hq w]
               cases dq <;> simp_all
             simp only [hu, hf, aggT, hq, szT, hi, Option.bind_some, Option.map_some] at h
             cases hrow : dq.isRow with
             | true =>
               rw [hrow] at h hagg
               simp only [Option.some.injEq] at h
               subst h
               refine ⟨.agg ((vs.drop fd.offset).take it.size).toArray, ?_, by simp only [Rep]; exact ⟨_, rfl, (hl.drop _).take _⟩⟩
               simp [execOp, Sem.run_bind, Instr.field, run_underlying hu, hf, he, asAgg, part, hagg, sizeOf, typeInfo, hi, List.extract_eq_take_drop]
             | false =>
               rw [hrow] at h hagg
               simp only at h
               obtain ⟨u, h1, h2⟩ := hl.get h
               refine ⟨u, ?_, h2⟩
               simp [execOp, Sem.run_bind, Instr.field, run_underlying hu, hf, he, asAgg, part, hagg, h1]
 case binOp op t x y yt =>
   have h0 := hx x (by simp [Op.operands])
   have h1 := hx y (by simp [Op.operands])
   cases hv : σ.ev x <;> rw [hv] at h <;> simp only [binV, reduceCtorEq] at h
   cases hv2 : σ.ev y <;> rw [hv2] at h <;> simp only [reduceCtorEq] at h
   rename_i u v
   cases hb : binA P op t u v with
   | none => rw [hb] at h; cases h
   | some z =>
     rw [hb] at h
     simp only [Option.map_some, Option.some.injEq] at h
     subst h
     rw [hv] at h0; rw [hv2] at h1
     simp only [Rep] at h0 h1
     have := aSe (w := w) (x := x) (y := y) hb
     refine ⟨z, ?_, by simp only [Rep]⟩
     rw [Sem.run_bind] at this
     simp only [execOp, h0, h1, Sem.run_bind, this, Result.andThen_ok, Sem.run_pure]
 case unOp op t x =>
   have h0 := hx x (by simp [Op.operands])
   cases hv : σ.ev x <;> rw [hv] at h <;> simp only [unV, reduceCtorEq] at h
   rename_i u
   cases hb : unA op u with
   | none => rw [hb] at h; cases h
   | some z =>
     rw [hb] at h
     simp only [Option.map_some, Option.some.injEq] at h
     subst h
     rw [hv] at h0
     simp only [Rep] at h0
     refine ⟨z, ?_, by simp only [Rep]⟩
     simp only [execOp, h0, Sem.run_bind, aSI (P := P) (w := w) hb, Result.andThen_ok, Sem.run_pure]
 case convert s d x =>
   have h0 := hx x (by simp [Op.operands])
   cases hv : σ.ev x <;> rw [hv] at h <;> simp only [cvtV, reduceCtorEq] at h
   rename_i u
   cases u <;> simp only [reduceCtorEq] at h
   rename_i k n
   split at h
   · rename_i k1 k2 e1 e2
     simp only [Option.some.injEq] at h
     subst h
     unfold intT at e1 e2
     split at e1
     · rename_i q1 hu1
       split at e2
       · rename_i q2 hu2
         simp only [Option.some.injEq] at e2
         subst e2
         rw [hv] at h0
         simp only [Rep] at h0
         refine ⟨.int q2 (q2.wrap n), ?_, by simp only [Rep]⟩
         simp [execOp, h0, Sem.run_bind, convert, run_underlying hu1, run_underlying hu2, Conv.intToInt]
       · cases e2
     · cases e1
   · cases h
 case extract x i =>
   have h0 := hx x (by simp [Op.operands])
   cases hv : σ.ev x <;> rw [hv] at h <;> simp only [extV, reduceCtorEq] at h
   rw [hv] at h0
   simp only [Rep] at h0
   obtain ⟨vs, he, hl⟩ := h0
   obtain ⟨u, h1, h2⟩ := hl.get h
   refine ⟨u, ?_, h2⟩
   simp [execOp, he, Instr.extract, h1]
 case build t parts =>
   have hp : ∀ l : List (Nat × Operand), (∀ p ∈ l, Rep S β w (σ.ev p.2) (a.eval p.2)) -> Parts S β w (l.map fun p => (p.1, σ.ev p.2)) (l.map fun p => (p.1, a.eval p.2)) := fun l => by
     induction l with
     | nil => intro _; exact .nil
     | cons p l ih => intro hl; exact .cons p.1 (hl p (by simp)) (ih fun q hq => hl q (by simp [hq]))
   obtain ⟨u, h1, h2⟩ := aR9 (qs := parts.map fun p => (p.1, a.eval p.2)) (by rw [Array.toList_map]; exact hp parts.toList fun p hq => hx p.2 (by simp only [Op.operands, List.mem_map]; exact ⟨p, hq, rfl⟩)) h
   exact ⟨u, by simp [execOp, h1], h2⟩
 case indexAddr t x ix =>
   have h0 := hx x (by simp [Op.operands])
   have h1 := hx ix (by simp [Op.operands])
   cases hv2 : σ.ev ix <;> rw [hv2] at h <;> simp only [idxV, reduceCtorEq] at h
   rename_i u
   cases u <;> simp only [reduceCtorEq] at h
   rename_i k p
   rw [hv2] at h1
   simp only [Rep] at h1
   obtain ⟨u, g1, g2⟩ := aRs (k := k) h h0
   exact ⟨u, by simp [execOp, h1, g1], g2⟩
 case index t x ix =>
   have h0 := hx x (by simp [Op.operands])
   have h1 := hx ix (by simp [Op.operands])
   simp only [eltV] at h
   split at h
   · rename_i l k p hv hv2
     rw [hv2] at h1
     rw [hv] at h0
     simp only [Rep] at h0 h1
     obtain ⟨vs, he, hl⟩ := h0
     split at h
     · rename_i n e ht
       split at h
       · rename_i s hs
         split at h
         · rename_i hp
           obtain ⟨u, g1, g2⟩ := aRJ (k := k) ht hs hp.1 hp.2 h hl
           exact ⟨u, by simp [execOp, h1, he, g1], g2⟩
         · cases h
       · cases h
     · cases h
   · cases h
 case slice t x lo hi mx =>
   cases mx with
   | some z => cases h
   | none =>
     have h0 := hx x (by simp [Op.operands])
     simp only [aGq, sliV] at h
     split at h
     · rename_i n es k p e1 e2 e3
       cases lo with
       | none => simp at e2
       | some z =>
         cases hi with
         | some z2 => simp at e3
         | none =>
           simp only [Option.map_some, Option.some.injEq] at e2
           have h1 := hx z (by simp [Op.operands])
           rw [e1] at h0
           rw [e2] at h1
           simp only [Rep] at h0 h1
           obtain ⟨a', c, vs, he, hc, hcel, hl⟩ := h0
           split at h
           · rename_i e ht
             split at h
             · rename_i s hs
               split at h
               · rename_i hp
                 simp only [Option.some.injEq] at h
                 subst h
                 have hc0 := hcel
                 obtain ⟨b, off, rfl, _⟩ := hc0
                 refine ⟨.slice (some (if c = p.toNat then ⟨b, off, none⟩ else ⟨b, off + p.toNat * s, none⟩)) (n - p.toNat) (c - p.toNat), by simp only [execOp, Option.map_some, Option.map_none, he, h1, Sem.run_bind, aQn ht hs hp.1 hp.2, Result.andThen_ok, Sem.run_pure], ?_⟩
                 simp only [Rep]
                 refine ⟨_, _, (vs.take (n * s)).drop (p.toNat * s), rfl, by omega, ?_, (hl.take _).drop _⟩
                 split
                 · rename_i hcp
                   have : (vs.take (n * s)).drop (p.toNat * s) = [] := by
                     apply List.drop_eq_nil_of_le
                     have : n = p.toNat := by omega
                     subst this
                     simp only [List.length_take]
                     exact Nat.min_le_left _ _
                   rw [this]
                   exact ⟨b, off, rfl, fun h => absurd rfl h, fun j u hj => by simp at hj⟩
                 · obtain ⟨b', off', g1, g2, g3⟩ := hcel.drop (p.toNat * s)
                   cases g1
                   refine ⟨_, _, rfl, fun hne => g2 fun e => hne ?_, fun j u hj => g3 j u ?_⟩
                   · have := congrArg List.length e
                     simp only [List.length_drop, List.length_nil] at this
                     apply List.drop_eq_nil_of_le
                     simp only [List.length_take]
                     omega
                   · rw [List.getElem?_drop, List.getElem?_take] at hj
                     split at hj
                     · rw [List.getElem?_drop]; exact hj
                     · cases hj
               · cases h
             · cases h
           · cases h
     · cases h
 case makeFunc fn first cap =>
   unfold cloV at h
   split at h
   · rename_i e1
     have hf0 : first = #[] := by rw [<- Array.toArray_toList (xs := first), e1]
     subst hf0
     cases fn <;> simp only [fnOf, Option.map_none, Option.map_some, reduceCtorEq, Option.some.injEq] at h
     subst h
     refine ⟨_, rfl, ?_⟩
     simp only [Rep]
     refine ⟨cap.toList.map a.eval, by rw [show (cap.toList.map a.eval).toArray = cap.map a.eval from by apply Array.ext'; simp]; simp, ?_⟩
     refine aC4.2 ⟨by simp, fun i x v h1 h2 => ?_⟩
     rw [List.getElem?_map] at h1 h2
     cases hi : cap.toList[i]? with
     | none => rw [hi] at h1; cases h1
     | some y =>
       rw [hi] at h1 h2
       simp only [Option.map_some, Option.some.injEq] at h1 h2
       subst h1; subst h2
       exact hx y (by simp only [Op.operands, Array.toList_append]; exact List.mem_append_right _ (List.mem_iff_getElem?.2 ⟨i, hi⟩))
   · cases h
 case nilCheck x =>
   have h0 := hx x (by simp [Op.operands])
   cases hv : σ.ev x <;> rw [hv] at h <;> simp only [nilV, reduceCtorEq, Option.some.injEq] at h
   all_goals
     subst h
     rw [hv] at h0
     have h1 := h0
     simp only [Rep] at h1
   · obtain ⟨b, _, he⟩ := h1
     exact ⟨_, by simp only [execOp, he]; rfl, he ▸ h0⟩
   · obtain ⟨a', vs, he, hc, _⟩ := h1
     obtain ⟨b, off, rfl, _⟩ := hc
     exact ⟨_, by simp only [execOp, he]; rfl, he ▸ h0⟩
   · obtain ⟨vs, he, _⟩ := h1
     exact ⟨_, by simp only [execOp, he]; rfl, he ▸ h0⟩
 case pick c x y =>
   have h0 := hx c (by simp [Op.operands])
   have h1 := hx x (by simp [Op.operands])
   have h2 := hx y (by simp [Op.operands])
   simp only [aQP] at h
   split at h
   · rename_i b hb
     simp only [Option.some.injEq] at h
     subst h
     rw [hb] at h0
     simp only [Rep] at h0
     cases b with
     | true => exact ⟨a.eval x, by simp [execOp, h0, asBool], h1⟩
     | false => exact ⟨a.eval y, by simp [execOp, h0, asBool], h2⟩
   · cases h
 case call c =>
   obtain ⟨callee, args, argTypes⟩ := c
   cases callee <;> simp only [reduceCtorEq] at h
   rename_i b
   unfold aHd at h
   split at h
   · rename_i x t rest ea et
     split at h
     · rename_i hs
       have hargs : args = #[x] := by rw [<- Array.toArray_toList (xs := args), ea]
       have ht : argTypes[0]? = some t := by rw [<- Array.getElem?_toList, et]; rfl
       subst hargs
       have h0 := hx x (by simp [Op.operands, Call.operands])
       unfold sliT at hs
       split at hs
       · rename_i e hu
         obtain ⟨y, n0, c, he, rfl⟩ := aRl h h0
         refine ⟨.int .i64 (n0 : Nat), ?_, by simp only [Rep]⟩
         simp [execOp, resolve, invoke, builtin, Sem.run_bind, Builtin.len_, ht, he, run_underlying hu, goInt]
       · cases hs
     · cases h
   · rename_i x y ea
     have hargs : args = #[x, y] := by rw [<- Array.toArray_toList (xs := args), ea]
     subst hargs
     have h0 := hx x (by simp [Op.operands, Call.operands])
     have h1 := hx y (by simp [Op.operands, Call.operands])
     unfold aNk at h
     split at h
     · rename_i k p k' q e1 e2
       split at h
       · simp only [Option.some.injEq] at h
         subst h
         rw [e1] at h0; rw [e2] at h1
         simp only [Rep] at h0 h1
         refine ⟨_, ?_, by simp only [Rep]; rfl⟩
         simp [execOp, resolve, invoke, builtin, Builtin.max_, Builtin.max2, h0, h1]
       · cases h
     · cases h
   · rename_i x y ea
     have hargs : args = #[x, y] := by rw [<- Array.toArray_toList (xs := args), ea]
     subst hargs
     have h0 := hx x (by simp [Op.operands, Call.operands])
     have h1 := hx y (by simp [Op.operands, Call.operands])
     unfold aNh at h
     split at h
     · rename_i k p k' q e1 e2
       split at h
       · simp only [Option.some.injEq] at h
         subst h
         rw [e1] at h0; rw [e2] at h1
         simp only [Rep] at h0 h1
         refine ⟨_, ?_, by simp only [Rep]; rfl⟩
         simp [execOp, resolve, invoke, builtin, Builtin.min_, Builtin.min2, h0, h1]
       · cases h
     · cases h
   · cases h
def aI8 (s : Nat) : Nat -> List (Nat × AV) -> Option (List AV)
 | _, [] => some []
 | j, (i, x) :: r => if i = j then match aCc x with
   | some l => if l.length = s then (aI8 s (j + 1) r).map (l ++ ·) else none
   | none => none
   else none
def bslV (P : Program) (t : TypeId) (len : Nat) (parts : List (Nat × AV)) : Option AV :=
 match sliE P t with
 | some e => match szT P e, zerT P e with
   | some s, some _ => if parts.length = len /\ len * s <= 16777216 /\ len <= 16777216 then (aI8 s 0 parts).map (.arr len) else none
   | _, _ => none
 | none => none
theorem aKb (s : Nat) : ∀ {ps : List (Nat × AV)} {qs : List (Nat × Value)}, Parts S β w ps qs -> ∀ {j : Nat} {l : List AV} {vs : Array Value}, aI8 s j ps = some l -> (j + ps.length) * s <= vs.size ->
   ∃ (us : Array Value) (l' : List Value), Instr.fill (fun i => some (i * s, s)) vs qs = some us /\ us.toList = vs.toList.take (j * s) ++ l' ++ vs.toList.drop ((j + ps.length) * s) /\ RepL S β w l l'
 | _, _, .nil, j, l, vs, h, hsz => by
   simp only [aI8, Option.some.injEq] at h
   subst h
   exact ⟨vs, [], rfl, by simp, by simp only [RepL]⟩
 | _, _, .cons i (x := x) (v := v) (r := r) (s := s') hx hr, j, l, vs, h, hsz => by
   simp only [aI8] at h
   split at h
   · rename_i hij
     subst hij
     split at h
     · rename_i l1 hl1
       split at h
       · rename_i hls
         cases hf : aI8 s (i + 1) r with
         | none => rw [hf] at h; cases h
         | some l2 =>
           rw [hf] at h
           simp only [Option.map_some, Option.some.injEq] at h
           subst h
           have hv := aGX hx hl1
           have hlen := hv.len
           simp only [Array.length_toList] at hlen
           have hcs : v.cells.size = s := by omega
           simp only [List.length_cons] at hsz
           have hsz1 : (i + 1) * s <= vs.size := Nat.le_trans (Nat.mul_le_mul_right s (by omega)) hsz
           have hsz2 : i * s + s <= vs.size := by rw [Nat.succ_mul] at hsz1; exact hsz1
           have hfold : (v.cells.zipIdx.foldl (fun cs (p : Value × Nat) => cs.setIfInBounds (i * s + p.2) p.1) vs).toList = vs.toList.take (i * s) ++ v.cells.toList ++ vs.toList.drop (i * s + s) := by
             have := aLb (i * s) v.cells.toList 0 vs (by simp; omega)
             rw [Nat.add_zero] at this
             rw [<- Array.foldl_toList, Array.toList_zipIdx, this]
             simp [hcs]
           generalize hvs' : v.cells.zipIdx.foldl (fun cs (p : Value × Nat) => cs.setIfInBounds (i * s + p.2) p.1) vs = vs' at hfold
           have hsz' : vs'.size = vs.size := by
             have := congrArg List.length hfold
             simp at this
             omega
           obtain ⟨us, l', h1, h2, h3⟩ := aKb s hr (j := i + 1) (vs := vs') hf (by rw [hsz']; rw [show i + 1 + r.length = i + (r.length + 1) by omega]; exact hsz)
           refine ⟨us, v.cells.toList ++ l', ?_, ?_, hv.app h3⟩
           · simp only [Instr.fill]
             rw [if_neg (by simp; omega), hvs']
             exact h1
           · rw [h2, hfold, Nat.succ_mul, show i + 1 + r.length = i + (r.length + 1) by omega]
             simp only [List.length_cons]
             have e1 : (vs.toList.take (i * s) ++ v.cells.toList ++ vs.toList.drop (i * s + s)).take (i * s + s) = vs.toList.take (i * s) ++ v.cells.toList := by
               rw [List.take_append_of_le_length (by simp; omega), List.take_of_length_le (by simp; omega)]
             have e2 : (vs.toList.take (i * s) ++ v.cells.toList ++ vs.toList.drop (i * s + s)).drop ((i + (r.length + 1)) * s) = vs.toList.drop ((i + (r.length + 1)) * s) := by
               have hle : i * s + s <= (i + (r.length + 1)) * s := by rw [<- Nat.succ_mul]; exact Nat.mul_le_mul_right s (by omega)
               rw [List.drop_append, List.drop_eq_nil_of_le (by simp; omega), List.nil_append, List.drop_drop]
               congr 1
               simp
               omega
             rw [e1, e2]
             simp
       · cases h
     · cases h
   · cases h
theorem aR8 {t : TypeId} {len : Nat} {ps : List (Nat × AV)} {qs : Array (Nat × Value)} {r : AV} (hS : ∀ b, S b -> b < w.heap.size) (hp : Parts S β w ps qs.toList) (h : bslV P t len ps = some r) :
   ∃ u w', (Instr.buildSlice t len qs).run P w = .ok u w' /\ Below w.heap.size w w' /\ Rep S β w' r u := by
 unfold bslV at h
 cases ht : sliE P t with
 | none => rw [ht] at h; cases h
 | some e =>
   rw [ht] at h
   simp only at h
   cases hs : szT P e with
   | none => rw [hs] at h; cases h
   | some s =>
     cases hz : zerT P e with
     | none => rw [hs, hz] at h; cases h
     | some z =>
       rw [hs, hz] at h
       simp only at h
       split at h
       · rename_i hc
         obtain ⟨hlen, hmax, hl24⟩ := hc
         cases hf : aI8 s 0 ps with
         | none => rw [hf] at h; cases h
         | some l =>
           rw [hf] at h
           simp only [Option.map_some, Option.some.injEq] at h
           subst h
           unfold sliE at ht
           split at ht
           · rename_i e' hu
             simp only [Option.some.injEq] at ht
             subst ht
             unfold szT at hs
             unfold zerT at hz
             cases hi : P.info? e' with
             | none => simp [hi] at hs
             | some it =>
               cases hzz : it.zero with
               | none => simp [hi, hzz] at hz
               | some z0 =>
                 simp [hi] at hs
                 subst hs
                 have key : ∀ vs : Array Value, vs.size = len * it.size -> ∃ us, Instr.fill (fun i => some (i * it.size, it.size)) vs qs.toList = some us /\ RepL S β w l us.toList := fun vs hvs => by
                   obtain ⟨us, l', h1, h2, h3⟩ := aKb it.size hp (j := 0) (vs := vs) hf (by rw [Nat.zero_add, hlen, hvs]; exact Nat.le_refl _)
                   refine ⟨us, h1, ?_⟩
                   rw [h2]
                   have : vs.toList.drop ((0 + ps.length) * it.size) = [] := List.drop_eq_nil_of_le (by simp [hlen, hvs])
                   rw [this]
                   simpa using h3
                 have hnew : ∀ us : Array Value, RepL S β w l us.toList -> Rep S β (w.alloc (.cells us e')) (.arr len l) (.slice (some ⟨w.heap.size, 0, none⟩) len len) := fun us hus => by
                   have hb : Below w.heap.size w (w.alloc (.cells us e')) := (Below.refl _ _).alloc (Nat.le_refl _) _
                   simp only [Rep]
                   refine ⟨_, _, us.toList, rfl, ⟨Nat.le_refl _, by omega⟩, ⟨w.heap.size, 0, rfl, fun _ hs => absurd (hS _ hs) (Nat.lt_irrefl _), fun j u hj => ?_⟩, RepL.to (fun b hl _ => hb.block b hl) (fun _ _ h => h) (fun _ _ h => h) _ _ hus⟩
                   rw [Nat.zero_add]
                   exact (Blk.new w us e').cell j u (by simpa using hj)
                 by_cases h0 : len * it.size = 0
                 · obtain ⟨us, g1, g2⟩ := key ((Array.range (len * it.size)).map fun i => (#[] : Array Value)[i % (#[] : Array Value).size]!) (by simp)
                   refine ⟨_, _, ?_, (Below.refl _ _).alloc (Nat.le_refl _) (.cells us e'), hnew us g2⟩
                   simp [h0] at g1
                   simp [Instr.buildSlice, Sem.run_bind, run_underlying hu, sizeOf, typeInfo, hi, h0, g1, newRow]
                 · obtain ⟨us, g1, g2⟩ := key ((Array.range (len * it.size)).map fun i => z0.cells[i % z0.cells.size]!) (by simp)
                   refine ⟨_, _, ?_, (Below.refl _ _).alloc (Nat.le_refl _) (.cells us e'), hnew us g2⟩
                   have hm : ¬ 16777216 < len * it.size := by omega
                   simp [Instr.buildSlice, Sem.run_bind, run_underlying hu, sizeOf, typeInfo, hi, h0, hm, zeroValue, hzz, g1, newRow]
           · cases ht
       · cases h
end
end
section
open Go.RowKit
mutual
def noPtr : AV -> Bool
 | .ptr _ _ => false
 | .agg l | .tup l | .arr _ l | .fp l | .clo _ l => noPtrL l
 | .sl _ _ _ _ => false
 | _ => true
def noPtrL : List AV -> Bool
 | [] => true
 | a :: l => noPtr a && noPtrL l
end
mutual
theorem Rep.plain {S S' : Nat -> Prop} {β β' : List Nat} {w : World} (hS : ∀ b, b < w.heap.size -> S' b -> S b) : ∀ (x : AV) (v : Value), noPtr x = true -> Rep S β w x v -> Rep S' β' w x v
 | .any, _, _, _ => by simp only [Rep]
 | .un, _, _, h => by simp only [Rep] at h ⊢; exact h
 | .lit u, v, _, h => by simp only [Rep] at h ⊢; exact h
 | .num n, v, _, h => by simp only [Rep] at h ⊢; exact h.to (fun _ _ _ => rfl) hS
 | .wds l, v, _, h => by simp only [Rep] at h ⊢; exact h.to (fun _ _ _ => rfl) hS
 | .ptr k i, v, hp, h => by simp [noPtr] at hp
 | .agg l, v, hp, h => by simp only [Rep] at h ⊢; obtain ⟨vs, h1, h2⟩ := h; exact ⟨vs, h1, RepL.plain hS l vs (by simpa [noPtr] using hp) h2⟩
 | .tup l, v, hp, h => by simp only [Rep] at h ⊢; obtain ⟨vs, h1, h2⟩ := h; exact ⟨vs, h1, RepL.plain hS l vs (by simpa [noPtr] using hp) h2⟩
 | .arr n es, v, hp, h => by simp only [Rep] at h ⊢; obtain ⟨a, c, vs, h1, h2, h3, h4⟩ := h; exact ⟨a, c, vs, h1, h2, h3.to (fun _ _ _ => rfl) hS, RepL.plain hS es vs (by simpa [noPtr] using hp) h4⟩
 | .fp es, v, hp, h => by simp only [Rep] at h ⊢; obtain ⟨a, vs, h1, h2, h3⟩ := h; exact ⟨a, vs, h1, h2.to (fun _ _ _ => rfl) hS, RepL.plain hS es vs (by simpa [noPtr] using hp) h3⟩
 | .clo f cap, v, hp, h => by simp only [Rep] at h ⊢; obtain ⟨vs, h1, h2⟩ := h; exact ⟨vs, h1, RepL.plain hS cap vs (by simpa [noPtr] using hp) h2⟩
 | .sl k i n c, v, hp, h => by simp [noPtr] at hp
theorem RepL.plain {S S' : Nat -> Prop} {β β' : List Nat} {w : World} (hS : ∀ b, b < w.heap.size -> S' b -> S b) : ∀ (l : List AV) (vs : List Value), noPtrL l = true -> RepL S β w l vs -> RepL S' β' w l vs
 | [], _, _, h => by simp only [RepL] at h ⊢; exact h
 | a :: l, vs, hp, h => by
   simp only [RepL] at h ⊢
   simp only [noPtrL, Bool.and_eq_true] at hp
   obtain ⟨v, r, h1, h2, h3⟩ := h
   exact ⟨v, r, h1, Rep.plain hS a v hp.1 h2, RepL.plain hS l r hp.2 h3⟩
end
def aHW (P : Program) (f : FuncId) : Bool :=
 match P.funcs[f]? with
 | some fn => !(fn.name == "runtime.NumGoroutine") && fn.body.isSome
 | none => false
def AC (P : Program) (I : World -> Prop) (f : FuncId) (args : List AV) (r : AV) : Prop :=
 aHW P f = true /\ ∀ (S : Nat -> Prop) (β : List Nat) (w : World) (vs : List Value), I w -> (∀ b, S b -> b < w.heap.size) -> RepL S β w args vs ->
   Calls P f vs.toArray w fun e w' => ∃ v, e = .returned v /\ Rep S β w' r v /\ Below w.heap.size w w'
def SS (S0 : Nat -> Prop) (β : List Nat) (b : Nat) : Prop := S0 b \/ b ∈ β
def aHK (I : World -> Prop) : Prop := ∀ w w', I w -> Below w.heap.size w w' -> I w'
def GL (P : Program) (I : World -> Prop) (t : TypeId) (a : Addr) (u : Value) : Prop := ∀ w, I w -> (Instr.loadAt t (.pointer (some a))).run P w = .ok u w
def litA : Value -> AV
 | .agg cs => .agg (cs.toList.map aEN)
 | v => aEN v
theorem aVf {S : Nat -> Prop} {β : List Nat} {w : World} (v : Value) : Rep S β w (litA v) v := by
 unfold litA
 split
 · simp only [Rep]; exact ⟨_, rfl, aFv _⟩
 · exact aIg v
structure Tr (S0 : Nat -> Prop) (β : List Nat) (w : World) (β' : List Nat) (w' : World) : Prop where
 size : w.heap.size <= w'.heap.size
 frame : ∀ b, b < w.heap.size -> ¬ SS S0 β b -> w'.heap[b]? = w.heap[b]?
 back : ∀ b, b < w.heap.size -> SS S0 β' b -> SS S0 β b
 pre : ∀ (k b : Nat), β[k]? = some b -> β'[k]? = some b
theorem Tr.refl (S0 : Nat -> Prop) (β : List Nat) (w : World) : Tr S0 β w β w := ⟨Nat.le_refl _, fun _ _ _ => rfl, fun _ _ h => h, fun _ _ h => h⟩
theorem Tr.trans {S0 : Nat -> Prop} {β β' β'' : List Nat} {w w' w'' : World} (h : Tr S0 β w β' w') (h' : Tr S0 β' w' β'' w'') : Tr S0 β w β'' w'' :=
 ⟨Nat.le_trans h.size h'.size, fun b hb hn => (h'.frame b (Nat.lt_of_lt_of_le hb h.size) fun hs => hn (h.back b hb hs)).trans (h.frame b hb hn), fun b hb hs => h.back b hb (h'.back b (Nat.lt_of_lt_of_le hb h.size) hs), fun k b hk => h'.pre k b (h.pre k b hk)⟩
theorem Tr.rep {S0 : Nat -> Prop} {β β' : List Nat} {w w' : World} (h : Tr S0 β w β' w') {x : AV} {v : Value} (hx : Rep (SS S0 β) β w x v) : Rep (SS S0 β') β' w' x v := Rep.to h.frame h.back h.pre x v hx
structure Rel (S0 : Nat -> Prop) (W0 : World) (B0 : List Nat) (w0 : World) (β : List Nat) (σ : St) (a : Act) (w : World) : Prop where
 below : Below W0.heap.size W0 w
 old : ∀ b, S0 b -> b < W0.heap.size
 own : ∀ b, b ∈ β -> W0.heap.size <= b
 mem : MemRep (SS S0 β) β w σ.m
 tmps : ∀ i, Rep (SS S0 β) β w (getT σ.t i) (a.tmps.getD i undef)
 size : a.tmps.size = σ.n
 defers : a.defers = []
 tr : Tr S0 B0 w0 β w
def CX (P : Program) (I : World -> Prop) (f : FuncId) (args : List AV) (m : AMem) (Q : AV -> AMem -> Prop) : Prop :=
 aHW P f = true /\ (aHK I -> ∀ (S0 : Nat -> Prop) (W0 : World) (β : List Nat) (w : World) (vs : List Value), I W0 -> Below W0.heap.size W0 w -> (∀ b, S0 b -> b < W0.heap.size) -> (∀ b, b ∈ β -> W0.heap.size <= b) -> MemRep (SS S0 β) β w m -> RepL (SS S0 β) β w args vs ->
   Calls P f vs.toArray w fun e w' => ∃ v r m' β', e = .returned v /\ Q r m' /\ Rep (SS S0 β') β' w' r v /\ MemRep (SS S0 β') β' w' m' /\ (∀ b, b ∈ β' -> W0.heap.size <= b) /\ Below W0.heap.size W0 w' /\ Tr S0 β w β' w')
def dOk (σ : St) : Option Tmp -> Prop
 | some d => d < σ.n
 | none => True
def aAy (P : Program) (m : AMem) (t : TypeId) : AV -> AV -> Option AMem
 | .ptr k i, x => match m[k]?, aCc x with
   | some (T, cs), some l => if l.all oneA = true /\ szT P t = some l.length /\ i + l.length <= cs.length then some (m.set k (T, cs.take i ++ l ++ cs.drop (i + l.length))) else none
   | _, _ => none
 | _, _ => none
def St.new (σ : St) (d : Option Tmp) (t : TypeId) (l : List AV) : St := ({ σ with m := σ.m ++ [(t, l)] } : St).put d (.ptr σ.m.length 0)
def aEt (P : Program) (I : World -> Prop) (K : St -> Prop) (σ : St) (o : Oper) : Prop :=
 match o.op with
 | .call c => match c.callee with
   | .value x => match σ.ev x with
     | .clo f cap => dOk σ o.dst /\ ∃ r, AC P I f (c.args.toList.map σ.ev ++ cap) r /\ K (σ.put o.dst r)
     | _ => False
   | .builtin b => match aHd P σ b c.args.toList c.argTypes.toList with
     | some r => dOk σ o.dst /\ K (σ.put o.dst r)
     | none => False
   | _ => False
 | .buildSlice t len parts => match bslV P t len (parts.toList.map fun p => (p.1, σ.ev p.2)) with
   | some r => dOk σ o.dst /\ K (σ.put o.dst r)
   | none => False
 | .load t x => match σ.ev x with
   | .lit (.pointer (some a)) => dOk σ o.dst /\ ∃ u, GL P I t a u /\ K (σ.put o.dst (litA u))
   | x => match aK2 P σ.m t x with
     | some r => dOk σ o.dst /\ K (σ.put o.dst r)
     | none => False
 | op => match aGq P σ op with
   | some r => dOk σ o.dst /\ K (σ.put o.dst r)
   | none => False
def aKA (P : Program) (I : World -> Prop) (K : St -> Prop) (σ : St) (o : Oper) : Prop :=
 match o.op with
 | .alloc t => match zerT P t with
   | some z => dOk σ o.dst /\ K (σ.new o.dst t (z.map aEN))
   | none => False
 | .box t x => match aCc (σ.ev x) with
   | some l => dOk σ o.dst /\ K (σ.new o.dst t l)
   | none => False
 | .store t a x => match aAy P σ.m t (σ.ev a) (σ.ev x) with
   | some m => o.dst = none /\ K { σ with m := m }
   | none => False
 | .pick c x y => dOk σ o.dst /\ ∃ b, σ.ev c = .lit (.bool b) /\ (b = true -> K (σ.put o.dst (σ.ev x))) /\ (b = false -> K (σ.put o.dst (σ.ev y)))
 | .call c => match c.callee with
   | .value x => match σ.ev x with
     | .clo f cap => dOk σ o.dst /\ CX P I f (c.args.toList.map σ.ev ++ cap) σ.m (fun r m' => K (({ σ with m := m' } : St).put o.dst r))
     | _ => False
   | _ => aEt P I K σ o
 | _ => aEt P I K σ o
def aCQ (ops : Array Oper) (σ : St) (j : Nat) (b : Bool) : Option Bool :=
 match dstAt ops j with
 | some t => match getT σ.t t with
   | .lit (.bool c) => some c
   | .un => some (!b)
   | _ => none
 | none => none
def opsX (P : Program) (I : World -> Prop) (ops : Array Oper) (K : St -> Prop) : List Oper -> St -> Prop
 | [], σ => K σ
 | o :: l, σ => match o.guard with
   | none => aKA P I (fun σ' => opsX P I ops K l σ') σ o
   | some (j, b) => match aCQ ops σ j b with
     | some c => (c = b -> aKA P I (fun σ' => opsX P I ops K l σ') σ o) /\ (c = (!b) -> dOk σ o.dst /\ opsX P I ops K l (σ.put o.dst .un))
     | none => False
def aFT (P : Program) (K : St -> Prop) : List Tmp -> List Oper -> St -> Prop
 | _, [], σ => K σ
 | ds, o :: l, σ => match o.guard, o.op with
   | none, .alloc t => match zerT P t, o.dst with
     | some z, some d => d < σ.n /\ ds.contains d = false /\ aFT P K (d :: ds) l (σ.new (some d) t (z.map aEN))
     | _, _ => False
   | _, _ => False
def aBB (P : Program) (I : World -> Prop) (ops : Array Oper) (K : St -> Prop) : List Oper -> St -> Prop
 | [], σ => K σ
 | o :: l, σ => match o.guard with
   | none => match o.op with
     | .alloc _ => aFT P K [] (o :: l) σ
     | _ => o.dst.isSome = true /\ aEt P I (fun σ' => aBB P I ops K l σ') σ o
   | some (j, b) => match aCQ ops σ j b with
     | some c => o.dst.isSome = true /\ (c = b -> aEt P I (fun σ' => aBB P I ops K l σ') σ o) /\ (c = (!b) -> dOk σ o.dst /\ aBB P I ops K l (σ.put o.dst .un))
     | none => False
def aAm (K : St -> Prop) (Q : Exit -> St -> Prop) : Exit -> St -> Prop
 | .normal, σ => K σ
 | e, σ => Q e σ
def aAg (id : Nat) (Q : Exit -> St -> Prop) : Exit -> St -> Prop
 | .exit id', σ => if id' = id then Q .normal σ else Q (.exit id') σ
 | e, σ => Q e σ
def wpx (P : Program) (I : World -> Prop) : Code -> (Exit -> St -> Prop) -> St -> Prop
 | .skip, Q, σ => Q .normal σ
 | .region _ ops draw, Q, σ => (draw = false /\ opsX P I ops (Q .normal) ops.toList σ) \/
     (draw = true /\ ∃ n, aKC ops n = true /\ n <= ops.size /\ aBB P I ops (fun σ' => opsX P I ops (Q .normal) (ops.toList.drop n) σ') (ops.toList.take n) σ)
 | .seq x y, Q, σ => wpx P I x (aAm (wpx P I y Q) Q) σ
 | .cond c x y, Q, σ => ∃ b, σ.ev c = .lit (.bool b) /\ (b = true -> wpx P I x Q σ) /\ (b = false -> wpx P I y Q σ)
 | .block id c, Q, σ => wpx P I c (aAg id Q) σ
 | .exit id, Q, σ => Q (.exit id) σ
 | .ret, Q, σ => Q .ret σ
 | .loop c, Q, σ => ∃ R : Nat -> St -> Prop, (∃ n, R n σ) /\ ∀ n σ', R n σ' -> wpx P I c (aAm (fun σ'' => ∃ k, k < n /\ R k σ'') Q) σ'
 | _, _, _ => False
section
variable {P : Program} {I : World -> Prop} {S0 : Nat -> Prop} {W0 : World} {B0 : List Nat} {w0 : World}
theorem aTB {a : Act} {d : Tmp} {u : Value} (hd : d < a.tmps.size) (i : Nat) : (a.put (some d) u).tmps.getD i undef = if i = d then u else a.tmps.getD i undef := by
 simp only [Act.put, Array.getD_eq_getD_getElem?]
 by_cases h : i = d
 · subst h; simp [hd]
 · rw [if_neg h, Array.getElem?_setIfInBounds_ne (Ne.symm h)]
theorem Rel.put {β : List Nat} {σ : St} {a : Act} {w : World} (h : Rel S0 W0 B0 w0 β σ a w) {d : Option Tmp} {r : AV} {u : Value} (hd : dOk σ d) (hu : Rep (SS S0 β) β w r u) : Rel S0 W0 B0 w0 β (σ.put d r) (a.put d u) w := by
 cases d with
 | none => exact h
 | some d =>
   have hs : d < a.tmps.size := by rw [h.size]; exact hd
   refine ⟨h.below, h.old, h.own, h.mem, fun i => ?_, by simp [Act.put, St.put, h.size], h.defers, h.tr⟩
   rw [aTB hs]
   simp only [St.put, getT]
   split
   · exact hu
   · exact h.tmps i
theorem Rel.lt {β : List Nat} {σ : St} {a : Act} {w : World} (h : Rel S0 W0 B0 w0 β σ a w) {b : Nat} (hb : SS S0 β b) : b < w.heap.size := by
 rcases hb with hb | hb
 · exact Nat.lt_of_lt_of_le (h.old b hb) h.below.size
 · obtain ⟨k, hk⟩ := List.mem_iff_getElem?.1 hb
   obtain ⟨T, cs, vs, _, h2, _⟩ := h.mem.at_ k b hk
   exact h2.lt
theorem Rel.ev {β : List Nat} {σ : St} {a : Act} {w : World} (h : Rel S0 W0 B0 w0 β σ a w) (x : Operand) : Rep (SS S0 β) β w (σ.ev x) (a.eval x) := by
 cases x with
 | tmp t => exact h.tmps t
 | const v => exact aIg v
 | global g => simp only [St.ev, Rep]; rfl
 | func f => simp only [St.ev, Rep]; exact ⟨[], rfl, by simp only [RepL]⟩
theorem MemRep.call {S : Nat -> Prop} {β : List Nat} {w w' : World} {m : AMem} (h : MemRep S β w m) (hb : Below w.heap.size w w') : MemRep S β w' m :=
 ⟨h.len, h.own, fun k b hk => by
   obtain ⟨T, cs, vs, h1, h2, h3⟩ := h.at_ k b hk
   exact ⟨T, cs, vs, h1, h2.call hb, RepL.to (fun b hl _ => hb.block b hl) (fun _ _ h => h) (fun _ _ h => h) _ _ h3⟩, h.inj⟩
theorem Rep.call {S : Nat -> Prop} {β : List Nat} {w w' : World} {x : AV} {v : Value} (h : Rep S β w x v) (hb : Below w.heap.size w w') : Rep S β w' x v :=
 Rep.to (fun b hl _ => hb.block b hl) (fun _ _ h => h) (fun _ _ h => h) _ _ h
theorem Rel.call {β : List Nat} {σ : St} {a : Act} {w w' : World} (h : Rel S0 W0 B0 w0 β σ a w) (hb : Below w.heap.size w w') : Rel S0 W0 B0 w0 β σ a w' :=
 ⟨h.below.trans (hb.mono h.below.size), h.old, h.own, h.mem.call hb, fun i => (h.tmps i).call hb, h.size, h.defers, h.tr.trans ⟨hb.size, fun b hl _ => hb.block b hl, fun _ _ h => h, fun _ _ h => h⟩⟩
theorem Rel.callM {β β' : List Nat} {σ : St} {a : Act} {w w' : World} {m' : AMem} (h : Rel S0 W0 B0 w0 β σ a w) (hm : MemRep (SS S0 β') β' w' m') (ho : ∀ b, b ∈ β' -> W0.heap.size <= b) (hb : Below W0.heap.size W0 w') (ht : Tr S0 β w β' w') : Rel S0 W0 B0 w0 β' { σ with m := m' } a w' :=
 ⟨hb, h.old, ho, hm, fun i => ht.rep (h.tmps i), h.size, h.defers, h.tr.trans ht⟩
theorem Rel.new {β : List Nat} {σ : St} {a : Act} {w : World} (h : Rel S0 W0 B0 w0 β σ a w) {d : Option Tmp} (hd : dOk σ d) {t : TypeId} {l : List AV} {c : Array Value} (hc : RepL (SS S0 β) β w l c.toList) :
   Rel S0 W0 B0 w0 (β ++ [w.heap.size]) (σ.new d t l) (a.put d (.pointer (some ⟨w.heap.size, 0, none⟩))) (w.alloc (.cells c t)) := by
 have hw : ∀ b, b < w.heap.size -> ¬ SS S0 β b -> (w.alloc (.cells c t)).heap[b]? = w.heap[b]? := fun b hb _ => Below.heap_alloc _ _ _ hb
 have hS : ∀ b, b < w.heap.size -> SS S0 (β ++ [w.heap.size]) b -> SS S0 β b := fun b hb hs => by
   rcases hs with hs | hs
   · exact .inl hs
   · rcases List.mem_append.1 hs with hs | hs
     · exact .inr hs
     · simp at hs; omega
 have hβ : ∀ (k b : Nat), β[k]? = some b -> (β ++ [w.heap.size])[k]? = some b := fun k b hk => by
   rw [List.getElem?_append_left (List.getElem?_eq_some_iff.1 hk).1]; exact hk
 have hsz : w.heap.size = w.heap.size := rfl
 have base : Rel S0 W0 B0 w0 (β ++ [w.heap.size]) { σ with m := σ.m ++ [(t, l)] } a (w.alloc (.cells c t)) := by
   refine ⟨h.below.alloc h.below.size _, h.old, fun b hb => ?_, ⟨by simp [h.mem.len], fun k b hk => .inr (List.mem_iff_getElem?.2 ⟨k, hk⟩), fun k b hk => ?_, fun i j b hi hj => ?_⟩, fun i => Rep.to hw hS hβ _ _ (h.tmps i), h.size, h.defers, h.tr.trans ⟨by simp, hw, hS, hβ⟩⟩
   · rcases List.mem_append.1 hb with hb | hb
     · exact h.own b hb
     · simp at hb; subst hb; exact h.below.size
   · by_cases hkl : k < β.length
     · rw [List.getElem?_append_left hkl] at hk
       obtain ⟨T, cs, vs, h1, h2, h3⟩ := h.mem.at_ k b hk
       refine ⟨T, cs, vs, ?_, h2.alloc _, RepL.to hw hS hβ _ _ h3⟩
       simp only
       rw [List.getElem?_append_left (by rw [<- h.mem.len]; exact hkl)]
       exact h1
     · rw [List.getElem?_append_right (by omega)] at hk
       have hk0 : k - β.length = 0 := by
         have := (List.getElem?_eq_some_iff.1 hk).1
         simp at this; omega
       rw [hk0] at hk
       simp at hk
       subst hk
       refine ⟨t, l, c.toList, ?_, by simpa using Blk.new w c t, RepL.to hw hS hβ _ _ hc⟩
       simp only
       rw [List.getElem?_append_right (by rw [<- h.mem.len]; omega), <- h.mem.len, hk0]
       rfl
   · have big : ∀ k, (β ++ [w.heap.size])[k]? = some b -> ¬ k < β.length -> k = β.length /\ b = w.heap.size := fun k hk hkl => by
       rw [List.getElem?_append_right (by omega)] at hk
       have := (List.getElem?_eq_some_iff.1 hk).1
       simp at this
       have hk0 : k - β.length = 0 := by omega
       rw [hk0] at hk
       simp at hk
       exact ⟨by omega, hk.symm⟩
     have small : ∀ k, (β ++ [w.heap.size])[k]? = some b -> k < β.length -> β[k]? = some b /\ b < w.heap.size := fun k hk hkl => by
       rw [List.getElem?_append_left hkl] at hk
       obtain ⟨T, cs, vs, _, h2, _⟩ := h.mem.at_ k b hk
       exact ⟨hk, h2.lt⟩
     by_cases hi' : i < β.length <;> by_cases hj' : j < β.length
     · exact h.mem.inj i j b (small i hi hi').1 (small j hj hj').1
     · have := (small i hi hi').2; have := (big j hj hj').2; omega
     · have := (small j hj hj').2; have := (big i hi hi').2; omega
     · have := (big i hi hi').1; have := (big j hj hj').1; omega
 refine base.put hd ?_
 simp only [Rep]
 exact ⟨w.heap.size, by rw [<- h.mem.len]; simp, rfl⟩
theorem aMY {β : List Nat} {σ : St} {a : Act} {w : World} (h : Rel S0 W0 B0 w0 β σ a w) {t : TypeId} {p x : AV} {pv xv : Value} {m : AMem} (hs : aAy P σ.m t p x = some m) (hp : Rep (SS S0 β) β w p pv) (hx : Rep (SS S0 β) β w x xv) :
   ∃ w', (Instr.storeAt t pv xv).run P w = .ok () w' /\ Rel S0 W0 B0 w0 β { σ with m := m } a w' := by
 unfold aAy at hs
 split at hs
 · rename_i k i
   split at hs
   · rename_i T cs l hk hl
     split at hs
     · rename_i hc
       obtain ⟨hc1, hc2, hc3⟩ := hc
       simp only [Option.some.injEq] at hs
       subst hs
       simp only [Rep] at hp
       obtain ⟨b, hb, rfl⟩ := hp
       obtain ⟨T', cs', vs, h1, h2, h3⟩ := h.mem.at_ k b hb
       rw [hk] at h1
       simp only [Option.some.injEq, Prod.mk.injEq] at h1
       obtain ⟨rfl, rfl⟩ := h1
       have hv := aGX hx hl
       have hlen := hv.len
       have hlen3 := h3.len
       simp only [Array.length_toList] at hlen
       have hone : ∀ u ∈ xv.cells.toList, u.oneCell' = true := fun u hu => by
         obtain ⟨j, hj⟩ := List.mem_iff_getElem?.1 hu
         have hj' : j < l.length := by rw [hlen]; simpa using (List.getElem?_eq_some_iff.1 hj).1
         exact aVe ((aC4.1 hv).2 j l[j] u (List.getElem?_eq_getElem hj') hj) (List.all_eq_true.1 hc1 _ (List.getElem_mem hj'))
       have hcell := run_storeCells_at (P := P) b i T xv.cells.toList 0 vs.toArray w h2 (by simp; omega) hone
       simp only [Nat.add_zero, Array.length_toList] at hcell
       refine ⟨w.setRow b (vs.take i ++ xv.cells.toList ++ vs.drop (i + xv.cells.size)).toArray, ?_, ?_⟩
       · have hsz : (sizeOf t).run P w = .ok l.length w := by
           unfold szT at hc2
           cases hi : P.info? t with
           | none => simp [hi] at hc2
           | some it =>
             simp [hi] at hc2
             simp [sizeOf, typeInfo, hi, hc2]
         rw [<- hlen] at hcell ⊢
         simp [Instr.storeAt, Instr.sureAddr, storeVar, Sem.run_bind, hsz, <- hlen]
         simpa using hcell
       · have hw : ∀ b', b' ≠ b -> (w.setRow b (vs.take i ++ xv.cells.toList ++ vs.drop (i + xv.cells.size)).toArray).heap[b']? = w.heap[b']? := fun b' hne => setRow_other w b b' _ hne
         have hown := h.mem.own k b hb
         have hto : ∀ b', b' < w.heap.size -> ¬ SS S0 β b' -> (w.setRow b (vs.take i ++ xv.cells.toList ++ vs.drop (i + xv.cells.size)).toArray).heap[b']? = w.heap[b']? := fun b' _ hn => hw b' (fun e => hn (e ▸ hown))
         have hbig : W0.heap.size <= b := h.own b (List.mem_iff_getElem?.2 ⟨k, hb⟩)
         refine ⟨h.below.trans ⟨rfl, rfl, rfl, by simp, fun b' hb' => hw b' (by omega)⟩, h.old, h.own, ⟨by simp [h.mem.len], h.mem.own, fun k' b' hk' => ?_, h.mem.inj⟩, fun j => Rep.to hto (fun _ _ h => h) (fun _ _ h => h) _ _ (h.tmps j), h.size, h.defers, h.tr.trans ⟨by simp, hto, fun _ _ h => h, fun _ _ h => h⟩⟩
         by_cases hkk : k' = k
         · subst hkk
           rw [hb] at hk'
           simp only [Option.some.injEq] at hk'
           subst hk'
           refine ⟨T, cs.take i ++ l ++ cs.drop (i + l.length), vs.take i ++ xv.cells.toList ++ vs.drop (i + xv.cells.size), ?_, setRow_heap w b _ _ T (0, 0) h2, ?_⟩
           · simp only [List.getElem?_set_self (List.getElem?_eq_some_iff.1 hk).1]
           · have e : i + l.length = i + xv.cells.size := by omega
             rw [e]
             exact RepL.to hto (fun _ _ h => h) (fun _ _ h => h) _ _ (((h3.take i).app hv).app (h3.drop _))
         · obtain ⟨T2, cs2, vs2, g1, g2, g3⟩ := h.mem.at_ k' b' hk'
           have hne : b' ≠ b := fun e => hkk (h.mem.inj k' k b (e ▸ hk') hb)
           refine ⟨T2, cs2, vs2, ?_, ?_, RepL.to hto (fun _ _ h => h) (fun _ _ h => h) _ _ g3⟩
           · simp only [List.getElem?_set_ne (Ne.symm hkk)]
             exact g1
           · unfold Blk; rw [hw b' hne]; exact g2
     · cases hs
   · cases hs
 · cases hs
end
end
section
open Go.RowKit
section
variable {P : Program} {I : World -> Prop} {S0 : Nat -> Prop} {W0 : World} {B0 : List Nat} {w0 : World}
def YC (P : Program) (I : World -> Prop) (σ : St) (o : Oper) (r : AV) : Prop :=
 aGq P σ o.op = some r \/ (∃ t len parts, o.op = .buildSlice t len parts /\ bslV P t len (parts.toList.map fun p => (p.1, σ.ev p.2)) = some r) \/ (∃ t x a u, o.op = .load t x /\ σ.ev x = .lit (.pointer (some a)) /\ GL P I t a u /\ r = litA u) \/
 ∃ c x f cap, o.op = .call c /\ c.callee = .value x /\ σ.ev x = .clo f cap /\ AC P I f (c.args.toList.map σ.ev ++ cap) r
theorem aKT {K : St -> Prop} {σ : St} {o : Oper} (h : aEt P I K σ o) : ∃ r, dOk σ o.dst /\ YC P I σ o r /\ K (σ.put o.dst r) := by
 have other : (match aGq P σ o.op with | some r => dOk σ o.dst /\ K (σ.put o.dst r) | none => False) -> ∃ r, dOk σ o.dst /\ YC P I σ o r /\ K (σ.put o.dst r) := fun h => by
   split at h
   · rename_i r hr
     exact ⟨r, h.1, .inl hr, h.2⟩
   · exact h.elim
 unfold aEt at h
 split at h
 · rename_i c ho
   split at h
   · rename_i x hc
     split at h
     · rename_i f cap hx
       obtain ⟨h1, r, h2, h3⟩ := h
       exact ⟨r, h1, .inr (.inr (.inr ⟨c, x, f, cap, ho, hc, hx, h2⟩)), h3⟩
     · exact h.elim
   · rename_i b hc
     refine other ?_
     rw [ho]
     simp only [aGq, hc]
     exact h
   · exact h.elim
 · rename_i t len parts ho
   split at h
   · rename_i r hr
     exact ⟨r, h.1, .inr (.inl ⟨t, len, parts, ho, hr⟩), h.2⟩
   · exact h.elim
 · rename_i t x ho
   split at h
   · rename_i a hx
     obtain ⟨h1, u, h2, h3⟩ := h
     exact ⟨_, h1, .inr (.inr (.inl ⟨t, x, a, u, ho, hx, h2, rfl⟩)), h3⟩
   · refine other ?_
     rw [ho]
     exact h
 · exact other h
theorem aOJ {c : Call} {x : Operand} {f : FuncId} {cap : List Value} {a : Act} {o : Oper} {w : World} (ho : o.op = .call c) (hc : c.callee = .value x) (hx : a.eval x = .func (.func f) #[] cap.toArray) (hk : aHW P f = true) : (execOp a.eval o).run P w = .ok (.enter f (c.args.map a.eval ++ cap.toArray)) w := by
 unfold aHW at hk
 split at hk
 · rename_i fn hf
   simp only [Bool.and_eq_true, Bool.not_eq_true', beq_eq_false_iff_ne] at hk
   obtain ⟨h1, h2⟩ := hk
   have h3 : fn.body ≠ none := by intro e; rw [e] at h2; cases h2
   simp [execOp, ho, resolve, hc, hx, Deferred.ofValue, invoke, callFunc, hf, h1, h3]
 · cases hk
theorem aOQ {S : Nat -> Prop} {β : List Nat} {w : World} {σ : St} {a : Act} {c : Call} {x : Operand} {f : FuncId} {cap : List AV} (hc : c.callee = .value x) (hx : ∀ x ∈ (Op.call c).operands.toList, Rep S β w (σ.ev x) (a.eval x)) (he : σ.ev x = .clo f cap) :
   ∃ cv : List Value, a.eval x = .func (.func f) #[] cv.toArray /\ RepL S β w (c.args.toList.map σ.ev ++ cap) (c.args.toList.map a.eval ++ cv) := by
 have h0 := hx x (by simp [Op.operands, Call.operands, hc])
 rw [he] at h0
 simp only [Rep] at h0
 obtain ⟨cv, h1, h2⟩ := h0
 refine ⟨cv, h1, RepL.app (aC4.2 ⟨by simp, fun i x v h1 h2 => ?_⟩) h2⟩
 rw [List.getElem?_map] at h1 h2
 cases hi : c.args.toList[i]? with
 | none => rw [hi] at h1; cases h1
 | some y =>
   rw [hi] at h1 h2
   simp only [Option.map_some, Option.some.injEq] at h1 h2
   subst h1; subst h2
   refine hx y ?_
   simp only [Op.operands, Call.operands, hc, Array.toList_append]
   exact List.mem_append_right _ (List.mem_iff_getElem?.2 ⟨i, hi⟩)
theorem aOR (c : Call) (a : Act) (cv : List Value) : (c.args.toList.map a.eval ++ cv).toArray = c.args.map a.eval ++ cv.toArray := by
 apply Array.ext'
 simp
theorem aNZ {S : Nat -> Prop} {β : List Nat} {w : World} {σ : St} {a : Act} {o : Oper} {r : AV} (hI : I w) (hS : ∀ b, S b -> b < w.heap.size) (hm : MemRep S β w σ.m) (hx : ∀ x ∈ o.op.operands.toList, Rep S β w (σ.ev x) (a.eval x)) (h : YC P I σ o r) :
   (∃ u w', (execOp a.eval o).run P w = .ok (.value u) w' /\ Below w.heap.size w w' /\ Rep S β w' r u) \/
   (∃ f args, (execOp a.eval o).run P w = .ok (.enter f args) w /\ Calls P f args w fun e w' => ∃ v, e = .returned v /\ Rep S β w' r v /\ Below w.heap.size w w') := by
 rcases h with h | ⟨t, len, parts, ho, h⟩ | ⟨t, x, a', u, ho, he, h, rfl⟩ | ⟨c, x, f, cap, ho, hc, he, hk, h⟩
 · obtain ⟨u, h1, h2⟩ := aMT hm hx h
   exact .inl ⟨u, w, h1, Below.refl _ _, h2⟩
 · have hp : ∀ l : List (Nat × Operand), (∀ p ∈ l, Rep S β w (σ.ev p.2) (a.eval p.2)) -> Parts S β w (l.map fun p => (p.1, σ.ev p.2)) (l.map fun p => (p.1, a.eval p.2)) := fun l => by
     induction l with
     | nil => intro _; exact .nil
     | cons p l ih => intro hl; exact .cons p.1 (hl p (by simp)) (ih fun q hq => hl q (by simp [hq]))
   obtain ⟨u, w', h1, h2, h3⟩ := aR8 (qs := parts.map fun p => (p.1, a.eval p.2)) hS (by rw [Array.toList_map]; exact hp parts.toList fun p hq => hx p.2 (by rw [ho]; simp only [Op.operands, List.mem_map]; exact ⟨p, hq, rfl⟩)) h
   exact .inl ⟨u, w', by simp [execOp, ho, h1], h2, h3⟩
 · have h0 := hx x (by rw [ho]; simp [Op.operands])
   rw [he] at h0
   simp only [Rep] at h0
   exact .inl ⟨u, w, by simp [execOp, ho, h0, h w hI], Below.refl _ _, aVf u⟩
 · rw [ho] at hx
   obtain ⟨cv, h1, h2⟩ := aOQ hc hx he
   refine .inr ⟨f, _, aOJ ho hc h1 hk, ?_⟩
   have := h S β w _ hI hS h2
   rwa [aOR] at this
theorem aJY {K : St -> Prop} {Kf : Act -> World -> Prop} {Q : Exit -> Act -> World -> Prop} {β : List Nat} {σ : St} {a : Act} {w : World} {o : Oper} (hI : aHK I) (h0 : I W0) (hr : Rel S0 W0 B0 w0 β σ a w) (h : aEt P I K σ o)
   (hK : ∀ σ' β' a' w', K σ' -> Rel S0 W0 B0 w0 β' σ' a' w' -> Kf a' w') : o.wp P a w Kf Q := by
 obtain ⟨r, h1, h2, h3⟩ := aKT h
 unfold Oper.wp
 rcases aNZ (hI _ _ h0 hr.below) (fun b hb => hr.lt hb) hr.mem (fun x _ => hr.ev x) h2 with ⟨u, w', e, hb, hu⟩ | ⟨f, args, e, hc⟩
 · rw [e]
   exact hK _ β _ _ h3 ((hr.call hb).put h1 hu)
 · rw [e]
   refine hc.mono fun e w' hh => ?_
   obtain ⟨v, rfl, hv, hb⟩ := hh
   exact hK _ β _ _ h3 ((hr.call hb).put h1 hv)
theorem aJU {K : St -> Prop} {Kf : Act -> World -> Prop} {Q : Exit -> Act -> World -> Prop} {β : List Nat} {σ : St} {a : Act} {w : World} {o : Oper} (hI : aHK I) (h0 : I W0) (hr : Rel S0 W0 B0 w0 β σ a w) (h : aKA P I K σ o)
   (hK : ∀ σ' β' a' w', K σ' -> Rel S0 W0 B0 w0 β' σ' a' w' -> Kf a' w') : o.wp P a w Kf Q := by
 unfold aKA at h
 split at h
 · rename_i t ho
   split at h
   · rename_i z hz
     obtain ⟨h1, h2⟩ := h
     unfold zerT at hz
     cases hi : P.info? t with
     | none => simp [hi] at hz
     | some it =>
       cases hq : it.zero with
       | none => simp [hi, hq] at hz
       | some zv =>
         simp only [hi, hq, Option.bind_some, Option.map_some, Option.some.injEq] at hz
         subst hz
         have hrun : (execOp a.eval o).run P w = .ok (.value (.pointer (some ⟨w.heap.size, 0, none⟩))) (w.alloc (.cells zv.cells t)) := by
           simp [execOp, ho, Instr.alloc, zeroValue, typeInfo, hi, hq, newVar, newRow]
         unfold Oper.wp
         rw [hrun]
         exact hK _ _ _ _ h2 (hr.new h1 (aFv _))
   · exact h.elim
 · rename_i t x ho
   split at h
   · rename_i l hl
     obtain ⟨h1, h2⟩ := h
     have hrun : (execOp a.eval o).run P w = .ok (.value (.pointer (some ⟨w.heap.size, 0, none⟩))) (w.alloc (.cells (a.eval x).cells t)) := by
       simp [execOp, ho, Instr.box, newVar, newRow]
     unfold Oper.wp
     rw [hrun]
     exact hK _ _ _ _ h2 (hr.new h1 (aGX (hr.ev x) hl))
   · exact h.elim
 · rename_i t p x ho
   split at h
   · rename_i m hm
     obtain ⟨h1, h2⟩ := h
     obtain ⟨w', hrun, hr'⟩ := aMY hr hm (hr.ev p) (hr.ev x)
     have hrun' : (execOp a.eval o).run P w = .ok .skip w' := by simp [execOp, ho, hrun]
     unfold Oper.wp
     rw [hrun', Oper.upon_skip, h1]
     exact hK _ _ _ _ h2 hr'
   · exact h.elim
 · rename_i c x y ho
   obtain ⟨h1, b, h2, h3, h4⟩ := h
   have hc := hr.ev c
   rw [h2] at hc
   simp only [Rep] at hc
   have hrun : (execOp a.eval o).run P w = .ok (.value (if b then a.eval x else a.eval y)) w := by simp [execOp, ho, hc, asBool]
   unfold Oper.wp
   rw [hrun]
   cases b with
   | true => exact hK _ β _ _ (h3 rfl) (hr.put h1 (hr.ev x))
   | false => exact hK _ β _ _ (h4 rfl) (hr.put h1 (hr.ev y))
 · rename_i c ho
   split at h
   · rename_i x hc
     split at h
     · rename_i f cap hx
       obtain ⟨h1, hk, h2⟩ := h
       obtain ⟨cv, h3, h4⟩ := aOQ (c := c) hc (fun x _ => hr.ev x) hx
       unfold Oper.wp
       rw [aOJ ho hc h3 hk, <- aOR]
       refine (h2 hI S0 W0 β w _ h0 hr.below hr.old hr.own hr.mem h4).mono fun e w' hh => ?_
       obtain ⟨v, r, m', β', rfl, g1, g2, g3, g4, g5, g6⟩ := hh
       exact hK _ β' _ _ g1 ((hr.callM g3 g4 g5 g6).put (by cases hd : o.dst <;> rw [hd] at h1 <;> exact h1) g2)
     · exact h.elim
   · exact aJY hI h0 hr h hK
 · exact aJY hI h0 hr h hK
theorem aIY {K : St -> Prop} {Q : Exit -> Act -> World -> Prop} {ops : Array Oper} (hI : aHK I) (h0 : I W0) (hK : ∀ σ' β' a' w', K σ' -> Rel S0 W0 B0 w0 β' σ' a' w' -> Q .normal a' w') :
   ∀ (l : List Oper) (σ : St) (β : List Nat) (a : Act) (w : World), opsX P I ops K l σ -> Rel S0 W0 B0 w0 β σ a w -> wpList P ops Q l a w
 | [], σ, β, a, w, h, hr => hK σ β a w h hr
 | o :: l, σ, β, a, w, h, hr => by
   have next : ∀ σ' β' a' w', opsX P I ops K l σ' -> Rel S0 W0 B0 w0 β' σ' a' w' -> wpList P ops Q l a' w' := fun σ' β' a' w' h1 h2 => aIY hI h0 hK l σ' β' a' w' h1 h2
   unfold opsX at h
   unfold wpList
   split at h
   · rename_i hg
     rw [if_pos (by unfold Region.wanted; rw [hg])]
     exact .inl (aJU hI h0 hr h next)
   · rename_i j b hg
     split at h
     case h_2 => exact h.elim
     rename_i c hgv
     obtain ⟨h3, h4⟩ := h
     have hwant : Region.wanted o (yielded ops a.tmps) = (c == b) := by
       unfold aCQ at hgv
       unfold Region.wanted
       rw [hg]
       simp only
       split at hgv
       · rename_i t ht
         have hrt := hr.tmps t
         have h1' : ops[j]?.bind (·.dst) = some t := ht
         unfold yielded
         rw [h1']
         split at hgv
         · rename_i c' hc'
           cases hgv
           rw [hc'] at hrt
           simp only [Rep] at hrt
           have : a.tmps[t]? = some (.bool c) := by
             rw [Array.getD_eq_getD_getElem?] at hrt
             cases hv : a.tmps[t]? with
             | none => rw [hv] at hrt; cases hrt
             | some v => rw [hv] at hrt; simpa using hrt
           simp [this]
         · rename_i hc'
           cases hgv
           rw [hc'] at hrt
           simp only [Rep] at hrt
           have hn : ∀ x, a.tmps[t]? ≠ some (.bool x) := fun x hx => by
             rw [Array.getD_eq_getD_getElem?, hx] at hrt
             cases hrt
           cases hv : a.tmps[t]? with
           | none => cases b <;> simp [hv]
           | some v =>
             cases v <;> first | (exact absurd hv (hn _)) | (cases b <;> simp [hv])
         · cases hgv
       · cases hgv
     by_cases hcb : c = b
     · rw [if_pos (by rw [hwant, hcb]; simp)]
       exact .inl (aJU hI h0 hr (h3 hcb) next)
     · rw [if_neg (by rw [hwant]; simpa using hcb)]
       obtain ⟨g1, g2⟩ := h4 (by cases c <;> cases b <;> simp_all)
       exact next _ β _ _ g2 (hr.put g1 (by simp only [Rep]))
def SX (S X : Nat -> Prop) (b : Nat) : Prop := S b \/ X b
def told (S : Nat -> Prop) (β : List Nat) (H : List (Nat × AV)) : List Told := H.map fun p => (p.1, fun v X w => Rep (SX S X) β w p.2 v)
theorem aOu (t : List (Nat × AV)) (i : Nat) : ∀ H : List (Nat × AV), ((H.map (·.1)).contains i = true -> ∃ r, (i, r) ∈ H /\ getT (H ++ t) i = r) /\ ((H.map (·.1)).contains i = false -> getT (H ++ t) i = getT t i)
 | [] => ⟨fun h => by simp at h, fun _ => rfl⟩
 | (d, r) :: H => by
   obtain ⟨h1, h2⟩ := aOu t i H
   by_cases hd : i = d
   · subst hd
     exact ⟨fun _ => ⟨r, by simp, by simp [getT]⟩, fun h => by simp at h⟩
   · have hb : (i == d) = false := beq_eq_false_iff_ne.2 hd
     simp only [List.map_cons, List.contains_cons, hb, Bool.false_or, List.cons_append, getT, if_neg hd]
     exact ⟨fun h => by obtain ⟨r', g1, g2⟩ := h1 h; exact ⟨r', List.mem_cons_of_mem _ g1, g2⟩, h2⟩
theorem Rep.upX {S X : Nat -> Prop} {β : List Nat} {W w : World} {x : AV} {v : Value} (h : Rep S β W x v) (hb : BW W w) (hX : ∀ b, X b -> W.heap.size <= b) : Rep (SX S X) β w x v :=
 Rep.to (fun b hl _ => hb.block b hl) (fun b hl hs => hs.elim id fun hx => absurd hl (Nat.not_lt.2 (hX b hx))) (fun _ _ h => h) x v h
theorem Rep.dropX {S X : Nat -> Prop} {β : List Nat} {w : World} {x : AV} {v : Value} (h : Rep (SX S X) β w x v) : Rep S β w x v := Rep.to (fun _ _ _ => rfl) (fun _ _ hs => .inl hs) (fun _ _ h => h) x v h
theorem MemRep.upX {S X : Nat -> Prop} {β : List Nat} {W w : World} {m : AMem} (h : MemRep S β W m) (hb : BW W w) (hX : ∀ b, X b -> W.heap.size <= b) : MemRep (SX S X) β w m :=
 ⟨h.len, fun k b hk => .inl (h.own k b hk), fun k b hk => by
   obtain ⟨T, cs, vs, h1, h2, h3⟩ := h.at_ k b hk
   exact ⟨T, cs, vs, h1, h2.call hb, RepL.to (fun b hl _ => hb.block b hl) (fun b hl hs => hs.elim id fun hx => absurd hl (Nat.not_lt.2 (hX b hx))) (fun _ _ h => h) _ _ h3⟩, h.inj⟩
theorem aMl {X : Nat -> Prop} {β : List Nat} {σ0 : St} {a0 : Act} {W w : World} (hr : Rel S0 W0 B0 w0 β σ0 a0 W) {H : List (Nat × AV)} (hH : ∀ p ∈ H, p.1 < σ0.n) {vs : Tmp -> Value} (hb : BW W w) (hX : ∀ b, X b -> W.heap.size <= b) (i : Nat) (hf : ∀ r, (i, r) ∈ H -> Rep (SX (SS S0 β) X) β w r (vs i)) :
   Rep (SX (SS S0 β) X) β w (getT (H ++ σ0.t) i) ((aAX a0 vs (told (SS S0 β) β H)).tmps.getD i undef) := by
 have e : (told (SS S0 β) β H).map (·.1) = H.map (·.1) := by simp [told]
 obtain ⟨h1, h2⟩ := aOu σ0.t i H
 have h3 := aCp vs (told (SS S0 β) β H) a0 i
 rw [e] at h3
 rw [Array.getD_eq_getD_getElem?, h3]
 cases hc : (H.map (·.1)).contains i with
 | true =>
   obtain ⟨r, g1, g2⟩ := h1 hc
   have hlt : i < a0.tmps.size := by rw [hr.size]; exact hH _ g1
   rw [g2]
   simpa [hlt] using hf r g1
 | false =>
   rw [h2 hc]
   have := (hr.tmps i).upX hb hX
   rw [Array.getD_eq_getD_getElem?] at this
   simpa using this
theorem aDX (vs : Tmp -> Value) : ∀ (G : List Told) (a : Act), (aAX a vs G).tmps.size = a.tmps.size
 | [], _ => rfl
 | (t, R) :: G, a => by rw [aAX, aDX vs G]; simp [Act.put]
structure RelX (S0 : Nat -> Prop) (W0 : World) (B0 : List Nat) (w0 : World) (X : Nat -> Prop) (β : List Nat) (σ : St) (a : Act) (w : World) : Prop where
 below : Below W0.heap.size W0 w
 old : ∀ b, S0 b -> b < W0.heap.size
 own : ∀ b, b ∈ β -> W0.heap.size <= b
 mem : MemRep (SX (SS S0 β) X) β w σ.m
 tmps : ∀ i, Rep (SX (SS S0 β) X) β w (getT σ.t i) (a.tmps.getD i undef)
 size : a.tmps.size = σ.n
 defers : a.defers = []
 tr : Tr S0 B0 w0 β w
theorem RelX.rel {X : Nat -> Prop} {β : List Nat} {σ : St} {a : Act} {w : World} (h : RelX S0 W0 B0 w0 X β σ a w) : Rel S0 W0 B0 w0 β σ a w :=
 ⟨h.below, h.old, h.own, ⟨h.mem.len, fun k b hk => .inr (List.mem_iff_getElem?.2 ⟨k, hk⟩), fun k b hk => by
   obtain ⟨T, cs, vs, h1, h2, h3⟩ := h.mem.at_ k b hk
   exact ⟨T, cs, vs, h1, h2, RepL.to (fun _ _ _ => rfl) (fun _ _ hs => .inl hs) (fun _ _ h => h) _ _ h3⟩, h.mem.inj⟩, fun i => (h.tmps i).dropX, h.size, h.defers, h.tr⟩
def stA (σ : St) : List (Tmp × TypeId × List Value) -> St
 | [] => σ
 | (d, t, z) :: As => (stA σ As).new (some d) t (z.map aEN)
def aJG (W : World) (As : List (Tmp × TypeId × List Value)) : List Told := As.map fun p => (p.1, fun v _ w => ∃ b, v = .pointer (some ⟨b, 0, none⟩) /\ W.heap.size <= b /\ Blk w b p.2.2.toArray p.2.1)
theorem aVb (σ : St) : ∀ As, (stA σ As).m.length = σ.m.length + As.length /\ (stA σ As).n = σ.n
 | [] => ⟨rfl, rfl⟩
 | (d, t, z) :: As => by
   obtain ⟨h1, h2⟩ := aVb σ As
   constructor
   · simp only [stA, St.new, St.put, List.length_append, List.length_cons, List.length_nil, h1]; omega
   · simp only [stA, St.new, St.put, h2]
theorem aXe {X : Nat -> Prop} {β : List Nat} {σ : St} {a0 : Act} {W w : World} {vs : Tmp -> Value} {G : List Told} (hW : W0.heap.size <= W.heap.size) (hw0 : w0.heap.size <= W.heap.size) (hβ : ∀ b, b ∈ β -> b < W.heap.size) (h : RelX S0 W0 B0 w0 X β σ (aAX a0 vs G) w) :
   ∀ As : List (Tmp × TypeId × List Value), (∀ p ∈ As, p.1 < σ.n) -> (As.map (·.1)).Nodup -> (∀ p ∈ As, ∃ b, vs p.1 = .pointer (some ⟨b, 0, none⟩) /\ X b /\ W.heap.size <= b /\ Blk w b p.2.2.toArray p.2.1) -> (∀ p ∈ As, ∀ q ∈ As, p.1 ≠ q.1 -> vs p.1 ≠ vs q.1) ->
     ∃ β', RelX S0 W0 B0 w0 X (β ++ β') (stA σ As) (aAX a0 vs (aJG W As ++ G)) w /\ ∀ b, b ∈ β' -> ∃ p ∈ As, vs p.1 = .pointer (some ⟨b, 0, none⟩)
 | [], _, _, _, _ => ⟨[], by simpa [stA, aJG] using h, fun b hb => by cases hb⟩
 | (d, t, z) :: As, hn, hnd, hx, hap => by
   simp only [List.map_cons, List.nodup_cons] at hnd
   obtain ⟨β', ih, ihb⟩ := aXe hW hw0 hβ h As (fun p hp => hn p (List.mem_cons_of_mem _ hp)) hnd.2 (fun p hp => hx p (List.mem_cons_of_mem _ hp)) (fun p hp q hq => hap p (List.mem_cons_of_mem _ hp) q (List.mem_cons_of_mem _ hq))
   obtain ⟨b, hvb, hXb, hWb, hblk⟩ := hx (d, t, z) List.mem_cons_self
   have hnot : b ∉ β ++ β' := fun hm => by
     rcases List.mem_append.1 hm with hm | hm
     · have := hβ b hm; omega
     · obtain ⟨p, hp, e⟩ := ihb b hm
       refine hap (d, t, z) List.mem_cons_self p (List.mem_cons_of_mem _ hp) (fun e' => hnd.1 ?_) (hvb.trans e.symm)
       have e2 : d = p.1 := e'
       rw [e2]
       exact List.mem_map.2 ⟨p, hp, rfl⟩
   have hS : ∀ c, c < w.heap.size -> SX (SS S0 ((β ++ β') ++ [b])) X c -> SX (SS S0 (β ++ β')) X c := fun c _ hc => by
     rcases hc with (hc | hc) | hc
     · exact .inl (.inl hc)
     · rcases List.mem_append.1 hc with hc | hc
       · exact .inl (.inr hc)
       · simp at hc; subst hc; exact .inr hXb
     · exact .inr hc
   have hβ2 : ∀ (k c : Nat), (β ++ β')[k]? = some c -> ((β ++ β') ++ [b])[k]? = some c := fun k c hk => by
     rw [List.getElem?_append_left (List.getElem?_eq_some_iff.1 hk).1]; exact hk
   have hml := (aVb σ As)
   have hlen := ih.mem.len
   have last : ((β ++ β') ++ [b])[(β ++ β').length]? = some b := by rw [List.getElem?_append_right (Nat.le_refl _)]; simp
   have split1 : ∀ k c, ((β ++ β') ++ [b])[k]? = some c -> (k < (β ++ β').length /\ (β ++ β')[k]? = some c) \/ (k = (β ++ β').length /\ c = b) := fun k c hk => by
     by_cases hkl : k < (β ++ β').length
     · rw [List.getElem?_append_left hkl] at hk; exact .inl ⟨hkl, hk⟩
     · rw [List.getElem?_append_right (by omega)] at hk
       have := (List.getElem?_eq_some_iff.1 hk).1
       simp only [List.length_cons, List.length_nil] at this
       have hk0 : k - (β ++ β').length = 0 := by omega
       rw [hk0] at hk
       simp at hk
       exact .inr ⟨by omega, hk.symm⟩
   refine ⟨β' ++ [b], ?_, fun c hc => ?_⟩
   · rw [<- List.append_assoc]
     refine ⟨ih.below, ih.old, fun c hc => ?_, ⟨?_, fun k c hk => .inl (.inr (List.mem_iff_getElem?.2 ⟨k, hk⟩)), fun k c hk => ?_, fun i j c hi hj => ?_⟩, fun i => ?_, ?_, ?_, ⟨ih.tr.size, ih.tr.frame, fun c hc hs => ?_, fun k c hk => hβ2 k c (ih.tr.pre k c hk)⟩⟩
     · rcases List.mem_append.1 hc with hc | hc
       · exact ih.own c hc
       · simp at hc; subst hc; omega
     · simp only [stA, St.new, St.put, List.length_append, List.length_cons, List.length_nil] at hlen ⊢; omega
     · rcases split1 k c hk with ⟨hkl, hk'⟩ | ⟨hk', hcb⟩
       · obtain ⟨T, cs, us, h1, h2, h3⟩ := ih.mem.at_ k c hk'
         refine ⟨T, cs, us, ?_, h2, RepL.to (fun _ _ _ => rfl) hS hβ2 _ _ h3⟩
         simp only [stA, St.new, St.put]
         rw [List.getElem?_append_left (by rw [<- hlen]; exact hkl)]
         exact h1
       · rw [hk', hcb]
         refine ⟨t, z.map aEN, z, ?_, hblk, aFv _⟩
         simp only [stA, St.new, St.put]
         rw [List.getElem?_append_right (by rw [hlen]; exact Nat.le_refl _), hlen]
         simp
     · rcases split1 i c hi with ⟨hil, hi'⟩ | ⟨hi', hcb⟩
       · rcases split1 j c hj with ⟨hjl, hj'⟩ | ⟨hj', hcb⟩
         · exact ih.mem.inj i j c hi' hj'
         · exact absurd (hcb ▸ List.mem_iff_getElem?.2 ⟨i, hi'⟩) hnot
       · rcases split1 j c hj with ⟨hjl, hj'⟩ | ⟨hj', _⟩
         · exact absurd (hcb ▸ List.mem_iff_getElem?.2 ⟨j, hj'⟩) hnot
         · rw [hi', hj']
     · have h3 := aCp vs (aJG W ((d, t, z) :: As) ++ G) a0 i
       have h4 := aCp vs (aJG W As ++ G) a0 i
       have e1 : ((aJG W ((d, t, z) :: As) ++ G).map (·.1)) = d :: (aJG W As ++ G).map (·.1) := by simp [aJG]
       rw [e1] at h3
       have hlt : d < a0.tmps.size := by
         have h5 := ih.size
         rw [aDX, hml.2] at h5
         rw [h5]
         exact hn (d, t, z) List.mem_cons_self
       rw [Array.getD_eq_getD_getElem?, h3]
       simp only [stA, St.new, St.put, getT]
       by_cases hid : i = d
       · subst hid
         have e2 : (i :: (aJG W As ++ G).map (·.1)).contains i = true := by simp
         rw [if_pos e2, if_pos rfl]
         simp only [Rep]
         refine ⟨b, ?_, ?_⟩
         · rw [<- hlen]; exact last
         · simp [hlt, hvb]
       · have hb : (i == d) = false := beq_eq_false_iff_ne.2 hid
         rw [if_neg hid, List.contains_cons, hb, Bool.false_or, <- h4, <- Array.getD_eq_getD_getElem?]
         exact Rep.to (fun _ _ _ => rfl) hS hβ2 _ _ (ih.tmps i)
     · rw [aDX]
       have h5 := ih.size
       rw [aDX] at h5
       simp only [stA, St.new, St.put]
       exact h5
     · rw [aCa]
       have h5 := ih.defers
       rw [aCa] at h5
       exact h5
     · rcases hs with hs | hs
       · exact .inl hs
       · rcases List.mem_append.1 hs with hs | hs
         · exact ih.tr.back c hc (.inr hs)
         · simp at hs; subst hs; omega
   · rcases List.mem_append.1 hc with hc | hc
     · obtain ⟨p, hp, e⟩ := ihb c hc
       exact ⟨p, List.mem_cons_of_mem _ hp, e⟩
     · simp at hc; subst hc
       exact ⟨(d, t, z), List.mem_cons_self, hvb⟩
theorem aKc {X : Nat -> Prop} {β : List Nat} {σ0 : St} {a0 : Act} {W w : World} (hr : Rel S0 W0 B0 w0 β σ0 a0 W) {H : List (Nat × AV)} (hH : ∀ p ∈ H, p.1 < σ0.n) {vs : Tmp -> Value} (hb : BW W w) (hX : ∀ b, X b -> W.heap.size <= b) (hf : aDP vs X w (told (SS S0 β) β H)) :
   RelX S0 W0 B0 w0 X β { σ0 with t := H ++ σ0.t } (aAX a0 vs (told (SS S0 β) β H)) w := by
 have hr' := hr.call hb
 refine ⟨hr'.below, hr'.old, hr'.own, hr.mem.upX hb hX, fun i => aMl hr hH hb hX i fun r hm => aDY hf i _ (List.mem_map.2 ⟨(i, r), hm, rfl⟩), ?_, ?_, hr'.tr⟩
 · rw [aDX]; exact hr.size
 · rw [aCa]; exact hr.defers
theorem aH1 {ops : Array Oper} {A : List Tmp} {K : St -> Prop} {Q : Act -> World -> Prop} {β : List Nat} {σ0 : St} {a0 : Act} {W : World} (hr : Rel S0 W0 B0 w0 β σ0 a0 W) (hK : ∀ β' σ' a' w', K σ' -> Rel S0 W0 B0 w0 β' σ' a' w' -> Q a' w') {H : List (Nat × AV)} (hH : ∀ p ∈ H, p.1 < σ0.n) :
   ∀ (l : List Oper) (As : List (Tmp × TypeId × List Value)), (∀ p ∈ As, p.1 < σ0.n /\ p.1 ∈ A) -> (As.map (·.1)).Nodup -> (∀ o ∈ l, ∀ d, aCA o.op = true -> o.dst = some d -> d ∈ A) -> aFT P K (As.map (·.1)) l (stA { σ0 with t := H ++ σ0.t } As) ->
     wpSt P ops (BW W) W.heap.size A Q a0 l (aJG W As ++ told (SS S0 β) β H)
 | [], As, hA, hnd, hl, h => fun vs X w hw hX hf hap hin => by
   have hfH : aDP vs X w (told (SS S0 β) β H) := aEF fun t R hm => aDY hf t R (List.mem_append_right _ hm)
   obtain ⟨β', h1, _⟩ := aXe (As := As) hr.below.size hr.tr.size (fun b hb => hr.lt (.inr hb)) (aKc hr hH hw hX hfH) (fun p hp => (hA p hp).1) hnd
     (fun p hp => by
       obtain ⟨b, e1, e2, e3⟩ := aDY hf p.1 _ (List.mem_append_left _ (List.mem_map.2 ⟨p, hp, rfl⟩))
       obtain ⟨b', e4, e5⟩ := hin p.1 (hA p hp).2
       rw [e1] at e4
       injection e4 with e4
       injection e4 with e4
       injection e4 with e4
       subst e4
       exact ⟨b, e1, e5, e2, e3⟩)
     (fun p hp q hq hne => hap p.1 q.1 (hA p hp).2 (hA q hq).2 hne)
   exact hK _ _ _ _ h h1.rel
 | o :: l, As, hA, hnd, hl, h => by
   unfold aFT at h
   split at h
   · rename_i t hg ho
     split at h
     · rename_i z d hz hd
       obtain ⟨h1, h2, h3⟩ := h
       have hdA : d ∈ A := hl o List.mem_cons_self d (by rw [ho]; rfl) hd
       refine ⟨d, fun v _ w => ∃ b, v = .pointer (some ⟨b, 0, none⟩) /\ W.heap.size <= b /\ Blk w b z.toArray t, hd, fun v X X' w w' _ _ hb _ hh => ?_, fun vs X w hw hX hf => ?_, ?_⟩
       · obtain ⟨b, e1, e2, e3⟩ := hh
         exact ⟨b, e1, e2, e3.call hb⟩
       · refine .inl ⟨by unfold Region.wanted; rw [hg], ?_⟩
         unfold zerT at hz
         cases hi : P.info? t with
         | none => simp [hi] at hz
         | some it =>
           cases hq : it.zero with
           | none => simp [hi, hq] at hz
           | some zv =>
             simp only [hi, hq, Option.bind_some, Option.map_some, Option.some.injEq] at hz
             subst hz
             have hrun : (execOp (aAX a0 vs (aJG W As ++ told (SS S0 β) β H)).eval o).run P w = .ok (.value (.pointer (some ⟨w.heap.size, 0, none⟩))) (w.alloc (.cells zv.cells t)) := by
               simp [execOp, ho, Instr.alloc, zeroValue, typeInfo, hi, hq, newVar, newRow]
             unfold aLO
             rw [hrun]
             exact ⟨hw.alloc hw.size _, (Below.refl _ _).alloc (Nat.le_refl _) _, fun _ X' => ⟨w.heap.size, rfl, hw.size, by simpa using Blk.new w zv.cells t⟩, fun e => by rw [ho] at e; cases e⟩
       · refine aH1 hr hK hH l ((d, t, z) :: As) (fun p hp => ?_) ?_ (fun o' ho' => hl o' (List.mem_cons_of_mem _ ho')) h3
         · rcases List.mem_cons.1 hp with e | hp
           · subst e
             exact ⟨by rw [(aVb _ As).2] at h1; exact h1, hdA⟩
           · exact hA p hp
         · simp only [List.map_cons, List.nodup_cons]
           exact ⟨fun hm => (by rw [List.contains_iff_mem.2 hm] at h2; cases h2), hnd⟩
     · exact h.elim
   · exact h.elim
theorem aJ5 {ops : Array Oper} {A : List Tmp} {K : St -> Prop} {Q : Act -> World -> Prop} {β : List Nat} {σ0 : St} {a0 : Act} {W : World} (hI : aHK I) (h0 : I W0) (hr : Rel S0 W0 B0 w0 β σ0 a0 W)
   (hK : ∀ β' σ' a' w', K σ' -> Rel S0 W0 B0 w0 β' σ' a' w' -> Q a' w') :
   ∀ (l : List Oper) (H : List (Nat × AV)), (∀ o ∈ l, ∀ d, aCA o.op = true -> o.dst = some d -> d ∈ A) -> (∀ p ∈ H, p.1 < σ0.n) -> aBB P I ops K l { σ0 with t := H ++ σ0.t } -> wpSt P ops (BW W) W.heap.size A Q a0 l (told (SS S0 β) β H)
 | [], H, _, hH, h => fun vs X w hw hX hf _ _ => hK _ _ _ _ h (aKc hr hH hw hX hf).rel
 | o :: l, H, hl, hH, h => by
   have ev : ∀ {vs : Tmp -> Value} {X : Nat -> Prop} {w : World}, BW W w -> (∀ b, X b -> W.heap.size <= b /\ b < w.heap.size) -> aFL (o.looksAt ops) vs X w (told (SS S0 β) β H) -> ∀ t, (o.looksAt ops).contains t = true ->
       Rep (SX (SS S0 β) X) β w (getT (H ++ σ0.t) t) ((aAX a0 vs (told (SS S0 β) β H)).tmps.getD t undef) := fun hw hX hf t ht =>
     aMl hr hH hw (fun b hb => (hX b hb).1) t fun r' hm => aGE hf t _ (List.mem_map.2 ⟨(t, r'), hm, rfl⟩) ht
   have take : ∀ (hal : aCA o.op = false) {vs : Tmp -> Value} {X : Nat -> Prop} {w : World} {r : AV}, YC P I { σ0 with t := H ++ σ0.t } o r -> BW W w -> (∀ b, X b -> W.heap.size <= b /\ b < w.heap.size) -> aFL (o.looksAt ops) vs X w (told (SS S0 β) β H) ->
       aLO P (BW W) o (aAX a0 vs (told (SS S0 β) β H)) w (fun u w' => (aCA o.op = true -> ∀ X', Rep (SX (SS S0 β) X') β w' r u) /\ (aCA o.op = false -> Rep (SX (SS S0 β) X) β w' r u)) := fun {hal vs X w r} h2 hw hX hf => by
     have hrw := hr.call hw
     have hx : ∀ x ∈ o.op.operands.toList, Rep (SX (SS S0 β) X) β w (({ σ0 with t := H ++ σ0.t } : St).ev x) ((aAX a0 vs (told (SS S0 β) β H)).eval x) := fun x hx => by
       cases x with
       | tmp t => exact ev hw hX hf t (by rw [List.contains_iff_mem]; exact List.mem_append_left _ (List.mem_filterMap.2 ⟨.tmp t, hx, rfl⟩))
       | const v => exact aIg v
       | global g => simp only [St.ev, Rep]; rfl
       | func f => simp only [St.ev, Rep]; exact ⟨[], rfl, by simp only [RepL]⟩
     unfold aLO
     rcases aNZ (σ := { σ0 with t := H ++ σ0.t }) (hI _ _ h0 hrw.below) (fun b hb => hb.elim (fun hb => hrw.lt hb) fun hb => (hX b hb).2) (hr.mem.upX hw fun b hb => (hX b hb).1) hx h2 with ⟨u, w', e, hbw, hu⟩ | ⟨f, args, e, hc⟩
     · rw [e]
       exact ⟨hw.trans (hbw.mono hw.size), hbw, fun e => (by rw [hal] at e; cases e), fun _ => hu⟩
     · rw [e]
       exact ⟨rfl, hc.mono fun e w' ⟨v, h5, h6, h7⟩ => ⟨v, h5, hw.trans (h7.mono hw.size), h7, fun e => (by rw [hal] at e; cases e), fun _ => h6⟩⟩
   have stable : ∀ r, aH2 (BW W) (fun v X w => Rep (SX (SS S0 β) X) β w r v) := fun r v X X' w w' _ _ hb hX hh =>
     Rep.to (fun b hlt _ => hb.block b hlt) (fun b hlt hs => hs.elim (fun h => .inl h) fun h => (hX b h).elim (fun h => .inr h) fun h => absurd hlt (Nat.not_lt.2 h)) (fun _ _ h => h) r v hh
   have rest : ∀ {d : Tmp} {r : AV}, o.dst = some d -> dOk { σ0 with t := H ++ σ0.t } o.dst -> aBB P I ops K l (({ σ0 with t := H ++ σ0.t } : St).put o.dst r) -> wpSt P ops (BW W) W.heap.size A Q a0 l ((d, fun v X w => Rep (SX (SS S0 β) X) β w r v) :: told (SS S0 β) β H) := fun {d r} hd h1 h3 => by
     have hlt : d < σ0.n := by rw [hd] at h1; exact h1
     exact aJ5 (ops := ops) hI h0 hr hK l ((d, r) :: H) (fun o' ho' => hl o' (List.mem_cons_of_mem _ ho')) (fun p hp => by
       rcases List.mem_cons.1 hp with e | hp
       · subst e; exact hlt
       · exact hH p hp) (by rw [hd] at h3; exact h3)
   unfold aBB at h
   split at h
   · rename_i hg
     have hwant : ∀ a : Act, Region.wanted o (yielded ops a.tmps) = true := fun a => by unfold Region.wanted; rw [hg]
     split at h
     · rename_i t ho
       exact aH1 hr hK hH (o :: l) [] (fun p hp => by cases hp) List.nodup_nil hl h
     · rename_i hno
       have hal : aCA o.op = false := by
         cases ho : o.op <;> first | rfl | exact (hno _ ho).elim
       obtain ⟨hd, h⟩ := h
       obtain ⟨d, hd⟩ := Option.isSome_iff_exists.1 hd
       obtain ⟨r, h1, h2, h3⟩ := aKT h
       exact ⟨d, _, hd, stable r, fun vs X w hw hX hf => .inl ⟨hwant _, take hal h2 hw hX hf⟩, rest hd h1 h3⟩
   · rename_i j b hg
     split at h
     · rename_i c hgv
       obtain ⟨hd, h3, h4⟩ := h
       obtain ⟨d, hd⟩ := Option.isSome_iff_exists.1 hd
       have hy : ∀ {vs : Tmp -> Value} {X : Nat -> Prop} {w : World}, BW W w -> (∀ b, X b -> W.heap.size <= b /\ b < w.heap.size) -> aFL (o.looksAt ops) vs X w (told (SS S0 β) β H) ->
           Region.wanted o (yielded ops (aAX a0 vs (told (SS S0 β) β H)).tmps) = (c == b) := fun {vs X w} hw hX hf => by
         unfold aCQ at hgv
         split at hgv
         · rename_i t ht
           have hrp := ev hw hX hf t (by
             rw [List.contains_iff_mem]
             refine List.mem_append_right _ ?_
             rw [hg]
             have ht' : (ops[j]?).bind (·.dst) = some t := ht
             simp [ht'])
           have ht' : (ops[j]?).bind (·.dst) = some t := ht
           unfold Region.wanted
           rw [hg]
           simp only
           unfold yielded
           rw [ht']
           split at hgv
           · rename_i c' hc'
             cases hgv
             simp only at hc'
             rw [hc'] at hrp
             simp only [Rep] at hrp
             have : (aAX a0 vs (told (SS S0 β) β H)).tmps[t]? = some (.bool c) := by
               rw [Array.getD_eq_getD_getElem?] at hrp
               cases hv : (aAX a0 vs (told (SS S0 β) β H)).tmps[t]? with
               | none => rw [hv] at hrp; cases hrp
               | some v => rw [hv] at hrp; simpa using hrp
             simp [this]
           · rename_i hc'
             cases hgv
             simp only at hc'
             rw [hc'] at hrp
             simp only [Rep] at hrp
             have hn : ∀ x, (aAX a0 vs (told (SS S0 β) β H)).tmps[t]? ≠ some (.bool x) := fun x hx => by
               rw [Array.getD_eq_getD_getElem?, hx] at hrp
               cases hrp
             cases hv : (aAX a0 vs (told (SS S0 β) β H)).tmps[t]? with
             | none => cases b <;> simp [hv]
             | some v =>
               cases v <;> first | (exact absurd hv (hn _)) | (cases b <;> simp [hv])
           · cases hgv
         · cases hgv
       by_cases hcb : c = b
       · obtain ⟨r, h1, h2, h5⟩ := aKT (h3 hcb)
         have hal : aCA o.op = false := by
           cases ho : o.op <;> first | rfl | (rw [show aEt P I (fun σ' => aBB P I ops K l σ') { σ0 with t := H ++ σ0.t } o = False from by unfold aEt; rw [ho]; rfl] at h3; exact (h3 hcb).elim)
         exact ⟨d, _, hd, stable r, fun vs X w hw hX hf => .inl ⟨by rw [hy hw hX hf, hcb]; simp, take hal h2 hw hX hf⟩, rest hd h1 h5⟩
       · obtain ⟨h1, h5⟩ := h4 (by cases c <;> cases b <;> simp_all)
         exact ⟨d, _, hd, stable .un, fun vs X w hw hX hf => .inr ⟨by rw [hy hw hX hf]; simpa using hcb, by simp only [Rep]⟩, rest hd h1 h5⟩
     · exact h.elim
theorem aNQ {ops : Array Oper} {n : Nat} {o : Oper} {d : Tmp} (h : o ∈ ops.toList.take n) (ha : aCA o.op = true) (hd : o.dst = some d) : d ∈ aFi ops n := by
 obtain ⟨i, hi⟩ := List.mem_iff_getElem?.1 h
 rw [List.getElem?_take] at hi
 split at hi
 · rename_i hin
   rw [Array.getElem?_toList] at hi
   refine List.mem_filterMap.2 ⟨i, List.mem_range.2 hin, ?_⟩
   unfold allocAt dstAt
   rw [hi]
   simp only [ha, if_true, Option.bind_some, hd]
 · cases hi
theorem aEg (hI : aHK I) (h0 : I W0) (hmix : P.follows .mixedOrders = true) : ∀ (c : Code) (Q : Exit -> St -> Prop) (σ : St) (β : List Nat) (a : Act) (w : World), wpx P I c Q σ -> Rel S0 W0 B0 w0 β σ a w ->
   c.wp P (fun e a' w' => ∃ σ' β', Q e σ' /\ Rel S0 W0 B0 w0 β' σ' a' w') a w
 | .skip, Q, σ, β, a, w, h, hr => wp_skip ⟨σ, β, h, hr⟩
 | .region id ops draw, Q, σ, β, a, w, h, hr => by
   rcases h with ⟨hd, h⟩ | ⟨hd, n, hB, hn, h⟩
   · subst hd
     rw [<- Array.toArray_toList (xs := ops)]
     exact wp_region_lit (aIY hI h0 (fun σ' β' a' w' h1 h2 => ⟨σ', β', h1, h2⟩) ops.toList σ β a w (by simpa using h) hr)
   · subst hd
     rw [<- Array.toArray_toList (xs := ops)]
     refine aIu n hmix (by simpa using hB) (by simpa using hn) ?_
     exact aJ5 hI h0 hr (fun β' σ' a' w' h1 h2 => aIY hI h0 (fun σ' β' a' w' h1 h2 => ⟨σ', β', h1, h2⟩) _ σ' β' a' w' (by simpa using h1) h2) _ [] (fun o ho d ha hd => aNQ (by simpa using ho) ha hd) (fun p hp => by cases hp) h
 | .seq x y, Q, σ, β, a, w, h, hr => by
   refine wp_seq (wp_mono (aEg hI h0 hmix x _ σ β a w h hr) fun e a' w' hh => ?_)
   obtain ⟨σ', β', h1, h2⟩ := hh
   cases e
   case normal => exact aEg hI h0 hmix y Q σ' β' a' w' h1 h2
   all_goals exact ⟨σ', β', h1, h2⟩
 | .cond c x y, Q, σ, β, a, w, h, hr => by
   obtain ⟨b, h1, h2, h3⟩ := h
   have hc := hr.ev c
   rw [h1] at hc
   simp only [Rep] at hc
   exact wp_cond_split hc (fun e => aEg hI h0 hmix x Q σ β a w (h2 e) hr) (fun e => aEg hI h0 hmix y Q σ β a w (h3 e) hr)
 | .block id c, Q, σ, β, a, w, h, hr => by
   refine wp_block (wp_mono (aEg hI h0 hmix c _ σ β a w h hr) fun e a' w' hh => ?_)
   obtain ⟨σ', β', h1, h2⟩ := hh
   cases e
   case exit id' =>
     simp only [aAg] at h1
     simp only [Exit.inBlock]
     split at h1
     · rw [if_pos (by assumption)]; exact ⟨σ', β', h1, h2⟩
     · rw [if_neg (by assumption)]; exact ⟨σ', β', h1, h2⟩
   all_goals exact ⟨σ', β', h1, h2⟩
 | .exit id, Q, σ, β, a, w, h, hr => wp_exit ⟨σ, β, h, hr⟩
 | .ret, Q, σ, β, a, w, h, hr => wp_ret ⟨σ, β, h, hr⟩
 | .loop c, Q, σ, β, a, w, h, hr => by
   classical
   obtain ⟨R, ⟨n, hn⟩, hround⟩ := h
   let J : Nat -> Act -> World -> Prop := fun n a' w' => ∃ σ' β', R n σ' /\ Rel S0 W0 B0 w0 β' σ' a' w'
   have key : ∀ a' w', (∃ n, J n a' w') -> ∃ n, J n a' w' /\ ∀ k, J k a' w' -> n <= k := fun a' w' ⟨n, hn⟩ => by
     induction n using Nat.strongRecOn with
     | _ n ih =>
       by_cases hl : ∃ k, k < n /\ J k a' w'
       · obtain ⟨k, h1, h2⟩ := hl
         exact ih k h1 h2
       · exact ⟨n, hn, fun k hk => by
           rcases Nat.lt_or_ge k n with h | h
           · exact absurd ⟨k, h, hk⟩ hl
           · exact h⟩
   let μ : Act -> World -> Nat := fun a' w' => if hh : ∃ n, J n a' w' then Classical.choose (key a' w' hh) else 0
   have hμ : ∀ a' w' (hh : ∃ n, J n a' w'), J (μ a' w') a' w' /\ ∀ k, J k a' w' -> μ a' w' <= k := fun a' w' hh => by
     have := Classical.choose_spec (key a' w' hh)
     simp only [μ, dif_pos hh]
     exact this
   refine wp_loop (fun a' w' => ∃ n, J n a' w') μ ⟨n, σ, β, hn, hr⟩ fun a' w' hJ => ?_
   obtain ⟨⟨σ', β', g1, g2⟩, hmin⟩ := hμ a' w' hJ
   refine wp_mono (aEg hI h0 hmix c _ σ' β' a' w' (hround _ σ' g1) g2) fun e a2 w2 hh => ?_
   obtain ⟨σ2, β2, h1, h2⟩ := hh
   cases e
   case normal =>
     obtain ⟨k, hk, hR⟩ := h1
     have hJ2 : J k a2 w2 := ⟨σ2, β2, hR, h2⟩
     exact ⟨⟨k, hJ2⟩, Nat.lt_of_le_of_lt ((hμ a2 w2 ⟨k, hJ2⟩).2 k hJ2) hk⟩
   all_goals exact ⟨σ2, β2, h1, h2⟩
 | .rangeFunc .., _, _, _, _, _, h, _ => h.elim
 | .scope .., _, _, _, _, _, h, _ => h.elim
 | .label .., _, _, _, _, _, h, _ => h.elim
 | .goto .., _, _, _, _, _, h, _ => h.elim
 | .refuse .., _, _, _, _, _, h, _ => h.elim
def resV (P : Program) (σ : St) : ResultVar -> Option AV
 | .tmp t => some (getT σ.t t)
 | .cell p t => aK2 P σ.m t (getT σ.t p)
def resX (P : Program) (σ : St) (fn : Func) : Option AV :=
 match fn.results.toList with
 | [] => some (.tup [])
 | [x] => resV P σ x
 | [x, y] => (resV P σ x).bind fun a => (resV P σ y).map fun b => .tup [a, b]
 | [x, y, z] => (resV P σ x).bind fun a => (resV P σ y).bind fun b => (resV P σ z).map fun c => .tup [a, b, c]
 | _ => none
def endX (P : Program) (fn : Func) (r : AV) : Exit -> St -> Prop
 | .normal, σ | .ret, σ => resX P σ fn = some r
 | _, _ => False
def resM (tmps : Array Value) : ResultVar -> Sem Value
 | .tmp t => pure (tmps.getD t undef)
 | .cell a t => do loadVar t (<- asAddr (tmps.getD a undef))
theorem aO7 (fn : Func) (tmps : Array Value) : results fn tmps = (do let vs <- fn.results.mapM (resM tmps); pure (if h : vs.size = 1 then vs[0] else .tuple vs) : Sem Value) := by
 unfold results
 congr 1
theorem aEe {β : List Nat} {σ : St} {a : Act} {w : World} (hr : Rel S0 W0 B0 w0 β σ a w) {x : ResultVar} {r : AV} (h : resV P σ x = some r) :
   ∃ v, (resM a.tmps x).run P w = .ok v w /\ Rep (SS S0 β) β w r v := by
 cases x with
 | tmp t =>
   simp only [resV, Option.some.injEq] at h
   subst h
   exact ⟨_, rfl, hr.tmps t⟩
 | cell p t =>
   simp only [resV] at h
   have hp := hr.tmps p
   cases hv : getT σ.t p <;> rw [hv] at h <;> simp only [aK2, reduceCtorEq] at h
   · rw [hv] at hp
     obtain ⟨u, h1, h2⟩ := aJ1 hr.mem h hp
     refine ⟨u, ?_, h2⟩
     simp only [Rep] at hp
     obtain ⟨b, _, hb⟩ := hp
     simp only [hb] at h1
     simp only [resM, hb]
     simpa [asAddr, Instr.loadAt, Instr.sureAddr] using h1
   · rw [hv] at hp
     simp only [Rep] at hp
     obtain ⟨a', vs, hb, hc, hl⟩ := hp
     obtain ⟨u, h1, h2⟩ := aRh h hc hl
     refine ⟨u, ?_, h2⟩
     obtain ⟨b, off, rfl, _⟩ := hc
     simp only [resM, hb]
     simpa [asAddr, Instr.loadAt, Instr.sureAddr] using h1
theorem aQs {β : List Nat} {σ : St} {a : Act} {w : World} (hr : Rel S0 W0 B0 w0 β σ a w) {fn : Func} {r : AV} (h : resX P σ fn = some r) : ∃ v, (results fn a.tmps).run P w = .ok v w /\ Rep (SS S0 β) β w r v := by
 rw [aO7]
 unfold resX at h
 split at h
 · rename_i e
   have e : fn.results = #[] := by rw [<- Array.toArray_toList (xs := fn.results), e]
   simp only [Option.some.injEq] at h
   subst h
   refine ⟨.tuple #[], by simp [e], ?_⟩
   simp only [Rep]
   exact ⟨[], rfl, by simp only [RepL]⟩
 · rename_i x e
   have e : fn.results = #[x] := by rw [<- Array.toArray_toList (xs := fn.results), e]
   obtain ⟨v, h1, h2⟩ := aEe hr h
   exact ⟨v, by simp [e, h1], h2⟩
 · rename_i x y e
   have e : fn.results = #[x, y] := by rw [<- Array.toArray_toList (xs := fn.results), e]
   cases hx : resV P σ x with
   | none => rw [hx] at h; cases h
   | some rx =>
     cases hy : resV P σ y with
     | none => rw [hx, hy] at h; cases h
     | some ry =>
       rw [hx, hy] at h
       simp only [Option.bind_some, Option.map_some, Option.some.injEq] at h
       subst h
       obtain ⟨v, h1, h2⟩ := aEe hr hx
       obtain ⟨u, h3, h4⟩ := aEe hr hy
       refine ⟨.tuple #[v, u], by simp [e, h1, h3], ?_⟩
       simp only [Rep]
       exact ⟨[v, u], rfl, by simp only [RepL]; exact ⟨v, _, rfl, h2, u, _, rfl, h4, rfl⟩⟩
 · rename_i x y z e
   have e : fn.results = #[x, y, z] := by rw [<- Array.toArray_toList (xs := fn.results), e]
   cases hx : resV P σ x with
   | none => rw [hx] at h; cases h
   | some rx =>
     cases hy : resV P σ y with
     | none => rw [hx, hy] at h; cases h
     | some ry =>
       cases hz : resV P σ z with
       | none => rw [hx, hy, hz] at h; cases h
       | some rz =>
         rw [hx, hy, hz] at h
         simp only [Option.bind_some, Option.map_some, Option.some.injEq] at h
         subst h
         obtain ⟨v, h1, h2⟩ := aEe hr hx
         obtain ⟨u, h3, h4⟩ := aEe hr hy
         obtain ⟨t, h5, h6⟩ := aEe hr hz
         refine ⟨.tuple #[v, u, t], by simp [e, h1, h3, h5], ?_⟩
         simp only [Rep]
         exact ⟨[v, u, t], rfl, by simp only [RepL]; exact ⟨v, _, rfl, h2, u, _, rfl, h4, t, _, rfl, h6, rfl⟩⟩
 · cases h
def aAl : Nat -> List AV -> List (Nat × AV)
 | _, [] => []
 | i, a :: l => (i, a) :: aAl (i + 1) l
theorem aMF : ∀ (l : List AV) (i k : Nat), getT (aAl i l) k = if i <= k then (l[k - i]?).getD .any else .any
 | [], i, k => by simp [aAl, getT]
 | a :: l, i, k => by
   simp only [aAl, getT]
   by_cases h : k = i
   · subst h; simp
   · rw [if_neg h, aMF l (i + 1) k]
     by_cases h2 : i + 1 <= k
     · rw [if_pos h2, if_pos (by omega)]
       have e : k - i = (k - (i + 1)) + 1 := by omega
       rw [e, List.getElem?_cons_succ]
     · rw [if_neg h2, if_neg (by omega)]
def endM (P : Program) (fn : Func) (Q : AV -> AMem -> Prop) : Exit -> St -> Prop
 | .normal, σ | .ret, σ => ∃ r, resX P σ fn = some r /\ Q r σ.m
 | _, _ => False
theorem aSk {S : Nat -> Prop} {β : List Nat} {w : World} {args : List AV} {vs : List Value} {fn : Func} (hvs : RepL S β w args vs) (i : Nat) : Rep S β w (getT (aAl 0 args) i) ((vs.toArray ++ Array.replicate (fn.ntmps - vs.toArray.size) undef).getD i undef) := by
 rw [aMF, if_pos (Nat.zero_le _), Nat.sub_zero]
 cases ha : args[i]? with
 | none => simp only [Option.getD_none, Rep]
 | some x =>
   obtain ⟨v, h1, h2⟩ := hvs.get ha
   have hi := (List.getElem?_eq_some_iff.1 h1).1
   rw [Array.getD_eq_getD_getElem?, Array.getElem?_append_left (by simpa using hi)]
   simpa [h1] using h2
theorem aR1 {f : FuncId} {fn : Func} {c : Code} {args : List AV} {m : AMem} {Q : AV -> AMem -> Prop} (hf : P.funcs[f]? = some fn) (hb : fn.body = some c) (hk : aHW P f = true) (hI : aHK I) (hmix : P.follows .mixedOrders = true)
   (hlen : Nat.ble args.length fn.ntmps = true) (h : wpx P I c (endM P fn Q) { t := aAl 0 args, n := fn.ntmps, m := m }) : CX P I f args m Q := by
 refine ⟨hk, fun _ S0 W0 β w vs hw hB hold hown hm hvs => ?_⟩
 refine calls_of_wp hf hb ?_
 have hl := hvs.len
 have hlen := Nat.le_of_ble_eq_true hlen
 have hr : Rel S0 W0 β w β { t := aAl 0 args, n := fn.ntmps, m := m } { tmps := vs.toArray ++ Array.replicate (fn.ntmps - vs.toArray.size) undef, defers := [] } w :=
   ⟨hB, hold, hown, hm, fun i => aSk hvs i, by simp; omega, rfl, Tr.refl _ _ _⟩
 refine wp_mono (aEg hI hw hmix c _ _ β _ w h hr) fun e a' w' hh => ?_
 obtain ⟨σ', β', h1, h2⟩ := hh
 have fin : (∃ r, resX P σ' fn = some r /\ Q r σ'.m) -> bodyPost P fn (fun e w' => ∃ v r m' β', e = .returned v /\ Q r m' /\ Rep (SS S0 β') β' w' r v /\ MemRep (SS S0 β') β' w' m' /\ (∀ b, b ∈ β' -> W0.heap.size <= b) /\ Below W0.heap.size W0 w' /\ Tr S0 β w β' w') .normal a' w' := fun ⟨r, h1, hq⟩ => by
   obtain ⟨v, h3, h4⟩ := aQs h2 h1
   exact ⟨h2.defers, v, h3, v, r, σ'.m, β', rfl, hq, h4, h2.mem, h2.own, h2.below, h2.tr⟩
 cases e <;> simp only [endM] at h1
 case normal => exact fin h1
 case ret => exact fin h1
theorem CX.mono {f : FuncId} {args : List AV} {m : AMem} {Q Q' : AV -> AMem -> Prop} (h : CX P I f args m Q) (hq : ∀ r m', Q r m' -> Q' r m') : CX P I f args m Q' :=
 ⟨h.1, fun hI S0 W0 β w vs h1 h2 h3 h4 h5 h6 => (h.2 hI S0 W0 β w vs h1 h2 h3 h4 h5 h6).mono fun e w' ⟨v, r, m', β', g1, g2, g3⟩ => ⟨v, r, m', β', g1, hq _ _ g2, g3⟩⟩
theorem AC.cx {f : FuncId} {args : List AV} {r : AV} (h : AC P I f args r) (m : AMem) {Q : AV -> AMem -> Prop} (hq : Q r m) : CX P I f args m Q :=
 ⟨h.1, fun hI S0 W0 β w vs hw hB hold hown hm hvs => (h.2 (SS S0 β) β w vs (hI _ _ hw hB) (fun b hb => by
     rcases hb with hb | hb
     · exact Nat.lt_of_lt_of_le (hold b hb) hB.size
     · obtain ⟨k, hk⟩ := List.mem_iff_getElem?.1 hb
       obtain ⟨T, cs, vs, _, h2, _⟩ := hm.at_ k b hk
       exact h2.lt) hvs).mono fun e w' ⟨v, h1, h2, h3⟩ =>
   ⟨v, r, m, β, h1, hq, h2, hm.call h3, hown, hB.trans (h3.mono hB.size), h3.size, fun b hl _ => h3.block b hl, fun _ _ h => h, fun _ _ h => h⟩⟩
theorem AC.weak {J : World -> Prop} {f : FuncId} {args : List AV} {r : AV} (h : AC P J f args r) (hj : ∀ w, I w -> J w) : AC P I f args r := ⟨h.1, fun S β w vs hw => h.2 S β w vs (hj w hw)⟩
theorem AC.ofCX {f : FuncId} {args : List AV} {r : AV} (hI : aHK I) (hp : noPtrL args = true) (hq : noPtr r = true) (h : CX P I f args [] (fun r' _ => r' = r)) : AC P I f args r := by
 refine ⟨h.1, fun S β w vs hw hS hvs => ?_⟩
 have hvs' : RepL (SS S []) [] w args vs := RepL.plain (fun b _ hh => by rcases hh with hh | hh; exact hh; cases hh) _ _ hp hvs
 refine (h.2 hI S w [] w vs hw (Below.refl _ _) hS (fun b hb => (by cases hb)) ⟨rfl, fun k b hk => (by simp at hk), fun k b hk => (by simp at hk), fun i j b hi => (by simp at hi)⟩ hvs').mono fun e w' hh => ?_
 obtain ⟨v, r', m', β', rfl, rfl, g1, g2, g3, g4, g5⟩ := hh
 exact ⟨v, rfl, Rep.plain (fun b _ hs => .inl hs) _ _ hq g1, g4⟩
theorem aAd {f : FuncId} {fn : Func} {c : Code} {args : List AV} {r : AV} (hf : P.funcs[f]? = some fn) (hb : fn.body = some c) (hk : aHW P f = true) (hI : aHK I) (hmix : P.follows .mixedOrders = true) (hp : noPtrL args = true) (hq : noPtr r = true)
   (hlen : Nat.ble args.length fn.ntmps = true) (h : wpx P I c (endX P fn r) { t := aAl 0 args, n := fn.ntmps, m := [] }) : AC P I f args r := by
 refine AC.ofCX hI hp hq (aR1 hf hb hk hI hmix hlen ?_)
 have : endM P fn (fun r' _ => r' = r) = endX P fn r := by
   funext e σ
   cases e <;> simp [endM, endX]
 rw [this]
 exact h
end
end
end Go.Proofs.YtgdkokgeldnliaaGreatDoor
