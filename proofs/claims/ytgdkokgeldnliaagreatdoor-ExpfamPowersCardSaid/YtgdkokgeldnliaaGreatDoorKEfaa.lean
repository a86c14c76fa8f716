/- Contracts of functions and plain lemmas that the laws of this seat lean on. -/
import Derived.Test.YtgdkokgeldnliaaGreatDoorRows
import Derived.WalkKit
import Derived.ProofKit
import Derived.OpenShut
import Derived.Carry
import Derived.WalkSpells
import Derived.WalkLawsBesides
import Derived.Lib.Hide
import Derived.Deep.QuietTactic
import Derived.BigQuiet
import Derived.StillTail
import Derived.Below
import Derived.Deep.MidRow
import Derived.Laws.Tables
namespace Go.Proofs.YtgdkokgeldnliaaGreatDoor
set_option linter.unusedSimpArgs false
set_option linter.unusedVariables false
set_option linter.unusedSectionVars false
set_option linter.constructorNameAsVariable false
set_option linter.unnecessarySimpa false
section
open Go.ChangeShapes Go.WideShapes Go.ChangeAt Go.RowKit
theorem Tryz.own : ownKnob Tryz.prog.godebug = none := by kernel_rfl
theorem Tryz.laidOut : laidOutB Tryz.prog = true := by kernel_rfl
section
variable {H : Type} {enc : TypeId × Value -> H} {P : Program}
theorem aGP (hl : laidOutB P = true) {W W' : World} (hb : Below W.heap.size W W') : ∀ (ts : List TypeId) (vs : List Value) (ds : List (DataW H)) (ps : List MemPlace),
   (∀ t ∈ ts, P.readableRec t = true /\ t < P.types.size) -> DataW.TrodAll enc P W 0 (fun _ => true) true ts vs ds ps -> (∀ x ∈ ps, x.block < W.heap.size) ->
   DataW.TrodAll enc P W' 0 (fun b => decide (b < W.heap.size)) true ts vs ds ps
 | [], [], [], _, _, h, _ => h
 | t :: ts, v :: vs, d :: ds, ps, hr, h, hlt => by
   obtain ⟨p, q, h1, h2, rfl⟩ := h
   refine ⟨p, q, Below.trod hl (hr t (by simp)).1 (hr t (by simp)).2 h1 hb fun x hx => hlt x (by simp [hx]), ?_, rfl⟩
   exact aGP hl hb ts vs ds q (fun t' ht' => hr t' (by simp [ht'])) h2 fun x hx => hlt x (by simp [hx])
 | [], _ :: _, _, _, _, h, _ => h.elim
 | [], [], _ :: _, _, _, h, _ => h.elim
 | _ :: _, [], _, _, _, h, _ => h.elim
 | _ :: _, _ :: _, [], _, _, h, _ => h.elim
theorem aF6 (hl : laidOutB P = true) {f : Func} {s : ChangeSpec} {W W' : World} {args : Array Value} {ds gs : List (DataW H)} {before : List MemPlace} {tb : TypeId}
   (hW : DataW.Whole enc P f.params.toList s.vars false W args.toList ds gs before) (hb : Below W.heap.size W W')
   (hv : s.vars = []) (hr : f.resultTypes = #[tb]) (hbool : P.underlying tb = some .bool) (hts : ∀ t ∈ f.params.toList, P.readableRec t = true /\ t < P.types.size)
   (h1 : (s.fn H ds).results = [.lit (.bool true)]) (h2 : (s.fn H ds).args = ds) (h3 : (s.fn H ds).vars = []) :
   s.post enc P f false true false false W args (.bool true) W' := by
 have hlt : ∀ p ∈ before, p.block < W.heap.size := fun p hp => hW.lt p hp
 have hW0 := hW
 obtain ⟨p, q, hA, hV, rfl, hfz, hnd⟩ := hW
 rw [hv] at hV
 obtain ⟨rfl, rfl⟩ := trodVars_none hV
 rw [List.append_nil] at *
 refine ⟨ds, [], p, [], p, [], hW0, ?_, ?_, ?_, World.keptBut_mono (fun x hx => ⟨hx, .inr (.inl hx)⟩) (hb.frame (· ∈ p)), fun h => by cases h⟩
 · rw [List.append_nil, h1, hr]
   exact trodAll_cons_mk (shut_bool hbool _) trodAll_mk0
 · rw [List.append_nil, h2]
   exact aGP hl hb _ _ _ _ hts hA hlt
 · rw [hv, List.append_nil, h3]
   rfl
end
end
section
open Go.RowKit
theorem aEH {k : IntKind} {a b : Int} (h : a = b) : Ending.returned (.int k a) = .returned (.int k b) := by rw [h]
theorem aH5 {w w' : World} {o : Obj} {row : Option Nat} (h : (w.alloc o).grownBy w' row) : w.grownBy w' row :=
 ⟨h.os, h.tape, h.output, by have := h.size; simp at this; omega, fun k hk hne => (h.block k (by simp; omega) hne).trans (Below.heap_alloc _ _ _ hk)⟩
theorem aBV {P : Program} {w0 : World} {ops : Array Oper} {rest : List Oper} {o : Oper} {a : Act} {Q : Exit -> Act -> World -> Prop} (hgd : o.guard = none) (s x : Operand) (t : TypeId)
   (ho : o.op = .call { callee := .builtin .append, args := #[s, x], argTypes := #[t, t] })
   (base : Nat) (e : TypeId) (i : TypeInfo) (z : Value) (bytes : Nat) (ht : P.underlying t = some (.slice e)) (hi : P.info? e = some i) (hz : i.zero = some z)
   (hsize : i.size = 1) (hby : i.bytes = bytes) (hzs : z.cells.size = 1)
   (v : Value) (n : Nat) (xs : List Value) (hs : a.eval s = v) (hown : w0.ownsRow base e 1 v n xs)
   (u : Value) (e' : TypeId) (hu : u.oneCell' = true) (hx : a.eval x = .slice (some ⟨w0.heap.size, 0, none⟩) 1 1)
   (h63 : n + 1 <= maxLen) (hbytes : (n + 1) * bytes <= 140737488355328) (hbase : base <= w0.heap.size)
   (h : ∀ v' w', w'.ownsRow base e 1 v' (n + 1) (xs ++ [u]) -> w0.grownBy w' v.ownBlock -> wpList P ops Q rest (a.put o.dst v') w') :
   wpList P ops Q (o :: rest) a (w0.alloc (.cells #[u] e')) := by
 refine wpList_append_own _ hgd s x t ho base e i z 1 bytes ht hi hz hsize hby hzs (by decide) v n xs hs (hown.alloc _) ⟨w0.heap.size, 0, none⟩ 1 1 [u] hx rfl ?_ ?_ h63 hbytes (by simp; omega) ?_
 · intro j u' hj
   match j, hj with
   | 0, hj => simp at hj; subst hj; simp [Addr.add]
 · intro u' hu'; simp at hu'; subst hu'; exact hu
 · intro v' w' h1 h2 _
   exact h v' w' h1 (aH5 h2)
theorem Below.grownB {B : Nat} {a w w' : World} {v : Value} {e : TypeId} {sz n : Nat} {xs : List Value} (h : Below B a w) (hg : w.grownBy w' v.ownBlock) (hB : B <= w.heap.size)
   (hown : w.ownsRow B e sz v n xs) : Below B a w' := h.grown hg hB fun j hj => (hown.lt j hj).1
theorem aBQ (B : Nat) (w : World) (n : Nat) : Below B w (w.drewN n) := ⟨rfl, rfl, rfl, Nat.le_refl _, fun _ _ => rfl⟩
theorem aVM (w : World) (r : Option Nat) : w.grownBy w r := ⟨rfl, rfl, rfl, Nat.le_refl _, fun _ _ _ => rfl⟩
theorem aF9 {a b c : World} {r : Option Nat} (h : a.grownBy b r) (k : b.grownBy c r) : a.grownBy c r :=
 ⟨k.os.trans h.os, k.tape.trans h.tape, k.output.trans h.output, Nat.le_trans h.size k.size, fun i hi hne => (k.block i (Nat.lt_of_lt_of_le hi h.size) hne).trans (h.block i hi hne)⟩
theorem aFm (w : World) (b o : Nat) (s : _) (v : Value) : w.grownBy (w.setCell ⟨b, o, s⟩ v) (some b) :=
 ⟨rfl, rfl, rfl, by simp [World.setCell], fun k _ hne => Below.heap_setCell _ _ _ _ (fun e => hne (by rw [e]))⟩
theorem aTC (w : World) (n : Nat) (r : Option Nat) : w.grownBy (w.drewN n) r := ⟨rfl, rfl, rfl, Nat.le_refl _, fun _ _ _ => rfl⟩
theorem aNO {a b : World} {B r : Nat} (h : a.grownBy b (some r)) (hB : B <= r) (hs : B <= a.heap.size) : Below B a b :=
 ⟨h.os, h.tape, h.output, h.size, fun k hk => h.block k (by omega) (fun e => by injection e; omega)⟩
def Blk (w : World) (b : Nat) (cur : Array Value) (e : TypeId) : Prop := w.heap[b]? = some (.cells cur e (0, 0))
theorem Blk.new (w : World) (cur : Array Value) (e : TypeId) : Blk (w.alloc (.cells cur e)) w.heap.size cur e := heap_alloc_new w _
theorem Blk.lt {w : World} {b : Nat} {cur : Array Value} {e : TypeId} (h : Blk w b cur e) : b < w.heap.size := (Array.getElem?_eq_some_iff.1 h).1
theorem Blk.cell {w : World} {b : Nat} {cur : Array Value} {e : TypeId} (h : Blk w b cur e) (o : Nat) (v : Value) (hv : cur[o]? = some v) : w.cell? ⟨b, o, none⟩ = some v := by
 unfold Blk at h; simp [World.cell?, h, hv]
theorem Blk.free {w : World} {b : Nat} {cur : Array Value} {e : TypeId} (h : Blk w b cur e) (o : Nat) : w.frozen? ⟨b, o, none⟩ = false := by
 unfold Blk at h; simp [World.frozen?, h]
theorem Blk.alloc {w : World} {b : Nat} {cur : Array Value} {e : TypeId} (h : Blk w b cur e) (o : Obj) : Blk (w.alloc o) b cur e := by
 unfold Blk; rw [Below.heap_alloc _ _ _ h.lt]; exact h
theorem Blk.below {w w' : World} {B b : Nat} {cur : Array Value} {e : TypeId} (h : Blk w b cur e) (hb : Below B w w') (hlt : b < B) : Blk w' b cur e := by
 unfold Blk; rw [hb.block b hlt]; exact h
theorem Blk.call {w w' : World} {b : Nat} {cur : Array Value} {e : TypeId} (h : Blk w b cur e) (hb : Below w.heap.size w w') : Blk w' b cur e := h.below hb h.lt
theorem Blk.gb {w w' : World} {b r : Nat} {cur : Array Value} {e : TypeId} (h : Blk w b cur e) (hg : w.grownBy w' (some r)) (hne : b ≠ r) : Blk w' b cur e := by
 unfold Blk; rw [hg.block b h.lt (fun e => hne (by injection e))]; exact h
theorem Blk.drewN {w : World} {b : Nat} {cur : Array Value} {e : TypeId} (h : Blk w b cur e) (n : Nat) : Blk (w.drewN n) b cur e := h
theorem Blk.set {w : World} {b : Nat} {cur : Array Value} {e : TypeId} (h : Blk w b cur e) (o : Nat) (v : Value) : Blk (w.setCell ⟨b, o, none⟩ v) b (cur.setIfInBounds o v) e := by
 unfold Blk at *; simp [World.setCell, Array.getElem?_modify, h]
theorem Blk.set_other {w : World} {b b' : Nat} {cur : Array Value} {e : TypeId} (h : Blk w b cur e) (hne : b ≠ b') (o : Nat) (v : Value) : Blk (w.setCell ⟨b', o, none⟩ v) b cur e := by
 unfold Blk; rw [Below.heap_setCell _ _ _ _ hne]; exact h
end
section
def valN : List Nat -> Nat
 | [] => 0
 | x :: l => x + 18446744073709551616 * valN l
def pw (k : Nat) : Nat := 18446744073709551616 ^ k
theorem aEJ : pw 0 = 1 := rfl
theorem aBz (k : Nat) : pw (k + 1) = 18446744073709551616 * pw k := by unfold pw; rw [Nat.pow_succ, Nat.mul_comm]
theorem aHP (k : Nat) : 0 < pw k := Nat.pow_pos (by decide)
theorem aGm (a b : Nat) : pw (a + b) = pw a * pw b := by unfold pw; rw [Nat.pow_add]
theorem aVo {a b : Nat} (h : a <= b) : pw a <= pw b := Nat.pow_le_pow_right (by decide) h
theorem aDo (k : Nat) : pw k = 2 ^ (64 * k) := by
 unfold pw; rw [Nat.pow_mul]
def gw (l : List Nat) (i : Nat) : Nat := l.getD i 0
theorem aEn (l : List Nat) (i : Nat) : gw l i = l[i]?.getD 0 := List.getD_eq_getElem?_getD
theorem aCN {l : List Nat} {i : Nat} (h : i < l.length) : gw l i = l[i] := by rw [aEn, List.getElem?_eq_getElem h]; rfl
theorem aGk {l : List Nat} {i : Nat} (h : l.length <= i) : gw l i = 0 := by rw [aEn, List.getElem?_eq_none h]; rfl
theorem aVL (x : Nat) (l : List Nat) (i : Nat) : gw (x :: l) (i + 1) = gw l i := by simp [gw]
theorem aRv (x : Nat) (l : List Nat) : gw (x :: l) 0 = x := rfl
def okW (l : List Nat) : Prop := ∀ u ∈ l, u < 18446744073709551616
theorem aFD : okW [] := fun _ h => by cases h
theorem aIi {x : Nat} {l : List Nat} (hx : x < 18446744073709551616) (hl : okW l) : okW (x :: l) := fun u h => by
 rcases List.mem_cons.1 h with rfl | h
 · exact hx
 · exact hl u h
theorem aOm {x : Nat} {l : List Nat} (h : okW (x :: l)) : x < 18446744073709551616 /\ okW l := ⟨h x (by simp), fun u hu => h u (by simp [hu])⟩
theorem aA3 {l : List Nat} (h : okW l) (i : Nat) : gw l i < 18446744073709551616 := by
 by_cases hi : i < l.length
 · rw [aCN hi]; exact h _ (List.getElem_mem hi)
 · rw [aGk (by omega)]; decide
theorem aCk {l : List Nat} (h : okW l) (i x : Nat) (hx : x < 18446744073709551616) : okW (l.set i x) := fun u hu => by
 rcases List.mem_or_eq_of_mem_set hu with h1 | rfl
 · exact h u h1
 · exact hx
theorem aF1 {a b : List Nat} (ha : okW a) (hb : okW b) : okW (a ++ b) := fun u hu => by
 rcases List.mem_append.1 hu with h | h
 · exact ha u h
 · exact hb u h
theorem aFZ {l : List Nat} (h : okW l) (n : Nat) : okW (l.take n) := fun u hu => h u (List.mem_of_mem_take hu)
theorem aIh {l : List Nat} (h : okW l) (n : Nat) : okW (l.drop n) := fun u hu => h u (List.mem_of_mem_drop hu)
theorem aBi (n : Nat) : okW (List.replicate n 0) := fun u hu => by rw [(List.mem_replicate.1 hu).2]; decide
theorem aB8 (a b : List Nat) : valN (a ++ b) = valN a + pw a.length * valN b := by
 induction a with
 | nil => simp [valN, aEJ]
 | cons x l ih => simp only [List.cons_append, valN, ih, List.length_cons, aBz]; grind
theorem aBr {l : List Nat} (h : okW l) : valN l < pw l.length := by
 induction l with
 | nil => simp [valN, aEJ]
 | cons x l ih =>
   obtain ⟨hx, hl⟩ := aOm h
   have := ih hl
   simp only [valN, List.length_cons, aBz]
   omega
theorem aCX (n : Nat) : valN (List.replicate n 0) = 0 := by
 induction n with
 | zero => rfl
 | succ n ih => rw [List.replicate_succ, valN, ih]
def vt (l : List Nat) : Nat -> Nat
 | 0 => 0
 | i + 1 => vt l i + gw l i * pw i
theorem aAC (l : List Nat) (i : Nat) : vt l (i + 1) = vt l i + gw l i * pw i := rfl
theorem aU4 (x : Nat) (l : List Nat) (i : Nat) : vt (x :: l) (i + 1) = x + 18446744073709551616 * vt l i := by
 induction i with
 | zero => simp [vt, aEJ, aRv]
 | succ i ih => rw [aAC, ih, aAC, aBz]; rw [aVL]; grind
theorem aBn (l : List Nat) (i : Nat) (h : l.length <= i) : vt l i = valN l := by
 induction l generalizing i with
 | nil =>
   induction i with
   | zero => rfl
   | succ i ih => rw [aAC, ih (by simp), aGk (by simp)]; simp [valN]
 | cons x l ih =>
   cases i with
   | zero => simp at h
   | succ i => rw [aU4, ih i (by simpa using h), valN]
theorem aEP (l : List Nat) (k x i : Nat) (h : i <= k) : vt (l.set k x) i = vt l i := by
 induction i with
 | zero => rfl
 | succ i ih =>
   rw [aAC, aAC, ih (by omega), aEn, aEn, List.getElem?_set_ne (by omega)]
theorem aHk (l : List Nat) (i : Nat) : vt l i = valN (l.take i) := by
 induction i with
 | zero => rfl
 | succ i ih =>
   rw [aAC, ih]
   by_cases hi : i < l.length
   · rw [List.take_add_one, List.getElem?_eq_getElem hi, aB8]
     simp only [List.length_take, Option.toList, valN, aCN hi]
     rw [Nat.min_eq_left (by omega)]
     grind
   · rw [aGk (by omega), List.take_of_length_le (by omega), List.take_of_length_le (by omega)]
     simp
theorem aJE {l : List Nat} (h : okW l) (i : Nat) : vt l i < pw i := by
 rw [aHk]
 exact Nat.lt_of_lt_of_le (aBr (aFZ h i)) (aVo (by simp; omega))
theorem aBa (l : List Nat) (k x : Nat) (h : k < l.length) : gw (l.set k x) k = x := by
 simp [aEn, h]
theorem aBH (l : List Nat) (k j x : Nat) (h : k ≠ j) : gw (l.set k x) j = gw l j := by
 rw [aEn, aEn, List.getElem?_set_ne h]
theorem aDW (n i : Nat) : gw (List.replicate n 0) i = 0 := by
 rw [aEn, List.getElem?_replicate]; split <;> rfl
theorem aRw (l : List Nat) (n i : Nat) (h : i < n) : gw (l.take n) i = gw l i := by
 rw [aEn, aEn, List.getElem?_take, if_pos h]
theorem aI7 (l : List Nat) (n i : Nat) : gw (l.drop n) i = gw l (n + i) := by
 rw [aEn, aEn, List.getElem?_drop]
theorem aDT (n i : Nat) : vt (List.replicate n 0) i = 0 := by
 induction i with
 | zero => rfl
 | succ i ih => rw [aAC, ih, aDW]; omega
theorem aKx {a b : List Nat} (i : Nat) (h : ∀ j, j < i -> gw a j = gw b j) : vt a i = vt b i := by
 induction i with
 | zero => rfl
 | succ i ih => rw [aAC, aAC, ih (fun j hj => h j (by omega)), h i (by omega)]
theorem aDb (l : List Nat) (i : Nat) : valN l = valN (l.take i) + pw i * valN (l.drop i) := by
 by_cases hi : i <= l.length
 · conv => lhs; rw [<- List.take_append_drop i l, aB8]
   rw [List.length_take, Nat.min_eq_left hi]
 · rw [List.take_of_length_le (by omega), List.drop_of_length_le (by omega)]; simp [valN]
def limbsOf (n : Nat) : List Nat :=
 if h : n = 0 then [] else n % 18446744073709551616 :: limbsOf (n / 18446744073709551616)
termination_by n
decreasing_by omega
theorem aAZ : limbsOf 0 = [] := by unfold limbsOf; rfl
theorem aC7 {n : Nat} (h : n ≠ 0) : limbsOf n = n % 18446744073709551616 :: limbsOf (n / 18446744073709551616) := by
 conv => lhs; unfold limbsOf
 rw [dif_neg h]
theorem aAi (n : Nat) : valN (limbsOf n) = n := by
 induction n using Nat.strongRecOn with
 | _ n ih =>
   by_cases h : n = 0
   · subst h; rw [aAZ]; rfl
   · rw [aC7 h, valN, ih _ (by omega)]; omega
theorem aBg (n : Nat) : okW (limbsOf n) := by
 induction n using Nat.strongRecOn with
 | _ n ih =>
   by_cases h : n = 0
   · subst h; rw [aAZ]; exact aFD
   · rw [aC7 h]; exact aIi (by omega) (ih _ (by omega))
theorem aJL {n : Nat} : limbsOf n = [] <-> n = 0 := by
 constructor
 · intro h; have := aAi n; rw [h] at this; exact this.symm
 · intro h; rw [h, aAZ]
theorem aAG {n : Nat} : (limbsOf n).length = 0 <-> n = 0 := by
 rw [List.length_eq_zero_iff]; exact aJL
theorem aA4 {n k : Nat} (h : n < pw k) : (limbsOf n).length <= k := by
 induction k generalizing n with
 | zero =>
   have : n = 0 := by rw [aEJ] at h; omega
   subst this; rw [aAZ]; exact Nat.le_refl 0
 | succ k ih =>
   by_cases h0 : n = 0
   · subst h0; rw [aAZ]; simp
   · rw [aC7 h0, List.length_cons]
     have := ih (n := n / 18446744073709551616) (by rw [aBz] at h; omega)
     omega
theorem aHv (n : Nat) : n < pw (limbsOf n).length := by
 have := aBr (aBg n); rwa [aAi] at this
theorem aF5 {n : Nat} (h : n ≠ 0) : pw ((limbsOf n).length - 1) <= n := by
 induction n using Nat.strongRecOn with
 | _ n ih =>
   rw [aC7 h, List.length_cons, Nat.add_sub_cancel]
   by_cases h2 : n / 18446744073709551616 = 0
   · rw [h2, aAZ, List.length_nil, aEJ]; omega
   · have := ih _ (by omega) h2
     have hl : (limbsOf (n / 18446744073709551616)).length ≠ 0 := by rw [Ne, aAG]; exact h2
     obtain ⟨m, hm⟩ : ∃ m, (limbsOf (n / 18446744073709551616)).length = m + 1 := ⟨_, (Nat.succ_pred_eq_of_ne_zero hl).symm⟩
     rw [hm] at this ⊢
     rw [Nat.add_sub_cancel] at this
     rw [aBz]
     omega
theorem aFH {n : Nat} (h : n ≠ 0) : gw (limbsOf n) ((limbsOf n).length - 1) ≠ 0 := by
 intro h0
 have h1 := aF5 h
 have hl : (limbsOf n).length ≠ 0 := by rw [Ne, aAG]; exact h
 obtain ⟨m, hm⟩ : ∃ m, (limbsOf n).length = m + 1 := ⟨_, (Nat.succ_pred_eq_of_ne_zero hl).symm⟩
 rw [hm, Nat.add_sub_cancel] at h0 h1
 have h2 : n = vt (limbsOf n) (m + 1) := by rw [aBn _ _ (by omega), aAi]
 rw [aAC, h0] at h2
 have h3 := aJE (aBg n) m
 omega
theorem aJS {l : List Nat} (h : okW l) (n : Nat) (hn : n <= l.length) (hz : ∀ j, n <= j -> gw l j = 0) (hl : n = 0 \/ gw l (n - 1) ≠ 0) : l.take n = limbsOf (valN l) := by
 have hv : valN l = valN (l.take n) := by
   rw [aDb l n]
   have : valN (l.drop n) = 0 := by
     have e : l.drop n = List.replicate (l.length - n) 0 := by
       apply List.ext_getElem?
       intro i
       rw [List.getElem?_drop]
       by_cases hi : n + i < l.length
       · have := hz (n + i) (by omega)
         rw [aCN hi] at this
         rw [List.getElem?_eq_getElem hi, List.getElem?_replicate, if_pos (by omega)]
         simpa using this
       · rw [List.getElem?_eq_none (by omega), List.getElem?_replicate, if_neg (by omega)]
     rw [e, aCX]
   rw [this]; simp
 rw [hv]
 have key : ∀ (t : List Nat), okW t -> (t = [] \/ gw t (t.length - 1) ≠ 0) -> t = limbsOf (valN t) := by
   intro t
   induction t with
   | nil => intro _ _; simp [valN, aAZ]
   | cons x t ih =>
     intro ht hlast
     obtain ⟨hx, ht'⟩ := aOm ht
     have hlast' : t = [] \/ gw t (t.length - 1) ≠ 0 := by
       cases t with
       | nil => exact .inl rfl
       | cons y t =>
                     rcases hlast with h | h
                     · cases h
                     · right; simpa [gw] using h
     have hne : valN (x :: t) ≠ 0 := by
       rw [valN]
       rcases hlast' with rfl | h
       · rcases hlast with h | h
         · cases h
         · simp [gw] at h; simp [valN]; exact h
       · intro e
         have e2 : valN t = 0 := by omega
         have := ih ht' (.inr h)
         rw [e2, aAZ] at this
         subst this
         exact h rfl
     rw [aC7 hne]
     have e1 : valN (x :: t) % 18446744073709551616 = x := by rw [valN]; omega
     have e2 : valN (x :: t) / 18446744073709551616 = valN t := by rw [valN]; omega
     rw [e1, e2, <- ih ht' hlast']
 refine key _ (aFZ h n) ?_
 rcases hl with rfl | hl
 · left; simp
 · by_cases h0 : n = 0
   · left; subst h0; simp
   · right
     rw [List.length_take, Nat.min_eq_left hn]
     rw [aRw _ _ _ (by omega)]; exact hl
end
section
open Go.RowKit
theorem Tryz.infoW : (Tryz.prog.info? 23).map (fun i => (i.zero, i.size, i.bytes)) = some (some (.int .u64 0), 1, 8) := by kernel_rfl
def wArr (z : List Nat) : Array Value := (z.map (fun n : Nat => Value.int .u64 (n : Int))).toArray
theorem aBK (z : List Nat) (i : Nat) (h : i < z.length) : (wArr z)[i]? = some (.int .u64 ((gw z i : Nat) : Int)) := by
 simp [wArr, aCN h, h]
theorem aN1 (z : List Nat) (i : Nat) (x : Nat) (e : Int) (he : e = (x : Int)) : (wArr z).setIfInBounds i (.int .u64 e) = wArr (z.set i x) := by
 subst he
 apply Array.ext'
 simp [wArr, List.map_set]
theorem aJD (n : Nat) : wArr (List.replicate n 0) = Array.replicate n (.int .u64 0) := by
 apply Array.ext'
 simp [wArr]
theorem aPq (n : Nat) : madeCells (Value.int .u64 0).cells n = wArr (List.replicate n 0) := by
 rw [aJD]
 apply Array.ext
 · simp [madeCells]
 · intro i h1 h2
   simp [madeCells, Value.cells, Nat.mod_one]
theorem aBW (t : TypeId) (ht : Tryz.prog.underlying t = some (.slice 23)) (n : Nat) (hn : n <= 1099511627776) (w : World) :
   (Instr.makeSlice t (.int .i64 (n : Int)) (.int .i64 (n : Int))).run Tryz.prog w = .ok (.slice (some ⟨w.heap.size, 0, none⟩) n n) (w.alloc (.cells (wArr (List.replicate n 0)) 23)) := by
 obtain ⟨i0, hi, hz0, hz1, hz2⟩ := info_parts Tryz.infoW
 have h := run_make (P := Tryz.prog) w t 23 i0 (.int .u64 0) ht hi hz0 .i64 .i64 (n : Int) (n : Int) (by omega) (Int.le_refl _) (by rw [hz2]; omega) (by omega)
 rw [h, hz1]
 simp only [Int.toNat_natCast, Nat.mul_one, aPq]
def aAE (lo : Nat) (w : World) (v : Value) (l : List Nat) : Prop :=
 ∃ x cap, v = .slice x l.length cap /\ l.length <= cap /\ cap <= 9223372036854775807 /\ (okW l /\ (x = none -> cap = 0)) /\
   ∀ i, i < l.length -> ∃ b off, x = some ⟨b, off, none⟩ /\ lo <= b /\ w.cell? ⟨b, off + i, none⟩ = some (.int .u64 ((gw l i : Nat) : Int))
theorem aAE.ok {lo : Nat} {w : World} {v : Value} {l : List Nat} (h : aAE lo w v l) : okW l := by
 obtain ⟨_, _, _, _, _, h, _⟩ := h; exact h.1
theorem aAE.call {lo : Nat} {w w' : World} {v : Value} {l : List Nat} (h : aAE lo w v l) (hb : Below w.heap.size w w') : aAE lo w' v l := by
 obtain ⟨x, cap, h1, h2, h3, h4, h5⟩ := h
 refine ⟨x, cap, h1, h2, h3, h4, fun i hi => ?_⟩
 obtain ⟨b, off, e, hl, hc⟩ := h5 i hi
 exact ⟨b, off, e, hl, (hb.cell (World.block_lt_of_cell? w _ hc)).trans hc⟩
theorem aAE.mono {lo lo' : Nat} {w : World} {v : Value} {l : List Nat} (h : aAE lo w v l) (hl : lo' <= lo) : aAE lo' w v l := by
 obtain ⟨x, cap, h1, h2, h3, h4, h5⟩ := h
 refine ⟨x, cap, h1, h2, h3, h4, fun i hi => ?_⟩
 obtain ⟨b, off, e, hlo, hc⟩ := h5 i hi
 exact ⟨b, off, e, Nat.le_trans hl hlo, hc⟩
theorem aAE.nil (lo : Nat) (w : World) (x : Option Addr) (cap : Nat) (hc : cap <= 9223372036854775807) (hx : x = none -> cap = 0 := by first | assumption | (intro _; rfl)) : aAE lo w (.slice x 0 cap) [] :=
 ⟨x, cap, rfl, Nat.zero_le _, hc, ⟨aFD, hx⟩, fun i hi => absurd hi (by simp)⟩
theorem aAE.drew {lo : Nat} {w : World} {v : Value} {l : List Nat} (h : aAE lo w v l) (n : Nat) : aAE lo (w.drewN n) v l := h.call (aBQ _ _ _)
theorem aAE.alloc {lo : Nat} {w : World} {v : Value} {l : List Nat} (h : aAE lo w v l) (o : Obj) : aAE lo (w.alloc o) v l := h.call ((Below.refl _ _).alloc (Nat.le_refl _) _)
theorem aAE.ofBlk {lo : Nat} {w : World} {g : Nat} {z l : List Nat} {e : TypeId} (h : Blk w g (wArr z) e) (off cap : Nat) (hlo : lo <= g) (hz : okW l) (hl : ∀ i, i < l.length -> off + i < z.length /\ gw z (off + i) = gw l i) (hc : l.length <= cap) (hm : cap <= 9223372036854775807) :
   aAE lo w (.slice (some ⟨g, off, none⟩) l.length cap) l :=
 ⟨_, cap, rfl, hc, hm, ⟨hz, fun h => by cases h⟩, fun i hi => ⟨g, off, rfl, hlo, by
   obtain ⟨h1, h2⟩ := hl i hi
   rw [h.cell (off + i) _ (aBK z _ h1), h2]⟩⟩
theorem aAE.ofBlk_all {lo : Nat} {w : World} {g : Nat} {z : List Nat} {e : TypeId} (h : Blk w g (wArr z) e) (hlo : lo <= g) (hz : okW z) (hm : z.length <= 9223372036854775807) :
   aAE lo w (.slice (some ⟨g, 0, none⟩) z.length z.length) z :=
 aAE.ofBlk h 0 z.length hlo hz (fun i hi => ⟨by omega, by rw [Nat.zero_add]⟩) (Nat.le_refl _) hm
theorem aAE.take {lo : Nat} {w : World} {x : Option Addr} {len cap : Nat} {l : List Nat} (h : aAE lo w (.slice x len cap) l) (n cap' : Nat) (hn : n <= l.length) (hc : n <= cap') (hm : cap' <= cap) :
   aAE lo w (.slice x n cap') (l.take n) := by
 obtain ⟨x', cap0, h1, h2, h3, h4, h5⟩ := h
 injection h1 with e1 e2 e3
 subst e1; subst e2; subst e3
 refine ⟨x, cap', by rw [List.length_take, Nat.min_eq_left hn], by rw [List.length_take, Nat.min_eq_left hn]; exact hc, by omega, ⟨aFZ h4.1 n, fun e => by have := h4.2 e; omega⟩, fun i hi => ?_⟩
 rw [List.length_take, Nat.min_eq_left hn] at hi
 obtain ⟨b, off, e, hlo, hcell⟩ := h5 i (by omega)
 refine ⟨b, off, e, hlo, ?_⟩
 rw [hcell, aRw _ _ _ hi]
def Num (lo : Nat) (w : World) (v : Value) (n : Nat) : Prop := aAE lo w v (limbsOf n)
theorem Num.words {lo : Nat} {w : World} {v : Value} {n : Nat} (h : Num lo w v n) : aAE lo w v (limbsOf n) := h
theorem Num.call {lo : Nat} {w w' : World} {v : Value} {n : Nat} (h : Num lo w v n) (hb : Below w.heap.size w w') : Num lo w' v n := aAE.call h hb
theorem Num.mono {lo lo' : Nat} {w : World} {v : Value} {n : Nat} (h : Num lo w v n) (hl : lo' <= lo) : Num lo' w v n := aAE.mono h hl
theorem Num.zero (lo : Nat) (w : World) (x : Option Addr) (cap : Nat) (hc : cap <= 9223372036854775807) (hx : x = none -> cap = 0 := by first | assumption | (intro _; rfl)) : Num lo w (.slice x 0 cap) 0 := by
 unfold Num; rw [aAZ]; exact aAE.nil lo w x cap hc hx
def aCW (w : World) (lo : Nat) (n : Nat) (e : Ending) (w' : World) : Prop := ∃ v, e = .returned v /\ Num lo w' v n /\ Below w.heap.size w w'
end
section
open Go.RowKit
section
variable {P : Program} {ops : Array Oper} {C : World -> Prop}
abbrev Told := Tmp × (Value -> (Nat -> Prop) -> World -> Prop)
def aAX (a : Act) (vs : Tmp -> Value) : List Told -> Act
 | [] => a
 | (t, _) :: g => aAX (a.put (some t) (vs t)) vs g
def aFL (looks : List Tmp) (vs : Tmp -> Value) (X : Nat -> Prop) (w : World) : List Told -> Prop
 | [] => True
 | (t, R) :: g => (looks.contains t = true -> R (vs t) X w) /\ aFL looks vs X w g
def aDP (vs : Tmp -> Value) (X : Nat -> Prop) (w : World) : List Told -> Prop
 | [] => True
 | (t, R) :: g => R (vs t) X w /\ aDP vs X w g
def aKB (P : Program) (C : World -> Prop) (w : World) (R : Value -> World -> Prop) : Result Next -> Prop
 | .ok (.value u) w' => C w' /\ Below w.heap.size w w' /\ R u w'
 | .ok (.enter f args) w' => w' = w /\ Calls P f args w (fun e w'' => ∃ u, e = .returned u /\ C w'' /\ Below w.heap.size w w'' /\ R u w'')
 | _ => False
def aLO (P : Program) (C : World -> Prop) (o : Oper) (a : Act) (w : World) (R : Value -> World -> Prop) : Prop := aKB P C w R ((execOp a.eval o).run P w)
def aH2 (C : World -> Prop) (R : Value -> (Nat -> Prop) -> World -> Prop) : Prop := ∀ v X X' w w', C w -> C w' -> Below w.heap.size w w' -> (∀ b, X' b -> X b \/ w.heap.size <= b) -> R v X w -> R v X' w'
def aCA : Op -> Bool
 | .alloc _ => true
 | _ => false
def aLN (P : Program) (ops : Array Oper) (C : World -> Prop) (L : Nat) (a0 : Act) (o : Oper) (G : List Told) (R : Value -> (Nat -> Prop) -> World -> Prop) : Prop :=
 ∀ vs X w, C w -> (∀ b, X b -> L <= b /\ b < w.heap.size) -> aFL (o.looksAt ops) vs X w G ->
   (Region.wanted o (yielded ops (aAX a0 vs G).tmps) = true /\ aLO P C o (aAX a0 vs G) w (fun u w' => (aCA o.op = true -> ∀ X', R u X' w') /\ (aCA o.op = false -> R u X w'))) \/
   (Region.wanted o (yielded ops (aAX a0 vs G).tmps) = false /\ R undef X w)
def InX (vs : Tmp -> Value) (X : Nat -> Prop) (A : List Tmp) : Prop := ∀ t, t ∈ A -> ∃ b, vs t = .pointer (some ⟨b, 0, none⟩) /\ X b
def aMS (vs : Tmp -> Value) (A : List Tmp) : Prop := ∀ t t', t ∈ A -> t' ∈ A -> t ≠ t' -> vs t ≠ vs t'
def aN0 (P : Program) (ops : Array Oper) (C : World -> Prop) (L : Nat) (A : List Tmp) (Q : Act -> World -> Prop) (a0 : Act) : List Oper -> List Told -> Prop
 | [], G => ∀ vs X w, C w -> (∀ b, X b -> L <= b) -> aDP vs X w G -> aMS vs A -> InX vs X A -> Q (aAX a0 vs G) w
 | o :: l, G => ∃ d R, o.dst = some d /\ aH2 C R /\ aLN P ops C L a0 o G R /\ aN0 P ops C L A Q a0 l (G ++ [(d, R)])
def dstAt (ops : Array Oper) (i : Nat) : Option Tmp := (ops[i]?).bind (·.dst)
def aGD (ops : Array Oper) (n : Nat) : Bool :=
 (List.range n).all fun i => match ops[i]? with
   | none => false
   | some o => (!aCA o.op || o.guard.isNone) && o.dst.isSome && (o.after.all fun e => !Region.binds .any e || decide (e.on < i)) &&
       ((List.range n).all fun j => j == i || dstAt ops j != o.dst) &&
       ((List.range n).all fun j => match dstAt ops j with
         | none => true
         | some t => !(o.looksAt ops).contains t || (decide (j < i) && Region.waitsFor .any ops i j))
def aMX (ops : Array Oper) (n : Nat) : Bool := n == ops.size || (decide (n < ops.size) && Region.sinkB .any ops n && Region.chainB .any ops n)
def allocAt (ops : Array Oper) (i : Nat) : Bool := match ops[i]? with
 | some o => aCA o.op
 | none => false
def aFi (ops : Array Oper) (n : Nat) : List Tmp := (List.range n).filterMap fun i => if allocAt ops i then dstAt ops i else none
def aEE (ops : Array Oper) (n : Nat) : Array Bool := Array.ofFn (n := ops.size) fun i => decide (i.val < n)
def aKC (ops : Array Oper) (n : Nat) : Bool := Region.noSelect ops && aGD ops n && aMX ops n && Region.seqB .any ops (ops.size - n) n (aEE ops n)
theorem aCa (vs : Tmp -> Value) : ∀ (G : List Told) (a : Act), (aAX a vs G).defers = a.defers
 | [], _ => rfl
 | (t, _) :: g, a => by rw [aAX, aCa vs g]; rfl
theorem aCp (vs : Tmp -> Value) : ∀ (G : List Told) (a : Act) (t : Tmp), (aAX a vs G).tmps[t]? = if (G.map (·.1)).contains t then (a.tmps[t]?).map (fun _ => vs t) else a.tmps[t]?
 | [], _, _ => by simp [aAX]
 | (s, R) :: g, a, t => by
   rw [aAX, aCp vs g]
   have h : (a.put (some s) (vs s)).tmps[t]? = if s = t then (a.tmps[t]?).map (fun _ => vs t) else a.tmps[t]? := by
     by_cases hs : s = t
     · subst hs
       simp only [Act.put, if_true]
       by_cases hl : s < a.tmps.size <;> simp [hl]
     · rw [if_neg hs]; simp [Act.put, Array.getElem?_setIfInBounds_ne hs]
   rw [h]
   by_cases hs : s = t
   · subst hs
     simp only [if_true, List.map_cons, List.contains_cons, beq_self_eq_true, Bool.true_or]
     split
     · cases a.tmps[s]? <;> rfl
     · rfl
   · have hst : (t == s) = false := beq_eq_false_iff_ne.2 (Ne.symm hs)
     simp only [if_neg hs, List.map_cons, List.contains_cons, hst, Bool.false_or]
theorem aGF {looks : List Tmp} {vs : Tmp -> Value} {X : Nat -> Prop} {w : World} : ∀ {G : List Told}, (∀ t R, (t, R) ∈ G -> looks.contains t = true -> R (vs t) X w) -> aFL looks vs X w G
 | [], _ => trivial
 | (t, R) :: g, h => ⟨h t R (by simp), aGF fun t' R' hm => h t' R' (List.mem_cons_of_mem _ hm)⟩
theorem aEF {vs : Tmp -> Value} {X : Nat -> Prop} {w : World} : ∀ {G : List Told}, (∀ t R, (t, R) ∈ G -> R (vs t) X w) -> aDP vs X w G
 | [], _ => trivial
 | (t, R) :: g, h => ⟨h t R (by simp), aEF fun t' R' hm => h t' R' (List.mem_cons_of_mem _ hm)⟩
theorem aIv {L : Nat} {A : List Tmp} {Q : Act -> World -> Prop} {a0 : Act} : ∀ (l : List Oper) (G : List Told), aN0 P ops C L A Q a0 l G -> ∃ H : List Told, H.length = l.length /\
   (∀ i (o : Oper) (x : Told), l[i]? = some o -> H[i]? = some x -> o.dst = some x.1 /\ aH2 C x.2 /\ aLN P ops C L a0 o (G ++ H.take i) x.2) /\
   ∀ vs X w, C w -> (∀ b, X b -> L <= b) -> aDP vs X w (G ++ H) -> aMS vs A -> InX vs X A -> Q (aAX a0 vs (G ++ H)) w
 | [], G, h => ⟨[], rfl, fun i o x hl => by simp at hl, fun vs X w hw hx hf ha hi => by rw [List.append_nil] at hf ⊢; exact h vs X w hw hx hf ha hi⟩
 | o :: l, G, h => by
   obtain ⟨d, R, hd, hs, hok, hrest⟩ := h
   obtain ⟨H, h1, h2, h3⟩ := aIv l _ hrest
   refine ⟨(d, R) :: H, by simp [h1], fun i o' x hl hx => ?_, fun vs X w hw hx hf ha hi => ?_⟩
   · cases i with
     | zero =>
       simp only [List.getElem?_cons_zero, Option.some.injEq] at hl hx
       subst hl; subst hx
       exact ⟨hd, hs, by rw [List.take_zero, List.append_nil]; exact hok⟩
     | succ i =>
       simp only [List.getElem?_cons_succ] at hl hx
       have := h2 i o' x hl hx
       rw [List.append_assoc] at this
       exact this
   · have := h3 vs X w hw hx (by rw [List.append_assoc]; exact hf) ha hi
     rw [List.append_assoc] at this
     exact this
structure MidS (P : Program) (ops : Array Oper) (C : World -> Prop) (L : Nat) (a0 : Act) (n : Nat) (H : List Told) (listed : Array Bool) (vs : Tmp -> Value) (X : Nat -> Prop) (a : Act) (w : World) : Prop where
 inv : HeadInv .any ops n listed
 cls : C w
 defers : a.defers = a0.defers
 tmps : ∀ t, a.tmps[t]? = if (∃ i, i < n /\ listed.getD i false = true /\ dstAt ops i = some t) then (a0.tmps[t]?).map (fun _ => vs t) else a0.tmps[t]?
 told : ∀ i x, i < n -> listed.getD i false = true -> H[i]? = some x -> x.2 (vs x.1) X w
 xlt : ∀ b, X b -> b < w.heap.size
 xge : ∀ b, X b -> L <= b
 fresh : ∀ i t, i < n -> listed.getD i false = true -> allocAt ops i = true -> dstAt ops i = some t -> ∃ b, vs t = .pointer (some ⟨b, 0, none⟩) /\ X b
 apart : ∀ i j t t', i < n -> j < n -> i ≠ j -> listed.getD i false = true -> listed.getD j false = true -> allocAt ops i = true -> allocAt ops j = true -> dstAt ops i = some t -> dstAt ops j = some t' -> vs t ≠ vs t'
theorem aCI {n i : Nat} (h : aGD ops n = true) (hi : i < n) : ∃ o, ops[i]? = some o /\ (aCA o.op = true -> o.guard = none) /\ (∃ d, o.dst = some d) /\ (∀ e ∈ o.after, Region.binds .any e = true -> e.on < i) /\
   (∀ j, j < n -> j ≠ i -> dstAt ops j ≠ o.dst) /\ ∀ j t, j < n -> dstAt ops j = some t -> (o.looksAt ops).contains t = true -> j < i /\ Region.waitsFor .any ops i j = true := by
 have h1 := List.all_eq_true.1 h i (List.mem_range.2 hi)
 cases ho : ops[i]? with
 | none => rw [ho] at h1; cases h1
 | some o =>
   rw [ho] at h1
   simp only [Bool.and_eq_true] at h1
   obtain ⟨⟨⟨⟨g1, g2⟩, g3⟩, g4⟩, g5⟩ := h1
   refine ⟨o, rfl, fun ha => by simpa [ha] using g1, Option.isSome_iff_exists.1 g2, fun e he hb => ?_, fun j hj hji => ?_, fun j t hj hd hc => ?_⟩
   · have := Array.all_eq_true_iff_forall_mem.1 g3 e he
     simpa [hb] using this
   · have := List.all_eq_true.1 g4 j (List.mem_range.2 hj)
     simp only [Bool.or_eq_true, beq_iff_eq, bne_iff_ne] at this
     exact this.resolve_left hji
   · have := List.all_eq_true.1 g5 j (List.mem_range.2 hj)
     rw [hd] at this
     simp only [hc, Bool.not_true, Bool.false_or, Bool.and_eq_true, decide_eq_true_eq] at this
     exact this
theorem aF2 {n i : Nat} {H : List Told} (hH : ∀ i (o : Oper) (x : Told), i < n -> ops[i]? = some o -> H[i]? = some x -> o.dst = some x.1) {x : Told} (hi : i < n) (ho : ∃ o, ops[i]? = some o) (hx : H[i]? = some x) : dstAt ops i = some x.1 := by
 obtain ⟨o, ho⟩ := ho
 unfold dstAt
 rw [ho]
 exact hH i o x hi ho hx
theorem aQ7 {L : Nat} {X : Nat -> Prop} {a0 : Act} {n i : Nat} {H : List Told} {listed : Array Bool} {vs : Tmp -> Value} {a : Act} {w : World} {o : Oper} (hlen : H.length = n) (hsel : Region.noSelect ops = true) (hok : aGD ops n = true)
   (hH : ∀ i (o : Oper) (x : Told), i < n -> ops[i]? = some o -> H[i]? = some x -> o.dst = some x.1) (m : MidS P ops C L a0 n H listed vs X a w) (hi : i < n) (ho : ops[i]? = some o) (hr : i ∈ Region.ready .any ops listed) :
   execOp a.eval o = execOp (aAX a0 vs (H.take i)).eval o /\ aFL (o.looksAt ops) vs X w (H.take i) /\ Region.wanted o (yielded ops a.tmps) = Region.wanted o (yielded ops (aAX a0 vs (H.take i)).tmps) := by
 obtain ⟨o', ho', _, _, _, _, hlook⟩ := aCI hok hi
 obtain rfl : o' = o := Option.some.inj (ho'.symm.trans ho)
 obtain ⟨_, o'', ho'', hall⟩ := mem_ready.1 hr
 obtain rfl : o'' = o' := Option.some.inj (ho''.symm.trans ho)
 have listedOf : ∀ k, Region.waitsFor .any ops i k = true -> listed.getD k false = true := fun k hk => by
   obtain ⟨oj, hoj, e, he, hb, hon⟩ := Region.waitsFor_spec hk
   obtain rfl : oj = o'' := Option.some.inj (hoj.symm.trans ho)
   rw [<- hon]; exact hall e he hb
 have hmem : ∀ t, ((H.take i).map (·.1)).contains t = true -> ∃ k, k < i /\ dstAt ops k = some t := fun t ht => by
   simp only [List.contains_iff_mem, List.mem_map] at ht
   obtain ⟨x, hx, rfl⟩ := ht
   obtain ⟨k, hxk⟩ := List.mem_iff_getElem?.1 hx
   have hk : k < i := by
     have := (List.getElem?_eq_some_iff.1 hxk).1; simp at this; omega
   refine ⟨k, hk, aF2 hH (by omega) ?_ (by rw [List.getElem?_take] at hxk; split at hxk <;> first | exact hxk | cases hxk)⟩
   obtain ⟨o3, ho3, _⟩ := aCI hok (show k < n by omega)
   exact ⟨o3, ho3⟩
 have hmem2 : ∀ k t, k < i -> dstAt ops k = some t -> ((H.take i).map (·.1)).contains t = true := fun k t hk hd => by
   have hkn : k < H.length := by omega
   have hx : H[k]? = some H[k] := List.getElem?_eq_getElem hkn
   obtain ⟨o3, ho3, _⟩ := aCI hok (show k < n by omega)
   have h1 := aF2 hH (show k < n by omega) ⟨o3, ho3⟩ hx
   rw [h1] at hd
   have hd := Option.some.inj hd
   rw [<- hd, List.contains_iff_mem]
   exact List.mem_map.2 ⟨H[k], List.mem_iff_getElem?.2 ⟨k, by rw [List.getElem?_take, if_pos hk]; exact hx⟩, rfl⟩
 have same : ∀ t, (o''.looksAt ops).contains t = true -> a.tmps[t]? = (aAX a0 vs (H.take i)).tmps[t]? := fun t hl => by
   have h1 := m.tmps t
   have h2 := aCp vs (H.take i) a0 t
   rw [h1, h2]
   by_cases hc : ((H.take i).map (·.1)).contains t = true
   · obtain ⟨k, hk, hd⟩ := hmem t hc
     rw [if_pos hc, if_pos ⟨k, by omega, listedOf k (hlook k t (by omega) hd hl).2, hd⟩]
   · rw [if_neg hc, if_neg]
     rintro ⟨k, hk, _, hd⟩
     exact hc (hmem2 k t (hlook k t hk hd hl).1 hd)
 refine ⟨execOp_congr o'' (fun cs b => Region.noSelect_spec hsel i o'' cs b ho) fun x hx => ?_, aGF fun t R hm hc => ?_, ?_⟩
 rotate_left 2
 · unfold Region.wanted
   cases hg : o''.guard with
   | none => rfl
   | some jb =>
     obtain ⟨j, b⟩ := jb
     simp only
     have : yielded ops a.tmps j = yielded ops (aAX a0 vs (H.take i)).tmps j := by
       unfold yielded
       cases hd : (ops[j]?).bind (·.dst) with
       | none => rfl
       | some t =>
         simp only [Option.bind_some]
         rw [same t]
         rw [List.contains_iff_mem]
         refine List.mem_append_right _ ?_
         rw [hg]
         simp [hd]
     rw [this]
 · cases x with
   | tmp t =>
     have hl : (o''.looksAt ops).contains t = true := by
       rw [List.contains_iff_mem]
       exact List.mem_append_left _ (List.mem_filterMap.2 ⟨.tmp t, by simpa using hx, rfl⟩)
     simp only [Act.eval, Array.getD_eq_getD_getElem?, same t hl]
   | _ => rfl
 · obtain ⟨k, hk⟩ := List.mem_iff_getElem?.1 hm
   have hki : k < i := by
     have := (List.getElem?_eq_some_iff.1 hk).1; simp at this; omega
   rw [List.getElem?_take, if_pos hki] at hk
   obtain ⟨o3, ho3, _⟩ := aCI hok (show k < n by omega)
   have hd := aF2 hH (show k < n by omega) ⟨o3, ho3⟩ hk
   exact m.told k _ (by omega) (listedOf k (hlook k t (by omega) hd hc).2) hk
theorem aIZ {L : Nat} {X : Nat -> Prop} {a0 : Act} {n i : Nat} {H : List Told} {listed : Array Bool} {vs : Tmp -> Value} {a : Act} {w w' : World} {o : Oper} {x : Told} {u : Value} (hL : ∀ w, C w -> L <= w.heap.size) (hok : aGD ops n = true)
   (hH : ∀ i (o : Oper) (x : Told), i < n -> ops[i]? = some o -> H[i]? = some x -> o.dst = some x.1) (hst : ∀ i (x : Told), i < n -> H[i]? = some x -> aH2 C x.2)
   (m : MidS P ops C L a0 n H listed vs X a w) (hi : i < n) (ho : ops[i]? = some o) (hx : H[i]? = some x) (hr : i ∈ Region.ready .any ops listed) (hw : C w') (hb : Below w.heap.size w w')
   (hu : (allocAt ops i = true -> ∀ X', x.2 u X' w') /\ (allocAt ops i = false -> x.2 u X w'))
   (hal : allocAt ops i = true -> ∃ b, u = .pointer (some ⟨b, 0, none⟩) /\ w.heap.size <= b /\ b < w'.heap.size) :
   ∃ X', MidS P ops C L a0 n H (listed.setIfInBounds i true) (fun t => if t = x.1 then u else vs t) X' (a.put o.dst u) w' := by
 obtain ⟨o', ho', _, _, _, hne, _⟩ := aCI hok hi
 obtain rfl : o' = o := Option.some.inj (ho'.symm.trans ho)
 have hd := hH i o' x hi ho hx
 have hdi : dstAt ops i = some x.1 := by unfold dstAt; rw [ho]; exact hd
 have hsz := m.inv.size
 have hil : i < listed.size := by rw [hsz]; exact (Array.getElem?_eq_some_iff.1 ho).1
 have hset : (listed.setIfInBounds i true).getD i false = true := by simp [hil]
 have hother : ∀ j, j ≠ i -> (listed.setIfInBounds i true).getD j false = listed.getD j false := fun j hj => getD_set_ne false (Ne.symm hj)
 have hdne : ∀ j t, j < n -> j ≠ i -> dstAt ops j = some t -> t ≠ x.1 := fun j t hj hji hdj e => hne j hj hji (by rw [hdj, hd, e])
 have hX : ∀ b, (X b \/ (allocAt ops i = true /\ u = .pointer (some ⟨b, 0, none⟩))) -> X b \/ (w.heap.size <= b /\ b < w'.heap.size) := fun b hb' => by
   rcases hb' with hb' | ⟨h1, h2⟩
   · exact .inl hb'
   · obtain ⟨b', e, h3, h4⟩ := hal h1
     rw [h2] at e
     injection e with e
     injection e with e
     injection e with e
     subst e
     exact .inr ⟨h3, h4⟩
 refine ⟨fun b => X b \/ (allocAt ops i = true /\ u = .pointer (some ⟨b, 0, none⟩)), m.inv.set hr hi, hw, ?_, fun t => ?_, fun j y hj hl hy => ?_, fun b hb' => ?_, fun b hb' => ?_, fun j t hj hl ha hdj => ?_, fun j k t t' hj hk hjk hlj hlk haj hak hdj hdk => ?_⟩
 · rw [hd]; exact m.defers
 · rw [hd]
   have h1 := m.tmps t
   by_cases ht : t = x.1
   · subst ht
     rw [if_pos ⟨i, hi, hset, hdi⟩, if_pos rfl]
     have e : (a.put (some x.1) u).tmps[x.1]? = (a.tmps[x.1]?).map fun _ => u := by
       simp only [Act.put]
       by_cases hl : x.1 < a.tmps.size <;> simp [hl]
     rw [e, h1]
     split <;> cases a0.tmps[x.1]? <;> rfl
   · have e : (a.put (some x.1) u).tmps[t]? = a.tmps[t]? := by simp [Act.put, Array.getElem?_setIfInBounds_ne (Ne.symm ht)]
     rw [e, h1, if_neg ht]
     have hiff : (∃ j, j < n /\ listed.getD j false = true /\ dstAt ops j = some t) <-> ∃ j, j < n /\ (listed.setIfInBounds i true).getD j false = true /\ dstAt ops j = some t := by
       constructor
       · rintro ⟨j, h1, h2, h3⟩; exact ⟨j, h1, getD_set_true h2, h3⟩
       · rintro ⟨j, h1, h2, h3⟩
         have hji : j ≠ i := fun e => by subst e; rw [hdi] at h3; exact ht (Option.some.inj h3).symm
         exact ⟨j, h1, by rw [<- hother j hji]; exact h2, h3⟩
     by_cases hLs : ∃ j, j < n /\ listed.getD j false = true /\ dstAt ops j = some t
     · rw [if_pos hLs, if_pos (hiff.1 hLs)]
     · rw [if_neg hLs, if_neg (fun h => hLs (hiff.2 h))]
 · by_cases hji : j = i
   · subst hji
     obtain rfl : x = y := Option.some.inj (hx.symm.trans hy)
     simp only [if_true]
     cases ha : allocAt ops j with
     | true => exact hu.1 ha _
     | false => exact hst j x hj hy _ X _ w' w' hw hw (Below.refl _ _) (fun b hb' => by
         rcases hb' with hb' | ⟨h1, _⟩
         · exact .inl hb'
         · cases h1) (hu.2 ha)
   · have hl' : listed.getD j false = true := by rw [<- hother j hji]; exact hl
     obtain ⟨o3, ho3, _⟩ := aCI hok hj
     have hyd : dstAt ops j = some y.1 := aF2 hH hj ⟨o3, ho3⟩ hy
     have hne' : y.1 ≠ x.1 := hdne j y.1 hj hji hyd
     simp only [if_neg hne']
     exact hst j y hj hy _ X _ _ _ m.cls hw hb (fun b hb' => (hX b hb').imp id (·.1)) (m.told j y hj hl' hy)
 · rcases hX b hb' with h | h
   · exact Nat.lt_of_lt_of_le (m.xlt b h) hb.size
   · exact h.2
 · rcases hX b hb' with h | h
   · exact m.xge b h
   · exact Nat.le_trans (hL w m.cls) h.1
 · by_cases hji : j = i
   · subst hji
     obtain ⟨b, e, _, hlt⟩ := hal ha
     rw [hdi] at hdj
     cases hdj
     exact ⟨b, by simp only [if_true]; exact e, .inr ⟨ha, e⟩⟩
   · obtain ⟨b, e, hlt⟩ := m.fresh j t hj (by rw [<- hother j hji]; exact hl) ha hdj
     exact ⟨b, by simp only [if_neg (hdne j t hj hji hdj)]; exact e, .inl hlt⟩
 · by_cases hji : j = i
   · subst hji
     have hkj : k ≠ j := Ne.symm hjk
     obtain ⟨b, e, hle, _⟩ := hal haj
     obtain ⟨b', e', hlt⟩ := m.fresh k t' hk (by rw [<- hother k hkj]; exact hlk) hak hdk
     have hlt := m.xlt b' hlt
     rw [hdi] at hdj
     cases hdj
     simp only [if_true, if_neg (hdne k t' hk hkj hdk)]
     rw [e, e']
     intro h
     injection h with h
     injection h with h
     injection h with h
     omega
   · by_cases hki : k = i
     · subst hki
       obtain ⟨b, e, hle, _⟩ := hal hak
       obtain ⟨b', e', hlt⟩ := m.fresh j t hj (by rw [<- hother j hji]; exact hlj) haj hdj
       have hlt := m.xlt b' hlt
       rw [hdi] at hdk
       cases hdk
       simp only [if_true, if_neg (hdne j t hj hji hdj)]
       rw [e, e']
       intro h
       injection h with h
       injection h with h
       injection h with h
       omega
     · simp only [if_neg (hdne j t hj hji hdj), if_neg (hdne k t' hk hki hdk)]
       exact m.apart j k t t' hj hk hjk (by rw [<- hother j hji]; exact hlj) (by rw [<- hother k hki]; exact hlk) haj hak hdj hdk
theorem aJu {a : Act} {o : Oper} {w : World} (ha : aCA o.op = true) : (∃ c t, (execOp a.eval o).run P w = .ok (.value (.pointer (some ⟨w.heap.size, 0, none⟩))) (w.alloc (.cells c t))) \/ ∃ x w', (execOp a.eval o).run P w = .halt x w' := by
 obtain ⟨dst, op, ty, pos, after, guard⟩ := o
 cases op <;> simp only [aCA, Bool.false_eq_true] at ha
 rename_i t
 cases hi : P.info? t with
 | none => exact .inr (by simp [execOp, Instr.alloc, zeroValue, typeInfo, hi])
 | some it =>
   cases hq : it.zero with
   | none => exact .inr (by simp [execOp, Instr.alloc, zeroValue, typeInfo, hi, hq])
   | some z => exact .inl ⟨z.cells, t, by simp [execOp, Instr.alloc, zeroValue, typeInfo, hi, hq, newVar, newRow]⟩
theorem aSl {a : Act} {o : Oper} {w w1 : World} {u : Value} (ha : aCA o.op = true) (h : (execOp a.eval o).run P w = .ok (.value u) w1) : ∃ b, u = .pointer (some ⟨b, 0, none⟩) /\ w.heap.size <= b /\ b < w1.heap.size := by
 rcases aJu (P := P) (a := a) (w := w) ha with ⟨c, t, e⟩ | ⟨x, w', e⟩
 · rw [e] at h
   injection h with h1 h2
   injection h1 with h1
   subst h1; subst h2
   exact ⟨w.heap.size, rfl, Nat.le_refl _, by simp⟩
 · rw [e] at h; cases h
theorem aNP {a : Act} {o : Oper} {w w1 : World} {f : FuncId} {args : Array Value} (ha : aCA o.op = true) (h : (execOp a.eval o).run P w = .ok (.enter f args) w1) : False := by
 rcases aJu (P := P) (a := a) (w := w) ha with ⟨c, t, e⟩ | ⟨x, w', e⟩
 · rw [e] at h
   injection h with h1 h2
   cases h1
 · rw [e] at h; cases h
theorem aVD {Q : Exit -> Act -> World -> Prop} {K : Act -> World -> Prop} {L : Nat} {X : Nat -> Prop} {a0 : Act} {n i : Nat} {H : List Told} {listed : Array Bool} {vs : Tmp -> Value} {a : Act} {w : World} (hL : ∀ w, C w -> L <= w.heap.size) (hlen : H.length = n) (hsel : Region.noSelect ops = true) (hok : aGD ops n = true)
   (hH : ∀ i (o : Oper) (x : Told), i < n -> ops[i]? = some o -> H[i]? = some x -> o.dst = some x.1 /\ aH2 C x.2 /\ aLN P ops C L a0 o (H.take i) x.2)
   (m : MidS P ops C L a0 n H listed vs X a w) (hi : i < n) (hr : i ∈ Region.ready .any ops listed)
   (hK : ∀ vs' X' a' w', MidS P ops C L a0 n H (listed.setIfInBounds i true) vs' X' a' w' -> K a' w') : wpOp P ops Q i K a w := by
 obtain ⟨o, ho, hgal, _⟩ := aCI hok hi
 have hx : H[i]? = some (H[i]'(by omega)) := List.getElem?_eq_getElem (by omega)
 generalize H[i]'(by omega) = x at hx
 obtain ⟨hd, hs, hstep⟩ := hH i o x hi ho hx
 have hH1 : ∀ i (o : Oper) (x : Told), i < n -> ops[i]? = some o -> H[i]? = some x -> o.dst = some x.1 := fun i o x a b c => (hH i o x a b c).1
 have hH2 : ∀ i (x : Told), i < n -> H[i]? = some x -> aH2 C x.2 := fun j y hj hy => by
   obtain ⟨o3, ho3, _⟩ := aCI hok hj
   exact (hH j o3 y hj ho3 hy).2.1
 obtain ⟨he, hf, hwt⟩ := aQ7 hlen hsel hok hH1 m hi ho hr
 have hala : allocAt ops i = aCA o.op := by unfold allocAt; rw [ho]
 have h1 := hstep vs X w m.cls (fun b hb => ⟨m.xge b hb, m.xlt b hb⟩) hf
 unfold wpOp
 simp only [ho]
 rcases h1 with ⟨hwant, h1⟩ | ⟨hwant, hR⟩
 rotate_left
 · rw [if_neg (by rw [hwt, hwant]; decide)]
   have hno : allocAt ops i = true -> False := fun ha => by
     rw [hala] at ha
     unfold Region.wanted at hwant
     rw [hgal ha] at hwant
     cases hwant
   obtain ⟨X', m'⟩ := aIZ hL hok hH1 hH2 m hi ho hx hr m.cls (Below.refl _ _) ⟨fun ha => (hno ha).elim, fun _ => hR⟩ fun ha => (hno ha).elim
   exact hK _ _ _ _ m'
 rw [if_pos (by rw [hwt, hwant])]
 refine .inl ?_
 unfold aLO at h1
 unfold Oper.wp
 rw [he]
 generalize hrun : (execOp (aAX a0 vs (H.take i)).eval o).run P w = r at h1
 have hal : ∀ u w1, r = .ok (.value u) w1 -> allocAt ops i = true -> ∃ b, u = .pointer (some ⟨b, 0, none⟩) /\ w.heap.size <= b /\ b < w1.heap.size := fun u w1 e ha => by
   rw [hala] at ha
   exact aSl ha (hrun.trans e)
 cases r with
 | ok nx w1 =>
   cases nx <;> simp only [aKB] at h1 <;> simp only [Oper.upon]
   case value u =>
     obtain ⟨k1, k2, k3⟩ := h1
     obtain ⟨X', m'⟩ := aIZ hL hok hH1 hH2 m hi ho hx hr k1 k2 (by rw [hala]; exact k3) (hal u w1 rfl)
     exact hK _ _ _ _ m'
   case enter f args =>
     obtain ⟨k1, k2⟩ := h1
     rw [k1]
     refine k2.mono fun e w2 hh => ?_
     obtain ⟨u, k3, k4, k5, k6⟩ := hh
     subst k3
     obtain ⟨X', m'⟩ := aIZ hL hok hH1 hH2 m hi ho hx hr k4 k5 (by rw [hala]; exact k6) fun ha => by
       rw [hala] at ha
       exact (aNP ha hrun).elim
     exact hK _ _ _ _ m'
 | halt y w1 => simp only [aKB] at h1
theorem aTu {L : Nat} {X : Nat -> Prop} {a0 : Act} {n : Nat} {H : List Told} {listed : Array Bool} {vs : Tmp -> Value} {a : Act} {w : World} (hlen : H.length = n) (hok : aGD ops n = true)
   (hH : ∀ i (o : Oper) (x : Told), i < n -> ops[i]? = some o -> H[i]? = some x -> o.dst = some x.1) (m : MidS P ops C L a0 n H listed vs X a w) (hall : ∀ i, i < n -> listed.getD i false = true) :
   a = aAX a0 vs H /\ aDP vs X w H /\ aMS vs (aFi ops n) /\ InX vs X (aFi ops n) := by
 refine ⟨?_, aEF fun t R hm => ?_, fun t t' ht ht' hne => ?_, fun t ht => ?_⟩
 rotate_left 2
 rotate_left
 · unfold aFi at ht
   obtain ⟨i, hi, h1⟩ := List.mem_filterMap.1 ht
   rw [List.mem_range] at hi
   split at h1
   · exact m.fresh i t hi (hall i hi) (by assumption) h1
   · cases h1
 rotate_left 2
 · unfold aFi at ht ht'
   obtain ⟨i, hi, h1⟩ := List.mem_filterMap.1 ht
   obtain ⟨j, hj, h2⟩ := List.mem_filterMap.1 ht'
   rw [List.mem_range] at hi hj
   split at h1
   · split at h2
     · exact m.apart i j t t' hi hj (fun e => hne (by subst e; rw [h1] at h2; exact Option.some.inj h2)) (hall i hi) (hall j hj) (by assumption) (by assumption) h1 h2
     · cases h2
   · cases h1
 · have h1 : a.tmps = (aAX a0 vs H).tmps := by
     apply Array.ext_getElem?
     intro t
     rw [m.tmps t, aCp]
     by_cases hc : (H.map (·.1)).contains t = true
     · rw [if_pos hc, if_pos]
       simp only [List.contains_iff_mem, List.mem_map] at hc
       obtain ⟨x, hx, rfl⟩ := hc
       obtain ⟨k, hxk⟩ := List.mem_iff_getElem?.1 hx
       have hk : k < n := by have := (List.getElem?_eq_some_iff.1 hxk).1; omega
       obtain ⟨o3, ho3, _⟩ := aCI hok hk
       exact ⟨k, hk, hall k hk, aF2 hH hk ⟨o3, ho3⟩ hxk⟩
     · rw [if_neg hc, if_neg]
       rintro ⟨k, hk, _, hd⟩
       apply hc
       have hx : H[k]? = some (H[k]'(by omega)) := List.getElem?_eq_getElem (by omega)
       obtain ⟨o3, ho3, _⟩ := aCI hok hk
       have h1 := aF2 hH hk ⟨o3, ho3⟩ hx
       rw [h1] at hd
       rw [<- Option.some.inj hd, List.contains_iff_mem]
       exact List.mem_map.2 ⟨_, List.mem_iff_getElem?.2 ⟨k, hx⟩, rfl⟩
   have h2 : a.defers = (aAX a0 vs H).defers := by rw [aCa]; exact m.defers
   cases a
   cases hF : aAX a0 vs H
   simp only [hF] at h1 h2
   subst h1; subst h2; rfl
 · obtain ⟨k, hk⟩ := List.mem_iff_getElem?.1 hm
   have hkn : k < n := by have := (List.getElem?_eq_some_iff.1 hk).1; omega
   exact m.told k _ hkn (hall k hkn) hk
def cntN (listed : Array Bool) : Nat -> Nat
 | 0 => 0
 | n + 1 => cntN listed n + (if listed.getD n false then 0 else 1)
theorem aOG {listed : Array Bool} {i : Nat} : ∀ n, n <= i -> cntN (listed.setIfInBounds i true) n = cntN listed n
 | 0, _ => rfl
 | n + 1, h => by rw [cntN, cntN, aOG n (by omega), getD_set_ne false (by omega)]
theorem aOF {listed : Array Bool} {i : Nat} (hl : listed.getD i false = false) (hs : i < listed.size) : ∀ n, i < n -> cntN (listed.setIfInBounds i true) n + 1 = cntN listed n
 | 0, h => by omega
 | n + 1, h => by
   by_cases hin : i = n
   · subst hin
     have : (listed.setIfInBounds i true).getD i false = true := by simp [hs]
     rw [cntN, cntN, aOG i (Nat.le_refl _), hl, this]; simp
   · rw [cntN, cntN, getD_set_ne false hin]
     have := aOF hl hs n (by omega)
     omega
theorem aJp {listed : Array Bool} : ∀ n, cntN listed n = 0 -> ∀ i, i < n -> listed.getD i false = true
 | 0, _, i, hi => by omega
 | n + 1, h, i, hi => by
   rw [cntN] at h
   by_cases hin : i = n
   · subst hin
     cases hg : listed.getD i false with
     | true => rfl
     | false => rw [hg] at h; simp at h
   · exact aJp n (by omega) i (by omega)
theorem aLq {listed : Array Bool} : ∀ n, cntN listed n ≠ 0 -> ∃ i, i < n /\ listed.getD i false = false /\ ∀ j, j < i -> listed.getD j false = true
 | 0, h => absurd rfl h
 | n + 1, h => by
   by_cases h0 : cntN listed n = 0
   · refine ⟨n, by omega, ?_, aJp n h0⟩
     cases hg : listed.getD n false with
     | false => rfl
     | true => rw [cntN, h0, hg] at h; simp at h
   · obtain ⟨i, hi, h1, h2⟩ := aLq n h0
     exact ⟨i, by omega, h1, h2⟩
theorem aMD (m : Nat) : ∀ n, n <= m -> cntN (Array.replicate m false) n = n
 | 0, _ => rfl
 | n + 1, h => by rw [cntN, aMD m n (by omega), getD_replicate_false]; simp
theorem aN8 {L : Nat} (hL : ∀ w, C w -> L <= w.heap.size) {Q : Exit -> Act -> World -> Prop} {a0 : Act} {n : Nat} {H : List Told} {l : List Oper} (hl : ops = l.toArray) (hlen : H.length = n) (hsel : Region.noSelect ops = true) (hok : aGD ops n = true) (htail : aMX ops n = true)
   (hseq : Region.seqB .any ops (ops.size - n) n (aEE ops n) = true) (hn : n <= ops.size)
   (hH : ∀ i (o : Oper) (x : Told), i < n -> ops[i]? = some o -> H[i]? = some x -> o.dst = some x.1 /\ aH2 C x.2 /\ aLN P ops C L a0 o (H.take i) x.2)
   (hQ : ∀ vs X w, C w -> (∀ b, X b -> L <= b) -> aDP vs X w H -> aMS vs (aFi ops n) -> InX vs X (aFi ops n) -> wpList P ops Q (l.drop n) (aAX a0 vs H) w) :
   ∀ (f : Nat) (listed : Array Bool) (vs : Tmp -> Value) (X : Nat -> Prop) (a : Act) (w : World), MidS P ops C L a0 n H listed vs X a w -> cntN listed n = f -> wpAny P .any ops Q (f + (ops.size - n)) listed a w
 | 0, listed, vs, X, a, w, m, hf => by
   have hall := aJp n hf
   obtain ⟨ha, hfa, hap, hin⟩ := aTu hlen hok (fun i o x a b c => (hH i o x a b c).1) m hall
   have hlst : listed = aEE ops n := by
     apply Array.ext_getElem?
     intro t
     by_cases ht : t < ops.size
     · have h1 : listed[t]? = some (listed.getD t false) := by
         have : t < listed.size := by rw [m.inv.size]; exact ht
         simp [this]
       have h2 : (aEE ops n)[t]? = some (decide (t < n)) := by unfold aEE; simp [ht]
       rw [h1, h2]
       by_cases htn : t < n
       · rw [hall t htn]; simp [htn]
       · have := m.inv.tail t (by omega) ht
         rw [getD_both this]; simp [htn]
     · have h1 : listed[t]? = none := Array.getElem?_eq_none (by rw [m.inv.size]; omega)
       have h2 : (aEE ops n)[t]? = none := Array.getElem?_eq_none (by unfold aEE; simp; omega)
       rw [h1, h2]
   rw [Nat.zero_add, ha, hlst]
   have hdl : (l.drop n).length = ops.size - n := by rw [hl]; simp
   have := wpAny_of_seq (P := P) (md := .any) (ops := ops) (Q' := Q) (l.drop n) n (aEE ops n) (aAX a0 vs H) w (fun j => by rw [hl]; simp [List.getElem?_drop]) (by rw [hdl]; exact hseq) (hQ vs X w m.cls m.xge hfa hap hin)
   rwa [hdl] at this
 | f + 1, listed, vs, X, a, w, m, hf => by
   rw [show f + 1 + (ops.size - n) = (f + (ops.size - n)) + 1 by omega]
   have hready : ∀ i, i ∈ Region.ready .any ops listed -> i < n := fun i hi => by
     unfold aMX at htail
     simp only [Bool.or_eq_true, beq_iff_eq, Bool.and_eq_true, decide_eq_true_eq] at htail
     rcases htail with h | ⟨⟨h1, h2⟩, h3⟩
     · obtain ⟨_, o, ho, _⟩ := mem_ready.1 hi
       have := (Array.getElem?_eq_some_iff.1 ho).1
       omega
     · obtain ⟨k, hk, hkf, _⟩ := aLq n (show cntN listed n ≠ 0 by omega)
       rcases Nat.lt_or_ge i n with h | h
       · exact h
       · exact absurd hi (tail_waits h2 h3 h1 m.inv _ k rfl hk (getD_in (by rw [m.inv.size]; omega) hkf) i h)
   refine ⟨fun h0 => ?_, fun i hi => ?_⟩
   · exfalso
     obtain ⟨k, hk, hkf, hkl⟩ := aLq n (show cntN listed n ≠ 0 by omega)
     obtain ⟨o, ho, _, _, haft, _⟩ := aCI hok hk
     have : k ∈ Region.ready .any ops listed := mem_ready.2 ⟨getD_in (by rw [m.inv.size]; omega) hkf, o, ho, fun e he hb => hkl _ (haft e he hb)⟩
     rw [h0] at this; cases this
   · have hin := hready i hi
     have hun := (mem_ready.1 hi).1
     exact aVD hL hlen hsel hok hH m hin hi fun vs' X' a' w' m' => aN8 hL hl hlen hsel hok htail hseq hn hH hQ f _ vs' X' a' w' m' (by
       have := aOF (getD_both hun) (by rw [m.inv.size]; omega) n hin
       omega)
theorem aJC {L : Nat} {id : Nat} {Q : Exit -> Act -> World -> Prop} {a0 : Act} {w : World} {l : List Oper} (n : Nat) (C : World -> Prop) (hL : ∀ w, C w -> L <= w.heap.size) (hm : P.follows .mixedOrders = true) (hB : aKC l.toArray n = true) (hn : decide (n <= l.length) = true) (hC : C w.drew)
   (h : aN0 P l.toArray C L (aFi l.toArray n) (fun a' w' => wpList P l.toArray Q (l.drop n) a' w') a0 (l.take n) []) : (Code.region id l.toArray true).wp P Q a0 w := by
 simp only [aKC, Bool.and_eq_true] at hB
 obtain ⟨⟨⟨hsel, hok⟩, htail⟩, hseq⟩ := hB
 have hn : n <= l.length := of_decide_eq_true hn
 obtain ⟨H, h1, h2, h3⟩ := aIv _ _ h
 have hlen : H.length = n := by rw [h1]; simp; omega
 refine wp_region_any hm ?_
 have inv0 : HeadInv .any l.toArray n (Array.replicate l.toArray.size false) :=
   ⟨by simp, fun j oj _ hl => (by rw [getD_replicate_false] at hl; cases hl), fun t _ ht => getD_in (by simpa using ht) (getD_replicate_false _ _)⟩
 have hcnt := aMD l.toArray.size n (by simpa using hn)
 have m0 : MidS P l.toArray C L a0 n H (Array.replicate l.toArray.size false) (fun _ => undef) (fun _ => False) a0 w.drew :=
   { inv := inv0, cls := hC, defers := rfl
     tmps := fun t => by
       rw [if_neg]
       rintro ⟨i, _, h, _⟩
       rw [getD_replicate_false] at h
       cases h
     told := fun i x _ h => by
       rw [getD_replicate_false] at h
       cases h
     xlt := fun b h => h.elim
     xge := fun b h => h.elim
     fresh := fun i t _ h => by
       rw [getD_replicate_false] at h
       cases h
     apart := fun i j t t' _ _ _ h => by
       rw [getD_replicate_false] at h
       cases h }
 have := aN8 (P := P) hL (Q := Q) rfl hlen hsel hok htail hseq (by simpa using hn) (fun i o x hi ho hx => by
   have := h2 i o x (by rw [List.getElem?_take, if_pos hi]; simpa using ho) hx
   simpa using this) (fun vs X w hw hx hf ha hi => by have := h3 vs X w hw hx (by simpa using hf) ha hi; simpa using this) n _ _ _ a0 w.drew m0 hcnt
 have hsz : l.toArray.size = l.length := by simp
 rw [show n + (l.toArray.size - n) = l.toArray.size by omega] at this
 exact this
def wpSt (P : Program) (ops : Array Oper) (C : World -> Prop) (L : Nat) (A : List Tmp) (Q : Act -> World -> Prop) (a0 : Act) : List Oper -> List Told -> Prop
 | [], G => ∀ vs X w, C w -> (∀ b, X b -> L <= b) -> aDP vs X w G -> aMS vs A -> InX vs X A -> Q (aAX a0 vs G) w
 | o :: l, G => ∃ d R, o.dst = some d /\ aH2 C R /\ aLN P ops C L a0 o G R /\ wpSt P ops C L A Q a0 l ((d, R) :: G)
theorem aI9 (a : Act) (vs : Tmp -> Value) (G : List Told) : aAX a vs G.reverse = aAX a vs G := by
 have h1 : (aAX a vs G.reverse).tmps = (aAX a vs G).tmps := by
   apply Array.ext_getElem?
   intro t
   rw [aCp, aCp]
   have : (G.reverse.map (·.1)).contains t = (G.map (·.1)).contains t := by
     rw [Bool.eq_iff_iff, List.contains_iff_mem, List.contains_iff_mem, List.map_reverse, List.mem_reverse]
   rw [this]
 have h2 : (aAX a vs G.reverse).defers = (aAX a vs G).defers := by rw [aCa, aCa]
 cases h3 : aAX a vs G.reverse
 cases h4 : aAX a vs G
 rw [h3, h4] at h1 h2
 simp only at h1 h2
 subst h1; subst h2; rfl
theorem aGE {looks : List Tmp} {vs : Tmp -> Value} {X : Nat -> Prop} {w : World} : ∀ {G : List Told}, aFL looks vs X w G -> ∀ t R, (t, R) ∈ G -> looks.contains t = true -> R (vs t) X w
 | (s, S) :: g, h, t, R, hm, hc => by
   rcases List.mem_cons.1 hm with e | hm
   · cases e; exact h.1 hc
   · exact aGE h.2 t R hm hc
theorem aDY {vs : Tmp -> Value} {X : Nat -> Prop} {w : World} : ∀ {G : List Told}, aDP vs X w G -> ∀ t R, (t, R) ∈ G -> R (vs t) X w
 | (s, S) :: g, h, t, R, hm => by
   rcases List.mem_cons.1 hm with e | hm
   · cases e; exact h.1
   · exact aDY h.2 t R hm
theorem aHL {L : Nat} {A : List Tmp} {Q : Act -> World -> Prop} {a0 : Act} : ∀ (l : List Oper) (G : List Told), wpSt P ops C L A Q a0 l G -> aN0 P ops C L A Q a0 l G.reverse
 | [], G, h => fun vs X w hw hx hf ha hi => by
   rw [aI9]
   exact h vs X w hw hx (aEF fun t R hm => aDY hf t R (List.mem_reverse.2 hm)) ha hi
 | o :: l, G, h => by
   obtain ⟨d, R, hd, hs, hok, hrest⟩ := h
   refine ⟨d, R, hd, hs, fun vs X w hw hx hf => ?_, ?_⟩
   · rw [aI9]
     exact hok vs X w hw hx (aGF fun t R hm hc => aGE hf t R (List.mem_reverse.2 hm) hc)
   · have := aHL l _ hrest
     rwa [List.reverse_cons] at this
abbrev BW (W : World) : World -> Prop := fun w' => Below W.heap.size W w'
theorem aIu {id : Nat} {Q : Exit -> Act -> World -> Prop} {a0 : Act} {W : World} {l : List Oper} (n : Nat) (hm : P.follows .mixedOrders = true) (hB : aKC l.toArray n = true) (hn : decide (n <= l.length) = true)
   (h : wpSt P l.toArray (BW W) W.heap.size (aFi l.toArray n) (fun a' w' => wpList P l.toArray Q (l.drop n) a' w') a0 (l.take n) []) : (Code.region id l.toArray true).wp P Q a0 W :=
 aJC n (BW W) (fun w h => h.size) hm hB hn ((Below.refl _ _).drew) (aHL _ [] h)
end
end
section
open Go.RowKit
inductive AV where
 | any
 | lit (v : Value)
 | num (n : Nat)
 | wds (l : List Nat)
 | ptr (k i : Nat)
 | agg (l : List AV)
 | tup (l : List AV)
 | arr (n : Nat) (es : List AV)
 | fp (es : List AV)
 | clo (f : FuncId) (cap : List AV)
 | sl (k i n c : Nat)
 | un
instance : Inhabited AV := ⟨.any⟩
def WordsS (S : Nat -> Prop) (w : World) (v : Value) (l : List Nat) : Prop := aAE 0 w v l /\ ∀ b o s n c, v = .slice (some ⟨b, o, s⟩) n c -> 0 < l.length -> ¬ S b
theorem WordsS.to {S S' : Nat -> Prop} {w w' : World} {v : Value} {l : List Nat} (h : WordsS S w v l) (hw : ∀ b, b < w.heap.size -> ¬ S b -> w'.heap[b]? = w.heap[b]?) (hS : ∀ b, b < w.heap.size -> S' b -> S b) : WordsS S' w' v l := by
 obtain ⟨⟨x, cap, h1, h2, h3, h4, h5⟩, h6⟩ := h
 refine ⟨⟨x, cap, h1, h2, h3, h4, fun i hi => ?_⟩, fun b o s n c e hl hs => ?_⟩
 · obtain ⟨b, off, e, hl, hc⟩ := h5 i hi
   have hb := World.block_lt_of_cell? w _ hc
   have hn : ¬ S b := h6 b off none _ _ (by rw [h1, e]) (by omega)
   exact ⟨b, off, e, hl, (World.cell?_of_block (hw b hb hn)).trans hc⟩
 · obtain ⟨b', off, e', hl', hc⟩ := h5 0 hl
   rw [h1, e'] at e
   injection e with e1 e2 e3
   injection e1 with e1
   injection e1 with e1
   have hb := World.block_lt_of_cell? w _ hc
   subst e1
   exact h6 b' off none _ _ (by rw [h1, e']) hl (hS b' hb hs)
def Cel (S : Nat -> Prop) (w : World) (a : Option Addr) (vs : List Value) : Prop := ∃ b off, a = some ⟨b, off, none⟩ /\ (vs ≠ [] -> ¬ S b) /\ ∀ (j : Nat) (u : Value), vs[j]? = some u -> w.cell? ⟨b, off + j, none⟩ = some u
theorem Cel.to {S S' : Nat -> Prop} {w w' : World} {a : Option Addr} {vs : List Value} (h : Cel S w a vs) (hw : ∀ b, b < w.heap.size -> ¬ S b -> w'.heap[b]? = w.heap[b]?) (hS : ∀ b, b < w.heap.size -> S' b -> S b) : Cel S' w' a vs := by
 obtain ⟨b, off, h1, h2, h3⟩ := h
 refine ⟨b, off, h1, fun hne hs => ?_, fun j u hj => ?_⟩
 · cases vs with
   | nil => exact hne rfl
   | cons u l => exact h2 hne (hS b (World.block_lt_of_cell? w _ (h3 0 u rfl)) hs)
 · have hc := h3 j u hj
   have hb := World.block_lt_of_cell? w _ hc
   exact (World.cell?_of_block (hw b hb (h2 (by intro e; subst e; simp at hj)))).trans hc
theorem Cel.drop {S : Nat -> Prop} {w : World} {b off : Nat} {vs : List Value} (h : Cel S w (some ⟨b, off, none⟩) vs) (n : Nat) : Cel S w (some ⟨b, off + n, none⟩) (vs.drop n) := by
 obtain ⟨b', off', h1, h2, h3⟩ := h
 cases h1
 refine ⟨b, off + n, rfl, fun hne => h2 (fun e => hne (by rw [e]; simp)), fun j u hj => ?_⟩
 rw [List.getElem?_drop] at hj
 have := h3 _ _ hj
 rwa [<- Nat.add_assoc] at this
mutual
def Rep (S : Nat -> Prop) (β : List Nat) (w : World) : AV -> Value -> Prop
 | .any, _ => True
 | .un, v => v = undef
 | .lit u, v => v = u
 | .num n, v => WordsS S w v (limbsOf n)
 | .wds l, v => WordsS S w v l
 | .ptr k i, v => ∃ b, β[k]? = some b /\ v = .pointer (some ⟨b, i, none⟩)
 | .agg l, v => ∃ vs, v = .agg (List.toArray vs) /\ RepL S β w l vs
 | .tup l, v => ∃ vs, v = .tuple (List.toArray vs) /\ RepL S β w l vs
 | .arr n es, v => ∃ a c vs, v = .slice a n c /\ (n <= c /\ c <= 9223372036854775807) /\ Cel S w a vs /\ RepL S β w es vs
 | .fp es, v => ∃ a vs, v = .pointer a /\ Cel S w a vs /\ RepL S β w es vs
 | .clo f cap, v => ∃ vs, v = .func (.func f) #[] (List.toArray vs) /\ RepL S β w cap vs
 | .sl k i n c, v => ∃ b, β[k]? = some b /\ v = .slice (some ⟨b, i, none⟩) n c /\ n <= c
def RepL (S : Nat -> Prop) (β : List Nat) (w : World) : List AV -> List Value -> Prop
 | [], vs => vs = []
 | a :: l, vs => ∃ v r, vs = v :: r /\ Rep S β w a v /\ RepL S β w l r
end
mutual
theorem Rep.to {S S' : Nat -> Prop} {β β' : List Nat} {w w' : World} (hw : ∀ b, b < w.heap.size -> ¬ S b -> w'.heap[b]? = w.heap[b]?) (hS : ∀ b, b < w.heap.size -> S' b -> S b) (hβ : ∀ (k b : Nat), β[k]? = some b -> β'[k]? = some b) :
   ∀ (x : AV) (v : Value), Rep S β w x v -> Rep S' β' w' x v
 | .any, _, _ => by simp only [Rep]
 | .un, _, h => by simp only [Rep] at h ⊢; exact h
 | .lit u, v, h => by simp only [Rep] at h ⊢; exact h
 | .num n, v, h => by simp only [Rep] at h ⊢; exact h.to hw hS
 | .wds l, v, h => by simp only [Rep] at h ⊢; exact h.to hw hS
 | .ptr k i, v, h => by simp only [Rep] at h ⊢; obtain ⟨b, h1, h2⟩ := h; exact ⟨b, hβ k b h1, h2⟩
 | .agg l, v, h => by simp only [Rep] at h ⊢; obtain ⟨vs, h1, h2⟩ := h; exact ⟨vs, h1, RepL.to hw hS hβ l vs h2⟩
 | .tup l, v, h => by simp only [Rep] at h ⊢; obtain ⟨vs, h1, h2⟩ := h; exact ⟨vs, h1, RepL.to hw hS hβ l vs h2⟩
 | .arr n es, v, h => by simp only [Rep] at h ⊢; obtain ⟨a, c, vs, h1, h2, h3, h4⟩ := h; exact ⟨a, c, vs, h1, h2, h3.to hw hS, RepL.to hw hS hβ es vs h4⟩
 | .fp es, v, h => by simp only [Rep] at h ⊢; obtain ⟨a, vs, h1, h2, h3⟩ := h; exact ⟨a, vs, h1, h2.to hw hS, RepL.to hw hS hβ es vs h3⟩
 | .clo f cap, v, h => by simp only [Rep] at h ⊢; obtain ⟨vs, h1, h2⟩ := h; exact ⟨vs, h1, RepL.to hw hS hβ cap vs h2⟩
 | .sl k i n c, v, h => by simp only [Rep] at h ⊢; obtain ⟨b, h1, h2⟩ := h; exact ⟨b, hβ k b h1, h2⟩
theorem RepL.to {S S' : Nat -> Prop} {β β' : List Nat} {w w' : World} (hw : ∀ b, b < w.heap.size -> ¬ S b -> w'.heap[b]? = w.heap[b]?) (hS : ∀ b, b < w.heap.size -> S' b -> S b) (hβ : ∀ (k b : Nat), β[k]? = some b -> β'[k]? = some b) :
   ∀ (l : List AV) (vs : List Value), RepL S β w l vs -> RepL S' β' w' l vs
 | [], _, h => by simp only [RepL] at h ⊢; exact h
 | a :: l, vs, h => by
   simp only [RepL] at h ⊢
   obtain ⟨v, r, h1, h2, h3⟩ := h
   exact ⟨v, r, h1, Rep.to hw hS hβ a v h2, RepL.to hw hS hβ l r h3⟩
end
section
variable {S : Nat -> Prop} {β : List Nat} {w : World}
theorem aC4 : ∀ {l : List AV} {vs : List Value}, RepL S β w l vs <-> l.length = vs.length /\ ∀ (i : Nat) (a : AV) (v : Value), l[i]? = some a -> vs[i]? = some v -> Rep S β w a v
 | [], vs => by
   simp only [RepL]
   constructor
   · rintro rfl; exact ⟨rfl, fun i a v h => by simp at h⟩
   · rintro ⟨h, _⟩; exact List.length_eq_zero_iff.1 h.symm
 | a :: l, vs => by
   simp only [RepL]
   constructor
   · rintro ⟨v, r, rfl, h1, h2⟩
     obtain ⟨h3, h4⟩ := aC4.1 h2
     refine ⟨by simp [h3], fun i x u hx hu => ?_⟩
     cases i with
     | zero => simp at hx hu; subst hx; subst hu; exact h1
     | succ i => simp at hx hu; exact h4 i x u hx hu
   · rintro ⟨h1, h2⟩
     cases vs with
     | nil => simp at h1
     | cons v r =>
       refine ⟨v, r, rfl, h2 0 a v (by simp) (by simp), aC4.2 ⟨by simpa using h1, fun i x u hx hu => h2 (i + 1) x u (by simpa using hx) (by simpa using hu)⟩⟩
theorem RepL.len {l : List AV} {vs : List Value} (h : RepL S β w l vs) : l.length = vs.length := (aC4.1 h).1
theorem RepL.get {l : List AV} {vs : List Value} (h : RepL S β w l vs) {i : Nat} {a : AV} (ha : l[i]? = some a) : ∃ v, vs[i]? = some v /\ Rep S β w a v := by
 obtain ⟨h1, h2⟩ := aC4.1 h
 have hi : i < vs.length := by rw [<- h1]; exact (List.getElem?_eq_some_iff.1 ha).1
 exact ⟨vs[i], List.getElem?_eq_getElem hi, h2 i a _ ha (List.getElem?_eq_getElem hi)⟩
theorem RepL.take {l : List AV} {vs : List Value} (h : RepL S β w l vs) (n : Nat) : RepL S β w (l.take n) (vs.take n) := by
 obtain ⟨h1, h2⟩ := aC4.1 h
 refine aC4.2 ⟨by simp [h1], fun i a v ha hv => ?_⟩
 rw [List.getElem?_take] at ha hv
 split at ha
 · rw [if_pos (by assumption)] at hv; exact h2 i a v ha hv
 · cases ha
theorem RepL.drop {l : List AV} {vs : List Value} (h : RepL S β w l vs) (n : Nat) : RepL S β w (l.drop n) (vs.drop n) := by
 obtain ⟨h1, h2⟩ := aC4.1 h
 refine aC4.2 ⟨by simp [h1], fun i a v ha hv => ?_⟩
 rw [List.getElem?_drop] at ha hv
 exact h2 _ a v ha hv
theorem RepL.app : ∀ {l l' : List AV} {vs vs' : List Value}, RepL S β w l vs -> RepL S β w l' vs' -> RepL S β w (l ++ l') (vs ++ vs')
 | [], l', vs, vs', h, h' => by simp only [RepL] at h; subst h; exact h'
 | a :: l, l', vs, vs', h, h' => by
   simp only [RepL, List.cons_append] at h ⊢
   obtain ⟨v, r, rfl, h1, h2⟩ := h
   exact ⟨v, r ++ vs', rfl, h1, RepL.app h2 h'⟩
end
abbrev AMem := List (TypeId × List AV)
structure MemRep (S : Nat -> Prop) (β : List Nat) (w : World) (m : AMem) : Prop where
 len : β.length = m.length
 own : ∀ (k b : Nat), β[k]? = some b -> S b
 at_ : ∀ (k b : Nat), β[k]? = some b -> ∃ (T : TypeId) (cs : List AV) (vs : List Value), m[k]? = some (T, cs) /\ Blk w b vs.toArray T /\ RepL S β w cs vs
 inj : ∀ (i j b : Nat), β[i]? = some b -> β[j]? = some b -> i = j
def aggT (P : Program) (t : TypeId) : Option Bool := (P.underlying t).map fun d => d.isRow
def szT (P : Program) (t : TypeId) : Option Nat := (P.info? t).map (·.size)
def fldT (P : Program) (s : TypeId) (f : Nat) : Option Nat :=
 match P.underlying s with
 | some (.struct fs) => (fs[f]?).bind fun fd => (P.info? fd.type).bind fun i => if i.size = 0 then none else some fd.offset
 | _ => none
def bldT (P : Program) (t : TypeId) : Option (List (Nat × Nat) × List Value) :=
 match P.info? t, P.underlying t with
 | some it, some (.struct fields) =>
   match it.zero, fields.toList.mapM (fun f => (P.info? f.type).map fun i => (f.offset, i.size)) with
   | some z, some places => some (places, z.cells.toList)
   | _, _ => none
 | some it, some (.array n e) => match it.zero, szT P e with
   | some z, some s => some ((List.range n).map (fun i => (i * s, s)), z.cells.toList)
   | _, _ => none
 | _, _ => none
def zerT (P : Program) (t : TypeId) : Option (List Value) := (P.info? t).bind fun i => i.zero.map fun z => z.cells.toList
def intT (P : Program) (t : TypeId) : Option IntKind :=
 match P.underlying t with
 | some (.int k) => some k
 | _ => none
def aNN (P : Program) (t : TypeId) : Bool :=
 match P.underlying t with
 | some .bool => true
 | _ => false
def aEN : Value -> AV
 | .slice none 0 0 => .num 0
 | v => .lit v
def aCc : AV -> Option (List AV)
 | .agg l => some l
 | .tup _ | .any | .un => none
 | .lit v => if v.oneCell' then some [.lit v] else none
 | x => some [x]
def oneA : AV -> Bool
 | .lit v => v.oneCell'
 | .num _ | .wds _ | .ptr _ _ | .arr _ _ | .fp _ | .clo _ _ | .sl _ _ _ _ => true
 | _ => false
def aAS (P : Program) (m : AMem) (t : TypeId) (k i : Nat) : Option AV :=
 match m[k]? with
 | some (_, cs) => match aggT P t with
   | some true => match szT P t with
     | some n => if i + n <= cs.length then some (.agg ((cs.drop i).take n)) else none
     | none => none
   | some false => cs[i]?
   | none => none
 | none => none
def aAQ (pl : List (Nat × Nat)) : List AV -> List (Nat × AV) -> Option (List AV)
 | cs, [] => some cs
 | cs, (i, x) :: r => match pl[i]?, aCc x with
   | some (off, n), some l => if l.length = n /\ off + n <= cs.length then aAQ pl (cs.take off ++ l ++ cs.drop (off + n)) r else none
   | _, _ => none
def aFS (k : IntKind) (f : BitVec k.bits -> BitVec k.bits -> BitVec k.bits) (a b : Int) : Int := k.wrap ((f (BitVec.ofInt k.bits a) (BitVec.ofInt k.bits b)).toNat : Nat)
def shlI (k : IntKind) (a b : Int) : Int := k.wrap (a * 2 ^ min b.toNat k.bits)
def shrI (k : IntKind) (a b : Int) : Int := a.fdiv (2 ^ min b.toNat k.bits)
def binA (P : Program) (op : BinOp) (t : TypeId) : Value -> Value -> Option Value
 | .int k a, .int k' b => match op with
   | .shl => if 0 <= b then some (.int k (shlI k a b)) else none
   | .shr => if 0 <= b then some (.int k (shrI k a b)) else none
   | op => if k = k' then match op with
   | .quo => if b = 0 then none else some (.int k (k.wrap (a.tdiv b)))
   | .rem => if b = 0 then none else some (.int k (a.tmod b))
   | .and => some (.int k (aFS k (· &&& ·) a b))
   | .or => some (.int k (aFS k (· ||| ·) a b))
   | .xor => some (.int k (aFS k (· ^^^ ·) a b))
   | .andNot => some (.int k (aFS k (· &&& ~~~ ·) a b))
   | .add => some (.int k (k.wrap (a + b)))
   | .sub => some (.int k (k.wrap (a - b)))
   | .mul => some (.int k (k.wrap (a * b)))
   | .eql => some (.bool (a == b))
   | .neq => some (.bool (!(a == b)))
   | .lss => some (.bool (decide (a < b)))
   | .leq => some (.bool (decide (a <= b)))
   | .gtr => some (.bool (decide (b < a)))
   | .geq => some (.bool (decide (b <= a)))
   | _ => none
   else none
 | .bool a, .bool b => if aNN P t = true then match op with
   | .eql => some (.bool (a == b))
   | .neq => some (.bool (!(a == b)))
   | _ => none
   else none
 | _, _ => none
def aKW (P : Program) (t : TypeId) (cs : List AV) : Option AV :=
 match aggT P t with
 | some true => match szT P t with
   | some n => if n <= cs.length then some (.agg (cs.take n)) else none
   | none => none
 | some false => cs[0]?
 | none => none
def arrT (P : Program) (t : TypeId) : Option (Nat × TypeId) :=
 match P.underlying t with
 | some (.array n e) => some (n, e)
 | _ => none
def sliE (P : Program) (t : TypeId) : Option TypeId :=
 match P.underlying t with
 | some (.slice e) => some e
 | _ => none
def unA (op : UnOp) : Value -> Option Value
 | .int k n => match op with
   | .neg => some (.int k (k.wrap (0 - n)))
   | _ => none
 | .bool b => match op with
   | .not => some (.bool (!b))
   | _ => none
 | _ => none
section
variable {P : Program} {S : Nat -> Prop} {β : List Nat} {w : World}
theorem aIg (v : Value) : Rep S β w (aEN v) v := by
 unfold aEN
 split
 · simp only [Rep, aAZ]
   exact ⟨aAE.nil 0 w none 0 (by decide), fun b o s n c _ h => absurd h (by simp)⟩
 · simp only [Rep]
theorem aFv (l : List Value) : RepL S β w (l.map aEN) l :=
 aC4.2 ⟨by simp, fun i a v ha hv => by
   rw [List.getElem?_map, hv] at ha
   simp at ha; subst ha; exact aIg v⟩
theorem aDB {v : Value} {l : List Nat} (h : WordsS S w v l) : ∃ x c, v = .slice x l.length c := by
 obtain ⟨⟨x, cap, h1, _⟩, _⟩ := h
 exact ⟨x, cap, h1⟩
theorem aGX : ∀ {x : AV} {v : Value} {l : List AV}, Rep S β w x v -> aCc x = some l -> RepL S β w l v.cells.toList
 | .any, v, l, h, hl => by simp [aCc] at hl
 | .un, v, l, h, hl => by simp [aCc] at hl
 | .tup _, v, l, h, hl => by simp [aCc] at hl
 | .lit u, v, l, h, hl => by
   simp only [Rep] at h
   subst h
   simp only [aCc] at hl
   split at hl
   · simp only [Option.some.injEq] at hl
     subst hl
     cases v <;> simp_all [Value.oneCell', Value.cells, RepL, Rep]
   · cases hl
 | .num n, v, l, h, hl => by
   simp only [aCc, Option.some.injEq] at hl
   subst hl
   obtain ⟨x, c, rfl⟩ := aDB (by simpa only [Rep] using h)
   simp only [Value.cells, RepL]
   exact ⟨_, [], rfl, h, rfl⟩
 | .wds n, v, l, h, hl => by
   simp only [aCc, Option.some.injEq] at hl
   subst hl
   obtain ⟨x, c, rfl⟩ := aDB (by simpa only [Rep] using h)
   simp only [Value.cells, RepL]
   exact ⟨_, [], rfl, h, rfl⟩
 | .ptr k i, v, l, h, hl => by
   simp only [aCc, Option.some.injEq] at hl
   subst hl
   have h' := h
   simp only [Rep] at h'
   obtain ⟨b, h1, rfl⟩ := h'
   simp only [Value.cells, RepL]
   exact ⟨_, [], rfl, h, rfl⟩
 | .arr n es, v, l, h, hl => by
   simp only [aCc, Option.some.injEq] at hl
   subst hl
   have h' := h
   simp only [Rep] at h'
   obtain ⟨a, c, vs, rfl, _⟩ := h'
   simp only [Value.cells, RepL]
   exact ⟨_, [], rfl, h, rfl⟩
 | .fp es, v, l, h, hl => by
   simp only [aCc, Option.some.injEq] at hl
   subst hl
   have h' := h
   simp only [Rep] at h'
   obtain ⟨a, vs, rfl, _⟩ := h'
   simp only [Value.cells, RepL]
   exact ⟨_, [], rfl, h, rfl⟩
 | .clo f cap, v, l, h, hl => by
   simp only [aCc, Option.some.injEq] at hl
   subst hl
   have h' := h
   simp only [Rep] at h'
   obtain ⟨vs, rfl, _⟩ := h'
   simp only [Value.cells, RepL]
   exact ⟨_, [], rfl, h, rfl⟩
 | .sl k i n c, v, l, h, hl => by
   simp only [aCc, Option.some.injEq] at hl
   subst hl
   have h' := h
   simp only [Rep] at h'
   obtain ⟨b, _, rfl, _⟩ := h'
   simp only [Value.cells, RepL]
   exact ⟨_, [], rfl, h, rfl⟩
 | .agg l', v, l, h, hl => by
   simp only [aCc, Option.some.injEq] at hl
   subst hl
   simp only [Rep] at h
   obtain ⟨vs, rfl, h2⟩ := h
   exact h2
theorem aVe : ∀ {x : AV} {v : Value}, Rep S β w x v -> oneA x = true -> v.oneCell' = true
 | .any, v, h, hl => by simp [oneA] at hl
 | .un, v, h, hl => by simp [oneA] at hl
 | .tup _, v, h, hl => by simp [oneA] at hl
 | .agg _, v, h, hl => by simp [oneA] at hl
 | .lit u, v, h, hl => by
   simp only [Rep] at h
   subst h
   exact hl
 | .num n, v, h, hl => by
   obtain ⟨x, c, rfl⟩ := aDB (by simpa only [Rep] using h)
   rfl
 | .wds n, v, h, hl => by
   obtain ⟨x, c, rfl⟩ := aDB (by simpa only [Rep] using h)
   rfl
 | .ptr k i, v, h, hl => by
   simp only [Rep] at h
   obtain ⟨b, h1, rfl⟩ := h
   rfl
 | .arr n es, v, h, hl => by
   simp only [Rep] at h
   obtain ⟨a, c, vs, rfl, _⟩ := h
   rfl
 | .fp es, v, h, hl => by
   simp only [Rep] at h
   obtain ⟨a, vs, rfl, _⟩ := h
   rfl
 | .clo f cap, v, h, hl => by
   simp only [Rep] at h
   obtain ⟨vs, rfl, _⟩ := h
   rfl
 | .sl k i n c, v, h, hl => by
   simp only [Rep] at h
   obtain ⟨b, _, rfl, _⟩ := h
   rfl
theorem aJ1 {m : AMem} (hm : MemRep S β w m) {t : TypeId} {k i : Nat} {r : AV} (h : aAS P m t k i = some r) {v : Value} (hv : Rep S β w (.ptr k i) v) :
   ∃ u, (Instr.loadAt t v).run P w = .ok u w /\ Rep S β w r u := by
 simp only [Rep] at hv
 obtain ⟨b, hb, rfl⟩ := hv
 obtain ⟨T, cs, vs, h1, h2, h3⟩ := hm.at_ k b hb
 unfold aAS at h
 rw [h1] at h
 simp only at h
 cases hu : P.underlying t with
 | none => simp [aggT, hu] at h
 | some d =>
   have ha : aggT P t = some d.isRow := by simp [aggT, hu]
   rw [ha] at h
   cases hd : d.isRow with
   | true =>
     rw [hd] at h
     simp only at h
     cases hs : szT P t with
     | none => rw [hs] at h; simp at h
     | some n =>
       rw [hs] at h
       simp only at h
       split at h
       · rename_i hle
         simp only [Option.some.injEq] at h
         subst h
         have hlen := h3.len
         refine ⟨.agg ((vs.drop i).take n).toArray, run_loadAt_mid w b i t ((vs.drop i).take n) d (fun j u hj => ?_) hu hd ?_, ?_⟩
         · rw [List.getElem?_take] at hj
           split at hj
           · rw [List.getElem?_drop] at hj
             exact h2.cell (i + j) u (by simpa using hj)
           · cases hj
         · have hs' : (P.info? t).map (·.size) = some n := hs
           rw [hs']
           simp only [List.length_take, List.length_drop]
           congr 1
           omega
         · simp only [Rep]
           exact ⟨_, rfl, (h3.drop i).take n⟩
       · cases h
   | false =>
     rw [hd] at h
     simp only at h
     obtain ⟨u, hu1, hu2⟩ := h3.get h
     refine ⟨u, ?_, hu2⟩
     have hc := h2.cell i u (by simpa using hu1)
     have hagg : (isAgg t).run P w = .ok false w := by
       unfold isAgg
       rw [Sem.run_bind, run_underlying hu w]
       cases d <;> simp_all
     simp [Instr.loadAt, Instr.sureAddr, loadVar, Sem.run_bind, hagg, hc]
theorem aRh {t : TypeId} {es : List AV} {r : AV} {a : Option Addr} {vs : List Value} (h : aKW P t es = some r) (hc : Cel S w a vs) (hl : RepL S β w es vs) :
   ∃ u, (Instr.loadAt t (.pointer a)).run P w = .ok u w /\ Rep S β w r u := by
 obtain ⟨b, off, rfl, _, hcell⟩ := hc
 unfold aKW at h
 cases hu : P.underlying t with
 | none => simp [aggT, hu] at h
 | some d =>
   have ha : aggT P t = some d.isRow := by simp [aggT, hu]
   rw [ha] at h
   cases hd : d.isRow with
   | true =>
     rw [hd] at h
     simp only at h
     cases hs : szT P t with
     | none => rw [hs] at h; simp at h
     | some n =>
       rw [hs] at h
       simp only at h
       split at h
       · rename_i hle
         simp only [Option.some.injEq] at h
         subst h
         have hlen := hl.len
         refine ⟨.agg (vs.take n).toArray, run_loadAt_mid w b off t (vs.take n) d (fun j u hj => ?_) hu hd ?_, ?_⟩
         · rw [List.getElem?_take] at hj
           split at hj
           · exact hcell j u hj
           · cases hj
         · have hs' : (P.info? t).map (·.size) = some n := hs
           rw [hs']
           simp only [List.length_take]
           congr 1
           omega
         · simp only [Rep]
           exact ⟨_, rfl, hl.take n⟩
       · cases h
   | false =>
     rw [hd] at h
     simp only at h
     obtain ⟨u, hu1, hu2⟩ := hl.get h
     refine ⟨u, ?_, hu2⟩
     have hc := hcell 0 u hu1
     rw [Nat.add_zero] at hc
     have hagg : (isAgg t).run P w = .ok false w := by
       unfold isAgg
       rw [Sem.run_bind, run_underlying hu w]
       cases d <;> simp_all
     simp [Instr.loadAt, Instr.sureAddr, loadVar, Sem.run_bind, hagg, hc]
theorem aJb {s : TypeId} {f b i d : Nat} (h : fldT P s f = some d) : (Instr.fieldAt s (.pointer (some ⟨b, i, none⟩)) f).run P w = .ok (.pointer (some ⟨b, i + d, none⟩)) w := by
 unfold fldT at h
 split at h
 · rename_i fs hu
   cases hf : fs[f]? with
   | none => simp [hf] at h
   | some fd =>
     cases hi : P.info? fd.type with
     | none => simp [hf, hi] at h
     | some it =>
       simp only [hf, hi, Option.bind_some] at h
       split at h
       · cases h
       · rename_i hne
         simp only [Option.some.injEq] at h
         subst h
         simp [Instr.fieldAt, Sem.run_bind, run_underlying hu, hf, Instr.sureAddr, fieldPlace, sizeOf, typeInfo, hi, hne, Addr.add_mid]
 · cases h
theorem aNy {s : TypeId} {f k i d : Nat} (h : fldT P s f = some d) {v : Value} (hv : Rep S β w (.ptr k i) v) :
   ∃ u, (Instr.fieldAt s v f).run P w = .ok u w /\ Rep S β w (.ptr k (i + d)) u := by
 simp only [Rep] at hv
 obtain ⟨b, hb, rfl⟩ := hv
 exact ⟨_, aJb h, by simp only [Rep]; exact ⟨b, hb, rfl⟩⟩
theorem aI6 {t e : TypeId} {n s b i : Nat} {p : Int} {k : IntKind} (h : arrT P t = some (n, e)) (hs : szT P e = some s) (h0 : 0 <= p) (h1 : p < n) : (Instr.indexAt t (.pointer (some ⟨b, i, none⟩)) (.int k p)).run P w = .ok (.pointer (some ⟨b, i + p.toNat * s, none⟩)) w := by
 unfold arrT at h
 split at h
 · rename_i n' e' hu
   simp only [Option.some.injEq, Prod.mk.injEq] at h
   obtain ⟨rfl, rfl⟩ := h
   unfold szT at hs
   cases hi : P.info? e' with
   | none => simp [hi] at hs
   | some it =>
     simp [hi] at hs
     subst hs
     simp [Instr.indexAt, asIntOf, Sem.run_bind, run_underlying hu, Instr.sureAddr, h0, h1, sizeOf, typeInfo, hi, Addr.add_mid]
 · cases h
theorem aHA {t e : TypeId} {n c s b i : Nat} {p : Int} {k : IntKind} (h : sliE P t = some e) (hs : szT P e = some s) (h0 : 0 <= p) (h1 : p < n) : (Instr.indexAt t (.slice (some ⟨b, i, none⟩) n c) (.int k p)).run P w = .ok (.pointer (some ⟨b, i + p.toNat * s, none⟩)) w := by
 unfold sliE at h
 split at h
 · rename_i e' hu
   simp only [Option.some.injEq] at h
   subst h
   unfold szT at hs
   cases hi : P.info? e' with
   | none => simp [hi] at hs
   | some it =>
     simp [hi] at hs
     subst hs
     simp [Instr.indexAt, asIntOf, Sem.run_bind, run_underlying hu, h0, h1, sizeOf, typeInfo, hi, Addr.add_mid]
 · cases h
theorem aQn {t e : TypeId} {n c s b i : Nat} {p : Int} {k : IntKind} (h : sliE P t = some e) (hs : szT P e = some s) (h0 : 0 <= p) (h1 : p <= n) :
   (Instr.sliceAt t (.slice (some ⟨b, i, none⟩) n c) (some (.int k p)) none none).run P w = .ok (.slice (some (if c = p.toNat then ⟨b, i, none⟩ else ⟨b, i + p.toNat * s, none⟩)) (n - p.toNat) (c - p.toNat)) w := by
 unfold sliE at h
 split at h
 · rename_i e' hu
   simp only [Option.some.injEq] at h
   subst h
   unfold szT at hs
   cases hi : P.info? e' with
   | none => simp [hi] at hs
   | some it =>
     simp [hi] at hs
     subst hs
     simp [Instr.sliceAt, Instr.slice, Instr.sliceBounds, Instr.sliceBound, asIntOf, Sem.run_bind, run_underlying hu, h0, h1, sizeOf, typeInfo, hi, Addr.add_mid]
     split <;> rfl
 · cases h
theorem aRJ {t : TypeId} {n s : Nat} {e : TypeId} {l : List AV} {p : Int} {k : IntKind} {r : AV} {vs : List Value} (h : arrT P t = some (n, e)) (hs : szT P e = some s) (h0 : 0 <= p) (h1 : p < n) (hr : aKW P e (l.drop (p.toNat * s)) = some r) (hl : RepL S β w l vs) :
   ∃ u, (Instr.index t (.agg vs.toArray) (.int k p)).run P w = .ok u w /\ Rep S β w r u := by
 unfold arrT at h
 split at h
 · rename_i n' e' hu
   simp only [Option.some.injEq, Prod.mk.injEq] at h
   obtain ⟨rfl, rfl⟩ := h
   have hs0 := hs
   unfold szT at hs
   cases hi : P.info? e' with
   | none => simp [hi] at hs
   | some it =>
     simp [hi] at hs
     subst hs
     unfold aKW at hr
     cases hq : P.underlying e' with
     | none => simp [aggT, hq] at hr
     | some d =>
       have ha : aggT P e' = some d.isRow := by simp [aggT, hq]
       have hagg : (isAgg e').run P w = .ok d.isRow w := by
         unfold isAgg
         rw [Sem.run_bind, run_underlying hq w]
         cases d <;> simp_all
       rw [ha] at hr
       cases hrow : d.isRow with
       | true =>
         rw [hrow] at hr hagg
         simp only [hs0] at hr
         split at hr
         · simp only [Option.some.injEq] at hr
           subst hr
           refine ⟨.agg ((vs.drop (p.toNat * it.size)).take it.size).toArray, ?_, by simp only [Rep]; exact ⟨_, rfl, (hl.drop _).take _⟩⟩
           simp [Instr.index, asIntOf, Sem.run_bind, run_underlying hu, h0, h1, sizeOf, typeInfo, hi, part, hagg, List.extract_eq_take_drop]
         · cases hr
       | false =>
         rw [hrow] at hr hagg
         simp only at hr
         obtain ⟨u, hu1, hu2⟩ := (hl.drop _).get hr
         refine ⟨u, ?_, hu2⟩
         rw [List.getElem?_drop, Nat.add_zero] at hu1
         simp [Instr.index, asIntOf, Sem.run_bind, run_underlying hu, h0, h1, sizeOf, typeInfo, hi, part, hagg, hu1]
 · cases h
theorem aSe {op : BinOp} {t : TypeId} {x y : Operand} {u v r : Value} (h : binA P op t u v = some r) : (do eqGuard op t x y u v; binOp op t u v : Sem Value).run P w = .ok r w := by
 unfold binA at h
 split at h
 · split at h
   · split at h
     · simp only [Option.some.injEq] at h; subst h
       rename_i hb
       simp [eqGuard, binOp, Op.shift, shlI, Int.not_lt.2 hb]
     · cases h
   · split at h
     · simp only [Option.some.injEq] at h; subst h
       rename_i hb
       simp [eqGuard, binOp, Op.shift, shrI, Int.not_lt.2 hb]
     · cases h
   · split at h
     · rename_i hk
       subst hk
       cases op <;> simp only [Option.some.injEq, reduceCtorEq] at h
       all_goals first
         | contradiction
         | (split at h
            · cases h
            · rename_i hb
              simp only [Option.some.injEq] at h
              subst h
              simp [eqGuard, binOp, Op.intDiv, hb])
         | (subst h; simp [eqGuard, binOp, Op.intArith, Op.intCmp, Op.intBits, aFS, bne])
     · cases h
 · split at h
   · rename_i hb
     unfold aNN at hb
     split at hb
     · rename_i hu
       have he : ∀ a b : Bool, (Op.equalIn Op.maxDepth t (.bool a) (.bool b)).run P w = .ok (a == b) w := fun a b => by
         unfold Op.maxDepth Op.equalIn
         simp [Sem.run_bind, run_underlying hu]
       cases op <;> simp only [Option.some.injEq, reduceCtorEq] at h <;> subst h <;> simp [eqGuard, binOp, Op.equal, he]
     · cases hb
   · cases h
 · cases h
theorem aSI {op : UnOp} {u r : Value} (h : unA op u = some r) : (Op.unary op u).run P w = .ok r w := by
 unfold unA at h
 split at h
 · cases op <;> simp only [Option.some.injEq, reduceCtorEq] at h <;> subst h <;> simp [Op.unary, Op.intArith]
 · cases op <;> simp only [Option.some.injEq, reduceCtorEq] at h <;> subst h <;> simp [Op.unary]
 · cases h
end
end
end Go.Proofs.YtgdkokgeldnliaaGreatDoor
