/- Small laws for walks: an append of one element just built; what is below a block stays. -/
import Derived.Test.YtihdnjgjjhhpgaaRows
import Derived.WalkKit
import Derived.WalkSpells
import Derived.WalkLawsBesides
import Derived.Lib.Hide
import Derived.Deep.QuietTactic
import Derived.BigQuiet
namespace Go.Proofs.Ytihdnjgjjhhpgaa
open Go.RowKit

theorem ret_int {k : IntKind} {a b : Int} (h : a = b) : Ending.returned (.int k a) = .returned (.int k b) := by rw [h]

theorem grownBy_of_alloc {w w' : World} {o : Obj} {row : Option Nat} (h : (w.alloc o).grownBy w' row) : w.grownBy w' row :=
  ⟨h.os, h.tape, h.output, by have := h.size; simp at this; omega, fun k hk hne => (h.block k (by simp; omega) hne).trans (Below.heap_alloc _ _ _ hk)⟩

theorem wpList_append1 {P : Program} {w0 : World} {ops : Array Oper} {rest : List Oper} {o : Oper} {a : Act} {Q : Exit → Act → World → Prop} (hgd : o.guard = none) (s x : Operand) (t : TypeId)
    (ho : o.op = .call { callee := .builtin .append, args := #[s, x], argTypes := #[t, t] })
    (base : Nat) (e : TypeId) (i : TypeInfo) (z : Value) (bytes : Nat) (ht : P.underlying t = some (.slice e)) (hi : P.info? e = some i) (hz : i.zero = some z)
    (hsize : i.size = 1) (hby : i.bytes = bytes) (hzs : z.cells.size = 1)
    (v : Value) (n : Nat) (xs : List Value) (hs : a.eval s = v) (hown : w0.ownsRow base e 1 v n xs)
    (u : Value) (e' : TypeId) (hu : u.oneCell' = true) (hx : a.eval x = .slice (some ⟨w0.heap.size, 0, none⟩) 1 1)
    (h63 : n + 1 ≤ maxLen) (hbytes : (n + 1) * bytes ≤ 140737488355328) (hbase : base ≤ w0.heap.size)
    (h : ∀ v' w', w'.ownsRow base e 1 v' (n + 1) (xs ++ [u]) → w0.grownBy w' v.ownBlock → wpList P ops Q rest (a.put o.dst v') w') :
    wpList P ops Q (o :: rest) a (w0.alloc (.cells #[u] e')) := by
  refine wpList_append_own _ hgd s x t ho base e i z 1 bytes ht hi hz hsize hby hzs (by decide) v n xs hs (hown.alloc _) ⟨w0.heap.size, 0, none⟩ 1 1 [u] hx rfl ?_ ?_ h63 hbytes (by simp; omega) ?_
  · intro j u' hj
    match j, hj with
    | 0, hj => simp at hj; subst hj; simp [Addr.add]
  · intro u' hu'; simp at hu'; subst hu'; exact hu
  · intro v' w' h1 h2 _
    exact h v' w' h1 (grownBy_of_alloc h2)

theorem Below.grownB {B : Nat} {a w w' : World} {v : Value} {e : TypeId} {sz n : Nat} {xs : List Value} (h : Below B a w) (hg : w.grownBy w' v.ownBlock) (hB : B ≤ w.heap.size)
    (hown : w.ownsRow B e sz v n xs) : Below B a w' := h.grown hg hB fun j hj => (hown.lt j hj).1

theorem drewN_drewN (w : World) (n m : Nat) : (w.drewN n).drewN m = w.drewN (n + m) := by
  simp [World.drewN, Nat.add_assoc]
theorem below_drewN (B : Nat) (w : World) (n : Nat) : Below B w (w.drewN n) := ⟨rfl, rfl, rfl, Nat.le_refl _, fun _ _ => rfl⟩

/-! 'grownBy': the world with new blocks and writes to one block alone. -/
theorem gb_refl (w : World) (r : Option Nat) : w.grownBy w r := ⟨rfl, rfl, rfl, Nat.le_refl _, fun _ _ _ => rfl⟩
theorem gb_trans {a b c : World} {r : Option Nat} (h : a.grownBy b r) (k : b.grownBy c r) : a.grownBy c r :=
  ⟨k.os.trans h.os, k.tape.trans h.tape, k.output.trans h.output, Nat.le_trans h.size k.size, fun i hi hne => (k.block i (Nat.lt_of_lt_of_le hi h.size) hne).trans (h.block i hi hne)⟩
theorem gb_below {a b : World} (h : Below a.heap.size a b) (r : Option Nat) : a.grownBy b r := ⟨h.os, h.tape, h.output, h.size, fun k hk _ => h.block k hk⟩
theorem gb_set (w : World) (b o : Nat) (s : _) (v : Value) : w.grownBy (w.setCell ⟨b, o, s⟩ v) (some b) :=
  ⟨rfl, rfl, rfl, by simp [World.setCell], fun k _ hne => Below.heap_setCell _ _ _ _ (fun e => hne (by rw [e]))⟩
theorem gb_alloc (w : World) (o : Obj) (r : Option Nat) : w.grownBy (w.alloc o) r := World.grownBy_alloc w o r
theorem gb_drewN (w : World) (n : Nat) (r : Option Nat) : w.grownBy (w.drewN n) r := ⟨rfl, rfl, rfl, Nat.le_refl _, fun _ _ _ => rfl⟩
/-- A block of one's own, made since, may be the one that is written. -/
theorem below_of_gb {a b : World} {B r : Nat} (h : a.grownBy b (some r)) (hB : B ≤ r) (hs : B ≤ a.heap.size) : Below B a b :=
  ⟨h.os, h.tape, h.output, h.size, fun k hk => h.block k (by omega) (fun e => by injection e; omega)⟩

theorem bcell {W w1 : World} (hb : Below W.heap.size W w1) : (∀ b o, b < W.heap.size → w1.cell? ⟨b, o, none⟩ = W.cell? ⟨b, o, none⟩) ∧ (∀ b o, b < W.heap.size → w1.frozen? ⟨b, o, none⟩ = W.frozen? ⟨b, o, none⟩) :=
  ⟨fun b o h => hb.cell (p := ⟨b, o, none⟩) h, fun b o h => hb.frozen (p := ⟨b, o, none⟩) h⟩

/-- A block of one's own, known whole. -/
def Blk (w : World) (b : Nat) (cur : Array Value) (e : TypeId) : Prop := w.heap[b]? = some (.cells cur e (0, 0))
theorem Blk.new (w : World) (cur : Array Value) (e : TypeId) : Blk (w.alloc (.cells cur e)) w.heap.size cur e := heap_alloc_new w _
theorem Blk.lt {w : World} {b : Nat} {cur : Array Value} {e : TypeId} (h : Blk w b cur e) : b < w.heap.size := (Array.getElem?_eq_some_iff.1 h).1
theorem Blk.cell {w : World} {b : Nat} {cur : Array Value} {e : TypeId} (h : Blk w b cur e) (o : Nat) (v : Value) (hv : cur[o]? = some v) : w.cell? ⟨b, o, none⟩ = some v := by
  unfold Blk at h; simp [World.cell?, h, hv]
theorem Blk.free {w : World} {b : Nat} {cur : Array Value} {e : TypeId} (h : Blk w b cur e) (o : Nat) : w.frozen? ⟨b, o, none⟩ = false := by
  unfold Blk at h; simp [World.frozen?, h]
theorem Blk.alloc {w : World} {b : Nat} {cur : Array Value} {e : TypeId} (h : Blk w b cur e) (o : Obj) : Blk (w.alloc o) b cur e := by
  unfold Blk; rw [Below.heap_alloc _ _ _ h.lt]; exact h
theorem Blk.below {w w' : World} {B b : Nat} {cur : Array Value} {e : TypeId} (h : Blk w b cur e) (hb : Below B w w') (hlt : b < B) : Blk w' b cur e := by
  unfold Blk; rw [hb.block b hlt]; exact h
theorem Blk.call {w w' : World} {b : Nat} {cur : Array Value} {e : TypeId} (h : Blk w b cur e) (hb : Below w.heap.size w w') : Blk w' b cur e := h.below hb h.lt
theorem Blk.gb {w w' : World} {b r : Nat} {cur : Array Value} {e : TypeId} (h : Blk w b cur e) (hg : w.grownBy w' (some r)) (hne : b ≠ r) : Blk w' b cur e := by
  unfold Blk; rw [hg.block b h.lt (fun e => hne (by injection e))]; exact h
theorem Blk.drewN {w : World} {b : Nat} {cur : Array Value} {e : TypeId} (h : Blk w b cur e) (n : Nat) : Blk (w.drewN n) b cur e := h
theorem Blk.set {w : World} {b : Nat} {cur : Array Value} {e : TypeId} (h : Blk w b cur e) (o : Nat) (v : Value) : Blk (w.setCell ⟨b, o, none⟩ v) b (cur.setIfInBounds o v) e := by
  unfold Blk at *; simp [World.setCell, Array.getElem?_modify, h]
theorem Blk.set_other {w : World} {b b' : Nat} {cur : Array Value} {e : TypeId} (h : Blk w b cur e) (hne : b ≠ b') (o : Nat) (v : Value) : Blk (w.setCell ⟨b', o, none⟩ v) b cur e := by
  unfold Blk; rw [Below.heap_setCell _ _ _ _ hne]; exact h
end Go.Proofs.Ytihdnjgjjhhpgaa
