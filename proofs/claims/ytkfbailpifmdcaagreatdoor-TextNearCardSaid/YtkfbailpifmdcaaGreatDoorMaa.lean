/- Aid Nat NatB NatC NatD Words LimA LimB -/
import Derived.Test.YtkfbailpifmdcaaGreatDoorRows
import Derived.WalkKit
import Derived.WalkSpells
import Derived.WalkLawsBesides
import Derived.Lib.Hide
import Derived.Deep.QuietTactic
import Derived.BigQuiet
import Derived.Lib.BitFns
import Derived.Lib.ItoaNum
import Derived.Lib.TrailingZeros
import Derived.Test.YtkfbailpifmdcaaGreatDoorShelf
section
namespace Go.Proofs.YtkfbailpifmdcaaGreatDoor
open Go.RowKit

theorem ret_int {k : IntKind} {a b : Int} (h : a = b) : Ending.returned (.int k a) = .returned (.int k b) := by rw [h]

theorem grownBy_of_alloc {w w' : World} {o : Obj} {row : Option Nat} (h : (w.alloc o).grownBy w' row) : w.grownBy w' row :=
  ⟨h.os, h.tape, h.output, by have := h.size; simp at this; omega, fun k hk hne => (h.block k (by simp; omega) hne).trans (Below.heap_alloc _ _ _ hk)⟩

theorem wpList_append1 {P : Program} {w0 : World} {ops : Array Oper} {rest : List Oper} {o : Oper} {a : Act} {Q : Exit → Act → World → Prop} (hgd : o.guard = none) (s x : Operand) (t : TypeId)
    (ho : o.op = .call { callee := .builtin .append, args := #[s, x], argTypes := #[t, t] })
    (base : Nat) (e : TypeId) (i : TypeInfo) (z : Value) (bytes : Nat) (ht : P.underlying t = some (.slice e)) (hi : P.info? e = some i) (hz : i.zero = some z)
    (hsize : i.size = 1) (hby : i.bytes = bytes) (hzs : z.cells.size = 1)
    (v : Value) (n : Nat) (xs : List Value) (hs : a.eval s = v) (hown : w0.ownsRow base e 1 v n xs)
    (u : Value) (e' : TypeId) (hu : u.oneCell' = true) (hx : a.eval x = .slice (some ⟨w0.heap.size, 0, none⟩) 1 1)
    (h63 : n + 1 ≤ maxLen) (hbytes : (n + 1) * bytes ≤ 140737488355328) (hbase : base ≤ w0.heap.size)
    (h : ∀ v' w', w'.ownsRow base e 1 v' (n + 1) (xs ++ [u]) → w0.grownBy w' v.ownBlock → wpList P ops Q rest (a.put o.dst v') w') :
    wpList P ops Q (o :: rest) a (w0.alloc (.cells #[u] e')) := by
  refine wpList_append_own _ hgd s x t ho base e i z 1 bytes ht hi hz hsize hby hzs (by decide) v n xs hs (hown.alloc _) ⟨w0.heap.size, 0, none⟩ 1 1 [u] hx rfl ?_ ?_ h63 hbytes (by simp; omega) ?_
  · intro j u' hj
    match j, hj with
    | 0, hj => simp at hj; subst hj; simp [Addr.add]
  · intro u' hu'; simp at hu'; subst hu'; exact hu
  · intro v' w' h1 h2 _
    exact h v' w' h1 (grownBy_of_alloc h2)

theorem Below.grownB {B : Nat} {a w w' : World} {v : Value} {e : TypeId} {sz n : Nat} {xs : List Value} (h : Below B a w) (hg : w.grownBy w' v.ownBlock) (hB : B ≤ w.heap.size)
    (hown : w.ownsRow B e sz v n xs) : Below B a w' := h.grown hg hB fun j hj => (hown.lt j hj).1

theorem drewN_drewN (w : World) (n m : Nat) : (w.drewN n).drewN m = w.drewN (n + m) := by
  simp [World.drewN, Nat.add_assoc]
theorem below_drewN (B : Nat) (w : World) (n : Nat) : Below B w (w.drewN n) := ⟨rfl, rfl, rfl, Nat.le_refl _, fun _ _ => rfl⟩

/-! 'grownBy': the world with new blocks and writes to one block alone. -/
theorem gb_refl (w : World) (r : Option Nat) : w.grownBy w r := ⟨rfl, rfl, rfl, Nat.le_refl _, fun _ _ _ => rfl⟩
theorem gb_trans {a b c : World} {r : Option Nat} (h : a.grownBy b r) (k : b.grownBy c r) : a.grownBy c r :=
  ⟨k.os.trans h.os, k.tape.trans h.tape, k.output.trans h.output, Nat.le_trans h.size k.size, fun i hi hne => (k.block i (Nat.lt_of_lt_of_le hi h.size) hne).trans (h.block i hi hne)⟩
theorem gb_below {a b : World} (h : Below a.heap.size a b) (r : Option Nat) : a.grownBy b r := ⟨h.os, h.tape, h.output, h.size, fun k hk _ => h.block k hk⟩
theorem gb_set (w : World) (b o : Nat) (s : _) (v : Value) : w.grownBy (w.setCell ⟨b, o, s⟩ v) (some b) :=
  ⟨rfl, rfl, rfl, by simp [World.setCell], fun k _ hne => Below.heap_setCell _ _ _ _ (fun e => hne (by rw [e]))⟩
theorem gb_alloc (w : World) (o : Obj) (r : Option Nat) : w.grownBy (w.alloc o) r := World.grownBy_alloc w o r
theorem gb_drewN (w : World) (n : Nat) (r : Option Nat) : w.grownBy (w.drewN n) r := ⟨rfl, rfl, rfl, Nat.le_refl _, fun _ _ _ => rfl⟩
/-- A block of one's own, made since, may be the one that is written. -/
theorem below_of_gb {a b : World} {B r : Nat} (h : a.grownBy b (some r)) (hB : B ≤ r) (hs : B ≤ a.heap.size) : Below B a b :=
  ⟨h.os, h.tape, h.output, h.size, fun k hk => h.block k (by omega) (fun e => by injection e; omega)⟩

theorem bcell {W w1 : World} (hb : Below W.heap.size W w1) : (∀ b o, b < W.heap.size → w1.cell? ⟨b, o, none⟩ = W.cell? ⟨b, o, none⟩) ∧ (∀ b o, b < W.heap.size → w1.frozen? ⟨b, o, none⟩ = W.frozen? ⟨b, o, none⟩) :=
  ⟨fun b o h => hb.cell (p := ⟨b, o, none⟩) h, fun b o h => hb.frozen (p := ⟨b, o, none⟩) h⟩

/-- A block of one's own, known whole. -/
def Blk (w : World) (b : Nat) (cur : Array Value) (e : TypeId) : Prop := w.heap[b]? = some (.cells cur e (0, 0))
theorem Blk.new (w : World) (cur : Array Value) (e : TypeId) : Blk (w.alloc (.cells cur e)) w.heap.size cur e := heap_alloc_new w _
theorem Blk.lt {w : World} {b : Nat} {cur : Array Value} {e : TypeId} (h : Blk w b cur e) : b < w.heap.size := (Array.getElem?_eq_some_iff.1 h).1
theorem Blk.cell {w : World} {b : Nat} {cur : Array Value} {e : TypeId} (h : Blk w b cur e) (o : Nat) (v : Value) (hv : cur[o]? = some v) : w.cell? ⟨b, o, none⟩ = some v := by
  unfold Blk at h; simp [World.cell?, h, hv]
theorem Blk.free {w : World} {b : Nat} {cur : Array Value} {e : TypeId} (h : Blk w b cur e) (o : Nat) : w.frozen? ⟨b, o, none⟩ = false := by
  unfold Blk at h; simp [World.frozen?, h]
theorem Blk.alloc {w : World} {b : Nat} {cur : Array Value} {e : TypeId} (h : Blk w b cur e) (o : Obj) : Blk (w.alloc o) b cur e := by
  unfold Blk; rw [Below.heap_alloc _ _ _ h.lt]; exact h
theorem Blk.below {w w' : World} {B b : Nat} {cur : Array Value} {e : TypeId} (h : Blk w b cur e) (hb : Below B w w') (hlt : b < B) : Blk w' b cur e := by
  unfold Blk; rw [hb.block b hlt]; exact h
theorem Blk.call {w w' : World} {b : Nat} {cur : Array Value} {e : TypeId} (h : Blk w b cur e) (hb : Below w.heap.size w w') : Blk w' b cur e := h.below hb h.lt
theorem Blk.gb {w w' : World} {b r : Nat} {cur : Array Value} {e : TypeId} (h : Blk w b cur e) (hg : w.grownBy w' (some r)) (hne : b ≠ r) : Blk w' b cur e := by
  unfold Blk; rw [hg.block b h.lt (fun e => hne (by injection e))]; exact h
theorem Blk.drewN {w : World} {b : Nat} {cur : Array Value} {e : TypeId} (h : Blk w b cur e) (n : Nat) : Blk (w.drewN n) b cur e := h
theorem Blk.set {w : World} {b : Nat} {cur : Array Value} {e : TypeId} (h : Blk w b cur e) (o : Nat) (v : Value) : Blk (w.setCell ⟨b, o, none⟩ v) b (cur.setIfInBounds o v) e := by
  unfold Blk at *; simp [World.setCell, Array.getElem?_modify, h]
theorem Blk.set_other {w : World} {b b' : Nat} {cur : Array Value} {e : TypeId} (h : Blk w b cur e) (hne : b ≠ b') (o : Nat) (v : Value) : Blk (w.setCell ⟨b', o, none⟩ v) b cur e := by
  unfold Blk; rw [Below.heap_setCell _ _ _ _ hne]; exact h
end Go.Proofs.YtkfbailpifmdcaaGreatDoor
end

section
namespace Go.Proofs.YtkfbailpifmdcaaGreatDoor

/-- The value of words. -/
def valN : List Nat → Nat
  | [] => 0
  | x :: l => x + 18446744073709551616 * valN l
/-- The power of 2^64. -/
def pw (k : Nat) : Nat := 18446744073709551616 ^ k
theorem pw_zero : pw 0 = 1 := rfl
theorem pw_succ (k : Nat) : pw (k + 1) = 18446744073709551616 * pw k := by unfold pw; rw [Nat.pow_succ, Nat.mul_comm]
theorem pw_pos (k : Nat) : 0 < pw k := Nat.pow_pos (by decide)
theorem pw_add (a b : Nat) : pw (a + b) = pw a * pw b := by unfold pw; rw [Nat.pow_add]
theorem pw_le {a b : Nat} (h : a ≤ b) : pw a ≤ pw b := Nat.pow_le_pow_right (by decide) h
theorem pw_lt {a b : Nat} (h : a < b) : pw a < pw b := Nat.pow_lt_pow_right (by decide) h
theorem pw_two (k : Nat) : pw k = 2 ^ (64 * k) := by
  unfold pw; rw [Nat.pow_mul]
/-- Word i; 0 where there is none. -/
def gw (l : List Nat) (i : Nat) : Nat := l.getD i 0
theorem gw_def (l : List Nat) (i : Nat) : gw l i = l[i]?.getD 0 := List.getD_eq_getElem?_getD
theorem gw_of_lt {l : List Nat} {i : Nat} (h : i < l.length) : gw l i = l[i] := by rw [gw_def, List.getElem?_eq_getElem h]; rfl
theorem gw_ge {l : List Nat} {i : Nat} (h : l.length ≤ i) : gw l i = 0 := by rw [gw_def, List.getElem?_eq_none h]; rfl
theorem gw_succ (x : Nat) (l : List Nat) (i : Nat) : gw (x :: l) (i + 1) = gw l i := by simp [gw]
theorem gw_zero (x : Nat) (l : List Nat) : gw (x :: l) 0 = x := rfl
def okW (l : List Nat) : Prop := ∀ u ∈ l, u < 18446744073709551616

theorem okW_nil : okW [] := fun _ h => by cases h
theorem okW_cons {x : Nat} {l : List Nat} (hx : x < 18446744073709551616) (hl : okW l) : okW (x :: l) := fun u h => by
  rcases List.mem_cons.1 h with rfl | h
  · exact hx
  · exact hl u h
theorem okW_tail {x : Nat} {l : List Nat} (h : okW (x :: l)) : x < 18446744073709551616 ∧ okW l := ⟨h x (by simp), fun u hu => h u (by simp [hu])⟩
theorem okW_gw {l : List Nat} (h : okW l) (i : Nat) : gw l i < 18446744073709551616 := by
  by_cases hi : i < l.length
  · rw [gw_of_lt hi]; exact h _ (List.getElem_mem hi)
  · rw [gw_ge (by omega)]; decide
theorem okW_set {l : List Nat} (h : okW l) (i x : Nat) (hx : x < 18446744073709551616) : okW (l.set i x) := fun u hu => by
  rcases List.mem_or_eq_of_mem_set hu with h1 | rfl
  · exact h u h1
  · exact hx
theorem okW_append {a b : List Nat} (ha : okW a) (hb : okW b) : okW (a ++ b) := fun u hu => by
  rcases List.mem_append.1 hu with h | h
  · exact ha u h
  · exact hb u h
theorem okW_take {l : List Nat} (h : okW l) (n : Nat) : okW (l.take n) := fun u hu => h u (List.mem_of_mem_take hu)
theorem okW_drop {l : List Nat} (h : okW l) (n : Nat) : okW (l.drop n) := fun u hu => h u (List.mem_of_mem_drop hu)
theorem okW_replicate (n : Nat) : okW (List.replicate n 0) := fun u hu => by rw [(List.mem_replicate.1 hu).2]; decide

theorem valN_append (a b : List Nat) : valN (a ++ b) = valN a + pw a.length * valN b := by
  induction a with
  | nil => simp [valN, pw_zero]
  | cons x l ih => simp only [List.cons_append, valN, ih, List.length_cons, pw_succ]; grind
theorem valN_lt {l : List Nat} (h : okW l) : valN l < pw l.length := by
  induction l with
  | nil => simp [valN, pw_zero]
  | cons x l ih =>
    obtain ⟨hx, hl⟩ := okW_tail h
    have := ih hl
    simp only [valN, List.length_cons, pw_succ]
    omega
theorem valN_replicate (n : Nat) : valN (List.replicate n 0) = 0 := by
  induction n with
  | zero => rfl
  | succ n ih => rw [List.replicate_succ, valN, ih]

/-- The value of the first i words. -/
def vt (l : List Nat) : Nat → Nat
  | 0 => 0
  | i + 1 => vt l i + gw l i * pw i
theorem vt_succ (l : List Nat) (i : Nat) : vt l (i + 1) = vt l i + gw l i * pw i := rfl
theorem vt_cons (x : Nat) (l : List Nat) (i : Nat) : vt (x :: l) (i + 1) = x + 18446744073709551616 * vt l i := by
  induction i with
  | zero => simp [vt, pw_zero, gw_zero]
  | succ i ih => rw [vt_succ, ih, vt_succ, pw_succ]; rw [gw_succ]; grind
theorem vt_all (l : List Nat) (i : Nat) (h : l.length ≤ i) : vt l i = valN l := by
  induction l generalizing i with
  | nil =>
    induction i with
    | zero => rfl
    | succ i ih => rw [vt_succ, ih (by simp), gw_ge (by simp)]; simp [valN]
  | cons x l ih =>
    cases i with
    | zero => simp at h
    | succ i => rw [vt_cons, ih i (by simpa using h), valN]
theorem vt_set (l : List Nat) (k x i : Nat) (h : i ≤ k) : vt (l.set k x) i = vt l i := by
  induction i with
  | zero => rfl
  | succ i ih =>
    rw [vt_succ, vt_succ, ih (by omega), gw_def, gw_def, List.getElem?_set_ne (by omega)]
theorem vt_take (l : List Nat) (i : Nat) : vt l i = valN (l.take i) := by
  induction i with
  | zero => rfl
  | succ i ih =>
    rw [vt_succ, ih]
    by_cases hi : i < l.length
    · rw [List.take_add_one, List.getElem?_eq_getElem hi, valN_append]
      simp only [List.length_take, Option.toList, valN, gw_of_lt hi]
      rw [Nat.min_eq_left (by omega)]
      grind
    · rw [gw_ge (by omega), List.take_of_length_le (by omega), List.take_of_length_le (by omega)]
      simp
theorem vt_lt {l : List Nat} (h : okW l) (i : Nat) : vt l i < pw i := by
  rw [vt_take]
  exact Nat.lt_of_lt_of_le (valN_lt (okW_take h i)) (pw_le (by simp; omega))
theorem gw_set_same (l : List Nat) (k x : Nat) (h : k < l.length) : gw (l.set k x) k = x := by
  simp [gw_def, h]
theorem gw_set_other (l : List Nat) (k j x : Nat) (h : k ≠ j) : gw (l.set k x) j = gw l j := by
  rw [gw_def, gw_def, List.getElem?_set_ne h]
theorem gw_replicate (n i : Nat) : gw (List.replicate n 0) i = 0 := by
  rw [gw_def, List.getElem?_replicate]; split <;> rfl
theorem gw_take (l : List Nat) (n i : Nat) (h : i < n) : gw (l.take n) i = gw l i := by
  rw [gw_def, gw_def, List.getElem?_take, if_pos h]
theorem gw_drop (l : List Nat) (n i : Nat) : gw (l.drop n) i = gw l (n + i) := by
  rw [gw_def, gw_def, List.getElem?_drop]
theorem gw_append_left (a b : List Nat) (i : Nat) (h : i < a.length) : gw (a ++ b) i = gw a i := by
  rw [gw_def, gw_def, List.getElem?_append_left h]
theorem vt_replicate (n i : Nat) : vt (List.replicate n 0) i = 0 := by
  induction i with
  | zero => rfl
  | succ i ih => rw [vt_succ, ih, gw_replicate]; omega
theorem vt_congr {a b : List Nat} (i : Nat) (h : ∀ j, j < i → gw a j = gw b j) : vt a i = vt b i := by
  induction i with
  | zero => rfl
  | succ i ih => rw [vt_succ, vt_succ, ih (fun j hj => h j (by omega)), h i (by omega)]
theorem valN_split (l : List Nat) (i : Nat) : valN l = valN (l.take i) + pw i * valN (l.drop i) := by
  by_cases hi : i ≤ l.length
  · conv => lhs; rw [← List.take_append_drop i l, valN_append]
    rw [List.length_take, Nat.min_eq_left hi]
  · rw [List.take_of_length_le (by omega), List.drop_of_length_le (by omega)]; simp [valN]

/-- The words of a number, none 0 at the end. -/
def limbsOf (n : Nat) : List Nat :=
  if h : n = 0 then [] else n % 18446744073709551616 :: limbsOf (n / 18446744073709551616)
termination_by n
decreasing_by omega

theorem limbsOf_zero : limbsOf 0 = [] := by unfold limbsOf; rfl
theorem limbsOf_pos {n : Nat} (h : n ≠ 0) : limbsOf n = n % 18446744073709551616 :: limbsOf (n / 18446744073709551616) := by
  conv => lhs; unfold limbsOf
  rw [dif_neg h]
theorem valN_limbsOf (n : Nat) : valN (limbsOf n) = n := by
  induction n using Nat.strongRecOn with
  | _ n ih =>
    by_cases h : n = 0
    · subst h; rw [limbsOf_zero]; rfl
    · rw [limbsOf_pos h, valN, ih _ (by omega)]; omega
theorem okW_limbsOf (n : Nat) : okW (limbsOf n) := by
  induction n using Nat.strongRecOn with
  | _ n ih =>
    by_cases h : n = 0
    · subst h; rw [limbsOf_zero]; exact okW_nil
    · rw [limbsOf_pos h]; exact okW_cons (by omega) (ih _ (by omega))
theorem limbsOf_eq_nil {n : Nat} : limbsOf n = [] ↔ n = 0 := by
  constructor
  · intro h; have := valN_limbsOf n; rw [h] at this; exact this.symm
  · intro h; rw [h, limbsOf_zero]
theorem limbsOf_len_zero {n : Nat} : (limbsOf n).length = 0 ↔ n = 0 := by
  rw [List.length_eq_zero_iff]; exact limbsOf_eq_nil
theorem limbsOf_len {n k : Nat} (h : n < pw k) : (limbsOf n).length ≤ k := by
  induction k generalizing n with
  | zero =>
    have : n = 0 := by rw [pw_zero] at h; omega
    subst this; rw [limbsOf_zero]; exact Nat.le_refl 0
  | succ k ih =>
    by_cases h0 : n = 0
    · subst h0; rw [limbsOf_zero]; simp
    · rw [limbsOf_pos h0, List.length_cons]
      have := ih (n := n / 18446744073709551616) (by rw [pw_succ] at h; omega)
      omega
theorem limbsOf_lt (n : Nat) : n < pw (limbsOf n).length := by
  have := valN_lt (okW_limbsOf n); rwa [valN_limbsOf] at this
theorem limbsOf_ge {n : Nat} (h : n ≠ 0) : pw ((limbsOf n).length - 1) ≤ n := by
  induction n using Nat.strongRecOn with
  | _ n ih =>
    rw [limbsOf_pos h, List.length_cons, Nat.add_sub_cancel]
    by_cases h2 : n / 18446744073709551616 = 0
    · rw [h2, limbsOf_zero, List.length_nil, pw_zero]; omega
    · have := ih _ (by omega) h2
      have hl : (limbsOf (n / 18446744073709551616)).length ≠ 0 := by rw [Ne, limbsOf_len_zero]; exact h2
      obtain ⟨m, hm⟩ : ∃ m, (limbsOf (n / 18446744073709551616)).length = m + 1 := ⟨_, (Nat.succ_pred_eq_of_ne_zero hl).symm⟩
      rw [hm] at this ⊢
      rw [Nat.add_sub_cancel] at this
      rw [pw_succ]
      omega
theorem limbsOf_last {n : Nat} (h : n ≠ 0) : gw (limbsOf n) ((limbsOf n).length - 1) ≠ 0 := by
  intro h0
  have h1 := limbsOf_ge h
  have hl : (limbsOf n).length ≠ 0 := by rw [Ne, limbsOf_len_zero]; exact h
  obtain ⟨m, hm⟩ : ∃ m, (limbsOf n).length = m + 1 := ⟨_, (Nat.succ_pred_eq_of_ne_zero hl).symm⟩
  rw [hm, Nat.add_sub_cancel] at h0 h1
  have h2 : n = vt (limbsOf n) (m + 1) := by rw [vt_all _ _ (by omega), valN_limbsOf]
  rw [vt_succ, h0] at h2
  have h3 := vt_lt (okW_limbsOf n) m
  omega

/-- Words without those 0 at the end are the words of the value. -/
theorem take_limbs {l : List Nat} (h : okW l) (n : Nat) (hn : n ≤ l.length) (hz : ∀ j, n ≤ j → gw l j = 0) (hl : n = 0 ∨ gw l (n - 1) ≠ 0) : l.take n = limbsOf (valN l) := by
  have hv : valN l = valN (l.take n) := by
    rw [valN_split l n]
    have : valN (l.drop n) = 0 := by
      have e : l.drop n = List.replicate (l.length - n) 0 := by
        apply List.ext_getElem?
        intro i
        rw [List.getElem?_drop]
        by_cases hi : n + i < l.length
        · have := hz (n + i) (by omega)
          rw [gw_of_lt hi] at this
          rw [List.getElem?_eq_getElem hi, List.getElem?_replicate, if_pos (by omega)]
          simpa using this
        · rw [List.getElem?_eq_none (by omega), List.getElem?_replicate, if_neg (by omega)]
      rw [e, valN_replicate]
    rw [this]; simp
  rw [hv]
  have key : ∀ (t : List Nat), okW t → (t = [] ∨ gw t (t.length - 1) ≠ 0) → t = limbsOf (valN t) := by
    intro t
    induction t with
    | nil => intro _ _; simp [valN, limbsOf_zero]
    | cons x t ih =>
      intro ht hlast
      obtain ⟨hx, ht'⟩ := okW_tail ht
      have hlast' : t = [] ∨ gw t (t.length - 1) ≠ 0 := by
        cases t with
        | nil => exact .inl rfl
        | cons y t => rcases hlast with h | h
                      · cases h
                      · right; simpa [gw] using h
      have hne : valN (x :: t) ≠ 0 := by
        rw [valN]
        rcases hlast' with rfl | h
        · rcases hlast with h | h
          · cases h
          · simp [gw] at h; simp [valN]; exact h
        · intro e
          have e2 : valN t = 0 := by omega
          have := ih ht' (.inr h)
          rw [e2, limbsOf_zero] at this
          subst this
          exact h rfl
      rw [limbsOf_pos hne]
      have e1 : valN (x :: t) % 18446744073709551616 = x := by rw [valN]; omega
      have e2 : valN (x :: t) / 18446744073709551616 = valN t := by rw [valN]; omega
      rw [e1, e2, ← ih ht' hlast']
  refine key _ (okW_take h n) ?_
  rcases hl with rfl | hl
  · left; simp
  · by_cases h0 : n = 0
    · left; subst h0; simp
    · right
      rw [List.length_take, Nat.min_eq_left hn]
      rw [gw_take _ _ _ (by omega)]; exact hl
theorem limbs_unique {l : List Nat} (h : okW l) (hl : l.length = 0 ∨ gw l (l.length - 1) ≠ 0) : l = limbsOf (valN l) := by
  have := take_limbs h l.length (Nat.le_refl _) (fun j hj => gw_ge hj) hl
  rwa [List.take_length] at this
end Go.Proofs.YtkfbailpifmdcaaGreatDoor
end

section
namespace Go.Proofs.YtkfbailpifmdcaaGreatDoor

/-- How many bits a number has. -/
def bl (n : Nat) : Nat := if n = 0 then 0 else Nat.log2 n + 1
theorem bl_zero : bl 0 = 0 := rfl
theorem bl_pos {n : Nat} (h : n ≠ 0) : 0 < bl n := by unfold bl; rw [if_neg h]; omega
theorem bl_lt (n : Nat) : n < 2 ^ bl n := by
  unfold bl
  split
  · rename_i h; subst h; decide
  · exact Nat.lt_log2_self
theorem bl_ge {n : Nat} (h : n ≠ 0) : 2 ^ (bl n - 1) ≤ n := by
  unfold bl; rw [if_neg h, Nat.add_sub_cancel]; exact Nat.log2_self_le h
theorem bl_unique {n k : Nat} (h1 : 2 ^ k ≤ n) (h2 : n < 2 ^ (k + 1)) : bl n = k + 1 := by
  have hn : n ≠ 0 := by have := Nat.two_pow_pos k; omega
  have a := bl_lt n
  have b := bl_ge hn
  have c := bl_pos hn
  have d : k < bl n := (Nat.pow_lt_pow_iff_right (by decide : 1 < 2)).1 (Nat.lt_of_le_of_lt h1 a)
  have e : bl n - 1 < k + 1 := (Nat.pow_lt_pow_iff_right (by decide : 1 < 2)).1 (Nat.lt_of_le_of_lt b h2)
  omega
theorem bl_le {n k : Nat} (h : n < 2 ^ k) : bl n ≤ k := by
  by_cases hn : n = 0
  · subst hn; rw [bl_zero]; exact Nat.zero_le _
  · have b := bl_ge hn
    have : bl n - 1 < k := (Nat.pow_lt_pow_iff_right (by decide : 1 < 2)).1 (Nat.lt_of_le_of_lt b h)
    omega
theorem bl_mono {a b : Nat} (h : a ≤ b) : bl a ≤ bl b := bl_le (Nat.lt_of_le_of_lt h (bl_lt b))
theorem bl_shift {n : Nat} (h : n ≠ 0) (k : Nat) : bl (n * 2 ^ k) = bl n + k := by
  obtain ⟨m, hm⟩ : ∃ m, bl n = m + 1 := ⟨bl n - 1, by have := bl_pos h; omega⟩
  have a := bl_lt n
  have b := bl_ge h
  rw [hm] at a b
  rw [Nat.add_sub_cancel] at b
  rw [hm, show m + 1 + k = m + k + 1 by omega]
  apply bl_unique
  · rw [Nat.pow_add]; exact Nat.mul_le_mul_right _ b
  · rw [show m + k + 1 = (m + 1) + k by omega, Nat.pow_add]
    exact Nat.mul_lt_mul_of_pos_right a (Nat.two_pow_pos k)
theorem bl_bitLen (n : Nat) : bl n = Lib.bitLen n ∨ 18446744073709551616 ≤ n := by
  by_cases hb : 18446744073709551616 ≤ n
  · exact .inr hb
  left
  by_cases hn : n = 0
  · subst hn; rfl
  · obtain ⟨h0, h2, h1⟩ := Lib.bitLenAux_bounds 64 n (by omega) hn
    show bl n = Lib.bitLenAux 64 n
    obtain ⟨m, hm⟩ : ∃ m, Lib.bitLenAux 64 n = m + 1 := ⟨Lib.bitLenAux 64 n - 1, by omega⟩
    rw [hm] at h1 h2 ⊢
    exact bl_unique (by simpa using h2) h1
/-- The bits of words: those below the last one, and its own. -/
theorem bl_limbs {n : Nat} (h : n ≠ 0) : bl n = 64 * ((limbsOf n).length - 1) + Lib.bitLen (gw (limbsOf n) ((limbsOf n).length - 1)) := by
  have hl : (limbsOf n).length ≠ 0 := by rw [Ne, limbsOf_len_zero]; exact h
  obtain ⟨m, hm⟩ : ∃ m, (limbsOf n).length = m + 1 := ⟨_, (Nat.succ_pred_eq_of_ne_zero hl).symm⟩
  have h2 : n = vt (limbsOf n) (m + 1) := by rw [vt_all _ _ (by omega), valN_limbsOf]
  have h3 := vt_lt (okW_limbsOf n) m
  have h4 := limbsOf_last h
  have h5 := okW_gw (okW_limbsOf n) m
  rw [hm, Nat.add_sub_cancel] at h4 ⊢
  rw [vt_succ] at h2
  generalize gw (limbsOf n) m = t at *
  generalize vt (limbsOf n) m = u at *
  have e := (bl_bitLen t).resolve_right (by omega)
  rw [← e]
  obtain ⟨k, hk⟩ : ∃ k, bl t = k + 1 := ⟨bl t - 1, by have := bl_pos h4; omega⟩
  have a := bl_lt t
  have b := bl_ge h4
  rw [hk] at a b
  rw [Nat.add_sub_cancel] at b
  rw [hk, ← Nat.add_assoc]
  rw [pw_two] at h2 h3
  apply bl_unique
  · rw [Nat.pow_add, Nat.mul_comm, h2]; exact Nat.le_trans (Nat.mul_le_mul_right _ b) (Nat.le_add_left _ _)
  · rw [Nat.add_assoc, Nat.pow_add, h2]
    have : (t + 1) * 2 ^ (64 * m) ≤ 2 ^ (k + 1) * 2 ^ (64 * m) := Nat.mul_le_mul_right _ a
    rw [Nat.add_mul, Nat.one_mul] at this
    rw [Nat.mul_comm (2 ^ (64 * m))]
    omega

/-- How many bits 0 a number ends with; 0 of 0. -/
def tz (n : Nat) : Nat := if h : n = 0 then 0 else if n % 2 = 1 then 0 else tz (n / 2) + 1
termination_by n
decreasing_by omega
theorem tz_zero : tz 0 = 0 := by unfold tz; rfl
theorem tz_odd {n : Nat} (h : n % 2 = 1) : tz n = 0 := by
  unfold tz
  split
  · rfl
  · rfl
theorem tz_even {n : Nat} (h0 : n ≠ 0) (h : n % 2 = 0) : tz n = tz (n / 2) + 1 := by
  conv => lhs; unfold tz
  rw [dif_neg h0, if_neg (by omega)]
theorem tz_mul {m : Nat} (h : m % 2 = 1) (k : Nat) : tz (2 ^ k * m) = k := by
  induction k with
  | zero => rw [Nat.pow_zero, Nat.one_mul]; exact tz_odd h
  | succ k ih =>
    have hp := Nat.two_pow_pos k
    have hm : m ≠ 0 := by omega
    have hne : 2 ^ (k + 1) * m ≠ 0 := Nat.mul_ne_zero (by have := Nat.two_pow_pos (k + 1); omega) hm
    have e : 2 ^ (k + 1) * m = 2 * (2 ^ k * m) := by rw [Nat.pow_succ]; grind
    rw [tz_even hne (by omega), e, Nat.mul_div_cancel_left _ (by decide), ih]
theorem tz_spec {n : Nat} (h : n ≠ 0) : ∃ m, n = 2 ^ tz n * m ∧ m % 2 = 1 := by
  induction n using Nat.strongRecOn with
  | _ n ih =>
    by_cases ho : n % 2 = 1
    · rw [tz_odd ho]; exact ⟨n, by simp, ho⟩
    · obtain ⟨m, h1, h2⟩ := ih (n / 2) (by omega) (by omega)
      rw [tz_even h (by omega)]
      refine ⟨m, ?_, h2⟩
      rw [Nat.pow_succ]
      have : n = 2 * (n / 2) := by omega
      rw [this, h1]
      have e := tz_mul h2 (tz (n / 2))
      rw [← h1] at e
      grind
theorem tz_unique {n k m : Nat} (h : n = 2 ^ k * m) (hm : m % 2 = 1) : tz n = k := by rw [h]; exact tz_mul hm k
theorem tz_le {n : Nat} (h : n ≠ 0) : tz n < bl n := by
  obtain ⟨m, h1, h2⟩ := tz_spec h
  have : 2 ^ tz n ≤ n := by conv => rhs; rw [h1]
                            exact Nat.le_mul_of_pos_right _ (by omega)
  exact (Nat.pow_lt_pow_iff_right (by decide : 1 < 2)).1 (Nat.lt_of_le_of_lt this (bl_lt n))
end Go.Proofs.YtkfbailpifmdcaaGreatDoor
end

section
namespace Go.Proofs.YtkfbailpifmdcaaGreatDoor

theorem tz_ctz {x : Nat} (h0 : x ≠ 0) (h1 : x < 18446744073709551616) : Lib.ctz 64 x = tz x ∧ tz x < 64 := by
  obtain ⟨m, hm, hl⟩ := Lib.ctzFrom_spec 64 x (by omega) h1
  have e : Lib.ctz 64 x = Lib.ctzFrom 64 x := by unfold Lib.ctz; rw [if_neg h0]
  have := tz_unique hm (by omega)
  rw [e, this]
  exact ⟨rfl, hl⟩
/-- The first word that is not 0 tells how many bits 0 a number ends with. -/
theorem tz_words {l : List Nat} {i : Nat} (hl : okW l) (hz : ∀ j, j < i → gw l j = 0) (hi : gw l i ≠ 0) : tz (valN l) = 64 * i + tz (gw l i) ∧ valN l ≠ 0 := by
  have h1 : vt l i = 0 := by
    have : vt l i = vt (List.replicate i 0) i := vt_congr i fun j hj => by rw [hz j hj, gw_replicate]
    rw [this, vt_replicate]
  have h2 := valN_split l (i + 1)
  rw [← vt_take, vt_succ, h1, Nat.zero_add, pw_succ] at h2
  have hw := okW_gw hl i
  obtain ⟨m, hm, ho⟩ := tz_spec hi
  have ht := (tz_ctz hi hw).2
  generalize gw l i = x at *
  generalize valN (l.drop (i + 1)) = r at *
  have e64 : (18446744073709551616 : Nat) = 2 ^ tz x * (2 * 2 ^ (63 - tz x)) := by
    rw [← Nat.mul_assoc, Nat.mul_comm _ 2, ← Nat.pow_succ', ← Nat.pow_add, show tz x + 1 + (63 - tz x) = 64 by omega]
  have key : valN l = 2 ^ (64 * i + tz x) * (m + 2 * (2 ^ (63 - tz x) * r)) := by
    rw [Nat.pow_add, ← pw_two, h2]
    conv => lhs; rw [hm, e64]
    grind
  refine ⟨tz_unique key (by omega), ?_⟩
  rw [key]
  exact Nat.mul_ne_zero (by have := Nat.two_pow_pos (64 * i + tz x); omega) (by omega)
theorem words_zero {l : List Nat} (hz : ∀ j, j < l.length → gw l j = 0) : valN l = 0 := by
  have : vt l l.length = vt (List.replicate l.length 0) l.length := vt_congr _ fun j hj => by rw [hz j hj, gw_replicate]
  rw [← vt_all l l.length (Nat.le_refl _), this, vt_replicate]
/-- A bit of a number is one of a word of it. -/
theorem bit_words {l : List Nat} (hl : okW l) (i : Nat) : valN l / 2 ^ i % 2 = gw l (i / 64) / 2 ^ (i % 64) % 2 := by
  have h2 := valN_split l (i / 64 + 1)
  rw [← vt_take, vt_succ, pw_succ] at h2
  have hv := vt_lt hl (i / 64)
  have hw := okW_gw hl (i / 64)
  have hi : 2 ^ i = pw (i / 64) * 2 ^ (i % 64) := by rw [pw_two, ← Nat.pow_add]; congr 1; omega
  rw [hi, ← Nat.div_div_eq_div_mul]
  have e1 : valN l / pw (i / 64) = gw l (i / 64) + 18446744073709551616 * valN (l.drop (i / 64 + 1)) := by
    rw [h2]
    have : vt l (i / 64) + gw l (i / 64) * pw (i / 64) + 18446744073709551616 * pw (i / 64) * valN (l.drop (i / 64 + 1)) = vt l (i / 64) + pw (i / 64) * (gw l (i / 64) + 18446744073709551616 * valN (l.drop (i / 64 + 1))) := by grind
    rw [this, Nat.add_mul_div_left _ _ (pw_pos _), Nat.div_eq_of_lt hv, Nat.zero_add]
  rw [e1]
  have hr : i % 64 < 64 := Nat.mod_lt _ (by decide)
  generalize i % 64 = r at *
  generalize gw l (i / 64) = x at *
  generalize valN (l.drop (i / 64 + 1)) = t at *
  have e64 : (18446744073709551616 : Nat) = 2 ^ r * (2 * 2 ^ (63 - r)) := by
    rw [← Nat.mul_assoc, Nat.mul_comm _ 2, ← Nat.pow_succ', ← Nat.pow_add, show r + 1 + (63 - r) = 64 by omega]
  rw [e64, Nat.mul_assoc, Nat.add_mul_div_left _ _ (Nat.two_pow_pos r)]
  have : 2 * 2 ^ (63 - r) * t = 2 * (2 ^ (63 - r) * t) := Nat.mul_assoc _ _ _
  omega
theorem bit_high {l : List Nat} (hl : okW l) (i : Nat) (h : l.length ≤ i / 64) : valN l / 2 ^ i % 2 = 0 := by
  rw [bit_words hl, gw_ge h]; simp
/-- Words from the highest one on tell which number is greater. -/
theorem words_cmp {x y : List Nat} (hx : okW x) (hl : x.length = y.length) (k : Nat) (hs : ∀ j, k < j → j < x.length → gw x j = gw y j) (h : gw x k < gw y k) : valN x < valN y := by
  have e : valN (x.drop (k + 1)) = valN (y.drop (k + 1)) := by
    have : x.drop (k + 1) = y.drop (k + 1) := by
      apply List.ext_getElem?
      intro i
      rw [List.getElem?_drop, List.getElem?_drop]
      by_cases hi : k + 1 + i < x.length
      · have := hs (k + 1 + i) (by omega) hi
        rw [gw_of_lt hi, gw_of_lt (by omega)] at this
        rw [List.getElem?_eq_getElem hi, List.getElem?_eq_getElem (by omega), this]
      · rw [List.getElem?_eq_none (by omega), List.getElem?_eq_none (by omega)]
    rw [this]
  have h1 := valN_split x (k + 1)
  have h2 := valN_split y (k + 1)
  rw [← vt_take, vt_succ] at h1 h2
  have a := vt_lt hx k
  have b : (gw x k + 1) * pw k ≤ gw y k * pw k := Nat.mul_le_mul_right _ h
  rw [Nat.add_mul, Nat.one_mul] at b
  rw [h1, h2, e]
  omega
theorem words_same {x y : List Nat} (hl : x.length = y.length) (hs : ∀ j, j < x.length → gw x j = gw y j) : valN x = valN y := by
  rw [← vt_all x x.length (Nat.le_refl _), ← vt_all y x.length (by omega)]
  exact vt_congr _ hs
end Go.Proofs.YtkfbailpifmdcaaGreatDoor
end

section
namespace Go.Proofs.YtkfbailpifmdcaaGreatDoor

theorem vt_set_in (l : List Nat) (k s : Nat) (hk : k < l.length) : ∀ n, k < n → vt (l.set k s) n + gw l k * pw k = vt l n + s * pw k := by
  intro n
  induction n with
  | zero => intro h; omega
  | succ n ih =>
    intro h
    rw [vt_succ, vt_succ]
    by_cases e : k = n
    · subst e
      rw [vt_set _ _ _ _ (Nat.le_refl _), gw_set_same _ _ _ hk]
      omega
    · rw [gw_set_other _ _ _ _ e]
      have := ih (by omega)
      omega

/-- A word shifted left: what stays, and what goes over. -/
def shL (x k : Nat) : Nat := x * 2 ^ k % 18446744073709551616
def shH (x k : Nat) : Nat := x * 2 ^ k / 18446744073709551616
theorem shL_shH (x k : Nat) : shL x k + 18446744073709551616 * shH x k = x * 2 ^ k := by unfold shL shH; omega
theorem two64 {k : Nat} (h : k ≤ 64) : (18446744073709551616 : Nat) = 2 ^ (64 - k) * 2 ^ k := by
  rw [← Nat.pow_add, show 64 - k + k = 64 by omega]
theorem shL_dvd (x k : Nat) (hk : k ≤ 64) : shL x k % 2 ^ k = 0 := by
  unfold shL
  rw [two64 hk, Nat.mul_mod_mul_right, Nat.mul_mod_left]
theorem shH_lt {x : Nat} (hx : x < 18446744073709551616) (k : Nat) : shH x k < 2 ^ k := by
  unfold shH
  rw [Nat.div_lt_iff_lt_mul (by decide), Nat.mul_comm (2 ^ k)]
  exact Nat.mul_lt_mul_of_pos_right hx (Nat.two_pow_pos k)
theorem shH_shr {x k : Nat} (hk : k ≤ 64) : shH x k = x / 2 ^ (64 - k) := by
  unfold shH
  rw [two64 hk, Nat.mul_comm (2 ^ (64 - k)), ← Nat.div_div_eq_div_mul, Nat.mul_div_cancel _ (Nat.two_pow_pos k)]
theorem shL_lt (x k : Nat) : shL x k < 18446744073709551616 := Nat.mod_lt _ (by decide)
/-- What fits beneath. -/
theorem shL_room {c x k : Nat} (hc : c < 2 ^ k) (hk : k < 64) : c + shL x k < 18446744073709551616 := by
  have h1 := shL_dvd x k (by omega)
  have h2 := shL_lt x k
  have h3 := two64 (k := k) (by omega)
  have h4 := Nat.div_add_mod (shL x k) (2 ^ k)
  rw [h1, Nat.add_zero] at h4
  have h5 : shL x k / 2 ^ k < 2 ^ (64 - k) := by
    rw [Nat.div_lt_iff_lt_mul (Nat.two_pow_pos k), ← h3]; exact h2
  have h6 : 2 ^ k * (shL x k / 2 ^ k + 1) ≤ 2 ^ k * 2 ^ (64 - k) := Nat.mul_le_mul_left _ h5
  rw [Nat.mul_comm (2 ^ k) (2 ^ (64 - k)), ← h3, Nat.mul_add, h4] at h6
  omega
end Go.Proofs.YtkfbailpifmdcaaGreatDoor
end

section
namespace Go.Proofs.YtkfbailpifmdcaaGreatDoor
open Go.RowKit

theorem Tryz.infoW : (Tryz.prog.info? 22).map (fun i => (i.zero, i.size, i.bytes)) = some (some (.int .u64 0), 1, 8) := by kernel_rfl

/-- The cells of words. -/
def wArr (z : List Nat) : Array Value := (z.map (fun n : Nat => Value.int .u64 (n : Int))).toArray
theorem wArr_get (z : List Nat) (i : Nat) (h : i < z.length) : (wArr z)[i]? = some (.int .u64 ((gw z i : Nat) : Int)) := by
  simp [wArr, gw_of_lt h, h]
theorem wArr_set (z : List Nat) (i : Nat) (x : Nat) (e : Int) (he : e = (x : Int)) : (wArr z).setIfInBounds i (.int .u64 e) = wArr (z.set i x) := by
  subst he
  apply Array.ext'
  simp [wArr, List.map_set]
theorem wArr_replicate (n : Nat) : wArr (List.replicate n 0) = Array.replicate n (.int .u64 0) := by
  apply Array.ext'
  simp [wArr]
theorem made_words (n : Nat) : madeCells (Value.int .u64 0).cells n = wArr (List.replicate n 0) := by
  rw [wArr_replicate]
  apply Array.ext
  · simp [madeCells]
  · intro i h1 h2
    simp [madeCells, Value.cells, Nat.mod_one]

/-- 'make([]uint64, n)' and makes of named kinds of it. -/
theorem make_words (t : TypeId) (ht : Tryz.prog.underlying t = some (.slice 22)) (n : Nat) (hn : n ≤ 1099511627776) (w : World) :
    (Instr.makeSlice t (.int .i64 (n : Int)) (.int .i64 (n : Int))).run Tryz.prog w = .ok (.slice (some ⟨w.heap.size, 0, none⟩) n n) (w.alloc (.cells (wArr (List.replicate n 0)) 22)) := by
  obtain ⟨i0, hi, hz0, hz1, hz2⟩ := info_parts Tryz.infoW
  have h := run_make (P := Tryz.prog) w t 22 i0 (.int .u64 0) ht hi hz0 .i64 .i64 (n : Int) (n : Int) (by omega) (Int.le_refl _) (by rw [hz2]; omega) (by omega)
  rw [h, hz1]
  simp only [Int.toNat_natCast, Nat.mul_one, made_words]

/-- A slice in memory (in a block from lo on) that reads as words. -/
def Words (lo : Nat) (w : World) (v : Value) (l : List Nat) : Prop :=
  ∃ x cap, v = .slice x l.length cap ∧ l.length ≤ cap ∧ cap ≤ 9223372036854775807 ∧ (okW l ∧ (x = none → cap = 0)) ∧
    ∀ i, i < l.length → ∃ b off, x = some ⟨b, off, none⟩ ∧ lo ≤ b ∧ w.cell? ⟨b, off + i, none⟩ = some (.int .u64 ((gw l i : Nat) : Int))

theorem Words.ok {lo : Nat} {w : World} {v : Value} {l : List Nat} (h : Words lo w v l) : okW l := by
  obtain ⟨_, _, _, _, _, h, _⟩ := h; exact h.1
theorem Words.call {lo : Nat} {w w' : World} {v : Value} {l : List Nat} (h : Words lo w v l) (hb : Below w.heap.size w w') : Words lo w' v l := by
  obtain ⟨x, cap, h1, h2, h3, h4, h5⟩ := h
  refine ⟨x, cap, h1, h2, h3, h4, fun i hi => ?_⟩
  obtain ⟨b, off, e, hl, hc⟩ := h5 i hi
  exact ⟨b, off, e, hl, (hb.cell (World.block_lt_of_cell? w _ hc)).trans hc⟩
theorem Words.mono {lo lo' : Nat} {w : World} {v : Value} {l : List Nat} (h : Words lo w v l) (hl : lo' ≤ lo) : Words lo' w v l := by
  obtain ⟨x, cap, h1, h2, h3, h4, h5⟩ := h
  refine ⟨x, cap, h1, h2, h3, h4, fun i hi => ?_⟩
  obtain ⟨b, off, e, hlo, hc⟩ := h5 i hi
  exact ⟨b, off, e, Nat.le_trans hl hlo, hc⟩
theorem Words.nil (lo : Nat) (w : World) (x : Option Addr) (cap : Nat) (hc : cap ≤ 9223372036854775807) (hx : x = none → cap = 0 := by first | assumption | (intro _; rfl)) : Words lo w (.slice x 0 cap) [] :=
  ⟨x, cap, rfl, Nat.zero_le _, hc, ⟨okW_nil, hx⟩, fun i hi => absurd hi (by simp)⟩
theorem Words.drew {lo : Nat} {w : World} {v : Value} {l : List Nat} (h : Words lo w v l) (n : Nat) : Words lo (w.drewN n) v l := h.call (below_drewN _ _ _)
theorem Words.alloc {lo : Nat} {w : World} {v : Value} {l : List Nat} (h : Words lo w v l) (o : Obj) : Words lo (w.alloc o) v l := h.call ((Below.refl _ _).alloc (Nat.le_refl _) _)
/-- A block of one's own that is known whole, as a slice of it. -/
theorem Words.ofBlk {lo : Nat} {w : World} {g : Nat} {z l : List Nat} {e : TypeId} (h : Blk w g (wArr z) e) (off cap : Nat) (hlo : lo ≤ g) (hz : okW l) (hl : ∀ i, i < l.length → off + i < z.length ∧ gw z (off + i) = gw l i) (hc : l.length ≤ cap) (hm : cap ≤ 9223372036854775807) :
    Words lo w (.slice (some ⟨g, off, none⟩) l.length cap) l :=
  ⟨_, cap, rfl, hc, hm, ⟨hz, fun h => by cases h⟩, fun i hi => ⟨g, off, rfl, hlo, by
    obtain ⟨h1, h2⟩ := hl i hi
    rw [h.cell (off + i) _ (wArr_get z _ h1), h2]⟩⟩
theorem Words.ofBlk_all {lo : Nat} {w : World} {g : Nat} {z : List Nat} {e : TypeId} (h : Blk w g (wArr z) e) (hlo : lo ≤ g) (hz : okW z) (hm : z.length ≤ 9223372036854775807) :
    Words lo w (.slice (some ⟨g, 0, none⟩) z.length z.length) z :=
  Words.ofBlk h 0 z.length hlo hz (fun i hi => ⟨by omega, by rw [Nat.zero_add]⟩) (Nat.le_refl _) hm
/-- The first n words. -/
theorem Words.take {lo : Nat} {w : World} {x : Option Addr} {len cap : Nat} {l : List Nat} (h : Words lo w (.slice x len cap) l) (n cap' : Nat) (hn : n ≤ l.length) (hc : n ≤ cap') (hm : cap' ≤ cap) :
    Words lo w (.slice x n cap') (l.take n) := by
  obtain ⟨x', cap0, h1, h2, h3, h4, h5⟩ := h
  injection h1 with e1 e2 e3
  subst e1; subst e2; subst e3
  refine ⟨x, cap', by rw [List.length_take, Nat.min_eq_left hn], by rw [List.length_take, Nat.min_eq_left hn]; exact hc, by omega, ⟨okW_take h4.1 n, fun e => by have := h4.2 e; omega⟩, fun i hi => ?_⟩
  rw [List.length_take, Nat.min_eq_left hn] at hi
  obtain ⟨b, off, e, hlo, hcell⟩ := h5 i (by omega)
  refine ⟨b, off, e, hlo, ?_⟩
  rw [hcell, gw_take _ _ _ hi]
/-- A natural number in memory, in the words of its one form. -/
def Num (lo : Nat) (w : World) (v : Value) (n : Nat) : Prop := Words lo w v (limbsOf n)
theorem Num.words {lo : Nat} {w : World} {v : Value} {n : Nat} (h : Num lo w v n) : Words lo w v (limbsOf n) := h
theorem Num.call {lo : Nat} {w w' : World} {v : Value} {n : Nat} (h : Num lo w v n) (hb : Below w.heap.size w w') : Num lo w' v n := Words.call h hb
theorem Num.mono {lo lo' : Nat} {w : World} {v : Value} {n : Nat} (h : Num lo w v n) (hl : lo' ≤ lo) : Num lo' w v n := Words.mono h hl
theorem Num.zero (lo : Nat) (w : World) (x : Option Addr) (cap : Nat) (hc : cap ≤ 9223372036854775807) (hx : x = none → cap = 0 := by first | assumption | (intro _; rfl)) : Num lo w (.slice x 0 cap) 0 := by
  unfold Num; rw [limbsOf_zero]; exact Words.nil lo w x cap hc hx

/-- What a function that makes a number answers: new memory alone. -/
def NumPost (w : World) (lo : Nat) (n : Nat) (e : Ending) (w' : World) : Prop := ∃ v, e = .returned v ∧ Num lo w' v n ∧ Below w.heap.size w w'
end Go.Proofs.YtkfbailpifmdcaaGreatDoor
end

section
namespace Go.Proofs.YtkfbailpifmdcaaGreatDoor
open Go.RowKit

def TrimPost (w : World) (lo : Nat) (l : List Nat) (e : Ending) (w' : World) : Prop := ∃ v, e = .returned v ∧ Num lo w' v (valN l) ∧ w = w'

theorem trim_num {lo : Nat} {w : World} {x : Option Addr} {cap k : Nat} {l : List Nat} (hk : k ≤ l.length) (hz : ∀ j, k ≤ j → gw l j = 0) (hl : k = 0 ∨ gw l (k - 1) ≠ 0) (h : Words lo w (.slice x l.length cap) l) :
    Num lo w (.slice x k k) (valN l) := by
  have hc : l.length ≤ cap := by
    obtain ⟨_, _, e, hc, _⟩ := h
    injection e with _ _ e
    subst e; exact hc
  have h1 := h.take k k hk (Nat.le_refl _) (Nat.le_trans hk hc)
  have h2 := take_limbs h.ok k hk hz hl
  have h3 : (limbsOf (valN l)).length = k := by rw [← h2, List.length_take, Nat.min_eq_left hk]
  unfold Num
  rw [← h2]
  exact h1

set_option maxHeartbeats 1000000 in
theorem Trim_any (lo : Nat) (a : Value) (l : List Nat) (w : World) (ha : Words lo w a l) :
    Calls Tryz.prog 76 #[a] w (TrimPost w lo l) := by
  have ha0 := ha
  obtain ⟨x, cap, rfl, hcap, hcm, hok, hx⟩ := ha
  have HA := Lib.hid ha0
  have HX := Lib.hid hx
  clear ha0 hx
  go_enter Tryz.func76, Tryz.ntmps76
  go_wp2_with fail
  go_loop [3] (fun i => ∃ k : Nat, k ≤ l.length ∧ i = .int .i64 k ∧ Hid (∀ j, k ≤ j → gw l j = 0)) (fun i => (intOf i).toNat)
  case atStart => exact ⟨l.length, Nat.le_refl _, rfl, fun j hj => gw_ge hj⟩
  case round =>
    obtain ⟨k, hk, rfl, hz⟩ := hrel
    by_cases h0 : k = 0
    · subst h0
      go_wp2
      go_ret
      exact ⟨_, rfl, trim_num hk hz.out (.inl rfl) HA.out, rfl⟩
    · obtain ⟨m, rfl⟩ : ∃ m, k = m + 1 := ⟨k - 1, by omega⟩
      obtain ⟨b, off, rfl, hlo, hc⟩ := HX.out m (by omega)
      cases hv : (((gw l m : Nat) : Int) == 0)
      · have hne : m + 1 = 0 ∨ gw l (m + 1 - 1) ≠ 0 := .inr (by rw [Nat.add_sub_cancel]; have := beq_eq_false_iff_ne.1 hv; omega)
        have HN := Lib.hid hne
        clear hne
        go_wp2
        go_ret
        exact ⟨_, rfl, trim_num hk hz.out HN.out HA.out, rfl⟩
      · have hz' : Hid (∀ j, m ≤ j → gw l j = 0) := fun j hj => by
          by_cases e : m = j
          · subst e; have := beq_iff_eq.1 hv; omega
          · exact hz.out j (by omega)
        clear hz
        go_wp2
        go_round
        case rel => exact ⟨m, by omega, rfl, hz'⟩
        case measure => simp [intOf]

set_option maxHeartbeats 1000000 in
theorem Of_any (n : Int) (w : World) (h0 : 0 ≤ n) (h1 : n < 18446744073709551616) :
    Calls Tryz.prog 40 #[.int .u64 n] w (NumPost w w.heap.size n.toNat) := by
  cases hv : (n == 0)
  · have hne : n ≠ 0 := beq_eq_false_iff_ne.1 hv
    have hl : limbsOf n.toNat = [n.toNat] := by
      rw [limbsOf_pos (by omega), Nat.mod_eq_of_lt (by omega), Nat.div_eq_of_lt (by omega), limbsOf_zero]
    have HL := Lib.hid hl
    have HN := Lib.hid hne
    clear hl hne
    go_enter Tryz.func40, Tryz.ntmps40
    go_wp2
    go_ret
    refine ⟨_, rfl, ?_, (Below.refl _ _).alloc (Nat.le_refl _) _⟩
    have hn : ((n.toNat : Nat) : Int) = n := Int.toNat_of_nonneg h0
    have hb : Blk (w.alloc (.cells (wArr [n.toNat]) 22)) w.heap.size (wArr [n.toNat]) 22 := Blk.new _ _ _
    have hw : wArr [n.toNat] = #[Value.int .u64 n] := by simp [wArr, hn]
    unfold Num
    rw [HL.out]
    have := Words.ofBlk_all (lo := w.heap.size) hb (Nat.le_refl _) (okW_cons (by omega) okW_nil) (by simp)
    rw [hw] at this
    exact this
  · have e : n = 0 := beq_iff_eq.1 hv
    subst e
    go_enter Tryz.func40, Tryz.ntmps40
    go_wp2
    go_ret
    exact ⟨_, rfl, Num.zero _ _ _ _ (by omega), Below.refl _ _⟩
end Go.Proofs.YtkfbailpifmdcaaGreatDoor
end

section
namespace Go.Proofs.YtkfbailpifmdcaaGreatDoor
open Go.RowKit

set_option maxHeartbeats 1000000 in
theorem Len_any (lo : Nat) (a : Value) (l : List Nat) (w : World) (ha : Words lo w a l) (hl : l.length ≤ 1099511627776) :
    Calls Tryz.prog 51 #[a] w fun e w' => e = .returned (.int .i64 ((bl (valN l) : Nat) : Int)) ∧ w = w' := by
  have hlen := limbsOf_len (valN_lt ha.ok)
  generalize hn : valN l = n at *
  have HN := Lib.hid hn
  clear hn
  go_enter Tryz.func51, Tryz.ntmps51
  go_wp2_with fail
  refine (Trim_any lo _ l _ ha).mono ?_
  rintro e w1 ⟨v, rfl, hv, rfl⟩
  rw [HN.out] at hv
  obtain ⟨x, cap, rfl, hcap, hcm, hok, hx⟩ := hv
  by_cases h0 : n = 0
  · subst h0
    have e0 : (limbsOf 0).length = 0 := by rw [limbsOf_zero]; rfl
    clear hx hok
    go_wp2
    go_ret
    exact ⟨rfl, rfl⟩
  · have hL : (limbsOf n).length ≠ 0 := by rw [Ne, limbsOf_len_zero]; exact h0
    have hbl := bl_limbs h0
    have HBL := Lib.hid hbl
    have hgw := okW_gw hok.1 ((limbsOf n).length - 1)
    have hb64 := Lib.bitLen_le (gw (limbsOf n) ((limbsOf n).length - 1)) 64 (by decide) hgw
    obtain ⟨m, hm⟩ : ∃ m, (limbsOf n).length = m + 1 := ⟨_, (Nat.succ_pred_eq_of_ne_zero hL).symm⟩
    obtain ⟨b, off, rfl, hlo, hc⟩ := hx m (by omega)
    rw [hm] at hlen hcap hgw hb64
    rw [Nat.add_sub_cancel] at hgw hb64
    have hbe : (((m : Nat) : Int) + 1 == 0) = false := beq_eq_false_iff_ne.2 (by omega)
    have HM := Lib.hid hm
    clear hbl hx hok
    rw [HM.out]
    clear hm h0 hL
    go_wp2_with (go_at_call 92; refine (Tryz.bits_Len64 _ _ (by omega) (by omega)).mono ?_; rintro e w1 ⟨rfl, rfl⟩)
    go_ret
    refine ⟨ret_int ?_, rfl⟩
    rw [HBL.out, HM.out, Nat.add_sub_cancel]
    omega
end Go.Proofs.YtkfbailpifmdcaaGreatDoor
end
