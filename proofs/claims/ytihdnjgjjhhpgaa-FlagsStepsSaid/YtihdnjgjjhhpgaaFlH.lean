/- Plain laws of sets of flags as words of eight bits. -/
import Derived.Test.YtihdnjgjjhhpgaaFlG
namespace Go.Proofs.Ytihdnjgjjhhpgaa
open Go.RowKit

theorem u8v (a : Int) (h0 : 0 ≤ a) (h1 : a < 256) : ∃ x : BitVec 8, a = ((x.toNat : Nat) : Int) :=
  ⟨BitVec.ofNat 8 a.toNat, by rw [BitVec.toNat_ofNat, Nat.mod_eq_of_lt (by omega)]; omega⟩
theorem ofInt_toNat8 (x : BitVec 8) : BitVec.ofInt 8 ((x.toNat : Nat) : Int) = x := by
  apply BitVec.eq_of_toNat_eq
  simp
theorem wrap_toNat8 (x : BitVec 8) : IntKind.u8.wrap ((x.toNat : Nat) : Int) = ((x.toNat : Nat) : Int) := by
  rw [IntKind.wrap_u8]; have := x.isLt; omega
theorem orF_bv (x y : BitVec 8) : orF ((x.toNat : Nat) : Int) ((y.toNat : Nat) : Int) = (((x ||| y).toNat : Nat) : Int) := by
  show IntKind.u8.wrap (((BitVec.ofInt 8 _ ||| BitVec.ofInt 8 _).toNat : Nat) : Int) = _
  rw [ofInt_toNat8, ofInt_toNat8, wrap_toNat8]
theorem andF_bv (x y : BitVec 8) : andF ((x.toNat : Nat) : Int) ((y.toNat : Nat) : Int) = (((x &&& y).toNat : Nat) : Int) := by
  show IntKind.u8.wrap (((BitVec.ofInt 8 _ &&& BitVec.ofInt 8 _).toNat : Nat) : Int) = _
  rw [ofInt_toNat8, ofInt_toNat8, wrap_toNat8]
theorem takeF_bv (x y : BitVec 8) : takeF ((x.toNat : Nat) : Int) ((y.toNat : Nat) : Int) = (((x &&& ~~~y).toNat : Nat) : Int) := by
  show IntKind.u8.wrap (((BitVec.ofInt 8 _ &&& ~~~(BitVec.ofInt 8 _)).toNat : Nat) : Int) = _
  rw [ofInt_toNat8, ofInt_toNat8, wrap_toNat8]
theorem cast_inj {x y : BitVec 8} : (((x.toNat : Nat) : Int) = ((y.toNat : Nat) : Int)) ↔ x = y :=
  ⟨fun h => BitVec.eq_of_toNat_eq (by omega), fun h => by rw [h]⟩

section
variable (a b c : Int) (a0 : 0 ≤ a) (a1 : a < 256) (b0 : 0 ≤ b) (b1 : b < 256) (c0 : 0 ≤ c) (c1 : c < 256)
include a0 a1 b0 b1
theorem or_comm8 : orF a b = orF b a := by
  obtain ⟨x, rfl⟩ := u8v a a0 a1; obtain ⟨y, rfl⟩ := u8v b b0 b1
  simp only [orF_bv, cast_inj]; exact BitVec.or_comm _ _
theorem and_comm8 : andF a b = andF b a := by
  obtain ⟨x, rfl⟩ := u8v a a0 a1; obtain ⟨y, rfl⟩ := u8v b b0 b1
  simp only [andF_bv, cast_inj]; exact BitVec.and_comm _ _
theorem or_u8 : 0 ≤ orF a b ∧ orF a b < 256 := by
  obtain ⟨x, rfl⟩ := u8v a a0 a1; obtain ⟨y, rfl⟩ := u8v b b0 b1
  rw [orF_bv]; have := (x ||| y).isLt; omega
theorem and_u8 : 0 ≤ andF a b ∧ andF a b < 256 := by
  obtain ⟨x, rfl⟩ := u8v a a0 a1; obtain ⟨y, rfl⟩ := u8v b b0 b1
  rw [andF_bv]; have := (x &&& y).isLt; omega
theorem take_u8 : 0 ≤ takeF a b ∧ takeF a b < 256 := by
  obtain ⟨x, rfl⟩ := u8v a a0 a1; obtain ⟨y, rfl⟩ := u8v b b0 b1
  rw [takeF_bv]; have := (x &&& ~~~y).isLt; omega
theorem take_meet : orF (takeF a b) (andF a b) = a := by
  obtain ⟨x, rfl⟩ := u8v a a0 a1; obtain ⟨y, rfl⟩ := u8v b b0 b1
  simp only [orF_bv, andF_bv, takeF_bv, cast_inj]
  ext i hi; simp only [BitVec.getElem_or, BitVec.getElem_and, BitVec.getElem_not]; cases x[i] <;> cases y[i] <;> rfl
theorem take_none : andF (takeF a b) b = 0 := by
  obtain ⟨x, rfl⟩ := u8v a a0 a1; obtain ⟨y, rfl⟩ := u8v b b0 b1
  simp only [andF_bv, takeF_bv]
  have : x &&& ~~~y &&& y = 0#8 := by
    ext i hi; simp only [BitVec.getElem_and, BitVec.getElem_not, BitVec.getElem_zero]; cases x[i] <;> cases y[i] <;> rfl
  rw [this]; rfl
theorem has_join : hasB a b = (orF a b == a) := by
  obtain ⟨x, rfl⟩ := u8v a a0 a1; obtain ⟨y, rfl⟩ := u8v b b0 b1
  show (andF _ _ == _) = _
  rw [Bool.eq_iff_iff, beq_iff_eq, beq_iff_eq, orF_bv, andF_bv, cast_inj, cast_inj]
  constructor
  · intro h; ext i hi
    have := congrArg (fun z => z.getLsbD i) h
    simp [BitVec.getLsbD_eq_getElem hi] at this ⊢
    exact this
  · intro h; ext i hi
    have := congrArg (fun z => z.getLsbD i) h
    simp [BitVec.getLsbD_eq_getElem hi] at this ⊢
    exact this
include c0 c1
theorem or_assoc8 : orF a (orF b c) = orF (orF a b) c := by
  obtain ⟨x, rfl⟩ := u8v a a0 a1; obtain ⟨y, rfl⟩ := u8v b b0 b1; obtain ⟨z, rfl⟩ := u8v c c0 c1
  simp only [orF_bv, cast_inj]; exact (BitVec.or_assoc _ _ _).symm
theorem and_assoc8 : andF a (andF b c) = andF (andF a b) c := by
  obtain ⟨x, rfl⟩ := u8v a a0 a1; obtain ⟨y, rfl⟩ := u8v b b0 b1; obtain ⟨z, rfl⟩ := u8v c c0 c1
  simp only [andF_bv, cast_inj]; exact (BitVec.and_assoc _ _ _).symm
theorem and_or8 : andF a (orF b c) = orF (andF a b) (andF a c) := by
  obtain ⟨x, rfl⟩ := u8v a a0 a1; obtain ⟨y, rfl⟩ := u8v b b0 b1; obtain ⟨z, rfl⟩ := u8v c c0 c1
  simp only [andF_bv, orF_bv, cast_inj]
  ext i hi; simp; cases x[i] <;> cases y[i] <;> cases z[i] <;> rfl
theorem or_and8 : orF a (andF b c) = andF (orF a b) (orF a c) := by
  obtain ⟨x, rfl⟩ := u8v a a0 a1; obtain ⟨y, rfl⟩ := u8v b b0 b1; obtain ⟨z, rfl⟩ := u8v c c0 c1
  simp only [andF_bv, orF_bv, cast_inj]
  ext i hi; simp; cases x[i] <;> cases y[i] <;> cases z[i] <;> rfl
end
end Go.Proofs.Ytihdnjgjjhhpgaa
