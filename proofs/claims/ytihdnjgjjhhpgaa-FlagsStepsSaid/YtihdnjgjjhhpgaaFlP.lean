/- A slice of steps that came in, read; the law FlagsSteps for every such slice. -/
import Derived.Test.YtihdnjgjjhhpgaaFlO
import Derived.Deep.SlicePairs
namespace Go.Proofs.Ytihdnjgjjhhpgaa
open Go.ChangeShapes Go.WideShapes Go.RowKit Go.Deep

theorem stepFields : ∃ f0 f1 : Field, Try.prog.underlying 50 = some (.struct #[f0, f1]) ∧ f0.offset = 0 ∧ f1.offset = 1 ∧ f0.type = 48 ∧ f1.type = 22 :=
  ⟨_, _, Try.underlying50, rfl, rfl, rfl, rfl⟩

theorem steps_read {H : Type} {enc : TypeId × Value → H} {W : World} {x : Option Addr} {len cap : Nat} {d : DataW H} {p : List MemPlace}
    (h : DataW.Trod enc Try.prog W 0 (fun _ => true) true 43 (.slice x len cap) d p) : ReadsSteps W x len cap ∧ len ≤ maxLen := by
  obtain ⟨fuel, hf⟩ := h
  obtain ⟨f0, f1, hs, o0, o1, t0, t1⟩ := stepFields
  rcases open_slice_pairs Try.underlying43 hs (by kernel_rfl) o0 o1 (by rw [t0]; kernel_rfl) (by rw [t1]; kernel_rfl) hf with ⟨hcs, _⟩ | ⟨a, len', cap', m, n, V0, V1, D0, D1, P0, P1, hcs, _, hl, hm, hmm, _, hc⟩
  · simp [Value.cells] at hcs
    obtain ⟨rfl, rfl, rfl⟩ := hcs
    exact ⟨.inl rfl, Nat.zero_le _⟩
  · simp [Value.cells] at hcs
    obtain ⟨rfl, rfl, rfl⟩ := hcs
    simp only [if_true] at hmm
    refine ⟨?_, Nat.le_trans hl hm⟩
    by_cases hl0 : len = 0
    · exact .inl hl0
    · obtain ⟨b, off, spot⟩ := a
      have hspot : spot = none := by simpa [Addr.add] using World.cell?_spot (hc 0 (by omega)).1
      subst hspot
      have each : ∀ i, i < len → W.cell? ⟨b, off + i * 2, none⟩ = some (.int .u8 (intOf (V0 i))) ∧ W.cell? ⟨b, off + i * 2 + 1, none⟩ = some (.int .u8 (intOf (V1 i))) ∧ 0 ≤ intOf (V0 i) ∧ 0 ≤ intOf (V1 i) ∧ intOf (V1 i) < 256 := by
        intro i hi
        obtain ⟨h0, h1, r0, r1⟩ := hc i (by omega)
        rw [t0] at r0; rw [t1] at r1
        obtain ⟨n0, e0, _, w0⟩ := DataW.trod_int Try.underlying48 r0
        obtain ⟨n1, e1, _, w1⟩ := DataW.trod_int Try.underlying22 r1
        simp only [List.cons.injEq, and_true] at e0 e1
        rw [add_plain] at h0 h1
        have b0 := bounds_u8 w0
        have b1 := bounds_u8 w1
        rw [e0] at h0 ⊢; rw [e1] at h1 ⊢
        exact ⟨h0, h1, b0.1, b1.1, by show n1 < 256; omega⟩
      refine .inr ⟨b, off, (List.range len).map (fun i => intOf (V0 i)), (List.range len).map (fun i => intOf (V1 i)), rfl, hl, hm, ?_, by simp, by simp, fun i hi => ?_⟩
      · exact World.block_lt_of_cell? W _ (each 0 (by omega)).1
      · simpa [hi] using each i hi

theorem Steps_walk (x1 : Option Addr) (n1 c1 : Nat) (w : World) (h : ReadsSteps w x1 n1 c1 ∧ n1 ≤ maxLen) : Calls Try.prog 9 #[.slice x1 n1 c1] w (SamePost w) :=
  Steps_law x1 n1 c1 w h.1 h.2
end Go.Proofs.Ytihdnjgjjhhpgaa
