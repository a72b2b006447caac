/-
  Images by their numbers and octets: which are valid.
-/
import Derived.Test.YtpgkhhdobolfbaaIRows
namespace Go.Proofs.Ytpgkhhdobolfbaa
set_option linter.unusedVariables false
set_option linter.unusedSimpArgs false
open Go Go.RowKit

/-- The numbers of a layout. -/
structure Nums (L : Lay) (W H C B : Int) (P : Bool) (Pd : Int) : Prop where
  ok : L.Ok
  w : W = (L.W : Nat)
  h : H = (L.H : Nat)
  c : C = (L.C : Nat)
  b : B = ((8 * L.k : Nat) : Int)
  p : P = L.P
  pd : Pd = (L.pd : Nat)

theorem shp_nums {W H C B Pd : Int} (h : Shp W H C B Pd) (P : Bool) : ∃ L, Nums L W H C B P Pd := by
  obtain ⟨w, rfl⟩ := Int.eq_ofNat_of_zero_le (show 0 ≤ W by have := h.w1; omega)
  obtain ⟨hh, rfl⟩ := Int.eq_ofNat_of_zero_le (show 0 ≤ H by have := h.h1; omega)
  obtain ⟨c, rfl⟩ := Int.eq_ofNat_of_zero_le (show 0 ≤ C by have := h.c1; omega)
  obtain ⟨pd, rfl⟩ := Int.eq_ofNat_of_zero_le (show 0 ≤ Pd by have := h.pad; omega)
  have hm : w * hh * c ≤ 4096 := by have := h.most; rw [← Int.natCast_mul, ← Int.natCast_mul] at this; omega
  refine ⟨⟨w, hh, c, if B = 8 then 1 else 2, P, pd⟩, ⟨?_, ?_, ?_, ?_, ?_, ?_, hm, ?_, ?_⟩, rfl, rfl, rfl, ?_, rfl, rfl⟩
  all_goals (have a1 := h.w1; have a2 := h.w2; have a3 := h.h1; have a4 := h.h2; have a5 := h.c1; have a6 := h.c2; have a7 := h.bits; have a8 := h.pad; dsimp only)
  all_goals first | omega | (rcases a7 with rfl | rfl <;> simp)

theorem nums_shp {L : Lay} {W H C B Pd : Int} {P : Bool} (n : Nums L W H C B P Pd) : Shp W H C B Pd := by
  obtain ⟨h, rfl, rfl, rfl, rfl, rfl, rfl⟩ := n
  have a1 := h.w1
  have a2 := h.w2
  have a3 := h.h1
  have a4 := h.h2
  have a5 := h.c1
  have a6 := h.c2
  have a7 := h.bits
  have a8 := h.pad
  exact ⟨by omega, by omega, by omega, by omega, by omega, by omega, by rw [← Int.natCast_mul, ← Int.natCast_mul]; have := h.most; omega, by omega, by omega⟩

/-- A valid image: its numbers are a layout's, its octets the layout's size, 0 behind each row. -/
structure Val (L : Lay) (W H C B : Int) (P : Bool) (Pd : Int) (O : ByteArray) : Prop where
  nums : Nums L W H C B P Pd
  len : O.data.toList.length = L.size
  pad : ∀ i, i < L.size → L.row ≤ i % L.stride → O.data.toList[i]? = some 0
end Go.Proofs.Ytpgkhhdobolfbaa
