/-
  The reference's small functions: within, row, stride, rows, place, shaped.
-/
import Derived.Test.YtpgkhhdobolfbaaIBlank
namespace Go.Proofs.Ytpgkhhdobolfbaa
set_option linter.unusedVariables false
set_option linter.unusedSimpArgs false
open Go Go.RowKit

/-- The value of an image of layout L. -/
def imV (L : Lay) (O : ByteArray) : Value := .agg #[.int .i64 (L.W : Nat), .int .i64 (L.H : Nat), .int .i64 (L.C : Nat), .int .i64 ((8 * L.k : Nat) : Int), .bool L.P, .int .i64 (L.pd : Nat), .string O]
def imL (L : Lay) (O : ByteArray) : List Value := [.int .i64 (L.W : Nat), .int .i64 (L.H : Nat), .int .i64 (L.C : Nat), .int .i64 ((8 * L.k : Nat) : Int), .bool L.P, .int .i64 (L.pd : Nat), .string O]

theorem within_calls (n lo hi : Int) (w : World) : Calls Try.prog 76 #[.int .i64 n, .int .i64 lo, .int .i64 hi] w fun e w' => e = .returned (.bool (betw lo hi [n])) ∧ Below w.heap.size w w' := by
  by_cases h1 : lo ≤ n <;> by_cases h2 : n ≤ hi
  all_goals
    have hb : betw lo hi [n] = (decide (lo ≤ n) && decide (n ≤ hi)) := by rw [Bool.eq_iff_iff, betw_one]; simp
    have HB := Lib.hid hb
    clear hb
    go_enter Try.func76, Try.ntmps76
    go_wp2
    go_ret
    exact ⟨by rw [HB.out]; simp [h1, h2], Below.refl _ _⟩

theorem refrow_calls {L : Lay} (h : L.Ok) (O : ByteArray) (w : World) : Calls Try.prog 75 #[imV L O] w fun e w' => e = .returned (.int .i64 (L.row : Nat)) ∧ Below w.heap.size w w' := by
  have hk : L.k ≤ 2 := by rcases h.bits with e | e <;> omega
  obtain ⟨B, hB⟩ : ∃ B : Nat, 8 * L.k = B := ⟨_, rfl⟩
  obtain ⟨M, hM⟩ : ∃ M : Nat, L.W * B = M := ⟨_, rfl⟩
  obtain ⟨N, hN⟩ : ∃ N : Nat, L.W * L.k = N := ⟨_, rfl⟩
  obtain ⟨A, hA⟩ : ∃ A : Nat, L.W * L.C = A := ⟨_, rfl⟩
  obtain ⟨E, hE⟩ : ∃ E : Nat, A * B = E := ⟨_, rfl⟩
  obtain ⟨Q, hQ⟩ : ∃ Q : Nat, A * L.k = Q := ⟨_, rfl⟩
  have hMN : M = 8 * N := by rw [← hM, ← hN, ← hB, Nat.mul_left_comm]
  have hEQ : E = 8 * Q := by rw [← hE, ← hQ, ← hB, Nat.mul_left_comm]
  have hN1 : N ≤ 64 * 2 := by rw [← hN]; exact Nat.mul_le_mul h.w2 hk
  have hA1 : A ≤ 64 * 4 := by rw [← hA]; exact Nat.mul_le_mul h.w2 h.c2
  have hQ1 : Q ≤ 256 * 2 := by rw [← hQ]; exact Nat.mul_le_mul hA1 hk
  have hw1 : IntKind.i64.wrap ((L.W : Int) * (B : Int)) = (M : Int) := by rw [← Int.natCast_mul, hM]; exact wrap_id (by omega)
  have hd : Int.tdiv (M : Int) 8 = (N : Int) := by rw [hMN, Int.natCast_mul]; exact Int.mul_tdiv_cancel_left _ (by decide)
  have hw2 : IntKind.i64.wrap (N : Int) = (N : Int) := wrap_id (by omega)
  have hw3 : IntKind.i64.wrap ((L.W : Int) * (L.C : Int)) = (A : Int) := by rw [← Int.natCast_mul, hA]; exact wrap_id (by omega)
  have hw4 : IntKind.i64.wrap ((A : Int) * (B : Int)) = (E : Int) := by rw [← Int.natCast_mul, hE]; exact wrap_id (by omega)
  have hd2 : Int.tdiv (E : Int) 8 = (Q : Int) := by rw [hEQ, Int.natCast_mul]; exact Int.mul_tdiv_cancel_left _ (by decide)
  have hw5 : IntKind.i64.wrap (Q : Int) = (Q : Int) := wrap_id (by omega)
  have HRow := Lib.hid (show L.row = if L.P = true then N else Q by
    unfold Lay.row
    split
    · exact hN
    · rw [hA, hQ])
  unfold imV
  rw [hB]
  clear hB hM hN hQ hA hE hMN hEQ hN1 hQ1 hA1
  cases hP : L.P with
  | true =>
    have HR := Lib.hid (show L.row = N by rw [HRow.out, hP]; rfl)
    clear hP HRow
    go_enter Try.func75, Try.ntmps75
    go_wp2
    go_ret
    exact ⟨by rw [HR.out]; rfl, below_alloc _⟩
  | false =>
    have HR := Lib.hid (show L.row = Q by rw [HRow.out, hP]; rfl)
    clear hP HRow
    go_enter Try.func75, Try.ntmps75
    go_wp2
    go_ret
    exact ⟨by rw [HR.out]; rfl, below_alloc _⟩

theorem refrows_calls {L : Lay} (h : L.Ok) (O : ByteArray) (w : World) : Calls Try.prog 58 #[imV L O] w fun e w' => e = .returned (.int .i64 (L.rows : Nat)) ∧ Below w.heap.size w w' := by
  have hm : L.H * L.C ≤ 64 * 4 := Nat.mul_le_mul h.h2 h.c2
  obtain ⟨N, hN⟩ : ∃ N : Nat, L.H * L.C = N := ⟨_, rfl⟩
  have hw : IntKind.i64.wrap ((L.H : Int) * (L.C : Int)) = (N : Int) := by rw [← Int.natCast_mul, hN]; exact wrap_id (by omega)
  unfold imV
  cases hP : L.P with
  | true =>
    have HR := Lib.hid (show L.rows = N by unfold Lay.rows; rw [hP]; exact hN)
    clear hN hm hP
    go_enter Try.func58, Try.ntmps58
    go_wp2
    go_ret
    exact ⟨by rw [HR.out]; rfl, below_alloc _⟩
  | false =>
    have HR := Lib.hid (show L.rows = L.H by unfold Lay.rows; rw [hP]; rfl)
    clear hN hm hP
    go_enter Try.func58, Try.ntmps58
    go_wp2
    go_ret
    exact ⟨by rw [HR.out]; rfl, below_alloc _⟩
end Go.Proofs.Ytpgkhhdobolfbaa
