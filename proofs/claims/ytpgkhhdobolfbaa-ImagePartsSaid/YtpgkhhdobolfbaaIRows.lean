/-
  A view's row, rows, stride and place.
-/
import Derived.Test.YtpgkhhdobolfbaaIPix
import Derived.Test.YtpgkhhdobolfbaaIBetween
namespace Go.Proofs.Ytpgkhhdobolfbaa
set_option linter.unusedVariables false
set_option linter.unusedSimpArgs false
open Go Go.RowKit

/-- A view's cells. -/
def viewC (L : Lay) (O : ByteArray) (V : Value) : List Value := [.int .i64 (L.W : Nat), .int .i64 (L.H : Nat), .int .i64 (L.C : Nat), .int .i64 ((8 * L.k : Nat) : Int), .bool L.P, .int .i64 (L.pd : Nat), .string O, V]

theorem wrap_id {n : Nat} (h : n ≤ 9223372036854775807) : IntKind.i64.wrap (n : Int) = (n : Int) := by rw [IntWalk.i64_left]; unfold wrap64; omega

theorem rows_calls {L : Lay} (h : L.Ok) {O : ByteArray} {V : Value} {b : Nat} {w : World} (hb : Blk w b (viewC L O V) 86) :
    Calls Try.prog 64 #[.pointer (some ⟨b, 0, none⟩)] w fun e w' => e = .returned (.int .i64 (L.rows : Nat)) ∧ Below w.heap.size w w' := by
  have c1 : w.cell? ⟨b, 1, none⟩ = some (.int .i64 (L.H : Nat)) := hb.cell rfl
  have c2 : w.cell? ⟨b, 2, none⟩ = some (.int .i64 (L.C : Nat)) := hb.cell rfl
  have c4 : w.cell? ⟨b, 4, none⟩ = some (.bool L.P) := hb.cell rfl
  have hm : L.H * L.C ≤ 64 * 4 := Nat.mul_le_mul h.h2 h.c2
  obtain ⟨N, hN⟩ : ∃ N : Nat, L.H * L.C = N := ⟨_, rfl⟩
  have hw : IntKind.i64.wrap ((L.H : Int) * (L.C : Int)) = (N : Int) := by rw [← Int.natCast_mul, hN]; exact wrap_id (by omega)
  cases hP : L.P with
  | true =>
    have HR := Lib.hid (show L.rows = N by unfold Lay.rows; rw [hP]; exact hN)
    rw [hP] at c4
    clear hb hN hm hP
    go_enter Try.func64, Try.ntmps64
    go_wp2_with fail
    refine wp_seq_all (fun _ => false) (fun _ _ => undef) (fun _ _ _ => True) (by kernel_rfl) (by kernel_rfl) (fun _ _ _ _ _ h => h) ?_
    repeat (first | (refine seq_skip (by rfl) ?_; simp only [Act.put, List.setIfInBounds_toArray, List.set_cons_zero, List.set_cons_succ, Nat.reduceAdd]) | (refine seq_pure (v := ?_) (by rfl) (by rfl) (fun W hW hC => ?_) ?_; rotate_left; (go_simp <;> with_reducible rfl); simp only [Act.put, List.setIfInBounds_toArray, List.set_cons_zero, List.set_cons_succ, Nat.reduceAdd]))
    refine seq_nil ?_; intro W hW hF
    clear hF
    have HW := Lib.hid hW
    clear hW
    go_wp2
    go_ret
    exact ⟨by rw [HR.out]; rfl, HW.out⟩
  | false =>
    have HR := Lib.hid (show L.rows = L.H by unfold Lay.rows; rw [hP]; rfl)
    rw [hP] at c4
    clear hb hN hm hP hw
    go_enter Try.func64, Try.ntmps64
    go_wp2_with fail
    go_ret
    exact ⟨by rw [HR.out]; rfl, Below.refl _ _⟩

theorem row_calls {L : Lay} (h : L.Ok) {O : ByteArray} {V : Value} {b : Nat} {w : World} (hb : Blk w b (viewC L O V) 86) :
    Calls Try.prog 65 #[.pointer (some ⟨b, 0, none⟩)] w fun e w' => e = .returned (.int .i64 (L.row : Nat)) ∧ Below w.heap.size w w' := by
  have c0 : w.cell? ⟨b, 0, none⟩ = some (.int .i64 (L.W : Nat)) := hb.cell rfl
  have c3 : w.cell? ⟨b, 3, none⟩ = some (.int .i64 ((8 * L.k : Nat) : Int)) := hb.cell rfl
  have hk : L.k ≤ 2 := by rcases h.bits with e | e <;> omega
  obtain ⟨B, hB⟩ : ∃ B : Nat, 8 * L.k = B := ⟨_, rfl⟩
  obtain ⟨M, hM⟩ : ∃ M : Nat, L.W * B = M := ⟨_, rfl⟩
  obtain ⟨N, hN⟩ : ∃ N : Nat, L.W * L.k = N := ⟨_, rfl⟩
  obtain ⟨Q, hQ⟩ : ∃ Q : Nat, N * L.C = Q := ⟨_, rfl⟩
  have hMN : M = 8 * N := by rw [← hM, ← hN, ← hB, Nat.mul_left_comm]
  have hN1 : N ≤ 64 * 2 := by rw [← hN]; exact Nat.mul_le_mul h.w2 hk
  have hQ1 : Q ≤ 128 * 4 := by rw [← hQ]; exact Nat.mul_le_mul hN1 h.c2
  rw [hB] at c3
  have hw1 : IntKind.i64.wrap ((L.W : Int) * (B : Int)) = (M : Int) := by rw [← Int.natCast_mul, hM]; exact wrap_id (by omega)
  have hd : Int.tdiv (M : Int) 8 = (N : Int) := by rw [hMN, Int.natCast_mul]; exact Int.mul_tdiv_cancel_left _ (by decide)
  have hw2 : IntKind.i64.wrap (N : Int) = (N : Int) := wrap_id (by omega)
  have hw3 : IntKind.i64.wrap ((N : Int) * (L.C : Int)) = (Q : Int) := by rw [← Int.natCast_mul, hQ]; exact wrap_id (by omega)
  have c2 : w.cell? ⟨b, 2, none⟩ = some (.int .i64 (L.C : Nat)) := hb.cell rfl
  have c4 : w.cell? ⟨b, 4, none⟩ = some (.bool L.P) := hb.cell rfl
  have HRow := Lib.hid (show L.row = if L.P = true then N else Q by
    unfold Lay.row
    split
    · exact hN
    · rw [← hQ, ← hN, Nat.mul_assoc, Nat.mul_assoc, Nat.mul_comm L.C])
  have HK := Lib.hid hb
  clear hb hB hM hN hQ hMN hN1 hQ1
  go_enter Try.func65, Try.ntmps65
  go_wp2_with fail
  refine wp_seq_all (fun _ => false) (fun _ _ => undef) (fun _ _ _ => True) (by kernel_rfl) (by kernel_rfl) (fun _ _ _ _ _ h => h) ?_
  repeat (first | (refine seq_skip (by rfl) ?_; simp only [Act.put, List.setIfInBounds_toArray, List.set_cons_zero, List.set_cons_succ, Nat.reduceAdd]) | (refine seq_pure (v := ?_) (by rfl) (by rfl) (fun W hW hC => ?_) ?_; rotate_left; (go_simp <;> with_reducible rfl); simp only [Act.put, List.setIfInBounds_toArray, List.set_cons_zero, List.set_cons_succ, Nat.reduceAdd]))
  refine seq_nil ?_; intro W hW hF
  clear hF
  replace c2 := Ytpgkhhdobolfbaa.kept hW c2
  replace c4 := Ytpgkhhdobolfbaa.kept hW c4
  have HW := Lib.hid hW
  clear hW c0 c3 hw1 hd hw2
  cases hP : L.P with
  | true =>
    have HR := Lib.hid (show L.row = N by rw [HRow.out, hP]; rfl)
    rw [hP] at c4
    clear hP
    go_wp2
    go_ret
    exact ⟨by rw [HR.out]; rfl, HW.out⟩
  | false =>
    have HR := Lib.hid (show L.row = Q by rw [HRow.out, hP]; rfl)
    rw [hP] at c4
    clear hP
    go_wp2
    go_ret
    exact ⟨by rw [HR.out]; rfl, HW.out⟩

theorem stride_calls {L : Lay} (h : L.Ok) {O : ByteArray} {V : Value} {b : Nat} {w : World} (hb : Blk w b (viewC L O V) 86) :
    Calls Try.prog 37 #[.pointer (some ⟨b, 0, none⟩)] w fun e w' => e = .returned (.int .i64 (L.stride : Nat)) ∧ Below w.heap.size w w' := by
  have c5 : w.cell? ⟨b, 5, none⟩ = some (.int .i64 (L.pd : Nat)) := hb.cell rfl
  have hp8 : 1 ≤ L.pd ∧ L.pd ≤ 8 := by rcases h.pad with e | e | e | e <;> omega
  have hr := h.row_pos
  have hs := h.stride_row.2.1
  obtain ⟨N, hN⟩ : ∃ N : Nat, L.row = N := ⟨_, rfl⟩
  obtain ⟨p, hp⟩ : ∃ p : Nat, L.pd = p := ⟨_, rfl⟩
  obtain ⟨M, hM⟩ : ∃ M : Nat, N + p = M := ⟨_, rfl⟩
  obtain ⟨M1, hM1⟩ : ∃ M1 : Nat, M - 1 = M1 := ⟨_, rfl⟩
  obtain ⟨D, hD⟩ : ∃ D : Nat, M1 / p = D := ⟨_, rfl⟩
  obtain ⟨S, hS⟩ : ∃ S : Nat, D * p = S := ⟨_, rfl⟩
  have hSt : L.stride = S := by unfold Lay.stride; rw [hN, hp, hM, hM1, hD, hS]
  rw [hN] at hr hs
  rw [hp] at hp8 c5 hs
  rw [hSt] at hs
  have hD1 : D ≤ M1 := by rw [← hD]; exact Nat.div_le_self _ _
  have hw1 : IntKind.i64.wrap ((N : Int) + (p : Int)) = (M : Int) := by rw [← Int.natCast_add, hM]; exact wrap_id (by omega)
  have hw2 : IntKind.i64.wrap ((M : Int) - 1) = (M1 : Int) := by rw [show (M : Int) - 1 = (M1 : Int) by omega]; exact wrap_id (by omega)
  have hd : Int.tdiv (M1 : Int) (p : Int) = (D : Int) := by rw [Int.tdiv_eq_ediv_of_nonneg (by omega), ← hD]; simp
  have hw3 : IntKind.i64.wrap (D : Int) = (D : Int) := wrap_id (by omega)
  have hw4 : IntKind.i64.wrap ((D : Int) * (p : Int)) = (S : Int) := by rw [← Int.natCast_mul, hS]; exact wrap_id (by omega)
  have hp0 : ¬ p = 0 := by omega
  have HN := Lib.hid (And.intro hN (And.intro hSt hb))
  clear hb hr hs hN hp hM hM1 hD hS hSt hD1 hp8
  go_enter Try.func37, Try.ntmps37
  go_wp2_with fail
  refine wp_seq_all (fun k => k == 1) (fun _ _ => .int .i64 (N : Nat)) (fun _ _ _ => True) (by kernel_rfl) (by kernel_rfl) (fun _ _ _ _ _ h => h) ?_
  repeat (first | (refine seq_skip (by rfl) ?_; simp only [Act.put, List.setIfInBounds_toArray, List.set_cons_zero, List.set_cons_succ, Nat.reduceAdd]) | (refine seq_pure (v := ?_) (by rfl) (by rfl) (fun W hW hC => ?_) ?_; rotate_left; (go_simp <;> with_reducible rfl); simp only [Act.put, List.setIfInBounds_toArray, List.set_cons_zero, List.set_cons_succ, Nat.reduceAdd]))
  refine seq_made (by rfl) (by rfl) (fun W hW hC hF R hR => ?_) (fun _ => ?_)
  · unfold Gives; go_simp
    refine (row_calls h (HN.out.2.2.kept hW)).mono ?_
    rintro r w8 ⟨rfl, hb8⟩
    exact ⟨_, rfl, by rw [HN.out.1]; exact hR {} _ hb8 trivial⟩
  simp only [Act.put, List.setIfInBounds_toArray, List.set_cons_zero, List.set_cons_succ, Nat.reduceAdd]
  repeat (first | (refine seq_skip (by rfl) ?_; simp only [Act.put, List.setIfInBounds_toArray, List.set_cons_zero, List.set_cons_succ, Nat.reduceAdd]) | (refine seq_pure (v := ?_) (by rfl) (by rfl) (fun W hW hC => ?_) ?_; rotate_left; (go_simp <;> with_reducible rfl); simp only [Act.put, List.setIfInBounds_toArray, List.set_cons_zero, List.set_cons_succ, Nat.reduceAdd]))
  refine seq_nil ?_; intro W hW hF
  clear hF
  have HW := Lib.hid hW
  clear hW c5 hw1 hw2 hd hw3 hw4 hp0
  go_wp2
  go_ret
  exact ⟨by rw [HN.out.2.1]; rfl, HW.out⟩

theorem place_calls {L : Lay} (h : L.Ok) {O : ByteArray} {V : Value} {b : Nat} {w : World} (hb : Blk w b (viewC L O V) 86) {x y c : Nat} (hx : x < L.W) (hy : y < L.H) (hc : c < L.C) :
    Calls Try.prog 69 #[.pointer (some ⟨b, 0, none⟩), .int .i64 x, .int .i64 y, .int .i64 c] w fun e w' => e = .returned (.int .i64 (L.place x y c : Nat)) ∧ Below w.heap.size w w' := by
  have c1 : w.cell? ⟨b, 1, none⟩ = some (.int .i64 (L.H : Nat)) := hb.cell rfl
  have c2 : w.cell? ⟨b, 2, none⟩ = some (.int .i64 (L.C : Nat)) := hb.cell rfl
  have c3 : w.cell? ⟨b, 3, none⟩ = some (.int .i64 ((8 * L.k : Nat) : Int)) := hb.cell rfl
  have c4 : w.cell? ⟨b, 4, none⟩ = some (.bool L.P) := hb.cell rfl
  have hk : L.k ≤ 2 := by rcases h.bits with e | e <;> omega
  have hp8 : L.pd ≤ 8 := by rcases h.pad with e | e | e | e <;> omega
  have hr := h.row_pos
  have hs := h.stride_row.2.1
  obtain ⟨S, hS⟩ : ∃ S : Nat, L.stride = S := ⟨_, rfl⟩
  obtain ⟨B, hB⟩ : ∃ B : Nat, 8 * L.k = B := ⟨_, rfl⟩
  rw [hS] at hs
  rw [hB] at c3
  have hw2 := h.w2
  have hh2 := h.h2
  have hc2 := h.c2
  cases hP : L.P with
  | true =>
    obtain ⟨A1, hA1⟩ : ∃ N : Nat, c * L.H = N := ⟨_, rfl⟩
    obtain ⟨A2, hA2⟩ : ∃ N : Nat, A1 + y = N := ⟨_, rfl⟩
    obtain ⟨A3, hA3⟩ : ∃ N : Nat, A2 * S = N := ⟨_, rfl⟩
    obtain ⟨D1, hD1⟩ : ∃ N : Nat, x * B = N := ⟨_, rfl⟩
    obtain ⟨D2, hD2⟩ : ∃ N : Nat, x * L.k = N := ⟨_, rfl⟩
    obtain ⟨E, hE⟩ : ∃ N : Nat, A3 + D2 = N := ⟨_, rfl⟩
    have e1 : A1 ≤ 4 * 64 := by rw [← hA1]; exact Nat.mul_le_mul (by omega) hh2
    have e2 : A3 ≤ 320 * 520 := by rw [← hA3]; exact Nat.mul_le_mul (by omega) (by omega)
    have e3 : D2 ≤ 64 * 2 := by rw [← hD2]; exact Nat.mul_le_mul (by omega) hk
    have e4 : D1 = 8 * D2 := by rw [← hD1, ← hD2, ← hB, Nat.mul_left_comm]
    have f1 : IntKind.i64.wrap ((c : Int) * (L.H : Int)) = (A1 : Int) := by rw [← Int.natCast_mul, hA1]; exact wrap_id (by omega)
    have f2 : IntKind.i64.wrap ((A1 : Int) + (y : Int)) = (A2 : Int) := by rw [← Int.natCast_add, hA2]; exact wrap_id (by omega)
    have f3 : IntKind.i64.wrap ((A2 : Int) * (S : Int)) = (A3 : Int) := by rw [← Int.natCast_mul, hA3]; exact wrap_id (by omega)
    have f4 : IntKind.i64.wrap ((x : Int) * (B : Int)) = (D1 : Int) := by rw [← Int.natCast_mul, hD1]; exact wrap_id (by omega)
    have f5 : Int.tdiv (D1 : Int) 8 = (D2 : Int) := by rw [e4, Int.natCast_mul]; exact Int.mul_tdiv_cancel_left _ (by decide)
    have f6 : IntKind.i64.wrap (D2 : Int) = (D2 : Int) := wrap_id (by omega)
    have f7 : IntKind.i64.wrap ((A3 : Int) + (D2 : Int)) = (E : Int) := by rw [← Int.natCast_add, hE]; exact wrap_id (by omega)
    have HN := Lib.hid (And.intro hS (And.intro (show L.place x y c = E by unfold Lay.place Lay.R Lay.q; rw [if_pos hP, if_pos hP, hS, hA1, hA2, hA3, hD2, hE]) hb))
    rw [hP] at c4
    clear hb hk hp8 hr hs hS hB hw2 hh2 hc2 hP hA1 hA2 hA3 hD1 hD2 hE e1 e2 e3 e4 hx hy hc
    go_enter Try.func69, Try.ntmps69
    go_wp2_with fail
    refine wp_seq_all (fun k => k == 10) (fun _ _ => .int .i64 (S : Nat)) (fun _ _ _ => True) (by kernel_rfl) (by kernel_rfl) (fun _ _ _ _ _ h => h) ?_
    repeat (first | (refine seq_skip (by rfl) ?_; simp only [Act.put, List.setIfInBounds_toArray, List.set_cons_zero, List.set_cons_succ, Nat.reduceAdd]) | (refine seq_pure (v := ?_) (by rfl) (by rfl) (fun W hW hC => ?_) ?_; rotate_left; (go_simp <;> with_reducible rfl); simp only [Act.put, List.setIfInBounds_toArray, List.set_cons_zero, List.set_cons_succ, Nat.reduceAdd]))
    refine seq_made (by rfl) (by rfl) (fun W hW hC hF R hR => ?_) (fun _ => ?_)
    · unfold Gives; go_simp
      refine (stride_calls h (HN.out.2.2.kept hW)).mono ?_
      rintro r w8 ⟨rfl, hb8⟩
      exact ⟨_, rfl, by rw [HN.out.1]; exact hR {} _ hb8 trivial⟩
    simp only [Act.put, List.setIfInBounds_toArray, List.set_cons_zero, List.set_cons_succ, Nat.reduceAdd]
    repeat (first | (refine seq_skip (by rfl) ?_; simp only [Act.put, List.setIfInBounds_toArray, List.set_cons_zero, List.set_cons_succ, Nat.reduceAdd]) | (refine seq_pure (v := ?_) (by rfl) (by rfl) (fun W hW hC => ?_) ?_; rotate_left; (go_simp <;> with_reducible rfl); simp only [Act.put, List.setIfInBounds_toArray, List.set_cons_zero, List.set_cons_succ, Nat.reduceAdd]))
    refine seq_nil ?_; intro W hW hF
    clear hF
    have HW := Lib.hid hW
    clear hW c1 c2 c3 c4 f1 f2 f3 f4 f5 f6 f7
    go_wp2
    go_ret
    exact ⟨by rw [HN.out.2.1]; rfl, HW.out⟩
  | false =>
    obtain ⟨A3, hA3⟩ : ∃ N : Nat, y * S = N := ⟨_, rfl⟩
    obtain ⟨A1, hA1⟩ : ∃ N : Nat, x * L.C = N := ⟨_, rfl⟩
    obtain ⟨A2, hA2⟩ : ∃ N : Nat, A1 + c = N := ⟨_, rfl⟩
    obtain ⟨D1, hD1⟩ : ∃ N : Nat, A2 * B = N := ⟨_, rfl⟩
    obtain ⟨D2, hD2⟩ : ∃ N : Nat, A2 * L.k = N := ⟨_, rfl⟩
    obtain ⟨E, hE⟩ : ∃ N : Nat, A3 + D2 = N := ⟨_, rfl⟩
    have e1 : A1 ≤ 64 * 4 := by rw [← hA1]; exact Nat.mul_le_mul (by omega) hc2
    have e2 : A3 ≤ 64 * 520 := by rw [← hA3]; exact Nat.mul_le_mul (by omega) (by omega)
    have e3 : D2 ≤ 260 * 2 := by rw [← hD2]; exact Nat.mul_le_mul (by omega) hk
    have e4 : D1 = 8 * D2 := by rw [← hD1, ← hD2, ← hB, Nat.mul_left_comm]
    have f1 : IntKind.i64.wrap ((x : Int) * (L.C : Int)) = (A1 : Int) := by rw [← Int.natCast_mul, hA1]; exact wrap_id (by omega)
    have f2 : IntKind.i64.wrap ((A1 : Int) + (c : Int)) = (A2 : Int) := by rw [← Int.natCast_add, hA2]; exact wrap_id (by omega)
    have f3 : IntKind.i64.wrap ((y : Int) * (S : Int)) = (A3 : Int) := by rw [← Int.natCast_mul, hA3]; exact wrap_id (by omega)
    have f4 : IntKind.i64.wrap ((A2 : Int) * (B : Int)) = (D1 : Int) := by rw [← Int.natCast_mul, hD1]; exact wrap_id (by omega)
    have f5 : Int.tdiv (D1 : Int) 8 = (D2 : Int) := by rw [e4, Int.natCast_mul]; exact Int.mul_tdiv_cancel_left _ (by decide)
    have f6 : IntKind.i64.wrap (D2 : Int) = (D2 : Int) := wrap_id (by omega)
    have f7 : IntKind.i64.wrap ((A3 : Int) + (D2 : Int)) = (E : Int) := by rw [← Int.natCast_add, hE]; exact wrap_id (by omega)
    have hPn : ¬ L.P = true := by rw [hP]; simp
    have HN := Lib.hid (And.intro hS (And.intro (show L.place x y c = E by unfold Lay.place Lay.R Lay.q; rw [if_neg hPn, if_neg hPn, hS, hA1, hA2, hA3, hD2, hE]) hb))
    rw [hP] at c4
    clear hb hk hp8 hr hs hS hB hw2 hh2 hc2 hP hPn hA1 hA2 hA3 hD1 hD2 hE e1 e2 e3 e4 hx hy hc
    go_enter Try.func69, Try.ntmps69
    go_wp2_with fail
    refine wp_seq_all (fun k => k == 2) (fun _ _ => .int .i64 (S : Nat)) (fun _ _ _ => True) (by kernel_rfl) (by kernel_rfl) (fun _ _ _ _ _ h => h) ?_
    repeat (first | (refine seq_skip (by rfl) ?_; simp only [Act.put, List.setIfInBounds_toArray, List.set_cons_zero, List.set_cons_succ, Nat.reduceAdd]) | (refine seq_pure (v := ?_) (by rfl) (by rfl) (fun W hW hC => ?_) ?_; rotate_left; (go_simp <;> with_reducible rfl); simp only [Act.put, List.setIfInBounds_toArray, List.set_cons_zero, List.set_cons_succ, Nat.reduceAdd]))
    refine seq_made (by rfl) (by rfl) (fun W hW hC hF R hR => ?_) (fun _ => ?_)
    · unfold Gives; go_simp
      refine (stride_calls h (HN.out.2.2.kept hW)).mono ?_
      rintro r w8 ⟨rfl, hb8⟩
      exact ⟨_, rfl, by rw [HN.out.1]; exact hR {} _ hb8 trivial⟩
    simp only [Act.put, List.setIfInBounds_toArray, List.set_cons_zero, List.set_cons_succ, Nat.reduceAdd]
    repeat (first | (refine seq_skip (by rfl) ?_; simp only [Act.put, List.setIfInBounds_toArray, List.set_cons_zero, List.set_cons_succ, Nat.reduceAdd]) | (refine seq_pure (v := ?_) (by rfl) (by rfl) (fun W hW hC => ?_) ?_; rotate_left; (go_simp <;> with_reducible rfl); simp only [Act.put, List.setIfInBounds_toArray, List.set_cons_zero, List.set_cons_succ, Nat.reduceAdd]))
    refine seq_nil ?_; intro W hW hF
    clear hF
    have HW := Lib.hid hW
    clear hW c1 c2 c3 c4 f1 f2 f3 f4 f5 f6 f7
    go_wp2
    go_ret
    exact ⟨by rw [HN.out.2.1]; rfl, HW.out⟩
end Go.Proofs.Ytpgkhhdobolfbaa
