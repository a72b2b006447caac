/-
  The reference's place, shaped.
-/
import Derived.Test.YtpgkhhdobolfbaaIRefB
namespace Go.Proofs.Ytpgkhhdobolfbaa
set_option linter.unusedVariables false
set_option linter.unusedSimpArgs false
open Go Go.RowKit

set_option maxRecDepth 100000 in
set_option maxHeartbeats 1600000 in
theorem refplace_calls {L : Lay} (h : L.Ok) (O : ByteArray) {x y c : Nat} (hx : x < L.W) (hy : y < L.H) (hc : c < L.C) (w : World) :
    Calls Try.prog 77 #[imV L O, .int .i64 x, .int .i64 y, .int .i64 c] w fun e w' => e = .returned (.int .i64 (L.place x y c : Nat)) ∧ Below w.heap.size w w' := by
  have HF := Lib.hid (fun w => refstride_calls h O w)
  unfold imV at HF ⊢
  have hk : L.k ≤ 2 := by rcases h.bits with e | e <;> omega
  have hp8 : L.pd ≤ 8 := by rcases h.pad with e | e | e | e <;> omega
  have hr := h.row_pos
  have hs := h.stride_row.2.1
  obtain ⟨S, hS⟩ : ∃ S : Nat, L.stride = S := ⟨_, rfl⟩
  obtain ⟨B, hB⟩ : ∃ B : Nat, 8 * L.k = B := ⟨_, rfl⟩
  rw [hS] at hs HF
  rw [hB] at HF ⊢
  have hw2 := h.w2
  have hh2 := h.h2
  have hc2 := h.c2
  cases hP : L.P with
  | true =>
    obtain ⟨A1, hA1⟩ : ∃ N : Nat, c * L.H = N := ⟨_, rfl⟩
    obtain ⟨A2, hA2⟩ : ∃ N : Nat, A1 + y = N := ⟨_, rfl⟩
    obtain ⟨A3, hA3⟩ : ∃ N : Nat, A2 * S = N := ⟨_, rfl⟩
    obtain ⟨D1, hD1⟩ : ∃ N : Nat, x * B = N := ⟨_, rfl⟩
    obtain ⟨D2, hD2⟩ : ∃ N : Nat, x * L.k = N := ⟨_, rfl⟩
    obtain ⟨E, hE⟩ : ∃ N : Nat, A3 + D2 = N := ⟨_, rfl⟩
    have e1 : A1 ≤ 4 * 64 := by rw [← hA1]; exact Nat.mul_le_mul (by omega) hh2
    have e2 : A3 ≤ 320 * 520 := by rw [← hA3]; exact Nat.mul_le_mul (by omega) (by omega)
    have e3 : D2 ≤ 64 * 2 := by rw [← hD2]; exact Nat.mul_le_mul (by omega) hk
    have e4 : D1 = 8 * D2 := by rw [← hD1, ← hD2, ← hB, Nat.mul_left_comm]
    have f1 : IntKind.i64.wrap ((c : Int) * (L.H : Int)) = (A1 : Int) := by rw [← Int.natCast_mul, hA1]; exact wrap_id (by omega)
    have f2 : IntKind.i64.wrap ((A1 : Int) + (y : Int)) = (A2 : Int) := by rw [← Int.natCast_add, hA2]; exact wrap_id (by omega)
    have f3 : IntKind.i64.wrap ((A2 : Int) * (S : Int)) = (A3 : Int) := by rw [← Int.natCast_mul, hA3]; exact wrap_id (by omega)
    have f4 : IntKind.i64.wrap ((x : Int) * (B : Int)) = (D1 : Int) := by rw [← Int.natCast_mul, hD1]; exact wrap_id (by omega)
    have f5 : Int.tdiv (D1 : Int) 8 = (D2 : Int) := by rw [e4, Int.natCast_mul]; exact Int.mul_tdiv_cancel_left _ (by decide)
    have f6 : IntKind.i64.wrap (D2 : Int) = (D2 : Int) := wrap_id (by omega)
    have f7 : IntKind.i64.wrap ((A3 : Int) + (D2 : Int)) = (E : Int) := by rw [← Int.natCast_add, hE]; exact wrap_id (by omega)
    have HN := Lib.hid (show L.place x y c = E by unfold Lay.place Lay.R Lay.q; rw [if_pos hP, if_pos hP, hS, hA1, hA2, hA3, hD2, hE])
    rw [hP] at HF
    clear hk hp8 hr hs hS hB hw2 hh2 hc2 hP hA1 hA2 hA3 hD1 hD2 hE e1 e2 e3 e4 hx hy hc h
    go_enter Try.func77, Try.ntmps77
    go_upto_region 1 with fail
    refine wp_named ?_
    intro w1 hw1
    have b0 : Blk w1 w.heap.size [.int .i64 (L.W : Nat), .int .i64 (L.H : Nat), .int .i64 (L.C : Nat), .int .i64 (B : Nat), .bool true, .int .i64 (L.pd : Nat), .string O] 24 := by rw [hw1]; exact Blk.new _ _ _
    have hb1 : Below w.heap.size w w1 := by rw [hw1]; exact below_alloc _
    clear hw1
    have d0 := b0.cell (i := 0) rfl
    have d1 := b0.cell (i := 1) rfl
    have d2 := b0.cell (i := 2) rfl
    have d3 := b0.cell (i := 3) rfl
    have d4 := b0.cell (i := 4) rfl
    have d5 := b0.cell (i := 5) rfl
    have d6 := b0.cell (i := 6) rfl
    have HB := Lib.hid hb1
    clear b0 hb1
    go_wp2_with fail
    refine wp_seq_all (fun k => k == 7) (fun _ _ => .int .i64 (S : Nat)) (fun _ _ _ => True) (by kernel_rfl) (by kernel_rfl) (fun _ _ _ _ _ h => h) ?_
    repeat (first | (refine seq_skip (by rfl) ?_; simp only [Act.put, List.setIfInBounds_toArray, List.set_cons_zero, List.set_cons_succ, Nat.reduceAdd]) | (refine seq_pure (v := ?_) (by rfl) (by rfl) (fun W hW hC => ?_) ?_; rotate_left; (go_simp <;> with_reducible rfl); simp only [Act.put, List.setIfInBounds_toArray, List.set_cons_zero, List.set_cons_succ, Nat.reduceAdd]))
    refine seq_made (by rfl) (by rfl) (fun W hW hC hF R hR => ?_) (fun _ => ?_)
    · unfold Gives; go_simp
      refine (HF.out W).mono ?_
      rintro r w8 ⟨rfl, hb8⟩
      refine ⟨_, rfl, ?_⟩
      exact hR {} _ hb8 trivial
    simp only [Act.put, List.setIfInBounds_toArray, List.set_cons_zero, List.set_cons_succ, Nat.reduceAdd]
    repeat (first | (refine seq_skip (by rfl) ?_; simp only [Act.put, List.setIfInBounds_toArray, List.set_cons_zero, List.set_cons_succ, Nat.reduceAdd]) | (refine seq_pure (v := ?_) (by rfl) (by rfl) (fun W hW hC => ?_) ?_; rotate_left; (go_simp <;> with_reducible rfl); simp only [Act.put, List.setIfInBounds_toArray, List.set_cons_zero, List.set_cons_succ, Nat.reduceAdd]))
    refine seq_nil ?_; intro W hW hF
    clear hF
    have HW := Lib.hid (below_trans HB.out hW)
    clear hW d0 d1 d2 d3 d4 d5 d6 f1 f2 f3 f4 f5 f6 f7
    go_wp2
    go_ret
    exact ⟨by rw [HN.out]; rfl, HW.out⟩
  | false =>
    obtain ⟨A3, hA3⟩ : ∃ N : Nat, y * S = N := ⟨_, rfl⟩
    obtain ⟨A1, hA1⟩ : ∃ N : Nat, x * L.C = N := ⟨_, rfl⟩
    obtain ⟨A2, hA2⟩ : ∃ N : Nat, A1 + c = N := ⟨_, rfl⟩
    obtain ⟨D1, hD1⟩ : ∃ N : Nat, A2 * B = N := ⟨_, rfl⟩
    obtain ⟨D2, hD2⟩ : ∃ N : Nat, A2 * L.k = N := ⟨_, rfl⟩
    obtain ⟨E, hE⟩ : ∃ N : Nat, A3 + D2 = N := ⟨_, rfl⟩
    have e1 : A1 ≤ 64 * 4 := by rw [← hA1]; exact Nat.mul_le_mul (by omega) hc2
    have e2 : A3 ≤ 64 * 520 := by rw [← hA3]; exact Nat.mul_le_mul (by omega) (by omega)
    have e3 : D2 ≤ 260 * 2 := by rw [← hD2]; exact Nat.mul_le_mul (by omega) hk
    have e4 : D1 = 8 * D2 := by rw [← hD1, ← hD2, ← hB, Nat.mul_left_comm]
    have f1 : IntKind.i64.wrap ((x : Int) * (L.C : Int)) = (A1 : Int) := by rw [← Int.natCast_mul, hA1]; exact wrap_id (by omega)
    have f2 : IntKind.i64.wrap ((A1 : Int) + (c : Int)) = (A2 : Int) := by rw [← Int.natCast_add, hA2]; exact wrap_id (by omega)
    have f3 : IntKind.i64.wrap ((y : Int) * (S : Int)) = (A3 : Int) := by rw [← Int.natCast_mul, hA3]; exact wrap_id (by omega)
    have f4 : IntKind.i64.wrap ((A2 : Int) * (B : Int)) = (D1 : Int) := by rw [← Int.natCast_mul, hD1]; exact wrap_id (by omega)
    have f5 : Int.tdiv (D1 : Int) 8 = (D2 : Int) := by rw [e4, Int.natCast_mul]; exact Int.mul_tdiv_cancel_left _ (by decide)
    have f6 : IntKind.i64.wrap (D2 : Int) = (D2 : Int) := wrap_id (by omega)
    have f7 : IntKind.i64.wrap ((A3 : Int) + (D2 : Int)) = (E : Int) := by rw [← Int.natCast_add, hE]; exact wrap_id (by omega)
    have hPn : ¬ L.P = true := by rw [hP]; simp
    have HN := Lib.hid (show L.place x y c = E by unfold Lay.place Lay.R Lay.q; rw [if_neg hPn, if_neg hPn, hS, hA1, hA2, hA3, hD2, hE])
    rw [hP] at HF
    clear hk hp8 hr hs hS hB hw2 hh2 hc2 hP hPn hA1 hA2 hA3 hD1 hD2 hE e1 e2 e3 e4 hx hy hc h
    go_enter Try.func77, Try.ntmps77
    go_upto_region 1 with fail
    refine wp_named ?_
    intro w1 hw1
    have b0 : Blk w1 w.heap.size [.int .i64 (L.W : Nat), .int .i64 (L.H : Nat), .int .i64 (L.C : Nat), .int .i64 (B : Nat), .bool false, .int .i64 (L.pd : Nat), .string O] 24 := by rw [hw1]; exact Blk.new _ _ _
    have hb1 : Below w.heap.size w w1 := by rw [hw1]; exact below_alloc _
    clear hw1
    have d0 := b0.cell (i := 0) rfl
    have d1 := b0.cell (i := 1) rfl
    have d2 := b0.cell (i := 2) rfl
    have d3 := b0.cell (i := 3) rfl
    have d4 := b0.cell (i := 4) rfl
    have d5 := b0.cell (i := 5) rfl
    have d6 := b0.cell (i := 6) rfl
    have HB := Lib.hid hb1
    clear b0 hb1
    go_wp2_with fail
    refine wp_seq_all (fun k => k == 2) (fun _ _ => .int .i64 (S : Nat)) (fun _ _ _ => True) (by kernel_rfl) (by kernel_rfl) (fun _ _ _ _ _ h => h) ?_
    repeat (first | (refine seq_skip (by rfl) ?_; simp only [Act.put, List.setIfInBounds_toArray, List.set_cons_zero, List.set_cons_succ, Nat.reduceAdd]) | (refine seq_pure (v := ?_) (by rfl) (by rfl) (fun W hW hC => ?_) ?_; rotate_left; (go_simp <;> with_reducible rfl); simp only [Act.put, List.setIfInBounds_toArray, List.set_cons_zero, List.set_cons_succ, Nat.reduceAdd]))
    refine seq_made (by rfl) (by rfl) (fun W hW hC hF R hR => ?_) (fun _ => ?_)
    · unfold Gives; go_simp
      refine (HF.out W).mono ?_
      rintro r w8 ⟨rfl, hb8⟩
      refine ⟨_, rfl, ?_⟩
      exact hR {} _ hb8 trivial
    simp only [Act.put, List.setIfInBounds_toArray, List.set_cons_zero, List.set_cons_succ, Nat.reduceAdd]
    repeat (first | (refine seq_skip (by rfl) ?_; simp only [Act.put, List.setIfInBounds_toArray, List.set_cons_zero, List.set_cons_succ, Nat.reduceAdd]) | (refine seq_pure (v := ?_) (by rfl) (by rfl) (fun W hW hC => ?_) ?_; rotate_left; (go_simp <;> with_reducible rfl); simp only [Act.put, List.setIfInBounds_toArray, List.set_cons_zero, List.set_cons_succ, Nat.reduceAdd]))
    refine seq_nil ?_; intro W hW hF
    clear hF
    have HW := Lib.hid (below_trans HB.out hW)
    clear hW d0 d1 d2 d3 d4 d5 d6 f1 f2 f3 f4 f5 f6 f7
    go_wp2
    go_ret
    exact ⟨by rw [HN.out]; rfl, HW.out⟩

set_option maxRecDepth 100000 in
set_option maxHeartbeats 3200000 in
theorem refshaped_calls (W H C B : Int) (P : Bool) (Pd : Int) (O : ByteArray) (w : World) :
    Calls Try.prog 56 #[.agg #[.int .i64 W, .int .i64 H, .int .i64 C, .int .i64 B, .bool P, .int .i64 Pd, .string O]] w fun e w' => e = .returned (.bool (shB W H C B Pd)) ∧ Below w.heap.size w w' := by
  go_enter Try.func56, Try.ntmps56
  go_upto_region 1 with fail
  refine wp_named ?_
  intro w1 hw1
  have b0 : Blk w1 w.heap.size [.int .i64 W, .int .i64 H, .int .i64 C, .int .i64 B, .bool P, .int .i64 Pd, .string O] 24 := by rw [hw1]; exact Blk.new _ _ _
  have hb1 : Below w.heap.size w w1 := by rw [hw1]; exact below_alloc _
  clear hw1
  have c0 := b0.cell (i := 0) rfl
  have c1 := b0.cell (i := 1) rfl
  have c2 := b0.cell (i := 2) rfl
  have c3 := b0.cell (i := 3) rfl
  have c4 := b0.cell (i := 4) rfl
  have c5 := b0.cell (i := 5) rfl
  have c6 := b0.cell (i := 6) rfl
  have HB := Lib.hid (And.intro b0 hb1)
  clear b0 hb1
  go_wp2_with fail
  refine (within_calls W 1 64 w1).mono ?_
  rintro r w2 ⟨rfl, hb2⟩
  have HB2 := Lib.hid (And.intro (HB.out.1.kept hb2) (below_trans HB.out.2 hb2))
  have b0 := HB2.out.1
  clear c0 c1 c2 c3 c4 c5 c6 hb2 HB
  have c0 := b0.cell (i := 0) rfl
  have c1 := b0.cell (i := 1) rfl
  have c2 := b0.cell (i := 2) rfl
  have c3 := b0.cell (i := 3) rfl
  have c4 := b0.cell (i := 4) rfl
  have c5 := b0.cell (i := 5) rfl
  have c6 := b0.cell (i := 6) rfl
  clear b0
  cases k1 : betw 1 64 [W] with
  | false =>
    have hR := Lib.hid (show shB W H C B Pd = false from decide_eq_false (fun h => by rw [betw_one.2 ⟨h.w1, h.w2⟩] at k1; cases k1))
    clear k1
    go_wp2
    go_ret
    exact ⟨by rw [hR.out]; rfl, HB2.out.2⟩
  | true =>
    have K1 := Lib.hid (betw_one.1 k1)
    clear k1
    go_wp2_with fail
    refine (within_calls H 1 64 w2).mono ?_
    rintro r w3 ⟨rfl, hb2⟩
    have HB3 := Lib.hid (And.intro (HB2.out.1.kept hb2) (below_trans HB2.out.2 hb2))
    have b0 := HB3.out.1
    clear c0 c1 c2 c3 c4 c5 c6 hb2 HB2
    have c0 := b0.cell (i := 0) rfl
    have c1 := b0.cell (i := 1) rfl
    have c2 := b0.cell (i := 2) rfl
    have c3 := b0.cell (i := 3) rfl
    have c4 := b0.cell (i := 4) rfl
    have c5 := b0.cell (i := 5) rfl
    have c6 := b0.cell (i := 6) rfl
    clear b0
    cases k2 : betw 1 64 [H] with
    | false =>
      have hR := Lib.hid (show shB W H C B Pd = false from decide_eq_false (fun h => by rw [betw_one.2 ⟨h.h1, h.h2⟩] at k2; cases k2))
      clear k2
      go_wp2
      go_ret
      exact ⟨by rw [hR.out]; rfl, HB3.out.2⟩
    | true =>
      have K2 := Lib.hid (betw_one.1 k2)
      clear k2
      go_wp2_with fail
      refine (within_calls C 1 4 w3).mono ?_
      rintro r w4 ⟨rfl, hb2⟩
      have HB4 := Lib.hid (And.intro (HB3.out.1.kept hb2) (below_trans HB3.out.2 hb2))
      have b0 := HB4.out.1
      clear c0 c1 c2 c3 c4 c5 c6 hb2 HB3
      have c0 := b0.cell (i := 0) rfl
      have c1 := b0.cell (i := 1) rfl
      have c2 := b0.cell (i := 2) rfl
      have c3 := b0.cell (i := 3) rfl
      have c4 := b0.cell (i := 4) rfl
      have c5 := b0.cell (i := 5) rfl
      have c6 := b0.cell (i := 6) rfl
      clear b0
      cases k3 : betw 1 4 [C] with
      | false =>
        have hR := Lib.hid (show shB W H C B Pd = false from decide_eq_false (fun h => by rw [betw_one.2 ⟨h.c1, h.c2⟩] at k3; cases k3))
        clear k3
        go_wp2
        go_ret
        exact ⟨by rw [hR.out]; rfl, HB4.out.2⟩
      | true =>
        have K3 := Lib.hid (betw_one.1 k3)
        clear k3
        obtain ⟨m1, m2, m3, m4⟩ := prod_small K1.out K2.out K3.out
        have hw1 : IntKind.i64.wrap (W * H) = W * H := by rw [IntWalk.i64_left]; unfold wrap64; omega
        have hw2 : IntKind.i64.wrap (W * H * C) = W * H * C := by rw [IntWalk.i64_left]; unfold wrap64; omega
        clear m1 m2 m3 m4
        by_cases k4 : W * H * C ≤ 4096
        · have K4 := Lib.hid k4
          have k4' : ¬ (4096 < W * H * C) := by omega
          clear k4
          have hsh : shB W H C B Pd = (decide (B = 8 ∨ B = 16) && decide (Pd = 1 ∨ Pd = 2 ∨ Pd = 4 ∨ Pd = 8)) := by
            unfold shB
            rw [Bool.eq_iff_iff, Bool.and_eq_true, decide_eq_true_iff, decide_eq_true_iff, decide_eq_true_iff]
            exact ⟨fun h => ⟨h.bits, h.pad⟩, fun h => ⟨K1.out.1, K1.out.2, K2.out.1, K2.out.2, K3.out.1, K3.out.2, K4.out, h.1, h.2⟩⟩
          have HSh := Lib.hid hsh
          clear hsh
          by_cases b8 : B = 8
          · subst b8
            by_cases p1 : Pd = 1
            · subst p1; go_wp2; go_ret; exact ⟨by rw [HSh.out]; rfl, HB4.out.2⟩
            · by_cases p2 : Pd = 2
              · subst p2; go_wp2; go_ret; exact ⟨by rw [HSh.out]; rfl, HB4.out.2⟩
              · by_cases p4 : Pd = 4
                · subst p4; go_wp2; go_ret; exact ⟨by rw [HSh.out]; rfl, HB4.out.2⟩
                · by_cases p8 : Pd = 8
                  · subst p8; go_wp2; go_ret; exact ⟨by rw [HSh.out]; rfl, HB4.out.2⟩
                  · have hR := Lib.hid (show shB W H C 8 Pd = false by rw [HSh.out]; simp [p1, p2, p4, p8])
                    have q1 : (Pd == 1) = false := by simpa using p1
                    have q2 : (Pd == 2) = false := by simpa using p2
                    have q4 : (Pd == 4) = false := by simpa using p4
                    have q8 : (Pd == 8) = false := by simpa using p8
                    clear p1 p2 p4 p8
                    go_wp2; go_ret; exact ⟨by rw [hR.out]; rfl, HB4.out.2⟩
          · by_cases b16 : B = 16
            · subst b16
              by_cases p1 : Pd = 1
              · subst p1; go_wp2; go_ret; exact ⟨by rw [HSh.out]; rfl, HB4.out.2⟩
              · by_cases p2 : Pd = 2
                · subst p2; go_wp2; go_ret; exact ⟨by rw [HSh.out]; rfl, HB4.out.2⟩
                · by_cases p4 : Pd = 4
                  · subst p4; go_wp2; go_ret; exact ⟨by rw [HSh.out]; rfl, HB4.out.2⟩
                  · by_cases p8 : Pd = 8
                    · subst p8; go_wp2; go_ret; exact ⟨by rw [HSh.out]; rfl, HB4.out.2⟩
                    · have hR := Lib.hid (show shB W H C 16 Pd = false by rw [HSh.out]; simp [p1, p2, p4, p8])
                      have q1 : (Pd == 1) = false := by simpa using p1
                      have q2 : (Pd == 2) = false := by simpa using p2
                      have q4 : (Pd == 4) = false := by simpa using p4
                      have q8 : (Pd == 8) = false := by simpa using p8
                      clear p1 p2 p4 p8
                      go_wp2; go_ret; exact ⟨by rw [hR.out]; rfl, HB4.out.2⟩
            · have hR := Lib.hid (show shB W H C B Pd = false by rw [HSh.out]; simp [b8, b16])
              have q8 : (B == 8) = false := by simpa using b8
              have q16 : (B == 16) = false := by simpa using b16
              clear b8 b16
              go_wp2; go_ret; exact ⟨by rw [hR.out]; rfl, HB4.out.2⟩
        · have hR := Lib.hid (show shB W H C B Pd = false from decide_eq_false (fun h => k4 h.most))
          have k4' : 4096 < W * H * C := by omega
          clear k4
          go_wp2
          go_ret
          exact ⟨by rw [hR.out]; rfl, HB4.out.2⟩
end Go.Proofs.Ytpgkhhdobolfbaa
