/-
  image.Check, image.Stride, image.at, image.Make.
-/
import Derived.Test.YtpgkhhdobolfbaaIPut
namespace Go.Proofs.Ytpgkhhdobolfbaa
set_option linter.unusedVariables false
set_option linter.unusedSimpArgs false
open Go Go.RowKit

theorem open_good {m : Im} {w w' : World} {e : Ending} (h : OpenR m w e w') (hg : m.good = true) : ∃ b g k, e = .returned (.tuple #[.pointer (some ⟨b, 0, none⟩), .int .i64 0]) ∧ View w' b g m.lay m.O k m.l ∧ w.heap.size ≤ b ∧ w.heap.size ≤ g ∧ b ≠ g := by
  obtain ⟨_, h⟩ := h
  rw [if_pos hg] at h
  obtain ⟨b, g, k, h1, h2, h3, h4⟩ := h
  refine ⟨b, g, k, h1, h2, h3, h4, fun e => ?_⟩
  subst e
  have h5 := h2.blk
  have hl := h2.len
  have hok := m.good_ok hg
  have hpos : 0 < m.lay.size := by
    have := (hok.place_row (x := 0) (y := 0) (c := 0) (j := 0) hok.w1 hok.h1 hok.c1 (by rcases hok.bits with e | e <;> omega)).2.2.2
    omega
  have hc := h2.oct_at (p := 0) (by omega)
  have h0 := h5.cell (i := 0) rfl
  rw [h0] at hc
  simp at hc

theorem open_bad {m : Im} {w w' : World} {e : Ending} (h : OpenR m w e w') (hg : m.good = false) : e = .returned (.tuple #[.pointer none, .int .i64 420]) := by
  obtain ⟨_, h⟩ := h
  rw [if_neg (by rw [hg]; decide)] at h
  exact h

/-- An image's value in cells. -/
theorem imgC (m : Im) : m.v = .agg #[.int .i64 m.W, .int .i64 m.H, .int .i64 m.C, .int .i64 m.B, .bool m.P, .int .i64 m.Pd, .string m.O] := rfl

set_option maxHeartbeats 1600000 in
theorem check_calls (m : Im) (w : World) : Calls Try.prog 19 #[m.v] w fun e w' => e = .returned (.int .i64 (checkS m)) ∧ Below w.heap.size w w' := by
  obtain ⟨mW, mH, mC, mB, mP, mPd, mO, hm⟩ : ∃ a b c d e f g, m = ⟨a, b, c, d, e, f, g⟩ := ⟨_, _, _, _, _, _, _, rfl⟩
  have HF := Lib.hid (fun w => open_calls m w)
  have hv : m.v = .agg #[.int .i64 mW, .int .i64 mH, .int .i64 mC, .int .i64 mB, .bool mP, .int .i64 mPd, .string mO] := by rw [hm]; rfl
  rw [hv] at HF ⊢
  clear hm hv
  go_enter Try.func19, Try.ntmps19
  go_upto_region 1 with fail
  refine wp_named ?_
  intro w1 hw1
  have b0 : Blk w1 w.heap.size [.int .i64 mW, .int .i64 mH, .int .i64 mC, .int .i64 mB, .bool mP, .int .i64 mPd, .string mO] 24 := by rw [hw1]; exact Blk.new _ _ _
  have hb1 : Below w.heap.size w w1 := by rw [hw1]; repeat (first | exact below_alloc _ | refine below_trans ?_ (below_alloc _))
  clear hw1
  have c0 := b0.cell (i := 0) rfl
  have c1 := b0.cell (i := 1) rfl
  have c2 := b0.cell (i := 2) rfl
  have c3 := b0.cell (i := 3) rfl
  have c4 := b0.cell (i := 4) rfl
  have c5 := b0.cell (i := 5) rfl
  have c6 := b0.cell (i := 6) rfl
  have HB := Lib.hid hb1
  clear b0 hb1
  go_wp2_with fail
  refine (HF.out w1).mono ?_
  rintro r w2 hr
  have HC := Lib.hid (below_trans HB.out hr.1)
  cases hg : m.good with
  | false =>
    have hr2 := open_bad hr hg
    have HG := Lib.hid (show checkS m = 420 by unfold checkS; rw [hg]; rfl)
    clear hr hg c0 c1 c2 c3 c4 c5 c6
    subst hr2
    go_wp2
    go_ret
    exact ⟨by rw [HG.out]; rfl, HC.out⟩
  | true =>
    obtain ⟨b, g, k, hr2, _, _⟩ := open_good hr hg
    have HG := Lib.hid (show checkS m = 0 by unfold checkS; rw [hg]; rfl)
    clear hr hg c0 c1 c2 c3 c4 c5 c6
    subst hr2
    go_wp2
    go_ret
    exact ⟨by rw [HG.out]; rfl, HC.out⟩

set_option maxHeartbeats 1600000 in
theorem stridem_calls (m : Im) (w : World) : Calls Try.prog 13 #[m.v] w fun e w' => e = .returned (.tuple #[.int .i64 (strideS m).1, .int .i64 (strideS m).2]) ∧ Below w.heap.size w w' := by
  obtain ⟨mW, mH, mC, mB, mP, mPd, mO, hm⟩ : ∃ a b c d e f g, m = ⟨a, b, c, d, e, f, g⟩ := ⟨_, _, _, _, _, _, _, rfl⟩
  have HF := Lib.hid (fun w => open_calls m w)
  have hv : m.v = .agg #[.int .i64 mW, .int .i64 mH, .int .i64 mC, .int .i64 mB, .bool mP, .int .i64 mPd, .string mO] := by rw [hm]; rfl
  rw [hv] at HF ⊢
  clear hm hv
  go_enter Try.func13, Try.ntmps13
  go_upto_region 1 with fail
  refine wp_named ?_
  intro w1 hw1
  have b0 : Blk w1 w.heap.size [.int .i64 mW, .int .i64 mH, .int .i64 mC, .int .i64 mB, .bool mP, .int .i64 mPd, .string mO] 24 := by rw [hw1]; exact Blk.new _ _ _
  have hb1 : Below w.heap.size w w1 := by rw [hw1]; repeat (first | exact below_alloc _ | refine below_trans ?_ (below_alloc _))
  clear hw1
  have c0 := b0.cell (i := 0) rfl
  have c1 := b0.cell (i := 1) rfl
  have c2 := b0.cell (i := 2) rfl
  have c3 := b0.cell (i := 3) rfl
  have c4 := b0.cell (i := 4) rfl
  have c5 := b0.cell (i := 5) rfl
  have c6 := b0.cell (i := 6) rfl
  have HB := Lib.hid hb1
  clear b0 hb1
  go_wp2_with fail
  refine (HF.out w1).mono ?_
  rintro r w2 hr
  have HC := Lib.hid (below_trans HB.out hr.1)
  cases hg : m.good with
  | false =>
    have hr2 := open_bad hr hg
    have HG := Lib.hid (show strideS m = (0, 420) by unfold strideS; rw [hg]; rfl)
    clear hr hg c0 c1 c2 c3 c4 c5 c6
    subst hr2
    go_wp2
    go_ret2
    exact ⟨by rw [HG.out]; rfl, HC.out⟩
  | true =>
    obtain ⟨b, g, k, hr2, hvw, _⟩ := open_good hr hg
    have HG := Lib.hid (show strideS m = (((m.lay.stride : Nat) : Int), (0 : Int)) by unfold strideS; rw [hg]; rfl)
    have HV := Lib.hid (And.intro (m.good_ok hg) hvw)
    clear hr hg hvw c0 c1 c2 c3 c4 c5 c6
    subst hr2
    go_wp2_with fail
    refine (stride_calls HV.out.1 HV.out.2.blk).mono ?_
    rintro e w3 ⟨rfl, hb3⟩
    have HD := Lib.hid (below_trans HC.out hb3)
    clear hb3 HV
    go_wp2
    go_ret2
    exact ⟨by rw [HG.out]; rfl, HD.out⟩

/-- The answer of at. -/
def AtR (m : Im) (x y : Int) (w : World) (e : Ending) (w' : World) : Prop :=
  Below w.heap.size w w' ∧ if m.good then (if thereB m x y then ∃ b g k, e = .returned (.tuple #[.pointer (some ⟨b, 0, none⟩), .int .i64 0]) ∧ View w' b g m.lay m.O k m.l ∧ w.heap.size ≤ b ∧ w.heap.size ≤ g ∧ b ≠ g else e = .returned (.tuple #[.pointer none, .int .i64 2])) else e = .returned (.tuple #[.pointer none, .int .i64 420])

set_option maxHeartbeats 1600000 in
theorem at_calls (m : Im) (x y : Int) (w : World) : Calls Try.prog 38 #[m.v, .int .i64 x, .int .i64 y] w fun e w' => AtR m x y w e w' := by
  obtain ⟨mW, mH, mC, mB, mP, mPd, mO, hm⟩ : ∃ a b c d e f g, m = ⟨a, b, c, d, e, f, g⟩ := ⟨_, _, _, _, _, _, _, rfl⟩
  have HF := Lib.hid (fun w => open_calls m w)
  have hv : m.v = .agg #[.int .i64 mW, .int .i64 mH, .int .i64 mC, .int .i64 mB, .bool mP, .int .i64 mPd, .string mO] := by rw [hm]; rfl
  rw [hv] at HF ⊢
  have HM := Lib.hid hm
  clear hm hv
  go_enter Try.func38, Try.ntmps38
  go_upto_region 1 with fail
  refine wp_named ?_
  intro w1 hw1
  have b0 : Blk w1 w.heap.size [.int .i64 mW, .int .i64 mH, .int .i64 mC, .int .i64 mB, .bool mP, .int .i64 mPd, .string mO] 24 := by rw [hw1]; exact Blk.new _ _ _
  have hb1 : Below w.heap.size w w1 := by rw [hw1]; repeat (first | exact below_alloc _ | refine below_trans ?_ (below_alloc _))
  clear hw1
  have c0 := b0.cell (i := 0) rfl
  have c1 := b0.cell (i := 1) rfl
  have c2 := b0.cell (i := 2) rfl
  have c3 := b0.cell (i := 3) rfl
  have c4 := b0.cell (i := 4) rfl
  have c5 := b0.cell (i := 5) rfl
  have c6 := b0.cell (i := 6) rfl
  have HB := Lib.hid hb1
  clear b0 hb1
  go_wp2_with fail
  refine (HF.out w1).mono ?_
  rintro r w2 hr
  have hbw := below_trans HB.out hr.1
  cases hg : m.good with
  | false =>
    have hr2 := open_bad hr hg
    have HC := Lib.hid (show ∀ w', Below w.heap.size w w' → AtR m x y w (.returned (.tuple #[.pointer none, .int .i64 420])) w' from fun w' h => ⟨h, by rw [hg]; rfl⟩)
    have HG := Lib.hid hbw
    clear hr hg c0 c1 c2 c3 c4 c5 c6 hbw
    subst hr2
    go_wp2
    go_ret2
    exact HC.out _ HG.out
  | true =>
    obtain ⟨b, g, k, hr2, hvw, hgb, hgg, hne⟩ := open_good hr hg
    have hok := m.good_ok hg
    have n := (m.good_val hg).nums
    have v0 := hvw.blk.cell (i := 0) rfl
    have hW1 : 1 ≤ m.lay.W ∧ m.lay.W ≤ 64 := ⟨hok.w1, hok.w2⟩
    have hH1 : 1 ≤ m.lay.H ∧ m.lay.H ≤ 64 := ⟨hok.h1, hok.h2⟩
    obtain ⟨lW, hlW⟩ : ∃ q, m.lay.W = q := ⟨_, rfl⟩
    obtain ⟨lH, hlH⟩ : ∃ q, m.lay.H = q := ⟨_, rfl⟩
    rw [hlW] at v0 hW1
    rw [hlH] at hH1
    have hwW : IntKind.i64.wrap ((lW : Int) - 1) = (lW : Int) - 1 := by rw [IntWalk.i64_left]; unfold wrap64; omega
    have hwH : IntKind.i64.wrap ((lH : Int) - 1) = (lH : Int) - 1 := by rw [IntWalk.i64_left]; unfold wrap64; omega
    have hth : thereB m x y = (betw 0 ((lW : Int) - 1) [x] && betw 0 ((lH : Int) - 1) [y]) := by
      unfold thereB
      rw [n.w, n.h, hlW, hlH, Bool.eq_iff_iff, Bool.and_eq_true, decide_eq_true_iff, betw_one, betw_one]
      omega
    have HC := Lib.hid (And.intro hvw (And.intro hbw (And.intro (Nat.le_trans HB.out.size hgb) (And.intro (Nat.le_trans HB.out.size hgg) (And.intro hne (And.intro hlH (And.intro hth hg)))))))
    clear hr hg hvw hbw hgb hgg hne hok n hW1 hH1 hlW hlH hth c0 c1 c2 c3 c4 c5 c6
    subst hr2
    go_wp2_with fail
    refine calls_named ?_
    intro w3 hw3
    have bs : Blk w3 w2.heap.size ([x].map (Value.int .i64)) 3 := by rw [hw3]; exact Blk.new _ _ _
    have hb3 : Below w2.heap.size w2 w3 := by rw [hw3]; exact below_alloc _
    clear hw3 v0 hwW
    refine (between_calls (some ⟨w2.heap.size, 0, none⟩) 1 [x] 0 ((lW : Int) - 1) w3 (blk_row bs) (by simp)).mono ?_
    rintro r w4 ⟨rfl, hb4⟩
    have hb24 := below_trans hb3 hb4
    have v1 := (HC.out.1.kept hb24).blk.cell (i := 1) rfl
    rw [HC.out.2.2.2.2.2.1] at v1
    have HD := Lib.hid hb24
    clear bs hb3 hb4 hb24
    cases hx : betw 0 ((lW : Int) - 1) [x] with
    | false =>
      have HX := Lib.hid (show ∀ w', Below w.heap.size w w' → AtR m x y w (.returned (.tuple #[.pointer none, .int .i64 2])) w' from fun w' h => ⟨h, by rw [HC.out.2.2.2.2.2.2.2, HC.out.2.2.2.2.2.2.1, hx]; rfl⟩)
      clear hx
      go_wp2
      go_ret2
      exact HX.out _ (below_trans HC.out.2.1 HD.out)
    | true =>
      have HX := Lib.hid hx
      clear hx
      go_wp2_with fail
      refine calls_named ?_
      intro w5 hw5
      have bs : Blk w5 w4.heap.size ([y].map (Value.int .i64)) 3 := by rw [hw5]; exact Blk.new _ _ _
      have hb5 : Below w4.heap.size w4 w5 := by rw [hw5]; exact below_alloc _
      clear hw5 v1 hwH
      refine (between_calls (some ⟨w4.heap.size, 0, none⟩) 1 [y] 0 ((lH : Int) - 1) w5 (blk_row bs) (by simp)).mono ?_
      rintro r w6 ⟨rfl, hb6⟩
      have HE := Lib.hid (below_trans HD.out (below_trans hb5 hb6))
      clear bs hb5 hb6
      cases hy : betw 0 ((lH : Int) - 1) [y] with
      | false =>
        have HY := Lib.hid (show ∀ w', Below w.heap.size w w' → AtR m x y w (.returned (.tuple #[.pointer none, .int .i64 2])) w' from fun w' h => ⟨h, by rw [HC.out.2.2.2.2.2.2.2, HC.out.2.2.2.2.2.2.1, HX.out, hy]; rfl⟩)
        clear hy
        go_wp2
        go_ret2
        exact HY.out _ (below_trans HC.out.2.1 HE.out)
      | true =>
        have HY := Lib.hid hy
        clear hy
        go_wp2
        go_ret2
        refine ⟨below_trans HC.out.2.1 HE.out, ?_⟩
        rw [HC.out.2.2.2.2.2.2.2, HC.out.2.2.2.2.2.2.1, HX.out, HY.out]
        exact ⟨b, g, k, rfl, HC.out.1.kept HE.out, HC.out.2.2.1, HC.out.2.2.2.1, HC.out.2.2.2.2.1⟩
end Go.Proofs.Ytpgkhhdobolfbaa
