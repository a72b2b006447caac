/-
  The reference's stride and place.
-/
import Derived.Test.YtpgkhhdobolfbaaIRefA
import Derived.Deep.DeepCutAuto
namespace Go.Proofs.Ytpgkhhdobolfbaa
set_option linter.unusedVariables false
set_option linter.unusedSimpArgs false
open Go Go.RowKit

theorem stride_is {L : Lay} (h : L.Ok) {n : Nat} (h1 : L.row ≤ n) (h2 : n ≤ L.stride) (h3 : n % L.pd = 0) : n = L.stride := by
  obtain ⟨g1, g2, g3⟩ := h.stride_row
  have hpd := h.pad
  obtain ⟨p, hp⟩ : ∃ p, L.pd = p := ⟨_, rfl⟩
  obtain ⟨s, hs⟩ : ∃ s, L.stride = s := ⟨_, rfl⟩
  rw [hp] at g2 g3 h3 hpd
  rw [hs] at g1 g2 g3 h2 ⊢
  rcases hpd with rfl | rfl | rfl | rfl <;> omega

set_option maxHeartbeats 1600000 in
theorem refstride_calls {L : Lay} (h : L.Ok) (O : ByteArray) (w : World) : Calls Try.prog 55 #[imV L O] w fun e w' => e = .returned (.int .i64 (L.stride : Nat)) ∧ Below w.heap.size w w' := by
  have HF := Lib.hid (fun w => refrow_calls h O w)
  have HL := Lib.hid h
  have hp0 : ¬ L.pd = 0 := by rcases h.pad with e | e | e | e <;> omega
  unfold imV at HF ⊢
  clear h
  go_enter Try.func55, Try.ntmps55
  go_upto_region 1 with fail
  refine wp_named ?_
  intro w1 hw1
  have b0 : Blk w1 w.heap.size (imL L O) 24 := by rw [hw1]; exact Blk.new _ _ _
  have hb1 : Below w.heap.size w w1 := by rw [hw1]; exact below_alloc _
  clear hw1
  have c0 := b0.cell (i := 0) rfl
  have c1 := b0.cell (i := 1) rfl
  have c2 := b0.cell (i := 2) rfl
  have c3 := b0.cell (i := 3) rfl
  have c4 := b0.cell (i := 4) rfl
  have c5 := b0.cell (i := 5) rfl
  have c6 := b0.cell (i := 6) rfl
  have HB := Lib.hid (And.intro b0 hb1)
  clear b0 hb1
  go_wp2_with fail
  refine (HF.out w1).mono ?_
  rintro r w2 ⟨rfl, hb2⟩
  have b0 := HB.out.1.kept hb2
  have hbw := below_trans HB.out.2 hb2
  clear c0 c1 c2 c3 c4 c5 c6 hb2 HB
  have c5 := b0.cell (i := 5) rfl
  have HB := Lib.hid hbw
  clear b0 hbw
  go_wp2_with fail
  go_loop [3] (fun i => ∃ n : Nat, L.row ≤ n ∧ n ≤ L.stride ∧ i = .int .i64 n) (fun i => L.stride - (intOf i).toNat)
  case atStart => exact ⟨L.row, Nat.le_refl _, HL.out.stride_row.1, rfl⟩
  case round =>
    obtain ⟨n, h1, h2, rfl⟩ := hrel
    have hst : L.stride ≤ 600 := by
      have := HL.out.stride_row.2.1
      have := HL.out.row_pos.2
      rcases HL.out.pad with e | e | e | e <;> omega
    have hmd : Int.tmod (n : Int) (L.pd : Int) = ((n % L.pd : Nat) : Int) := by rw [Int.tmod_eq_emod_of_nonneg (by omega)]; rfl
    obtain ⟨q, hq⟩ : ∃ q, n % L.pd = q := ⟨_, rfl⟩
    rw [hq] at hmd
    have HN := Lib.hid (And.intro h1 (And.intro h2 (And.intro hq hst)))
    clear h1 h2 hq hst
    by_cases hq0 : q = 0
    · subst hq0
      go_wp2_with fail
      go_ret
      have e := stride_is HL.out HN.out.1 HN.out.2.1 HN.out.2.2.1
      exact ⟨by rw [← e]; rfl, HB.out⟩
    · have hwk : wrap64 ((n : Int) + 1) = ((n + 1 : Nat) : Int) := by have := HN.out; unfold wrap64; omega
      have hqb : ((q : Int) != 0) = true := by simp; omega
      have HQ := Lib.hid hq0
      clear hq0
      go_wp2_with fail
      go_round
      case rel =>
        refine ⟨n + 1, by have := HN.out; omega, ?_, by go_num⟩
        have g := HN.out
        have hne : n ≠ L.stride := fun e => by
          have := HL.out.stride_row.2.2
          rw [← e] at this
          have h3 := HQ.out
          omega
        omega
      case measure =>
        have g := HN.out
        have hne : n ≠ L.stride := fun e => by
          have := HL.out.stride_row.2.2
          rw [← e] at this
          have h3 := HQ.out
          omega
        have hlt : n < L.stride := by omega
        exact meas rfl (by go_num) hlt
end Go.Proofs.Ytpgkhhdobolfbaa
