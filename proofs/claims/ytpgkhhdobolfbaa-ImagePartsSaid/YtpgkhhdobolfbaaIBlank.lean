/-
  image.blank, view.closed: what each call returns.
-/
import Derived.Test.YtpgkhhdobolfbaaIOpen
import Derived.Deep.DeepCutAuto
import Derived.Test.YtpgkhhdobolfbaaIRange
namespace Go.Proofs.Ytpgkhhdobolfbaa
set_option linter.unusedVariables false
set_option linter.unusedSimpArgs false
open Go Go.RowKit

set_option maxHeartbeats 1600000 in
theorem closed_calls {L : Lay} {w : World} {b g k : Nat} {O : ByteArray} {l : List UInt8} (hok : L.Ok) (hv : Blk w b (viewC L O (.slice (some ⟨g, 0, none⟩) l.length k)) 86) (ho : Oct w g l) (hne : b ≠ g) :
    Calls Try.prog 42 #[.pointer (some ⟨b, 0, none⟩)] w fun e w' => e = .returned (.agg #[.int .i64 (L.W : Nat), .int .i64 (L.H : Nat), .int .i64 (L.C : Nat), .int .i64 ((8 * L.k : Nat) : Int), .bool L.P, .int .i64 (L.pd : Nat), .string ⟨l.toArray⟩]) ∧
      OffZ b (b + 1) w w' := by
  have hcv : ∀ W, Below w.heap.size w W → (convert 41 9 (.slice (some ⟨g, 0, none⟩) l.length k)).run Try.prog W = .ok (.string ⟨l.toArray⟩) W := fun W hW => by
    refine run_convert_bytes_back (P := Try.prog) W 41 9 5 ⟨g, 0, none⟩ k l Try.underlying41 Try.underlying5 Try.underlying9 fun j hj => ?_
    have := (ho.kept hW).cell j l[j] (by simp [hj])
    unfold Addr.add
    split
    · rename_i h; subst h; exact this
    · simpa using this
  have HC := Lib.hid hcv
  have HH := Lib.hid (And.intro hok (And.intro hv (And.intro ho hne)))
  obtain ⟨n, hn⟩ : ∃ n, l.length = n := ⟨_, rfl⟩
  obtain ⟨S, hS⟩ : ∃ S : ByteArray, ⟨l.toArray⟩ = S := ⟨_, rfl⟩
  rw [hn] at HC
  obtain ⟨B, hB⟩ : ∃ B : Int, ((8 * L.k : Nat) : Int) = B := ⟨_, rfl⟩
  rw [hS] at HC ⊢
  rw [hB]
  clear hcv hok ho hne hS
  go_enter Try.func42, Try.ntmps42
  go_upto_region 1 with fail
  refine wp_named ?_
  intro w1 hw1
  have hb1 : Below w.heap.size w w1 := by rw [hw1]; repeat (first | exact below_alloc _ | refine below_trans ?_ (below_alloc _))
  have hsz : w1.heap.size = w.heap.size + 1 := by rw [hw1]; simp
  have br : Blk w1 w.heap.size [.int .i64 0, .int .i64 0, .int .i64 0, .int .i64 0, .bool false, .int .i64 0, .string ⟨#[]⟩] 24 := by rw [hw1]; exact Blk.new _ _ _
  have bv := hv.kept hb1
  rw [hn] at bv
  have hlt := hv.lt
  have hcw := HC.out w1 hb1
  clear hw1 hv hn
  have v7 := bv.cell (i := 7) rfl
  have v6 := bv.cell (i := 6) rfl
  have f6 := bv.free 6
  have HB := Lib.hid (And.intro br (And.intro bv (And.intro hb1 (And.intro hsz hlt))))
  clear br bv hb1 hsz hlt HC
  go_upto_region 2 with fail
  refine wp_named ?_
  intro w2 hw2
  have br : Blk w2 w.heap.size [.int .i64 0, .int .i64 0, .int .i64 0, .int .i64 0, .bool false, .int .i64 0, .string ⟨#[]⟩] 24 := by
    rw [hw2]; exact HB.out.1.other (by show w.heap.size ≠ b; have := HB.out.2.2.2.2; omega) _
  have bv : Blk w2 b (viewC L S (.slice (some ⟨g, 0, none⟩) n k)) 86 := by rw [hw2]; exact HB.out.2.1.set 6 _
  have hz : OffZ b (b + 1) w w2 := by rw [hw2]; exact (OffZ.of_below HB.out.2.2.1).trans (OffZ.setCell _ (Nat.le_refl b) (Nat.lt_succ_self b) _)
  clear hw2 hcw v7 v6 f6
  have v0 := bv.cell (i := 0) rfl
  have v1 := bv.cell (i := 1) rfl
  have v2 := bv.cell (i := 2) rfl
  have v3 : w2.cell? ⟨b, 3, none⟩ = some (.int .i64 B) := by rw [← hB]; exact bv.cell (i := 3) rfl
  have v4 := bv.cell (i := 4) rfl
  have v5 := bv.cell (i := 5) rfl
  have v6 := bv.cell (i := 6) rfl
  have hoz : ∀ v0 v1 v2 v3 v4 v5 v6 : Value, OffZ b (b + 1) w (((((((w2.setCell ⟨w.heap.size, 0, none⟩ v0).setCell ⟨w.heap.size, 1, none⟩ v1).setCell ⟨w.heap.size, 2, none⟩ v2).setCell ⟨w.heap.size, 3, none⟩ v3).setCell ⟨w.heap.size, 4, none⟩ v4).setCell ⟨w.heap.size, 5, none⟩ v5).setCell ⟨w.heap.size, 6, none⟩ v6) := by
    intro v0 v1 v2 v3 v4 v5 v6
    have hs : ∀ A v i, OffZ b (b + 1) w A → OffZ b (b + 1) w (A.setCell ⟨w.heap.size, i, none⟩ v) := fun A v i h =>
      ⟨h.os, h.tape, h.output, by simp [World.setCell]; exact h.size, fun c hc hz => (Below.heap_setCell _ _ _ _ (by show c ≠ w.heap.size; omega)).trans (h.block c hc hz)⟩
    exact hs _ _ _ (hs _ _ _ (hs _ _ _ (hs _ _ _ (hs _ _ _ (hs _ _ _ (hs _ _ _ hz))))))
  have r0 := br.cell (i := 0) rfl
  have r1 := br.cell (i := 1) rfl
  have r2 := br.cell (i := 2) rfl
  have r3 := br.cell (i := 3) rfl
  have r4 := br.cell (i := 4) rfl
  have r5 := br.cell (i := 5) rfl
  have r6 := br.cell (i := 6) rfl
  have f0 := br.free 0
  have f1 := br.free 1
  have f2 := br.free 2
  have f3 := br.free 3
  have f4 := br.free 4
  have f5 := br.free 5
  have f6 := br.free 6
  have HZ := Lib.hid hoz
  clear HB br bv hz hoz hB
  go_wp2_with fail
  refine bodyPost_ret (v := .agg #[.int .i64 (L.W : Nat), .int .i64 (L.H : Nat), .int .i64 (L.C : Nat), .int .i64 B, .bool L.P, .int .i64 (L.pd : Nat), .string S]) (by simp [results, Try.results42, go_sem, *]) rfl ⟨rfl, HZ.out _ _ _ _ _ _ _⟩

/-- The answer of blank. -/
def BlankR (m : Im) (w : World) (e : Ending) (w' : World) : Prop :=
  Below w.heap.size w w' ∧ if m.shp then ∃ b g k, e = .returned (.tuple #[.pointer (some ⟨b, 0, none⟩), .int .i64 0]) ∧ View w' b g m.lay m.O k (List.replicate m.lay.size 0) ∧ w.heap.size ≤ b ∧ b < g else e = .returned (.tuple #[.pointer none, .int .i64 2])

set_option maxHeartbeats 1600000 in
theorem blank_calls (m : Im) (w : World) : Calls Try.prog 43 #[m.v] w fun e w' => BlankR m w e w' := by
  obtain ⟨mW, mH, mC, mB, mP, mPd, mO, hm⟩ : ∃ a b c d e f g, m = ⟨a, b, c, d, e, f, g⟩ := ⟨_, _, _, _, _, _, _, rfl⟩
  have HF := Lib.hid (fun w => shaped_img m w)
  have hv : m.v = .agg #[.int .i64 mW, .int .i64 mH, .int .i64 mC, .int .i64 mB, .bool mP, .int .i64 mPd, .string mO] := by rw [hm]; rfl
  rw [hv] at HF ⊢
  have HM := Lib.hid hm
  clear hm hv
  go_enter Try.func43, Try.ntmps43
  go_upto_region 1 with fail
  refine wp_named ?_
  intro w1 hw1
  have b0 : Blk w1 w.heap.size [.int .i64 mW, .int .i64 mH, .int .i64 mC, .int .i64 mB, .bool mP, .int .i64 mPd, .string mO] 24 := by rw [hw1]; exact Blk.new _ _ _
  have hb1 : Below w.heap.size w w1 := by rw [hw1]; repeat (first | exact below_alloc _ | refine below_trans ?_ (below_alloc _))
  clear hw1
  have c0 := b0.cell (i := 0) rfl
  have c1 := b0.cell (i := 1) rfl
  have c2 := b0.cell (i := 2) rfl
  have c3 := b0.cell (i := 3) rfl
  have c4 := b0.cell (i := 4) rfl
  have c5 := b0.cell (i := 5) rfl
  have c6 := b0.cell (i := 6) rfl
  have HB := Lib.hid (And.intro b0 hb1)
  clear b0 hb1
  go_wp2_with fail
  refine (HF.out w1).mono ?_
  rintro r w2 ⟨rfl, hb2⟩
  have b0 := HB.out.1.kept hb2
  have hbw := below_trans HB.out.2 hb2
  clear HB hb2 c0 c1 c2 c3 c4 c5 c6
  have c0 := b0.cell (i := 0) rfl
  have c1 := b0.cell (i := 1) rfl
  have c2 := b0.cell (i := 2) rfl
  have c3 := b0.cell (i := 3) rfl
  have c4 := b0.cell (i := 4) rfl
  have c5 := b0.cell (i := 5) rfl
  have c6 := b0.cell (i := 6) rfl
  have HB := Lib.hid hbw
  clear b0 hbw
  cases hS : m.shp with
  | false =>
    have HS := Lib.hid hS
    clear hS c0 c1 c2 c3 c4 c5 c6
    go_wp2
    go_ret2
    refine ⟨HB.out, ?_⟩
    rw [HS.out]
    exact rfl
  | true =>
    obtain ⟨L, hL⟩ : ∃ L, m.lay = L := ⟨_, rfl⟩
    have n : Nums L mW mH mC mB mP mPd := by
      rw [← hL]
      have := lay_nums (of_decide_eq_true hS) m.P
      rw [HM.out] at this ⊢
      exact this
    obtain ⟨hok, rfl, rfl, rfl, rfl, rfl, rfl⟩ := n
    obtain ⟨N1, hN1⟩ : ∃ x, L.rows = x := ⟨_, rfl⟩
    obtain ⟨N2, hN2⟩ : ∃ x, L.stride = x := ⟨_, rfl⟩
    obtain ⟨N, hN⟩ : ∃ x, N1 * N2 = x := ⟨_, rfl⟩
    have hsize : L.size = N := by unfold Lay.size; rw [hN1, hN2, hN]
    have hNb : N ≤ 140000 := by
      have h1 := hok.h2
      have h2 := hok.c2
      have h3 : L.H * L.C ≤ 64 * 4 := Nat.mul_le_mul h1 h2
      have h4 : N1 ≤ 256 := by rw [← hN1]; unfold Lay.rows; split <;> omega
      have h5 := hok.stride_row.2.1
      have h6 := hok.row_pos.2
      have h7 : L.pd ≤ 8 := by rcases hok.pad with e | e | e | e <;> omega
      have h8 : N1 * N2 ≤ 256 * 520 := Nat.mul_le_mul h4 (by omega)
      omega
    have hw1 : IntKind.i64.wrap ((N1 : Int) * (N2 : Int)) = (N : Int) := by rw [← Int.natCast_mul, hN]; exact wrap_id (by omega)
    have HV := Lib.hid (And.intro hok (And.intro hL (And.intro hN1 (And.intro hN2 (And.intro hsize (And.intro hS hNb))))))
    clear hL hN1 hN2 hN hsize hS hok hNb
    go_wp2_with fail
    refine calls_named ?_
    intro w3 hw3
    have bv : Blk w3 w2.heap.size (viewC L mO (.slice none 0 0)) 86 := by rw [hw3]; exact Blk.new _ _ _
    have hb3 : Below w.heap.size w w3 := by rw [hw3]; exact below_trans HB.out (below_alloc _)
    clear hw3 c0 c1 c2 c3 c4 c5 c6
    refine (rows_calls HV.out.1 bv).mono ?_
    rintro r w4 ⟨rfl, hb4⟩
    rw [HV.out.2.2.1]
    have HC := Lib.hid (And.intro (bv.kept hb4) (below_trans hb3 hb4))
    clear bv hb3 hb4
    go_wp2_with fail
    refine (stride_calls HV.out.1 HC.out.1).mono ?_
    rintro r w5 ⟨rfl, hb5⟩
    rw [HV.out.2.2.2.1]
    have bv := HC.out.1.kept hb5
    have v7 := bv.cell (i := 7) rfl
    have f7 := bv.free 7
    have HD := Lib.hid (And.intro bv (And.intro (below_trans HC.out.2 hb5) HB.out.size))
    clear HC hb5 bv
    obtain ⟨w6, hmk, hoct, hb6, _⟩ := make_bytes w5 N HV.out.2.2.2.2.2.2
    have HE := Lib.hid (And.intro hoct (And.intro hb6 (Nat.lt_of_lt_of_le HD.out.1.lt (Nat.le_refl _))))
    replace v7 := Ytpgkhhdobolfbaa.kept hb6 v7
    replace f7 := ((HD.out.1.kept hb6).free 7)
    clear hoct hb6
    go_upto_region 5 with fail
    clear hmk v7 f7
    refine wp_named ?_
    intro w7 hw7
    have hfin : BlankR m w (.returned (.tuple #[.pointer (some ⟨w2.heap.size, 0, none⟩), .int .i64 0])) w7 := by
      refine ⟨?_, ?_⟩
      · rw [hw7]
        exact (below_trans HD.out.2.1 HE.out.2.1).setCell (by have := HD.out.2.2; exact this) _
      · rw [HV.out.2.2.2.2.2.1]
        refine ⟨w2.heap.size, w5.heap.size, N, rfl, ?_, HD.out.2.2, HE.out.2.2⟩
        have hmo : m.O = mO := by rw [HM.out]
        rw [HV.out.2.1, HV.out.2.2.2.2.1, hmo]
        refine ⟨?_, ?_, by rw [List.length_replicate, HV.out.2.2.2.2.1]⟩
        · rw [hw7, List.length_replicate]
          exact (HD.out.1.kept HE.out.2.1).set 7 _
        · rw [hw7]
          exact HE.out.1.other (by show w2.heap.size ≠ w5.heap.size; have := HE.out.2.2; omega) _
    have HFin := Lib.hid hfin
    clear hw7 hfin
    go_wp2
    go_ret2
    exact HFin.out
end Go.Proofs.Ytpgkhhdobolfbaa
