/-
  The reference's zeros, Make.
-/
import Derived.Test.YtpgkhhdobolfbaaIRefC
import Derived.Test.YtpgkhhdobolfbaaIMake
namespace Go.Proofs.Ytpgkhhdobolfbaa
set_option linter.unusedVariables false
set_option linter.unusedSimpArgs false
open Go Go.RowKit

theorem string_of_oct {W : World} {g : Nat} {l : List UInt8} (ho : Oct W g l) (k : Nat) : (convert 41 9 (.slice (some ⟨g, 0, none⟩) l.length k)).run Try.prog W = .ok (.string ⟨l.toArray⟩) W := by
  refine run_convert_bytes_back (P := Try.prog) W 41 9 5 ⟨g, 0, none⟩ k l Try.underlying41 Try.underlying5 Try.underlying9 fun j hj => ?_
  have := ho.cell j l[j] (by simp [hj])
  unfold Addr.add
  split
  · rename_i h; subst h; exact this
  · simpa using this

theorem refzeros_calls (n : Nat) (hn : n ≤ 140000) (w : World) : Calls Try.prog 57 #[.int .i64 (n : Nat)] w fun e w' => e = .returned (.string ⟨(List.replicate n 0).toArray⟩) ∧ Below w.heap.size w w' := by
  obtain ⟨w1, hmk, ho, hb, _⟩ := make_bytes w n hn
  have hcv := string_of_oct ho n
  rw [List.length_replicate] at hcv
  obtain ⟨S, hS⟩ : ∃ S : ByteArray, ⟨(List.replicate n 0).toArray⟩ = S := ⟨_, rfl⟩
  rw [hS] at hcv ⊢
  have HB := Lib.hid hb
  clear ho hb hS hn
  go_enter Try.func57, Try.ntmps57
  go_wp2
  go_ret
  exact ⟨rfl, HB.out⟩

set_option maxRecDepth 100000 in
set_option maxHeartbeats 3200000 in
theorem refmake_calls (mW mH mC mB : Int) (mP : Bool) (mPd : Int) (w : World) :
    Calls Try.prog 26 #[.int .i64 mW, .int .i64 mH, .int .i64 mC, .int .i64 mB, .bool mP, .int .i64 mPd] w fun e w' => e = .returned (.tuple #[(makeS mW mH mC mB mP mPd).1.v, .int .i64 (makeS mW mH mC mB mP mPd).2]) ∧ Below w.heap.size w w' := by
  go_enter Try.func26, Try.ntmps26
  go_upto_region 2 with fail
  refine wp_named ?_
  intro w1 hw1
  have br : Blk w1 w.heap.size zeroC 24 := by rw [hw1]; exact (Blk.new _ _ _).alloc _
  have bm : Blk w1 (w.heap.size + 1) [.int .i64 mW, .int .i64 mH, .int .i64 mC, .int .i64 mB, .bool mP, .int .i64 mPd, .string ⟨#[]⟩] 24 := by rw [hw1]; exact Blk.at (by simp)
  have hb1 : Below w.heap.size w w1 := by rw [hw1]; repeat (first | exact below_alloc _ | refine below_trans ?_ (below_alloc _))
  clear hw1
  have c0 := bm.cell (i := 0) rfl
  have c1 := bm.cell (i := 1) rfl
  have c2 := bm.cell (i := 2) rfl
  have c3 := bm.cell (i := 3) rfl
  have c4 := bm.cell (i := 4) rfl
  have c5 := bm.cell (i := 5) rfl
  have c6 := bm.cell (i := 6) rfl
  have HB := Lib.hid (And.intro br (And.intro bm hb1))
  clear br bm hb1
  go_wp2_with fail
  refine (refshaped_calls mW mH mC mB mP mPd ⟨#[]⟩ w1).mono ?_
  rintro r w2 ⟨rfl, hb2⟩
  have br := HB.out.1.kept hb2
  have bm := HB.out.2.1.kept hb2
  have hbw := below_trans HB.out.2.2 hb2
  clear c0 c1 c2 c3 c4 c5 c6 hb2 HB
  cases hs : shB mW mH mC mB mPd with
  | false =>
    have HG := Lib.hid (show makeS mW mH mC mB mP mPd = (Im.zero, 2) by unfold makeS; rw [hs]; rfl)
    clear hs bm
    have HWz := Lib.hid (below_set7 hbw (Nat.le_refl w.heap.size))
    have r0 := br.cell (i := 0) rfl
    have r1 := br.cell (i := 1) rfl
    have r2 := br.cell (i := 2) rfl
    have r3 := br.cell (i := 3) rfl
    have r4 := br.cell (i := 4) rfl
    have r5 := br.cell (i := 5) rfl
    have r6 := br.cell (i := 6) rfl
    have f0 := br.free 0
    have f1 := br.free 1
    have f2 := br.free 2
    have f3 := br.free 3
    have f4 := br.free 4
    have f5 := br.free 5
    have f6 := br.free 6
    clear br hbw
    go_wp2_with fail
    rw [HG.out]
    exact bodyPost_ret (v := .tuple #[Im.zero.v, .int .i64 2]) (by rw [zero_v]; simp [results, Try.results26, go_sem, *]) rfl ⟨rfl, HWz.out _ _ _ _ _ _ _⟩
  | true =>
    have n := lay_nums (of_decide_eq_true hs) mP
    have hmk : makeS mW mH mC mB mP mPd = (img ⟨mW.toNat, mH.toNat, mC.toNat, mB.toNat / 8, mP, mPd.toNat⟩ (fun _ _ _ => 0), 0) := by unfold makeS; rw [hs]; rfl
    obtain ⟨L, hL⟩ : ∃ L : Lay, (⟨mW.toNat, mH.toNat, mC.toNat, mB.toNat / 8, mP, mPd.toNat⟩ : Lay) = L := ⟨_, rfl⟩
    rw [hL] at n hmk
    have HMk := Lib.hid hmk
    clear hmk hL hs
    obtain ⟨hok, rfl, rfl, rfl, rfl, rfl, rfl⟩ := n
    have c0 := bm.cell (i := 0) rfl
    have c1 := bm.cell (i := 1) rfl
    have c2 := bm.cell (i := 2) rfl
    have c3 := bm.cell (i := 3) rfl
    have c4 := bm.cell (i := 4) rfl
    have c5 := bm.cell (i := 5) rfl
    have c6 := bm.cell (i := 6) rfl
    have HR := Lib.hid (fun W => refrows_calls hok ⟨#[]⟩ W)
    have HT := Lib.hid (fun W => refstride_calls hok ⟨#[]⟩ W)
    unfold imV at HR HT
    obtain ⟨N1, hN1⟩ : ∃ x, L.rows = x := ⟨_, rfl⟩
    obtain ⟨N2, hN2⟩ : ∃ x, L.stride = x := ⟨_, rfl⟩
    obtain ⟨N, hN⟩ : ∃ x, N1 * N2 = x := ⟨_, rfl⟩
    have hsize : L.size = N := by unfold Lay.size; rw [hN1, hN2, hN]
    have hNb : N ≤ 140000 := by
      have h1 := hok.h2
      have h2 := hok.c2
      have h3 : L.H * L.C ≤ 64 * 4 := Nat.mul_le_mul h1 h2
      have h4 : N1 ≤ 256 := by rw [← hN1]; unfold Lay.rows; split <;> omega
      have h5 := hok.stride_row.2.1
      have h6 := hok.row_pos.2
      have h7 : L.pd ≤ 8 := by rcases hok.pad with e | e | e | e <;> omega
      have h8 : N1 * N2 ≤ 256 * 520 := Nat.mul_le_mul h4 (by omega)
      omega
    have hw1 : IntKind.i64.wrap ((N1 : Int) * (N2 : Int)) = (N : Int) := by rw [← Int.natCast_mul, hN]; exact wrap_id (by omega)
    have HZ := Lib.hid (fun W => refzeros_calls N hNb W)
    rw [hN1] at HR
    rw [hN2] at HT
    obtain ⟨S, hS⟩ : ∃ S : ByteArray, ⟨(List.replicate N 0).toArray⟩ = S := ⟨_, rfl⟩
    rw [hS] at HZ
    have hpz := pix_zero hok
    rw [hsize] at hpz
    have himg : img L (fun _ _ _ => 0) = ⟨(L.W : Nat), (L.H : Nat), (L.C : Nat), ((8 * L.k : Nat) : Int), L.P, (L.pd : Nat), S⟩ := by
      refine (eq_mk (m := ⟨(L.W : Nat), (L.H : Nat), (L.C : Nat), ((8 * L.k : Nat) : Int), L.P, (L.pd : Nat), S⟩) ⟨hok, rfl, rfl, rfl, rfl, rfl, rfl⟩ ?_).symm
      rw [← hS]
      simpa [Im.l] using hpz
    have HIm := Lib.hid himg
    have HV := Lib.hid (And.intro br (And.intro bm hbw))
    clear br bm hbw hok hN1 hN2 hN hsize hNb hS hpz himg
    go_wp2_with fail
    refine wp_seq_tail 7 (fun k => k == 1 || k == 3 || k == 5) (fun k _ => if k = 1 then .int .i64 (N1 : Nat) else if k = 3 then .int .i64 (N2 : Nat) else .string S) (fun _ _ _ => True) (by kernel_rfl) (by kernel_rfl) (by decide) (fun _ _ _ _ _ h => h) ?_
    repeat (first | (refine seq_skip (by rfl) ?_; simp only [Act.put, List.setIfInBounds_toArray, List.set_cons_zero, List.set_cons_succ, Nat.reduceAdd]) | (refine seq_pure (v := ?_) (by rfl) (by rfl) (fun W hW hC => ?_) ?_; rotate_left; (go_simp <;> with_reducible rfl); simp only [Act.put, List.setIfInBounds_toArray, List.set_cons_zero, List.set_cons_succ, Nat.reduceAdd]))
    refine seq_made (by rfl) (by rfl) (fun W hW hC hF R hR => ?_) (fun _ => ?_)
    · unfold Gives; go_simp
      refine (HR.out W).mono ?_
      rintro r w8 ⟨rfl, hb8⟩
      refine ⟨_, rfl, ?_⟩
      exact hR {} _ hb8 trivial
    simp only [Act.put, List.setIfInBounds_toArray, List.set_cons_zero, List.set_cons_succ, Nat.reduceAdd]
    repeat (first | (refine seq_skip (by rfl) ?_; simp only [Act.put, List.setIfInBounds_toArray, List.set_cons_zero, List.set_cons_succ, Nat.reduceAdd]) | (refine seq_pure (v := ?_) (by rfl) (by rfl) (fun W hW hC => ?_) ?_; rotate_left; (go_simp <;> with_reducible rfl); simp only [Act.put, List.setIfInBounds_toArray, List.set_cons_zero, List.set_cons_succ, Nat.reduceAdd]))
    refine seq_made (by rfl) (by rfl) (fun W hW hC hF R hR => ?_) (fun _ => ?_)
    · unfold Gives; go_simp
      refine (HT.out W).mono ?_
      rintro r w8 ⟨rfl, hb8⟩
      refine ⟨_, rfl, ?_⟩
      exact hR {} _ hb8 trivial
    simp only [Act.put, List.setIfInBounds_toArray, List.set_cons_zero, List.set_cons_succ, Nat.reduceAdd]
    repeat (first | (refine seq_skip (by rfl) ?_; simp only [Act.put, List.setIfInBounds_toArray, List.set_cons_zero, List.set_cons_succ, Nat.reduceAdd]) | (refine seq_pure (v := ?_) (by rfl) (by rfl) (fun W hW hC => ?_) ?_; rotate_left; (go_simp <;> with_reducible rfl); simp only [Act.put, List.setIfInBounds_toArray, List.set_cons_zero, List.set_cons_succ, Nat.reduceAdd]))
    refine seq_made (by rfl) (by rfl) (fun W hW hC hF R hR => ?_) (fun _ => ?_)
    · unfold Gives; go_simp
      refine (HZ.out W).mono ?_
      rintro r w8 ⟨rfl, hb8⟩
      refine ⟨_, rfl, ?_⟩
      exact hR {} _ hb8 trivial
    simp only [Act.put, List.setIfInBounds_toArray, List.set_cons_zero, List.set_cons_succ, Nat.reduceAdd]
    repeat (first | (refine seq_skip (by rfl) ?_; simp only [Act.put, List.setIfInBounds_toArray, List.set_cons_zero, List.set_cons_succ, Nat.reduceAdd]) | (refine seq_pure (v := ?_) (by rfl) (by rfl) (fun W hW hC => ?_) ?_; rotate_left; (go_simp <;> with_reducible rfl); simp only [Act.put, List.setIfInBounds_toArray, List.set_cons_zero, List.set_cons_succ, Nat.reduceAdd]))
    refine seq_nil ?_; intro W hW hF
    clear hF c0 c1 c2 c3 c4 c5 c6 hw1
    have bm := HV.out.2.1.kept hW
    have m6 := bm.cell (i := 6) rfl
    have g6 := bm.free 6
    have HW := Lib.hid (And.intro (HV.out.1.kept hW) (And.intro bm (below_trans HV.out.2.2 hW)))
    clear bm hW HV
    go_upto_region 5 with fail
    refine wp_named ?_
    intro w5 hw5
    have bm : Blk w5 (w.heap.size + 1) [.int .i64 (L.W : Nat), .int .i64 (L.H : Nat), .int .i64 (L.C : Nat), .int .i64 ((8 * L.k : Nat) : Int), .bool L.P, .int .i64 (L.pd : Nat), .string S] 24 := by rw [hw5]; exact HW.out.2.1.set 6 _
    have br : Blk w5 w.heap.size zeroC 24 := by rw [hw5]; exact HW.out.1.other (by show w.heap.size ≠ w.heap.size + 1; omega) _
    have hbw : Below w.heap.size w w5 := by rw [hw5]; exact HW.out.2.2.setCell (p := ⟨w.heap.size + 1, 6, none⟩) (Nat.le_succ w.heap.size) _
    clear hw5 m6 g6 HW
    obtain ⟨R, hR⟩ : ∃ R : Im, R = img L (fun _ _ _ => 0) := ⟨_, rfl⟩
    have hRl : [Value.int .i64 (L.W : Nat), .int .i64 (L.H : Nat), .int .i64 (L.C : Nat), .int .i64 ((8 * L.k : Nat) : Int), .bool L.P, .int .i64 (L.pd : Nat), .string S] = [.int .i64 R.W, .int .i64 R.H, .int .i64 R.C, .int .i64 R.B, .bool R.P, .int .i64 R.Pd, .string R.O] := by rw [hR, HIm.out]
    rw [hRl] at bm
    have HRR := Lib.hid (show makeS (L.W : Nat) (L.H : Nat) (L.C : Nat) ((8 * L.k : Nat) : Int) L.P (L.pd : Nat) = (R, 0) by rw [HMk.out, hR])
    clear hR hRl
    have c0 := bm.cell (i := 0) rfl
    have c1 := bm.cell (i := 1) rfl
    have c2 := bm.cell (i := 2) rfl
    have c3 := bm.cell (i := 3) rfl
    have c4 := bm.cell (i := 4) rfl
    have c5 := bm.cell (i := 5) rfl
    have c6 := bm.cell (i := 6) rfl
    clear bm
    have HWz := Lib.hid (below_set7 hbw (Nat.le_refl w.heap.size))
    have r0 := br.cell (i := 0) rfl
    have r1 := br.cell (i := 1) rfl
    have r2 := br.cell (i := 2) rfl
    have r3 := br.cell (i := 3) rfl
    have r4 := br.cell (i := 4) rfl
    have r5 := br.cell (i := 5) rfl
    have r6 := br.cell (i := 6) rfl
    have f0 := br.free 0
    have f1 := br.free 1
    have f2 := br.free 2
    have f3 := br.free 3
    have f4 := br.free 4
    have f5 := br.free 5
    have f6 := br.free 6
    clear br hbw
    go_wp2_with fail
    rw [HRR.out]
    exact bodyPost_ret (v := .tuple #[R.v, .int .i64 0]) (by rw [imgV_eq]; simp [results, Try.results26, go_sem, *]) rfl ⟨rfl, HWz.out _ _ _ _ _ _ _⟩
end Go.Proofs.Ytpgkhhdobolfbaa
