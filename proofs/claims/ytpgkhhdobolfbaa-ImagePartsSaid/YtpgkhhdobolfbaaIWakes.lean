/-
  The law's own examples hold of the program.
-/
import Derived.Test.YtpgkhhdobolfbaaIShape
import Derived.Test.YtpgkhhdobolfbaaIEqual
namespace Go.Proofs.Ytpgkhhdobolfbaa
set_option linter.unusedVariables false
set_option linter.unusedSimpArgs false
open Go Go.RowKit

abbrev sixC : List Value := [.int .i64 2, .int .i64 1, .int .i64 3, .int .i64 8, .bool false, .int .i64 4, .string ⟨#[1, 2, 3, 4, 5, 6, 0, 0]⟩]
theorem six_v : SIX.v = .agg #[.int .i64 2, .int .i64 1, .int .i64 3, .int .i64 8, .bool false, .int .i64 4, .string ⟨#[1, 2, 3, 4, 5, 6, 0, 0]⟩] := rfl
def badC : Im := ⟨2, 1, 3, 8, false, 4, ⟨#[1, 2, 3, 4, 5, 6, 0, 1]⟩⟩

set_option maxHeartbeats 1600000 in
theorem six_calls (w : World) : Calls Try.prog 12 #[] w fun e w' => e = .returned (.agg #[.int .i64 2, .int .i64 1, .int .i64 3, .int .i64 8, .bool false, .int .i64 4, .string ⟨#[1, 2, 3, 4, 5, 6, 0, 0]⟩]) ∧ Below w.heap.size w w' := by
  go_enter Try.func12, Try.ntmps12
  go_upto_region 1 with fail
  refine wp_named ?_
  intro w1 hw1
  have br : Blk w1 w.heap.size zeroC 24 := by rw [hw1]; exact Blk.new _ _ _
  have hb1 : Below w.heap.size w w1 := by rw [hw1]; exact below_alloc _
  have HW := Lib.hid (below_set7 hb1 (Nat.le_refl w.heap.size))
  have r0 := br.cell (i := 0) rfl
  have r1 := br.cell (i := 1) rfl
  have r2 := br.cell (i := 2) rfl
  have r3 := br.cell (i := 3) rfl
  have r4 := br.cell (i := 4) rfl
  have r5 := br.cell (i := 5) rfl
  have r6 := br.cell (i := 6) rfl
  have f0 := br.free 0
  have f1 := br.free 1
  have f2 := br.free 2
  have f3 := br.free 3
  have f4 := br.free 4
  have f5 := br.free 5
  have f6 := br.free 6
  clear br hb1 hw1
  go_wp2_with fail
  exact bodyPost_ret (v := .agg #[.int .i64 2, .int .i64 1, .int .i64 3, .int .i64 8, .bool false, .int .i64 4, .string ⟨#[1, 2, 3, 4, 5, 6, 0, 0]⟩]) (by simp [results, Try.results12, go_sem, *]) rfl ⟨rfl, HW.out _ _ _ _ _ _ _⟩

set_option maxRecDepth 100000 in
set_option maxHeartbeats 6400000 in
theorem wakes_calls (w : World) : Calls Try.prog 11 #[] w fun e w' => e = .returned (.bool true) ∧ Below w.heap.size w w' := by
  go_enter Try.func11, Try.ntmps11
  go_wp2_with fail
  refine (six_calls w).mono ?_
  rintro r w1 ⟨rfl, hb1⟩
  have H1 := Lib.hid hb1
  clear hb1
  go_wp2_with fail
  refine (six_calls w1).mono ?_
  rintro r w2 ⟨rfl, hb2⟩
  have H2 := Lib.hid (below_trans H1.out hb2)
  have H20 := Lib.hid (below_trans H1.out hb2).size
  clear hb2 H1
  go_upto_region 2 with fail
  refine wp_named ?_
  intro w3 hw3
  have ba : Blk w3 w2.heap.size sixC 24 := by rw [hw3]; exact (Blk.new _ _ _).alloc _
  have bb : Blk w3 (w2.heap.size + 1) sixC 24 := by rw [hw3]; exact Blk.at (by simp)
  have hbw : Below w.heap.size w w3 := by rw [hw3]; exact below_trans (below_trans H2.out (below_alloc _)) (below_alloc _)
  clear hw3 H2
  have c0 := ba.cell (i := 0) rfl
  have c1 := ba.cell (i := 1) rfl
  have c2 := ba.cell (i := 2) rfl
  have c3 := ba.cell (i := 3) rfl
  have c4 := ba.cell (i := 4) rfl
  have c5 := ba.cell (i := 5) rfl
  have c6 := ba.cell (i := 6) rfl
  have HB := Lib.hid (And.intro ba (And.intro bb hbw))
  clear ba bb hbw
  go_wp2_with fail
  refine (stridem_calls SIX w3).mono ?_
  rintro r w4 ⟨rfl, hbk⟩
  rw [k_stride]
  dsimp only
  obtain ⟨ba, bb, hbw⟩ := HB.out
  replace ba := ba.kept hbk
  replace bb := bb.kept hbk
  replace hbw := below_trans hbw hbk
  clear HB hbk c0 c1 c2 c3 c4 c5 c6
  have HL4 := Lib.hid bb.lt
  have c0 := ba.cell (i := 0) rfl
  have c1 := ba.cell (i := 1) rfl
  have c2 := ba.cell (i := 2) rfl
  have c3 := ba.cell (i := 3) rfl
  have c4 := ba.cell (i := 4) rfl
  have c5 := ba.cell (i := 5) rfl
  have c6 := ba.cell (i := 6) rfl
  have HB := Lib.hid (And.intro ba (And.intro bb hbw))
  clear ba bb hbw
  go_wp2_with fail
  refine (get_calls SIX 1 0 w4).mono ?_
  rintro r w5 ⟨v, rfl, hrow, hbk⟩
  rw [k_get] at hrow ⊢
  obtain ⟨A5, q5, rfl, hcs5, hA5, _⟩ := hrow
  dsimp only
  obtain ⟨ba, bb, hbw⟩ := HB.out
  replace ba := ba.kept hbk
  replace bb := bb.kept hbk
  replace hbw := below_trans hbw hbk
  clear HB hbk c0 c1 c2 c3 c4 c5 c6
  have cs5 : Cs w5 .i64 A5 [4, 5, 6] := hcs5
  have HA5 := Lib.hid hA5
  clear hcs5 hA5
  have c0 := ba.cell (i := 0) rfl
  have c1 := ba.cell (i := 1) rfl
  have c2 := ba.cell (i := 2) rfl
  have c3 := ba.cell (i := 3) rfl
  have c4 := ba.cell (i := 4) rfl
  have c5 := ba.cell (i := 5) rfl
  have c6 := ba.cell (i := 6) rfl
  have HB := Lib.hid (And.intro ba (And.intro bb (And.intro cs5 hbw)))
  clear ba bb cs5 hbw
  go_wp2_with fail
  refine calls_named ?_
  intro ws hws
  have bsl : Blk ws w5.heap.size ([7, 8, 9].map (Value.int .i64)) 3 := by rw [hws]; exact Blk.new _ _ _
  have hbs : Below w5.heap.size w5 ws := by rw [hws]; exact below_alloc _
  clear hws
  refine (set_calls SIX 0 0 (some ⟨w5.heap.size, 0, none⟩) 3 [7, 8, 9] ws (blk_row bsl) (by simp) (fun p e => by cases e; exact bsl.lt)).mono ?_
  rintro r w6 ⟨rfl, hbk⟩
  rw [k_set]
  replace hbk := below_trans hbs hbk
  clear hbs
  obtain ⟨ba, bb, cs5, hbw⟩ := HB.out
  replace ba := ba.kept hbk
  replace bb := bb.kept hbk
  replace cs5 := cs5.kept hbk
  replace hbw := below_trans hbw hbk
  clear HB hbk c0 c1 c2 c3 c4 c5 c6
  rw [imgV_eq]
  dsimp only
  have HLb7 := Lib.hid bb.lt
  have HB := Lib.hid (And.intro ba (And.intro bb (And.intro cs5 hbw)))
  clear ba bb cs5 hbw
  go_upto_region 5 with fail
  refine wp_named ?_
  intro w7 hw7
  obtain ⟨ba, bb, cs5, hbw⟩ := HB.out
  have hbk : Below w6.heap.size w6 w7 := by rw [hw7]; exact below_alloc _
  have b7 : Blk w7 w6.heap.size [.int .i64 2, .int .i64 1, .int .i64 3, .int .i64 8, .bool false, .int .i64 4, .string ⟨#[7, 8, 9, 4, 5, 6, 0, 0]⟩] 24 := by rw [hw7]; exact Blk.new _ _ _
  clear hw7
  replace ba := ba.kept hbk
  replace bb := bb.kept hbk
  replace cs5 := cs5.kept hbk
  replace hbw := below_trans hbw hbk
  clear HB hbk
  have c0 := ba.cell (i := 0) rfl
  have c1 := ba.cell (i := 1) rfl
  have c2 := ba.cell (i := 2) rfl
  have c3 := ba.cell (i := 3) rfl
  have c4 := ba.cell (i := 4) rfl
  have c5 := ba.cell (i := 5) rfl
  have c6 := ba.cell (i := 6) rfl
  have HB := Lib.hid (And.intro ba (And.intro bb (And.intro cs5 (And.intro b7 hbw))))
  clear ba bb cs5 b7 hbw
  go_wp2_with fail
  refine (shape_calls SIX 8 true 1 w7).mono ?_
  rintro r w8 ⟨rfl, hbk⟩
  rw [k_shape1]
  obtain ⟨ba, bb, cs5, b7, hbw⟩ := HB.out
  replace ba := ba.kept hbk
  replace bb := bb.kept hbk
  replace cs5 := cs5.kept hbk
  replace b7 := b7.kept hbk
  replace hbw := below_trans hbw hbk
  clear HB hbk c0 c1 c2 c3 c4 c5 c6
  rw [imgV_eq]
  dsimp only
  have HLb9 := Lib.hid bb.lt
  have HB := Lib.hid (And.intro ba (And.intro bb (And.intro cs5 (And.intro b7 hbw))))
  clear ba bb cs5 b7 hbw
  go_upto_region 6 with fail
  refine wp_named ?_
  intro w9 hw9
  obtain ⟨ba, bb, cs5, b7, hbw⟩ := HB.out
  have hbk : Below w8.heap.size w8 w9 := by rw [hw9]; exact below_alloc _
  have b9 : Blk w9 w8.heap.size [.int .i64 2, .int .i64 1, .int .i64 3, .int .i64 8, .bool true, .int .i64 1, .string ⟨#[1, 4, 2, 5, 3, 6]⟩] 24 := by rw [hw9]; exact Blk.new _ _ _
  clear hw9
  replace ba := ba.kept hbk
  replace bb := bb.kept hbk
  replace cs5 := cs5.kept hbk
  replace b7 := b7.kept hbk
  replace hbw := below_trans hbw hbk
  clear HB hbk
  have c0 := ba.cell (i := 0) rfl
  have c1 := ba.cell (i := 1) rfl
  have c2 := ba.cell (i := 2) rfl
  have c3 := ba.cell (i := 3) rfl
  have c4 := ba.cell (i := 4) rfl
  have c5 := ba.cell (i := 5) rfl
  have c6 := ba.cell (i := 6) rfl
  have HB := Lib.hid (And.intro ba (And.intro bb (And.intro cs5 (And.intro b7 (And.intro b9 hbw)))))
  clear ba bb cs5 b7 b9 hbw
  go_wp2_with fail
  refine (shape_calls SIX 16 false 1 w9).mono ?_
  rintro r w10 ⟨rfl, hbk⟩
  rw [k_shape2]
  obtain ⟨ba, bb, cs5, b7, b9, hbw⟩ := HB.out
  replace ba := ba.kept hbk
  replace bb := bb.kept hbk
  replace cs5 := cs5.kept hbk
  replace b7 := b7.kept hbk
  replace b9 := b9.kept hbk
  replace hbw := below_trans hbw hbk
  clear HB hbk c0 c1 c2 c3 c4 c5 c6
  rw [imgV_eq]
  dsimp only
  have HLb11 := Lib.hid bb.lt
  have HB := Lib.hid (And.intro ba (And.intro bb (And.intro cs5 (And.intro b7 (And.intro b9 hbw)))))
  clear ba bb cs5 b7 b9 hbw
  go_upto_region 7 with fail
  refine wp_named ?_
  intro w11 hw11
  obtain ⟨ba, bb, cs5, b7, b9, hbw⟩ := HB.out
  have hbk : Below w10.heap.size w10 w11 := by rw [hw11]; exact below_alloc _
  have b11 : Blk w11 w10.heap.size [.int .i64 2, .int .i64 1, .int .i64 3, .int .i64 16, .bool false, .int .i64 1, .string ⟨#[1, 1, 2, 2, 3, 3, 4, 4, 5, 5, 6, 6]⟩] 24 := by rw [hw11]; exact Blk.new _ _ _
  clear hw11
  replace ba := ba.kept hbk
  replace bb := bb.kept hbk
  replace cs5 := cs5.kept hbk
  replace b7 := b7.kept hbk
  replace b9 := b9.kept hbk
  replace hbw := below_trans hbw hbk
  clear HB hbk
  have c0 := ba.cell (i := 0) rfl
  have c1 := ba.cell (i := 1) rfl
  have c2 := ba.cell (i := 2) rfl
  have c3 := ba.cell (i := 3) rfl
  have c4 := ba.cell (i := 4) rfl
  have c5 := ba.cell (i := 5) rfl
  have c6 := ba.cell (i := 6) rfl
  have HB := Lib.hid (And.intro ba (And.intro bb (And.intro cs5 (And.intro b7 (And.intro b9 (And.intro b11 hbw))))))
  clear ba bb cs5 b7 b9 b11 hbw
  go_wp2_with fail
  refine (cut_calls SIX 1 0 1 1 w11).mono ?_
  rintro r w12 ⟨rfl, hbk⟩
  rw [k_cut]
  obtain ⟨ba, bb, cs5, b7, b9, b11, hbw⟩ := HB.out
  replace ba := ba.kept hbk
  replace bb := bb.kept hbk
  replace cs5 := cs5.kept hbk
  replace b7 := b7.kept hbk
  replace b9 := b9.kept hbk
  replace b11 := b11.kept hbk
  replace hbw := below_trans hbw hbk
  clear HB hbk c0 c1 c2 c3 c4 c5 c6
  rw [imgV_eq]
  dsimp only
  have HLb13 := Lib.hid bb.lt
  have HB := Lib.hid (And.intro ba (And.intro bb (And.intro cs5 (And.intro b7 (And.intro b9 (And.intro b11 hbw))))))
  clear ba bb cs5 b7 b9 b11 hbw
  go_upto_region 8 with fail
  refine wp_named ?_
  intro w13 hw13
  obtain ⟨ba, bb, cs5, b7, b9, b11, hbw⟩ := HB.out
  have hbk : Below w12.heap.size w12 w13 := by rw [hw13]; exact below_alloc _
  have b13 : Blk w13 w12.heap.size [.int .i64 1, .int .i64 1, .int .i64 3, .int .i64 8, .bool false, .int .i64 4, .string ⟨#[4, 5, 6, 0]⟩] 24 := by rw [hw13]; exact Blk.new _ _ _
  clear hw13
  replace ba := ba.kept hbk
  replace bb := bb.kept hbk
  replace cs5 := cs5.kept hbk
  replace b7 := b7.kept hbk
  replace b9 := b9.kept hbk
  replace b11 := b11.kept hbk
  replace hbw := below_trans hbw hbk
  clear HB hbk
  have c0 := ba.cell (i := 0) rfl
  have c1 := ba.cell (i := 1) rfl
  have c2 := ba.cell (i := 2) rfl
  have c3 := ba.cell (i := 3) rfl
  have c4 := ba.cell (i := 4) rfl
  have c5 := ba.cell (i := 5) rfl
  have c6 := ba.cell (i := 6) rfl
  have HB := Lib.hid (And.intro ba (And.intro bb (And.intro cs5 (And.intro b7 (And.intro b9 (And.intro b11 (And.intro b13 hbw)))))))
  clear ba bb cs5 b7 b9 b11 b13 hbw
  go_wp2_with fail
  refine (get_calls SIX 2 0 w13).mono ?_
  rintro r w14 ⟨v, rfl, hrow, hbk⟩
  rw [k_get2] at hrow ⊢
  obtain ⟨A6, q6, rfl, _, _, _⟩ := hrow
  dsimp only
  obtain ⟨ba, bb, cs5, b7, b9, b11, b13, hbw⟩ := HB.out
  replace ba := ba.kept hbk
  replace bb := bb.kept hbk
  replace cs5 := cs5.kept hbk
  replace b7 := b7.kept hbk
  replace b9 := b9.kept hbk
  replace b11 := b11.kept hbk
  replace b13 := b13.kept hbk
  replace hbw := below_trans hbw hbk
  clear HB hbk c0 c1 c2 c3 c4 c5 c6
  have c0 := ba.cell (i := 0) rfl
  have c1 := ba.cell (i := 1) rfl
  have c2 := ba.cell (i := 2) rfl
  have c3 := ba.cell (i := 3) rfl
  have c4 := ba.cell (i := 4) rfl
  have c5 := ba.cell (i := 5) rfl
  have c6 := ba.cell (i := 6) rfl
  have HB := Lib.hid (And.intro ba (And.intro bb (And.intro cs5 (And.intro b7 (And.intro b9 (And.intro b11 (And.intro b13 hbw)))))))
  clear ba bb cs5 b7 b9 b11 b13 hbw
  go_wp2_with fail
  refine (make_calls 65 1 1 8 false 1 w14).mono ?_
  rintro r w15 ⟨rfl, hbk⟩
  rw [k_make]
  obtain ⟨ba, bb, cs5, b7, b9, b11, b13, hbw⟩ := HB.out
  replace ba := ba.kept hbk
  replace bb := bb.kept hbk
  replace cs5 := cs5.kept hbk
  replace b7 := b7.kept hbk
  replace b9 := b9.kept hbk
  replace b11 := b11.kept hbk
  replace b13 := b13.kept hbk
  replace hbw := below_trans hbw hbk
  clear HB hbk c0 c1 c2 c3 c4 c5 c6
  rw [imgV_eq]
  dsimp only
  have HLb17 := Lib.hid bb.lt
  have HB := Lib.hid (And.intro ba (And.intro bb (And.intro cs5 (And.intro b7 (And.intro b9 (And.intro b11 (And.intro b13 hbw)))))))
  clear ba bb cs5 b7 b9 b11 b13 hbw
  go_upto_region 10 with fail
  refine wp_named ?_
  intro w16 hw16
  obtain ⟨ba, bb, cs5, b7, b9, b11, b13, hbw⟩ := HB.out
  have hbk : Below w15.heap.size w15 w16 := by rw [hw16]; exact below_alloc _
  have b17 : Blk w16 w15.heap.size zeroC 24 := by rw [hw16]; exact Blk.new _ _ _
  clear hw16
  replace ba := ba.kept hbk
  replace bb := bb.kept hbk
  replace cs5 := cs5.kept hbk
  replace b7 := b7.kept hbk
  replace b9 := b9.kept hbk
  replace b11 := b11.kept hbk
  replace b13 := b13.kept hbk
  replace hbw := below_trans hbw hbk
  clear HB hbk
  have e2 := bb.cell (i := 6) rfl
  have g2 := bb.free 6
  have hltw : w.heap.size ≤ w2.heap.size + 1 := by have := H20.out; omega
  have HW := Lib.hid hltw
  have HB := Lib.hid (And.intro bb (And.intro cs5 hbw))
  have HH := Lib.hid (And.intro b7 (And.intro b9 (And.intro b11 b13)))
  clear ba bb cs5 b7 b9 b11 b13 b17 hbw bsl hltw
  have hEx : (⟨#[1, 2, 3, 4, 5, 6, 0, 0]⟩ : ByteArray).extract 0 7 ++ ⟨#[1]⟩ = ⟨#[1, 2, 3, 4, 5, 6, 0, 1]⟩ := by kernel_rfl
  go_wp2_with fail
  refine calls_named ?_
  intro w17 hw17
  have bb : Blk w17 (w2.heap.size + 1) [.int .i64 2, .int .i64 1, .int .i64 3, .int .i64 8, .bool false, .int .i64 4, .string ⟨#[1, 2, 3, 4, 5, 6, 0, 1]⟩] 24 := by rw [hw17]; exact (HB.out.1.set 6 _).alloc _
  have bq : Blk w17 w16.heap.size ([4, 5, 6].map (Value.int .i64)) 3 := by rw [hw17]; exact Blk.at (by simp)
  have hz : OffZ (w2.heap.size + 1) (w2.heap.size + 1 + 1) w16 w17 := by rw [hw17]; exact (OffZ.setCell w16 (p := ⟨w2.heap.size + 1, 6, none⟩) (Nat.le_refl (w2.heap.size + 1)) (Nat.lt_succ_self (w2.heap.size + 1)) _).trans (OffZ.alloc _)
  have b7 := HH.out.1.offZ hz (by have := HLb7.out; omega)
  have b9 := HH.out.2.1.offZ hz (by have := HLb9.out; omega)
  have b11 := HH.out.2.2.1.offZ hz (by have := HLb11.out; omega)
  have b13 := HH.out.2.2.2.offZ hz (by have := HLb13.out; omega)
  have cs5 := Cs.offZ HB.out.2.1 hz (fun p e => by have := HA5.out p e; have := HL4.out; omega)
  have hbw := Below.offZ HB.out.2.2 (Nat.le_refl _) hz HW.out
  clear hw17 hz e2 g2 HH HB hEx
  refine (equal_calls A5 (some ⟨w16.heap.size, 0, none⟩) q5 3 [4, 5, 6] [4, 5, 6] w17 cs5 (blk_row bq) (by decide) (by decide)).mono ?_
  rintro r w18 ⟨rfl, hb18⟩
  rw [show decide (([4, 5, 6] : List Int) = [4, 5, 6]) = true by decide]
  replace bb := bb.kept hb18
  replace b7 := b7.kept hb18
  replace b9 := b9.kept hb18
  replace b11 := b11.kept hb18
  replace b13 := b13.kept hb18
  have s7 := b7.cell (i := 6) rfl
  have s9 := b9.cell (i := 6) rfl
  have s11 := b11.cell (i := 6) rfl
  have s13 := b13.cell (i := 6) rfl
  have HB := Lib.hid (below_trans hbw hb18)
  have c0 := bb.cell (i := 0) rfl
  have c1 := bb.cell (i := 1) rfl
  have c2 := bb.cell (i := 2) rfl
  have c3 := bb.cell (i := 3) rfl
  have c4 := bb.cell (i := 4) rfl
  have c5 := bb.cell (i := 5) rfl
  have c6 := bb.cell (i := 6) rfl
  clear bb b7 b9 b11 b13 bq cs5 hbw hb18
  go_wp2_with fail
  refine (check_calls ⟨2, 1, 3, 8, false, 4, ⟨#[1, 2, 3, 4, 5, 6, 0, 1]⟩⟩ w18).mono ?_
  rintro r w19 ⟨rfl, hb19⟩
  rw [k_check]
  have HC := Lib.hid (below_trans HB.out hb19)
  clear HB hb19 c0 c1 c2 c3 c4 c5 c6 s7 s9 s11 s13
  go_wp2
  go_ret
  exact ⟨rfl, HC.out⟩
end Go.Proofs.Ytpgkhhdobolfbaa
