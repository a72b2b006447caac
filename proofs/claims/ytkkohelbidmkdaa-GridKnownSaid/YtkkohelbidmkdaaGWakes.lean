/-
  twelve and wakes: the grid that the law wakes with; wakes returns true.
-/
import Derived.Test.YtkkohelbidmkdaaGPick
namespace Go.Proofs.Ytkkohelbidmkdaa
set_option linter.unusedVariables false
set_option linter.unusedSimpArgs false
open Go Go.RowKit

def sizes12 : List Int := [2, 3]
def data12 : List Int := [0, 1, 2, 3, 4, 5, 6, 7, 8, 9, 10, 11]

/-- A row of a block of ints. -/
theorem Blk.cs {w : World} {g : Nat} {xs : List Int} (h : Blk w g (xs.map (Value.int .i64)) 3) : Cs w .i64 (some ⟨g, 0, none⟩) xs := fun i x hx =>
  ⟨g, 0, rfl, by rw [Nat.zero_add]; exact h.cell (by rw [List.getElem?_map, hx]; rfl)⟩

set_option maxHeartbeats 400000 in
theorem twelve_calls (w : World) : Calls Try.prog 28 #[] w fun r w' => ∃ g1 g2, r = .returned (.agg #[.slice (some ⟨g1, 0, none⟩) 2 2, .int .i64 2, .slice (some ⟨g2, 0, none⟩) 12 12]) ∧
    Blk w' g1 (sizes12.map (Value.int .i64)) 3 ∧ Blk w' g2 (data12.map (Value.int .i64)) 3 ∧ g1 ≠ g2 ∧ Below w.heap.size w w' := by
  go_enter Try.func28, Try.ntmps28
  go_wp2_with fail
  generalize hw1 : World.alloc _ _ = w1
  have hb1 : Below w.heap.size w w1 := by rw [← hw1]; repeat (first | exact below_alloc _ | refine below_trans ?_ (below_alloc _))
  have b0 : Blk w1 w.heap.size [.slice (some ⟨w.heap.size + 1, 0, none⟩) 2 2, .int .i64 2, .slice (some ⟨w.heap.size + 1 + 1, 0, none⟩) 12 12] 24 := by rw [← hw1]; exact ((Blk.at rfl).alloc _).alloc _
  have b1 : Blk w1 (w.heap.size + 1) (sizes12.map (Value.int .i64)) 3 := by rw [← hw1]; exact (Blk.at (by simp)).alloc _
  have b2 : Blk w1 (w.heap.size + 1 + 1) (data12.map (Value.int .i64)) 3 := by rw [← hw1]; exact Blk.at (by simp)
  have c0 := b0.cell (i := 0) rfl
  have c1 := b0.cell (i := 1) rfl
  have c2 := b0.cell (i := 2) rfl
  exact bodyPost_ret (v := .agg #[.slice (some ⟨w.heap.size + 1, 0, none⟩) 2 2, .int .i64 2, .slice (some ⟨w.heap.size + 1 + 1, 0, none⟩) 12 12]) (by simp [results, Try.results28, go_sem, c0, c1, c2]) rfl ⟨_, _, rfl, b1, b2, by omega, hb1⟩

set_option maxHeartbeats 1600000 in
theorem wakes_calls (w : World) : Calls Try.prog 10 #[] w fun r w' => r = .returned (.bool true) ∧ Below w.heap.size w w' := by
  go_enter Try.func10, Try.ntmps10
  go_wp2_with fail
  refine (twelve_calls w).mono ?_
  rintro r w1 ⟨g1, g2, rfl, b1, b2, hne, hb1⟩
  have hlt1 := b1.lt
  have hlt2 := b2.lt
  have HBB := Lib.hid (And.intro b1 (And.intro b2 hb1))
  clear b1 b2 hb1
  go_wp2_with fail
  refine calls_named ?_
  intro w2 hw2
  have hs2 : w2.heap.size = w1.heap.size + 2 := by rw [hw2]; simp
  have hb12 : Below w1.heap.size w1 w2 := by rw [hw2]; repeat (first | exact below_alloc _ | refine below_trans ?_ (below_alloc _))
  have bt : Blk w2 w1.heap.size [.slice (some ⟨g1, 0, none⟩) 2 2, .int .i64 2, .slice (some ⟨g2, 0, none⟩) 12 12] 24 := by rw [hw2]; exact (Blk.at rfl).alloc _
  have bi : Blk w2 (w1.heap.size + 1) ([(1 : Int), 2].map (Value.int .i64)) 3 := by rw [hw2]; exact Blk.at (by simp)
  clear hw2
  obtain ⟨b1, b2, hb1⟩ := HBB.out
  replace b1 := b1.kept hb12
  replace b2 := b2.kept hb12
  replace hb1 := below_trans hb1 hb12
  refine (gridPlace_calls (some ⟨g1, 0, none⟩) (some ⟨g2, 0, none⟩) (some ⟨w1.heap.size + 1, 0, none⟩) 2 12 2 sizes12 data12 [1, 2] 2 w2 b1.cs b2.cs bi.cs (by decide) (by decide) (by decide)).mono ?_
  rintro r w3 ⟨rfl, hb23⟩
  rw [show placeR sizes12 2 data12 [1, 2] = (10, 0) by decide +kernel]
  replace b1 := b1.kept hb23
  replace b2 := b2.kept hb23
  replace bt := bt.kept hb23
  replace hb1 := below_trans hb1 hb23
  have c0 := bt.cell (i := 0) rfl
  have c1 := bt.cell (i := 1) rfl
  have c2 := bt.cell (i := 2) rfl
  have HBB := Lib.hid (And.intro b1 (And.intro b2 (And.intro bt hb1)))
  have hs3 := hb23.size
  clear bi b1 b2 bt hb1 hb12 hb23
  go_wp2_with fail
  -- At
  refine calls_named ?_
  intro w4 hw4
  have hs4 : w4.heap.size = w3.heap.size + 1 := by rw [hw4]; simp
  have hb34 : Below w3.heap.size w3 w4 := by rw [hw4]; repeat (first | exact below_alloc _ | refine below_trans ?_ (below_alloc _))
  have bi : Blk w4 w3.heap.size ([(0 : Int), 1].map (Value.int .i64)) 3 := by rw [hw4]; exact Blk.at rfl
  clear hw4
  obtain ⟨b1, b2, bt, hb1⟩ := HBB.out
  replace b1 := b1.kept hb34
  replace b2 := b2.kept hb34
  replace bt := bt.kept hb34
  replace hb1 := below_trans hb1 hb34
  refine (gridAt_calls (some ⟨g1, 0, none⟩) (some ⟨g2, 0, none⟩) (some ⟨w3.heap.size, 0, none⟩) 2 12 2 sizes12 data12 [0, 1] 2 w4 b1.cs b2.cs bi.cs (by decide) (by decide) (by decide) (by decide)).mono ?_
  rintro r w5 ⟨v4, rfl, o4, hb45⟩
  rw [show atR sizes12 2 data12 [0, 1] = ([2, 3], 0) by decide +kernel] at o4 ⊢
  obtain ⟨A4, k4, rfl, _, _, _, cs4⟩ := o4.cs
  replace b1 := b1.kept hb45
  replace b2 := b2.kept hb45
  replace bt := bt.kept hb45
  replace hb1 := below_trans hb1 hb45
  have c0 := bt.cell (i := 0) rfl
  have c1 := bt.cell (i := 1) rfl
  have c2 := bt.cell (i := 2) rfl
  have HBB := Lib.hid (And.intro b1 (And.intro b2 (And.intro bt (And.intro cs4 hb1))))
  have hs5 := hb45.size
  clear bi b1 b2 bt hb1 hb34 hb45 o4 cs4
  simp only [List.length_cons, List.length_nil, Nat.reduceAdd]
  go_wp2_with fail
  -- Range
  obtain ⟨b1, b2, bt, cs4, hb1⟩ := HBB.out
  clear c0 c1 c2
  refine (range_calls (some ⟨g1, 0, none⟩) (some ⟨g2, 0, none⟩) 2 12 sizes12 data12 2 w5 b1.cs b2.cs (by decide) (by decide) (by decide)).mono ?_
  rintro r w6 ⟨v5, v6, rfl, o5, o6, hb56⟩
  rw [show rangeR sizes12 2 data12 = ([0, 1], [10, 11], 0) by decide +kernel] at o5 o6 ⊢
  obtain ⟨A5, k5, rfl, _, _, _, cs5⟩ := o5.cs
  obtain ⟨A6, k6, rfl, _, _, _, cs6⟩ := o6.cs
  replace b1 := b1.kept hb56
  replace b2 := b2.kept hb56
  replace bt := bt.kept hb56
  replace cs4 := cs4.kept hb56
  replace hb1 := below_trans hb1 hb56
  have c0 := bt.cell (i := 0) rfl
  have c1 := bt.cell (i := 1) rfl
  have c2 := bt.cell (i := 2) rfl
  have HBB := Lib.hid (And.intro b1 (And.intro b2 (And.intro bt (And.intro cs4 (And.intro cs5 (And.intro cs6 hb1))))))
  have hs6 := hb56.size
  clear b1 b2 bt cs4 cs5 cs6 hb1 hb56 o5 o6
  simp only [List.length_cons, List.length_nil, Nat.reduceAdd]
  go_wp2_with fail
  -- Swap
  obtain ⟨b1, b2, bt, cs4, cs5, cs6, hb1⟩ := HBB.out
  clear c0 c1 c2
  refine (swap_calls (some ⟨g1, 0, none⟩) (some ⟨g2, 0, none⟩) 2 12 sizes12 data12 2 0 1 w6 b1.cs b2.cs (by decide) (fun h => by cases h) (by decide) (by decide)).mono ?_
  rintro r w7 ⟨v7, v8, rfl, o7, o8, hb67⟩
  rw [show swapR sizes12 2 data12 0 1 = ([3, 2], 2, [0, 1, 6, 7, 2, 3, 8, 9, 4, 5, 10, 11], 0) by decide +kernel] at o7 o8 ⊢
  obtain ⟨A7, k7, rfl, _, _, _, cs7⟩ := o7.cs
  obtain ⟨A8, k8, rfl, _, _, _, cs8⟩ := o8.cs
  replace b1 := b1.kept hb67
  replace b2 := b2.kept hb67
  replace bt := bt.kept hb67
  replace cs4 := cs4.kept hb67
  replace cs5 := cs5.kept hb67
  replace cs6 := cs6.kept hb67
  replace hb1 := below_trans hb1 hb67
  have c0 := bt.cell (i := 0) rfl
  have c1 := bt.cell (i := 1) rfl
  have c2 := bt.cell (i := 2) rfl
  have HBB := Lib.hid (And.intro b1 (And.intro b2 (And.intro bt (And.intro cs4 (And.intro cs5 (And.intro cs6 (And.intro cs7 (And.intro cs8 hb1))))))))
  have hs7 := hb67.size
  clear b1 b2 bt cs4 cs5 cs6 cs7 cs8 hb1 hb67 o7 o8
  simp only [List.length_cons, List.length_nil, Nat.reduceAdd]
  go_upto_region 6 with fail
  refine wp_named ?_
  intro w8 hw8
  have hs8 : w8.heap.size = w7.heap.size + 1 := by rw [hw8]; simp
  have hb78 : Below w7.heap.size w7 w8 := by rw [hw8]; exact below_alloc _
  have b9 : Blk w8 w7.heap.size [.slice A7 2 k7, .int .i64 2, .slice A8 12 k8] 24 := by rw [hw8]; exact Blk.at rfl
  clear hw8 c0 c1 c2
  obtain ⟨b1, b2, bt, cs4, cs5, cs6, cs7, cs8, hb1⟩ := HBB.out
  replace b1 := b1.kept hb78
  replace b2 := b2.kept hb78
  replace bt := bt.kept hb78
  replace cs4 := cs4.kept hb78
  replace cs5 := cs5.kept hb78
  replace cs6 := cs6.kept hb78
  replace cs7 := cs7.kept hb78
  replace cs8 := cs8.kept hb78
  replace hb1 := below_trans hb1 hb78
  have c0 := bt.cell (i := 0) rfl
  have c1 := bt.cell (i := 1) rfl
  have c2 := bt.cell (i := 2) rfl
  have HBB := Lib.hid (And.intro b1 (And.intro b2 (And.intro bt (And.intro cs4 (And.intro cs5 (And.intro cs6 (And.intro cs7 (And.intro cs8 (And.intro b9 hb1)))))))))
  clear b1 b2 bt cs4 cs5 cs6 cs7 cs8 hb1 hb78 b9
  go_wp2_with fail
  -- Pick
  refine calls_named ?_
  intro w9 hw9
  have hs9 : w9.heap.size = w8.heap.size + 1 := by rw [hw9]; simp
  have hb89 : Below w8.heap.size w8 w9 := by rw [hw9]; repeat (first | exact below_alloc _ | refine below_trans ?_ (below_alloc _))
  have bi : Blk w9 w8.heap.size ([(1 : Int)].map (Value.int .i64)) 3 := by rw [hw9]; exact Blk.at rfl
  rw [← hs8]
  clear hw9 c0 c1 c2
  obtain ⟨b1, b2, bt, cs4, cs5, cs6, cs7, cs8, b9, hb1⟩ := HBB.out
  replace b1 := b1.kept hb89
  replace b2 := b2.kept hb89
  replace bt := bt.kept hb89
  replace cs4 := cs4.kept hb89
  replace cs5 := cs5.kept hb89
  replace cs6 := cs6.kept hb89
  replace cs7 := cs7.kept hb89
  replace cs8 := cs8.kept hb89
  replace b9 := b9.kept hb89
  replace hb1 := below_trans hb1 hb89
  refine (pick_calls (some ⟨g1, 0, none⟩) (some ⟨g2, 0, none⟩) (some ⟨w8.heap.size, 0, none⟩) 2 12 1 sizes12 data12 [1] 2 w9 b1.cs b2.cs bi.cs (by decide) (fun h => by cases h) (by decide) (by decide) (by decide)).mono ?_
  rintro r w10 ⟨v11, v12, rfl, o11, o12, hb910⟩
  rw [show pickR sizes12 2 data12 [1] = ([2, 3], 1, [1, 3, 5, 7, 9, 11], 0) by decide +kernel] at o11 o12 ⊢
  obtain ⟨A11, k11, rfl, _, _, _, cs11⟩ := o11.cs
  obtain ⟨A12, k12, rfl, _, _, _, cs12⟩ := o12.cs
  replace b1 := b1.kept hb910
  replace b2 := b2.kept hb910
  replace bt := bt.kept hb910
  replace cs4 := cs4.kept hb910
  replace cs5 := cs5.kept hb910
  replace cs6 := cs6.kept hb910
  replace cs7 := cs7.kept hb910
  replace cs8 := cs8.kept hb910
  replace b9 := b9.kept hb910
  replace hb1 := below_trans hb1 hb910
  have HBB := Lib.hid (And.intro b1 (And.intro b2 (And.intro bt (And.intro cs4 (And.intro cs5 (And.intro cs6 (And.intro cs7 (And.intro cs8 (And.intro b9 (And.intro cs12 hb1))))))))))
  have hs10 := hb910.size
  clear b1 b2 bt cs4 cs5 cs6 cs7 cs8 cs11 cs12 hb1 hb910 hb89 b9 bi o11 o12
  simp only [List.length_cons, List.length_nil, Nat.reduceAdd]
  go_upto_region 7 with fail
  refine wp_named ?_
  intro w11 hw11
  have hs11 : w11.heap.size = w10.heap.size + 1 := by rw [hw11]; simp
  have hb1011 : Below w10.heap.size w10 w11 := by rw [hw11]; exact below_alloc _
  have b11 : Blk w11 w10.heap.size [.slice A11 2 k11, .int .i64 1, .slice A12 6 k12] 24 := by rw [hw11]; exact Blk.at rfl
  clear hw11
  obtain ⟨b1, b2, bt, cs4, cs5, cs6, cs7, cs8, b9, cs12, hb1⟩ := HBB.out
  replace b1 := b1.kept hb1011
  replace b2 := b2.kept hb1011
  replace bt := bt.kept hb1011
  replace cs4 := cs4.kept hb1011
  replace cs5 := cs5.kept hb1011
  replace cs6 := cs6.kept hb1011
  replace cs7 := cs7.kept hb1011
  replace cs8 := cs8.kept hb1011
  replace cs12 := cs12.kept hb1011
  replace b9 := b9.kept hb1011
  replace hb1 := below_trans hb1 hb1011
  have c0 := bt.cell (i := 0) rfl
  have c1 := bt.cell (i := 1) rfl
  have c2 := bt.cell (i := 2) rfl
  have HBB := Lib.hid (And.intro b1 (And.intro b2 (And.intro bt (And.intro cs4 (And.intro cs5 (And.intro cs6 (And.intro cs7 (And.intro cs8 (And.intro b9 (And.intro cs12 (And.intro b11 hb1)))))))))))
  clear b1 b2 bt cs4 cs5 cs6 cs7 cs8 cs12 hb1 hb1011 b9 b11
  go_wp2_with fail
  -- At, outside
  refine calls_named ?_
  intro w12 hw12
  have hs12 : w12.heap.size = w11.heap.size + 1 := by rw [hw12]; simp
  have hb1112 : Below w11.heap.size w11 w12 := by rw [hw12]; repeat (first | exact below_alloc _ | refine below_trans ?_ (below_alloc _))
  have bi : Blk w12 (w10.heap.size + 1) ([(2 : Int), 0].map (Value.int .i64)) 3 := by rw [hw12, ← hs11]; exact Blk.at rfl
  clear hw12 c0 c1 c2
  obtain ⟨b1, b2, bt, cs4, cs5, cs6, cs7, cs8, b9, cs12, b11, hb1⟩ := HBB.out
  replace b1 := b1.kept hb1112
  replace b2 := b2.kept hb1112
  replace bt := bt.kept hb1112
  replace cs4 := cs4.kept hb1112
  replace cs5 := cs5.kept hb1112
  replace cs6 := cs6.kept hb1112
  replace cs7 := cs7.kept hb1112
  replace cs8 := cs8.kept hb1112
  replace b9 := b9.kept hb1112
  replace cs12 := cs12.kept hb1112
  replace b11 := b11.kept hb1112
  replace hb1 := below_trans hb1 hb1112
  refine (gridAt_calls (some ⟨g1, 0, none⟩) (some ⟨g2, 0, none⟩) (some ⟨w10.heap.size + 1, 0, none⟩) 2 12 2 sizes12 data12 [2, 0] 2 w12 b1.cs b2.cs bi.cs (by decide) (by decide) (by decide) (by decide)).mono ?_
  rintro r w13 ⟨v13, rfl, o13, hb1213⟩
  rw [show atR sizes12 2 data12 [2, 0] = ([], 2) by decide +kernel] at o13 ⊢
  obtain ⟨A13, k13, rfl, _, _, _, _⟩ := o13.cs
  replace b1 := b1.kept hb1213
  replace b2 := b2.kept hb1213
  replace bt := bt.kept hb1213
  replace cs4 := cs4.kept hb1213
  replace cs5 := cs5.kept hb1213
  replace cs6 := cs6.kept hb1213
  replace cs7 := cs7.kept hb1213
  replace cs8 := cs8.kept hb1213
  replace b9 := b9.kept hb1213
  replace cs12 := cs12.kept hb1213
  replace b11 := b11.kept hb1213
  replace hb1 := below_trans hb1 hb1213
  have HBB := Lib.hid (And.intro b1 (And.intro b2 (And.intro bt (And.intro cs4 (And.intro cs5 (And.intro cs6 (And.intro cs7 (And.intro cs8 (And.intro b9 (And.intro cs12 (And.intro b11 hb1)))))))))))
  have hs13 := hb1213.size
  clear b1 b2 bt cs4 cs5 cs6 cs7 cs8 b9 cs12 b11 hb1 hb1112 hb1213 bi o13
  simp only [List.length_nil]
  go_wp2_with fail
  refine (twelve_calls w13).mono ?_
  rintro r w14 ⟨g3, g4, rfl, b3, b4, hne2, hb1314⟩
  obtain ⟨b1, b2, bt, cs4, cs5, cs6, cs7, cs8, b9, cs12, b11, hb1⟩ := HBB.out
  replace b1 := b1.kept hb1314
  replace b2 := b2.kept hb1314
  replace bt := bt.kept hb1314
  replace cs4 := cs4.kept hb1314
  replace cs5 := cs5.kept hb1314
  replace cs6 := cs6.kept hb1314
  replace cs7 := cs7.kept hb1314
  replace cs8 := cs8.kept hb1314
  replace b9 := b9.kept hb1314
  replace cs12 := cs12.kept hb1314
  replace b11 := b11.kept hb1314
  replace hb1 := below_trans hb1 hb1314
  have hlt3 := b3.lt
  have hlt4 := b4.lt
  have HBB := Lib.hid (And.intro b3 (And.intro b4 (And.intro b1 (And.intro b2 (And.intro bt (And.intro cs4 (And.intro cs5 (And.intro cs6 (And.intro cs7 (And.intro cs8 (And.intro b9 (And.intro cs12 (And.intro b11 hb1)))))))))))))
  have hs14 := hb1314.size
  clear b3 b4 b1 b2 bt cs4 cs5 cs6 cs7 cs8 b9 cs12 b11 hb1 hb1314
  go_upto_region 9 with fail
  refine wp_named ?_
  intro w15 hw15
  have hs15 : w15.heap.size = w14.heap.size + 1 := by rw [hw15]; simp
  have hb1415 : Below w14.heap.size w14 w15 := by rw [hw15]; exact below_alloc _
  have b15 : Blk w15 w14.heap.size [.slice (some ⟨g3, 0, none⟩) 2 2, .int .i64 2, .slice (some ⟨g4, 0, none⟩) 12 12] 24 := by rw [hw15]; exact Blk.at rfl
  clear hw15
  have c0 := b15.cell (i := 0) rfl
  have c1 := b15.cell (i := 1) rfl
  have c2 := b15.cell (i := 2) rfl
  have f2 := b15.free 2
  have HB15 := Lib.hid (And.intro b15 hb1415)
  clear b15 hb1415
  go_wp2_with fail
  refine calls_named ?_
  intro w16 hw16
  obtain ⟨b15, hb1415⟩ := HB15.out
  have hb16 : Below w14.heap.size w14 w16 := by rw [hw16]; exact below_trans (hb1415.setCell (p := ⟨w14.heap.size, 2, none⟩) (Nat.le_refl _) _) (below_alloc _)
  have bi : Blk w16 (w14.heap.size + 1) ([(2 : Int), 3].map (Value.int .i64)) 3 := by rw [hw16, ← hs15]; exact Blk.at (by simp)
  replace b15 : Blk w16 w14.heap.size [.slice (some ⟨g3, 0, none⟩) 2 2, .int .i64 2, .slice (some ⟨g4, 0, none⟩) 11 12] 24 := by rw [hw16]; exact (b15.set 2 _).alloc _
  have hs16 : w16.heap.size = w14.heap.size + 2 := by rw [hw16]; simp [hs15]
  clear hw16 c0 c1 c2 f2 HB15 hb1415
  obtain ⟨b3, b4, _, _, _, cs4, cs5, cs6, cs7, cs8, b9, cs12, b11, hb1⟩ := HBB.out
  replace b3 := b3.kept hb16
  replace b4 := b4.kept hb16
  replace cs4 := cs4.kept hb16
  replace cs5 := cs5.kept hb16
  replace cs6 := cs6.kept hb16
  replace cs7 := cs7.kept hb16
  replace cs8 := cs8.kept hb16
  replace b9 := b9.kept hb16
  replace cs12 := cs12.kept hb16
  replace b11 := b11.kept hb16
  replace hb1 := below_trans hb1 hb16
  refine (equal_calls A4 (some ⟨w14.heap.size + 1, 0, none⟩) k4 2 [2, 3] [2, 3] w16 cs4 bi.cs (by decide) (by decide)).mono ?_
  rintro r w17 ⟨rfl, hb1617⟩
  rw [show decide ([(2 : Int), 3] = [2, 3]) = true by decide]
  replace b3 := b3.kept hb1617
  replace b4 := b4.kept hb1617
  replace cs5 := cs5.kept hb1617
  replace cs6 := cs6.kept hb1617
  replace cs7 := cs7.kept hb1617
  replace cs8 := cs8.kept hb1617
  replace b9 := b9.kept hb1617
  replace cs12 := cs12.kept hb1617
  replace b11 := b11.kept hb1617
  replace b15 := b15.kept hb1617
  replace hb1 := below_trans hb1 hb1617
  have HBB := Lib.hid (And.intro b3 (And.intro b4 (And.intro cs5 (And.intro cs6 (And.intro cs7 (And.intro cs8 (And.intro b9 (And.intro cs12 (And.intro b11 (And.intro b15 hb1))))))))))
  have hs17 := hb1617.size
  clear b3 b4 cs5 cs6 cs7 cs8 b9 cs12 b11 b15 hb1 hb16 hb1617 bi cs4
  obtain ⟨b3, b4, cs5, cs6, cs7, cs8, b9, cs12, b11, b15, hb1⟩ := HBB.out
  have ca := b9.cell (i := 0) rfl
  have cb := b9.cell (i := 2) rfl
  have cc := b11.cell (i := 2) rfl
  have c0 := b15.cell (i := 0) rfl
  have c1 := b15.cell (i := 1) rfl
  have c2 := b15.cell (i := 2) rfl
  clear b3 b4 cs5 cs6 cs7 cs8 b9 cs12 b11 b15 hb1
  go_wp2_with fail
  refine calls_named ?_
  intro w18 hw18
  have hb : Below w17.heap.size w17 w18 := by rw [hw18]; repeat (first | exact below_alloc _ | refine below_trans ?_ (below_alloc _))
  have bi : Blk w18 w17.heap.size ([(0 : Int), 1].map (Value.int .i64)) 3 := by rw [hw18]; exact Blk.at rfl
  clear hw18 ca cb cc c0 c1 c2
  obtain ⟨b3, b4, cs5, cs6, cs7, cs8, b9, cs12, b11, b15, hb1⟩ := HBB.out
  replace b3 := b3.kept hb
  replace b4 := b4.kept hb
  replace cs5 := cs5.kept hb
  replace cs6 := cs6.kept hb
  replace cs7 := cs7.kept hb
  replace cs8 := cs8.kept hb
  replace b9 := b9.kept hb
  replace cs12 := cs12.kept hb
  replace b11 := b11.kept hb
  replace b15 := b15.kept hb
  replace hb1 := below_trans hb1 hb
  refine (equal_calls A5 (some ⟨w17.heap.size, 0, none⟩) k5 2 [0, 1] [0, 1] w18 cs5 bi.cs (by decide) (by decide)).mono ?_
  rintro r w19 ⟨rfl, hb'⟩
  rw [show decide ([(0 : Int), 1] = [0, 1]) = true by decide]
  replace b3 := b3.kept hb'
  replace b4 := b4.kept hb'
  replace cs5 := cs5.kept hb'
  replace cs6 := cs6.kept hb'
  replace cs7 := cs7.kept hb'
  replace cs8 := cs8.kept hb'
  replace b9 := b9.kept hb'
  replace cs12 := cs12.kept hb'
  replace b11 := b11.kept hb'
  replace b15 := b15.kept hb'
  replace hb1 := below_trans hb1 hb'
  clear cs5
  have HBB := Lib.hid (And.intro b3 (And.intro b4 (And.intro cs6 (And.intro cs7 (And.intro cs8 (And.intro b9 (And.intro cs12 (And.intro b11 (And.intro b15 hb1)))))))))
  clear b3 b4 cs6 cs7 cs8 b9 cs12 b11 b15 hb1 hb hb' bi
  obtain ⟨b3, b4, cs6, cs7, cs8, b9, cs12, b11, b15, hb1⟩ := HBB.out
  have ca := b9.cell (i := 0) rfl
  have cb := b9.cell (i := 2) rfl
  have cc := b11.cell (i := 2) rfl
  have c0 := b15.cell (i := 0) rfl
  have c1 := b15.cell (i := 1) rfl
  have c2 := b15.cell (i := 2) rfl
  clear b3 b4 cs6 cs7 cs8 b9 cs12 b11 b15 hb1
  go_wp2_with fail
  refine calls_named ?_
  intro w20 hw20
  have hb : Below w19.heap.size w19 w20 := by rw [hw20]; repeat (first | exact below_alloc _ | refine below_trans ?_ (below_alloc _))
  have bi : Blk w20 w19.heap.size ([(10 : Int), 11].map (Value.int .i64)) 3 := by rw [hw20]; exact Blk.at rfl
  clear hw20 ca cb cc c0 c1 c2
  obtain ⟨b3, b4, cs6, cs7, cs8, b9, cs12, b11, b15, hb1⟩ := HBB.out
  replace b3 := b3.kept hb
  replace b4 := b4.kept hb
  replace cs6 := cs6.kept hb
  replace cs7 := cs7.kept hb
  replace cs8 := cs8.kept hb
  replace b9 := b9.kept hb
  replace cs12 := cs12.kept hb
  replace b11 := b11.kept hb
  replace b15 := b15.kept hb
  replace hb1 := below_trans hb1 hb
  refine (equal_calls A6 (some ⟨w19.heap.size, 0, none⟩) k6 2 [10, 11] [10, 11] w20 cs6 bi.cs (by decide) (by decide)).mono ?_
  rintro r w21 ⟨rfl, hb'⟩
  rw [show decide ([(10 : Int), 11] = [10, 11]) = true by decide]
  replace b3 := b3.kept hb'
  replace b4 := b4.kept hb'
  replace cs6 := cs6.kept hb'
  replace cs7 := cs7.kept hb'
  replace cs8 := cs8.kept hb'
  replace b9 := b9.kept hb'
  replace cs12 := cs12.kept hb'
  replace b11 := b11.kept hb'
  replace b15 := b15.kept hb'
  replace hb1 := below_trans hb1 hb'
  clear cs6
  have HBB := Lib.hid (And.intro b3 (And.intro b4 (And.intro cs7 (And.intro cs8 (And.intro b9 (And.intro cs12 (And.intro b11 (And.intro b15 hb1))))))))
  clear b3 b4 cs7 cs8 b9 cs12 b11 b15 hb1 hb hb' bi
  obtain ⟨b3, b4, cs7, cs8, b9, cs12, b11, b15, hb1⟩ := HBB.out
  have ca := b9.cell (i := 0) rfl
  have cb := b9.cell (i := 2) rfl
  have cc := b11.cell (i := 2) rfl
  have c0 := b15.cell (i := 0) rfl
  have c1 := b15.cell (i := 1) rfl
  have c2 := b15.cell (i := 2) rfl
  clear b3 b4 cs7 cs8 b9 cs12 b11 b15 hb1
  go_wp2_with fail
  refine calls_named ?_
  intro w22 hw22
  have hb : Below w21.heap.size w21 w22 := by rw [hw22]; repeat (first | exact below_alloc _ | refine below_trans ?_ (below_alloc _))
  have bi : Blk w22 w21.heap.size ([(3 : Int), 2].map (Value.int .i64)) 3 := by rw [hw22]; exact Blk.at rfl
  clear hw22 ca cb cc c0 c1 c2
  obtain ⟨b3, b4, cs7, cs8, b9, cs12, b11, b15, hb1⟩ := HBB.out
  replace b3 := b3.kept hb
  replace b4 := b4.kept hb
  replace cs7 := cs7.kept hb
  replace cs8 := cs8.kept hb
  replace b9 := b9.kept hb
  replace cs12 := cs12.kept hb
  replace b11 := b11.kept hb
  replace b15 := b15.kept hb
  replace hb1 := below_trans hb1 hb
  refine (equal_calls A7 (some ⟨w21.heap.size, 0, none⟩) k7 2 [3, 2] [3, 2] w22 cs7 bi.cs (by decide) (by decide)).mono ?_
  rintro r w23 ⟨rfl, hb'⟩
  rw [show decide ([(3 : Int), 2] = [3, 2]) = true by decide]
  replace b3 := b3.kept hb'
  replace b4 := b4.kept hb'
  replace cs7 := cs7.kept hb'
  replace cs8 := cs8.kept hb'
  replace b9 := b9.kept hb'
  replace cs12 := cs12.kept hb'
  replace b11 := b11.kept hb'
  replace b15 := b15.kept hb'
  replace hb1 := below_trans hb1 hb'
  clear cs7
  have HBB := Lib.hid (And.intro b3 (And.intro b4 (And.intro cs8 (And.intro b9 (And.intro cs12 (And.intro b11 (And.intro b15 hb1)))))))
  clear b3 b4 cs8 b9 cs12 b11 b15 hb1 hb hb' bi
  obtain ⟨b3, b4, cs8, b9, cs12, b11, b15, hb1⟩ := HBB.out
  have ca := b9.cell (i := 0) rfl
  have cb := b9.cell (i := 2) rfl
  have cc := b11.cell (i := 2) rfl
  have c0 := b15.cell (i := 0) rfl
  have c1 := b15.cell (i := 1) rfl
  have c2 := b15.cell (i := 2) rfl
  clear b3 b4 cs8 b9 cs12 b11 b15 hb1
  go_wp2_with fail
  refine calls_named ?_
  intro w24 hw24
  have hb : Below w23.heap.size w23 w24 := by rw [hw24]; repeat (first | exact below_alloc _ | refine below_trans ?_ (below_alloc _))
  have bi : Blk w24 w23.heap.size ([(0 : Int), 1, 6, 7, 2, 3, 8, 9, 4, 5, 10, 11].map (Value.int .i64)) 3 := by rw [hw24]; exact Blk.at rfl
  clear hw24 ca cb cc c0 c1 c2
  obtain ⟨b3, b4, cs8, b9, cs12, b11, b15, hb1⟩ := HBB.out
  replace b3 := b3.kept hb
  replace b4 := b4.kept hb
  replace cs8 := cs8.kept hb
  replace b9 := b9.kept hb
  replace cs12 := cs12.kept hb
  replace b11 := b11.kept hb
  replace b15 := b15.kept hb
  replace hb1 := below_trans hb1 hb
  refine (equal_calls A8 (some ⟨w23.heap.size, 0, none⟩) k8 12 [0, 1, 6, 7, 2, 3, 8, 9, 4, 5, 10, 11] [0, 1, 6, 7, 2, 3, 8, 9, 4, 5, 10, 11] w24 cs8 bi.cs (by decide) (by decide)).mono ?_
  rintro r w25 ⟨rfl, hb'⟩
  rw [show decide ([(0 : Int), 1, 6, 7, 2, 3, 8, 9, 4, 5, 10, 11] = [0, 1, 6, 7, 2, 3, 8, 9, 4, 5, 10, 11]) = true by decide]
  replace b3 := b3.kept hb'
  replace b4 := b4.kept hb'
  replace cs8 := cs8.kept hb'
  replace b9 := b9.kept hb'
  replace cs12 := cs12.kept hb'
  replace b11 := b11.kept hb'
  replace b15 := b15.kept hb'
  replace hb1 := below_trans hb1 hb'
  clear cs8
  have HBB := Lib.hid (And.intro b3 (And.intro b4 (And.intro b9 (And.intro cs12 (And.intro b11 (And.intro b15 hb1))))))
  clear b3 b4 b9 cs12 b11 b15 hb1 hb hb' bi
  obtain ⟨b3, b4, b9, cs12, b11, b15, hb1⟩ := HBB.out
  have ca := b9.cell (i := 0) rfl
  have cb := b9.cell (i := 2) rfl
  have cc := b11.cell (i := 2) rfl
  have c0 := b15.cell (i := 0) rfl
  have c1 := b15.cell (i := 1) rfl
  have c2 := b15.cell (i := 2) rfl
  clear b3 b4 b9 cs12 b11 b15 hb1
  go_wp2_with fail
  refine calls_named ?_
  intro w26 hw26
  have hb : Below w25.heap.size w25 w26 := by rw [hw26]; repeat (first | exact below_alloc _ | refine below_trans ?_ (below_alloc _))
  have bi : Blk w26 w25.heap.size ([(1 : Int), 3, 5, 7, 9, 11].map (Value.int .i64)) 3 := by rw [hw26]; exact Blk.at rfl
  clear hw26 ca cb cc c0 c1 c2
  obtain ⟨b3, b4, b9, cs12, b11, b15, hb1⟩ := HBB.out
  replace b3 := b3.kept hb
  replace b4 := b4.kept hb
  replace b9 := b9.kept hb
  replace cs12 := cs12.kept hb
  replace b11 := b11.kept hb
  replace b15 := b15.kept hb
  replace hb1 := below_trans hb1 hb
  refine (equal_calls A12 (some ⟨w25.heap.size, 0, none⟩) k12 6 [1, 3, 5, 7, 9, 11] [1, 3, 5, 7, 9, 11] w26 cs12 bi.cs (by decide) (by decide)).mono ?_
  rintro r w27 ⟨rfl, hb'⟩
  rw [show decide ([(1 : Int), 3, 5, 7, 9, 11] = [1, 3, 5, 7, 9, 11]) = true by decide]
  replace b3 := b3.kept hb'
  replace b4 := b4.kept hb'
  replace b9 := b9.kept hb'
  replace cs12 := cs12.kept hb'
  replace b11 := b11.kept hb'
  replace b15 := b15.kept hb'
  replace hb1 := below_trans hb1 hb'
  clear cs12
  have HBB := Lib.hid (And.intro b3 (And.intro b4 (And.intro b9 (And.intro b11 (And.intro b15 hb1)))))
  clear b3 b4 b9 b11 b15 hb1 hb hb' bi
  obtain ⟨b3, b4, b9, b11, b15, hb1⟩ := HBB.out
  have ca := b9.cell (i := 0) rfl
  have cb := b9.cell (i := 2) rfl
  have cc := b11.cell (i := 2) rfl
  have c0 := b15.cell (i := 0) rfl
  have c1 := b15.cell (i := 1) rfl
  have c2 := b15.cell (i := 2) rfl
  clear b3 b4 b9 b11 b15 hb1
  go_wp2_with fail
  obtain ⟨b3, b4, b9, b11, b15, hb1⟩ := HBB.out
  have cs4 : Cs w27 .i64 (some ⟨g4, 0, none⟩) (data12.take 11) := by
    intro q z hz
    rw [List.getElem?_take] at hz
    split at hz
    · exact b4.cs q z hz
    · cases hz
  refine (check_calls (some ⟨g3, 0, none⟩) (some ⟨g4, 0, none⟩) 2 12 sizes12 (data12.take 11) 2 w27 b3.cs cs4 (by decide) (by decide)).mono ?_
  rintro r w28 ⟨rfl, hb28⟩
  rw [show checkN sizes12 2 (data12.take 11) = 100 by decide +kernel]
  have HB28 := Lib.hid (below_trans hb1 hb28)
  clear b3 b4 b9 b11 b15 hb1 hb28 c0 c1 c2 ca cb cc cs4
  go_wp2
  go_ret
  exact ⟨rfl, HB28.out⟩
end Go.Proofs.Ytkkohelbidmkdaa
