/-
  The law GridKnown, walked.
-/
import Derived.Test.YtkkohelbidmkdaaGKnown
namespace Go.Proofs.Ytkkohelbidmkdaa
set_option linter.unusedVariables false
set_option linter.unusedSimpArgs false
open Go Go.RowKit

set_option maxRecDepth 100000 in
set_option maxHeartbeats 6400000 in
theorem gridKnown_calls (w : World) : Calls Try.prog 6 #[] w fun r w' => r = .returned (.bool true) ∧ Below w.heap.size w w' := by
  go_enter Try.func6, Try.ntmps6
  go_wp2_with fail
  refine (wakes_calls w).mono ?_
  rintro r x0 ⟨rfl, hb0⟩
  have HB0 := Lib.hid (And.intro (show Bad x0 (.slice none 0 0) 0 (.slice none 0 0) from bad_nil bad1) hb0)
  clear hb0
  go_wp2_with fail
  refine calls_named ?_
  intro y1 hy
  have p10 : Blk y1 (x0.heap.size) ([1].map (Value.int .i64)) 3 := by rw [hy]; exact Blk.new _ _ _
  have hb : Below x0.heap.size x0 y1 := by rw [hy]; repeat (first | exact below_alloc _ | refine below_trans ?_ (below_alloc _))
  clear hy
  refine (zeros_calls 1 y1 (by omega)).mono ?_
  rintro r x1 ⟨z1, rfl, o1, hb'⟩
  have hbb := below_trans hb hb'
  have HB1 := Lib.hid (And.intro (HB0.out.1.kept hbb) (And.intro (bad_zeros (p10.kept hb') o1 bad2 (by decide)) (below_trans HB0.out.2 hbb)))
  clear p10 o1 hb hb' hbb HB0
  go_wp2_with fail
  refine calls_named ?_
  intro y2 hy
  have p20 : Blk y2 (x1.heap.size) ([10].map (Value.int .i64)) 3 := by rw [hy]; exact Blk.new _ _ _
  have hb : Below x1.heap.size x1 y2 := by rw [hy]; repeat (first | exact below_alloc _ | refine below_trans ?_ (below_alloc _))
  clear hy
  refine (zeros_calls 10 y2 (by omega)).mono ?_
  rintro r x2 ⟨z2, rfl, o2, hb'⟩
  have hbb := below_trans hb hb'
  have HB2 := Lib.hid (And.intro (HB1.out.1.kept hbb) (And.intro (HB1.out.2.1.kept hbb) (And.intro (bad_zeros (p20.kept hb') o2 bad3 (by decide)) (below_trans HB1.out.2.2 hbb))))
  clear p20 o2 hb hb' hbb HB1
  go_wp2_with fail
  refine calls_named ?_
  intro y3 hy
  have p30 : Blk y3 (x2.heap.size) ([2, 2, 2, 2, 2].map (Value.int .i64)) 3 := by rw [hy]; exact Blk.new _ _ _
  have hb : Below x2.heap.size x2 y3 := by rw [hy]; repeat (first | exact below_alloc _ | refine below_trans ?_ (below_alloc _))
  clear hy
  refine (zeros_calls 32 y3 (by omega)).mono ?_
  rintro r x3 ⟨z3, rfl, o3, hb'⟩
  have hbb := below_trans hb hb'
  have HB3 := Lib.hid (And.intro (HB2.out.1.kept hbb) (And.intro (HB2.out.2.1.kept hbb) (And.intro (HB2.out.2.2.1.kept hbb) (And.intro (bad_zeros (p30.kept hb') o3 bad4 (by decide)) (below_trans HB2.out.2.2.2 hbb)))))
  clear p30 o3 hb hb' hbb HB2
  go_wp2_with fail
  refine calls_named ?_
  intro y4 hy
  have p40 : Blk y4 (x3.heap.size) ([2].map (Value.int .i64)) 3 := by rw [hy]; exact Blk.alloc (Blk.new _ _ _) _
  have p41 : Blk y4 (x3.heap.size + 1) ([2].map (Value.int .i64)) 3 := by rw [hy]; exact Blk.at (by simp)
  have hb : Below x3.heap.size x3 y4 := by rw [hy]; repeat (first | exact below_alloc _ | refine below_trans ?_ (below_alloc _))
  clear hy
  refine (zeros_calls 10 y4 (by omega)).mono ?_
  rintro r x4 ⟨z4, rfl, o4, hb'⟩
  have hbb := below_trans hb hb'
  have HB4 := Lib.hid (And.intro (HB3.out.1.kept hbb) (And.intro (HB3.out.2.1.kept hbb) (And.intro (HB3.out.2.2.1.kept hbb) (And.intro (HB3.out.2.2.2.1.kept hbb) (And.intro (bad_size (p40.kept hb') bad5 (by decide)) (And.intro (bad_zeros (p41.kept hb') o4 bad6 (by decide)) (below_trans HB3.out.2.2.2.2 hbb)))))))
  clear p40 p41 o4 hb hb' hbb HB3
  go_wp2_with fail
  refine calls_named ?_
  intro y5 hy
  have p50 : Blk y5 (x4.heap.size) ([2].map (Value.int .i64)) 3 := by rw [hy]; exact Blk.alloc (Blk.alloc (Blk.alloc (Blk.alloc (Blk.new _ _ _) _) _) _) _
  have p51 : Blk y5 (x4.heap.size + 1) ([0, 65536].map (Value.int .i64)) 3 := by rw [hy]; exact Blk.alloc (Blk.alloc (Blk.alloc (Blk.at (by simp)) _) _) _
  have p52 : Blk y5 (x4.heap.size + 1 + 1) ([2].map (Value.int .i64)) 3 := by rw [hy]; exact Blk.alloc (Blk.alloc (Blk.at (by simp)) _) _
  have p53 : Blk y5 (x4.heap.size + 1 + 1 + 1) ([0, -1].map (Value.int .i64)) 3 := by rw [hy]; exact Blk.alloc (Blk.at (by simp)) _
  have p54 : Blk y5 (x4.heap.size + 1 + 1 + 1 + 1) ([2].map (Value.int .i64)) 3 := by rw [hy]; exact Blk.at (by simp)
  have hb : Below x4.heap.size x4 y5 := by rw [hy]; repeat (first | exact below_alloc _ | refine below_trans ?_ (below_alloc _))
  clear hy
  refine (zeros_calls 3 y5 (by omega)).mono ?_
  rintro r x5 ⟨z5, rfl, o5, hb'⟩
  have hbb := below_trans hb hb'
  have HB5 := Lib.hid (And.intro (HB4.out.1.kept hbb) (And.intro (HB4.out.2.1.kept hbb) (And.intro (HB4.out.2.2.1.kept hbb) (And.intro (HB4.out.2.2.2.1.kept hbb) (And.intro (HB4.out.2.2.2.2.1.kept hbb) (And.intro (HB4.out.2.2.2.2.2.1.kept hbb) (And.intro (bad_rows (p50.kept hb') (p51.kept hb') bad7 (by decide) (by decide)) (And.intro (bad_rows (p52.kept hb') (p53.kept hb') bad8 (by decide) (by decide)) (And.intro (bad_zeros (p54.kept hb') o5 bad9 (by decide)) (below_trans HB4.out.2.2.2.2.2.2 hbb))))))))))
  clear p50 p51 p52 p53 p54 o5 hb hb' hbb HB4
  go_wp2_with fail
  refine calls_named ?_
  intro y6 hy
  have p60 : Blk y6 (x5.heap.size) ([9, 9, 9].map (Value.int .i64)) 3 := by rw [hy]; exact Blk.new _ _ _
  have hb : Below x5.heap.size x5 y6 := by rw [hy]; repeat (first | exact below_alloc _ | refine below_trans ?_ (below_alloc _))
  clear hy
  refine (zeros_calls 2915 y6 (by omega)).mono ?_
  rintro r x6 ⟨z6, rfl, o6, hb'⟩
  have hbb := below_trans hb hb'
  have HB6 := Lib.hid (And.intro (HB5.out.1.kept hbb) (And.intro (HB5.out.2.1.kept hbb) (And.intro (HB5.out.2.2.1.kept hbb) (And.intro (HB5.out.2.2.2.1.kept hbb) (And.intro (HB5.out.2.2.2.2.1.kept hbb) (And.intro (HB5.out.2.2.2.2.2.1.kept hbb) (And.intro (HB5.out.2.2.2.2.2.2.1.kept hbb) (And.intro (HB5.out.2.2.2.2.2.2.2.1.kept hbb) (And.intro (HB5.out.2.2.2.2.2.2.2.2.1.kept hbb) (And.intro (bad_zeros (p60.kept hb') o6 bad10 (by decide)) (below_trans HB5.out.2.2.2.2.2.2.2.2.2 hbb)))))))))))
  clear p60 o6 hb hb' hbb HB5
  go_wp2_with fail
  refine calls_named ?_
  intro y7 hy
  have p70 : Blk y7 (x6.heap.size) ([9, 9, 9, 6].map (Value.int .i64)) 3 := by rw [hy]; exact Blk.new _ _ _
  have hb : Below x6.heap.size x6 y7 := by rw [hy]; repeat (first | exact below_alloc _ | refine below_trans ?_ (below_alloc _))
  clear hy
  refine (zeros_calls 4374 y7 (by omega)).mono ?_
  rintro r x7 ⟨z7, rfl, o7, hb'⟩
  have hbb := below_trans hb hb'
  have HB7 := Lib.hid (And.intro (HB6.out.1.kept hbb) (And.intro (HB6.out.2.1.kept hbb) (And.intro (HB6.out.2.2.1.kept hbb) (And.intro (HB6.out.2.2.2.1.kept hbb) (And.intro (HB6.out.2.2.2.2.1.kept hbb) (And.intro (HB6.out.2.2.2.2.2.1.kept hbb) (And.intro (HB6.out.2.2.2.2.2.2.1.kept hbb) (And.intro (HB6.out.2.2.2.2.2.2.2.1.kept hbb) (And.intro (HB6.out.2.2.2.2.2.2.2.2.1.kept hbb) (And.intro (HB6.out.2.2.2.2.2.2.2.2.2.1.kept hbb) (And.intro (bad_zeros (p70.kept hb') o7 bad11 (by decide)) (below_trans HB6.out.2.2.2.2.2.2.2.2.2.2 hbb))))))))))))
  clear p70 o7 hb hb' hbb HB6
  go_wp2_with fail
  refine wp_named ?_
  intro w8 hw8
  obtain ⟨b80, hb80⟩ : ∃ b, x7.heap.size = b := ⟨_, rfl⟩
  have bt : ∃ cells, Blk w8 b80 cells 24 ∧ ∀ k, k < 11 → ∃ v1 o v2, cells[k * 3]? = some v1 ∧ cells[k * 3 + 1]? = some (.int .i64 o) ∧ cells[k * 3 + 2]? = some v2 ∧ Bad x7 v1 o v2 := by
    rw [hw8]
    refine ⟨_, Blk.at hb80, fun k hk => ?_⟩
    have hcase : k = 0 ∨ k = 1 ∨ k = 2 ∨ k = 3 ∨ k = 4 ∨ k = 5 ∨ k = 6 ∨ k = 7 ∨ k = 8 ∨ k = 9 ∨ k = 10 := by omega
    rcases hcase with rfl | rfl | rfl | rfl | rfl | rfl | rfl | rfl | rfl | rfl | rfl
    · exact ⟨_, _, _, rfl, rfl, rfl, HB7.out.1⟩
    · exact ⟨_, _, _, rfl, rfl, rfl, HB7.out.2.1⟩
    · exact ⟨_, _, _, rfl, rfl, rfl, HB7.out.2.2.1⟩
    · exact ⟨_, _, _, rfl, rfl, rfl, HB7.out.2.2.2.1⟩
    · exact ⟨_, _, _, rfl, rfl, rfl, HB7.out.2.2.2.2.1⟩
    · exact ⟨_, _, _, rfl, rfl, rfl, HB7.out.2.2.2.2.2.1⟩
    · exact ⟨_, _, _, rfl, rfl, rfl, HB7.out.2.2.2.2.2.2.1⟩
    · exact ⟨_, _, _, rfl, rfl, rfl, HB7.out.2.2.2.2.2.2.2.1⟩
    · exact ⟨_, _, _, rfl, rfl, rfl, HB7.out.2.2.2.2.2.2.2.2.1⟩
    · exact ⟨_, _, _, rfl, rfl, rfl, HB7.out.2.2.2.2.2.2.2.2.2.1⟩
    · exact ⟨_, _, _, rfl, rfl, rfl, HB7.out.2.2.2.2.2.2.2.2.2.2.1⟩
  have hb8 : Below x7.heap.size x7 w8 := by rw [hw8]; repeat (first | exact below_alloc _ | refine below_trans ?_ (below_alloc _))
  have HT := Lib.hid (show (∀ k, k < 11 → ∃ v1 o v2, w8.cell? ⟨b80, k * 3, none⟩ = some v1 ∧ w8.cell? ⟨b80, k * 3 + 1, none⟩ = some (.int .i64 o) ∧ w8.cell? ⟨b80, k * 3 + 2, none⟩ = some v2 ∧ Bad w8 v1 o v2) ∧ Below w.heap.size w w8 from by
    obtain ⟨cells, hbl, hc⟩ := bt
    refine ⟨fun k hk => ?_, below_trans HB7.out.2.2.2.2.2.2.2.2.2.2.2 hb8⟩
    obtain ⟨v1, o, v2, h1, h2, h3, h4⟩ := hc k hk
    exact ⟨v1, o, v2, hbl.cell h1, hbl.cell h2, hbl.cell h3, h4.kept hb8⟩)
  rw [hb80]
  clear hw8 bt hb8 HB7 hb80
  go_loopw [82] (fun i wq => ∃ k, k ≤ 11 ∧ i = .int .i64 (k : Nat) ∧ Below w8.heap.size w8 wq) (fun i _ => 11 - (intOf i).toNat)
  case atStart => exact ⟨0, Nat.zero_le _, rfl, Below.refl _ _⟩
  case round =>
    obtain ⟨k, hk, rfl, hbr⟩ := hrel
    by_cases hlt : k < 11
    · have hkb : decide ((k : Int) < 11) = true := decide_eq_true (by omega)
      obtain ⟨v1, o, v2, h1, h2, h3, h4⟩ := HT.out.1 k hlt
      replace h1 := Ytkkohelbidmkdaa.kept hbr h1
      replace h2 := Ytkkohelbidmkdaa.kept hbr h2
      replace h3 := Ytkkohelbidmkdaa.kept hbr h3
      obtain ⟨A, c, s, B, e, d, h4⟩ := h4
      have e1 := h4.e1
      have e2 := h4.e2
      subst e1 e2
      have HF := Lib.hid (And.intro (h4.grid.kept hbr) (And.intro hbr (And.intro h4.bad h4.len)))
      clear h4 hbr
      go_upto_region 7 with fail
      refine wp_named ?_
      intro y1 hy1
      have b3 : Blk y1 wr.heap.size [.slice A s.length c, .int .i64 o, .slice B d.length e] 24 := by rw [hy1]; exact Blk.at rfl
      have hb : Below wr.heap.size wr y1 := by rw [hy1]; repeat (first | exact below_alloc _ | refine below_trans ?_ (below_alloc _))
      have HG := Lib.hid (And.intro b3 (And.intro (HF.out.1.kept hb) (And.intro (below_trans HF.out.2.1 hb) HF.out.2.2)))
      clear hy1 b3 hb HF h1 h2 h3 hkb
      have c0 := HG.out.1.cell (i := 0) rfl
      have c1 := HG.out.1.cell (i := 1) rfl
      have c2 := HG.out.1.cell (i := 2) rfl
      go_wp2_with fail
      refine calls_named ?_
      intro y2 hy2
      have b9 : Blk y2 y1.heap.size ([9].map (Value.int .i64)) 3 := by rw [hy2]; exact Blk.at rfl
      have hb : Below y1.heap.size y1 y2 := by rw [hy2]; repeat (first | exact below_alloc _ | refine below_trans ?_ (below_alloc _))
      have HG2 := Lib.hid (And.intro (HG.out.1.kept hb) (And.intro (HG.out.2.1.kept hb) (And.intro (below_trans HG.out.2.2.1 hb) (And.intro HG.out.2.2.2 b9.cs))))
      clear hy2 b9 hb HG c0 c1 c2
      have hcl := gridPlace_calls A B (some ⟨y1.heap.size, 0, none⟩) c e 1 s d [9] o y2 HG2.out.2.1.cs HG2.out.2.1.cd HG2.out.2.2.2.2 (by have := HG2.out.2.1.ls; have := HG2.out.2.1.lc; omega) (by have := HG2.out.2.1.ld; have := HG2.out.2.1.le; omega) (by simp)
      rw [placeR_bad HG2.out.2.2.2.1.1] at hcl
      refine hcl.mono ?_
      rintro r y3 ⟨rfl, hb⟩
      have HG3 := Lib.hid (And.intro (HG2.out.1.kept hb) (And.intro (HG2.out.2.1.kept hb) (And.intro (below_trans HG2.out.2.2.1 hb) HG2.out.2.2.2.1)))
      clear hb HG2 hcl
      have c0 := HG3.out.1.cell (i := 0) rfl
      have c1 := HG3.out.1.cell (i := 1) rfl
      have c2 := HG3.out.1.cell (i := 2) rfl
      go_wp2_with fail
      have hcl := gridAt_calls A B none c e 0 s d [] o y3 HG3.out.2.1.cs HG3.out.2.1.cd Cs.nil (by have := HG3.out.2.1.ls; have := HG3.out.2.1.lc; omega) HG3.out.2.1.ld HG3.out.2.1.le (by simp)
      rw [atR_bad HG3.out.2.2.2.1] at hcl
      refine hcl.mono ?_
      rintro r y4 ⟨va, rfl, -, hb⟩
      have HG4 := Lib.hid (And.intro (HG3.out.1.kept hb) (And.intro (HG3.out.2.1.kept hb) (And.intro (below_trans HG3.out.2.2.1 hb) HG3.out.2.2.2)))
      clear hb HG3 hcl c0 c1 c2
      have c0 := HG4.out.1.cell (i := 0) rfl
      have c1 := HG4.out.1.cell (i := 1) rfl
      have c2 := HG4.out.1.cell (i := 2) rfl
      go_wp2_with fail
      have hcl := range_calls A B c e s d o y4 HG4.out.2.1.cs HG4.out.2.1.cd (by have := HG4.out.2.1.ls; have := HG4.out.2.1.lc; omega) HG4.out.2.1.ld HG4.out.2.1.le
      rw [rangeR_bad HG4.out.2.2.2.1] at hcl
      refine hcl.mono ?_
      rintro r y5 ⟨vl, vh, rfl, -, -, hb⟩
      have HG5 := Lib.hid (And.intro (HG4.out.1.kept hb) (And.intro (HG4.out.2.1.kept hb) (And.intro (below_trans HG4.out.2.2.1 hb) HG4.out.2.2.2)))
      clear hb HG4 hcl c0 c1 c2
      have c0 := HG5.out.1.cell (i := 0) rfl
      have c1 := HG5.out.1.cell (i := 1) rfl
      have c2 := HG5.out.1.cell (i := 2) rfl
      go_wp2_with fail
      have hcl := swap_turn HG5.out.2.1 9 9
      rw [swapR_bad HG5.out.2.2.2.1] at hcl
      refine hcl.mono ?_
      rintro r y6 ⟨A6, k6, B6, e6, rfl, -, -, hb⟩
      have HG6 := Lib.hid (And.intro (HG5.out.1.kept hb) (And.intro (HG5.out.2.1.kept hb) (And.intro (below_trans HG5.out.2.2.1 hb) HG5.out.2.2.2)))
      clear hb HG5 hcl c0 c1 c2
      dsimp only [List.length_nil]
      go_upto_region 11 with fail
      refine wp_named ?_
      intro y7 hy7
      have hb : Below y6.heap.size y6 y7 := by rw [hy7]; repeat (first | exact below_alloc _ | refine below_trans ?_ (below_alloc _))
      have HG7 := Lib.hid (And.intro (HG6.out.1.kept hb) (And.intro (HG6.out.2.1.kept hb) (And.intro (below_trans HG6.out.2.2.1 hb) HG6.out.2.2.2)))
      clear hb hy7 HG6
      have c0 := HG7.out.1.cell (i := 0) rfl
      have c1 := HG7.out.1.cell (i := 1) rfl
      have c2 := HG7.out.1.cell (i := 2) rfl
      go_wp2_with fail
      have hcl := pick_turn (I := none) (ci := 0) (cs := []) HG7.out.2.1 Cs.nil (by simp)
      rw [pickR_bad HG7.out.2.2.2.1] at hcl
      refine hcl.mono ?_
      rintro r y8 ⟨A8, k8, B8, e8, rfl, -, -, hb⟩
      have HG8 := Lib.hid (And.intro (HG7.out.1.kept hb) (And.intro (HG7.out.2.1.kept hb) (And.intro (below_trans HG7.out.2.2.1 hb) HG7.out.2.2.2)))
      clear hb HG7 hcl c0 c1 c2
      dsimp only [List.length_nil]
      go_upto_region 12 with fail
      refine wp_named ?_
      intro y9 hy9
      have hb : Below y8.heap.size y8 y9 := by rw [hy9]; repeat (first | exact below_alloc _ | refine below_trans ?_ (below_alloc _))
      have HG9 := Lib.hid (And.intro (HG8.out.1.kept hb) (And.intro (HG8.out.2.1.kept hb) (And.intro (below_trans HG8.out.2.2.1 hb) HG8.out.2.2.2)))
      clear hb hy9 HG8
      have c0 := HG9.out.1.cell (i := 0) rfl
      have c1 := HG9.out.1.cell (i := 1) rfl
      have c2 := HG9.out.1.cell (i := 2) rfl
      go_wp2_with fail
      have hcl := check_calls A B c e s d o y9 HG9.out.2.1.cs HG9.out.2.1.cd (by have := HG9.out.2.1.ls; have := HG9.out.2.1.lc; omega) (by have := HG9.out.2.1.ld; have := HG9.out.2.1.le; omega)
      rw [HG9.out.2.2.2.1] at hcl
      refine hcl.mono ?_
      rintro r y10 ⟨rfl, hb⟩
      have HZ := Lib.hid (below_trans HG9.out.2.2.1 hb)
      clear hb HG9 hcl c0 c1 c2
      go_wp2
      go_roundw
      case rel => exact ⟨k + 1, by omega, by go_num, HZ.out⟩
      case measure => simp [intOf]; omega
    · have HZ := Lib.hid (below_trans HT.out.2 hbr)
      clear hbr HT
      go_wp2_with fail
      refine (twelve_calls wr).mono ?_
      rintro r u0 ⟨g1, g2, rfl, q1, q2, -, hb⟩
      have H0 := Lib.hid (And.intro (show G12 g1 g2 u0 from ⟨q1, q2⟩) (below_trans HZ.out hb))
      clear q1 q2 hb HZ
      go_upto_region 16 with fail
      refine wp_named ?_
      intro u1 hu
      have bg : Blk u1 u0.heap.size [.slice (some ⟨g1, 0, none⟩) 2 2, .int .i64 2, .slice (some ⟨g2, 0, none⟩) 12 12] 24 := by rw [hu]; exact Blk.at rfl
      have hb : Below u0.heap.size u0 u1 := by rw [hu]; repeat (first | exact below_alloc _ | refine below_trans ?_ (below_alloc _))
      have H1 := Lib.hid (And.intro bg (And.intro (H0.out.1.kept hb) (below_trans H0.out.2 hb)))
      clear hu bg hb H0
      have c0 := H1.out.1.cell (i := 0) rfl
      have c1 := H1.out.1.cell (i := 1) rfl
      have c2 := H1.out.1.cell (i := 2) rfl
      go_wp2_with fail
      refine calls_named ?_
      intro v1 hv
      have bl : Blk v1 u1.heap.size (([0] : List Int).map (Value.int .i64)) 3 := by rw [hv]; exact Blk.at rfl
      have hb : Below u1.heap.size u1 v1 := by rw [hv]; repeat (first | exact below_alloc _ | refine below_trans ?_ (below_alloc _))
      have K1 := Lib.hid (And.intro (H1.out.1.kept hb) (And.intro (H1.out.2.1.kept hb) (And.intro (below_trans H1.out.2.2 hb) bl.cs)))
      clear hv bl hb H1 c0 c1 c2
      refine (c12_at (ci := 1) K1.out.2.1 K1.out.2.2.2 (n := 1) rfl (by decide) k1).mono ?_
      rintro r u2 ⟨va1, rfl, hb⟩
      dsimp only [List.length_nil]
      have H2 := Lib.hid (And.intro (K1.out.1.kept hb) (And.intro (K1.out.2.1.kept hb) (below_trans K1.out.2.2.1 hb)))
      clear hb K1
      have c0 := H2.out.1.cell (i := 0) rfl
      have c1 := H2.out.1.cell (i := 1) rfl
      have c2 := H2.out.1.cell (i := 2) rfl
      go_wp2_with fail
      refine calls_named ?_
      intro v2 hv
      have bl : Blk v2 u2.heap.size (([0, 0, 0] : List Int).map (Value.int .i64)) 3 := by rw [hv]; exact Blk.at rfl
      have hb : Below u2.heap.size u2 v2 := by rw [hv]; repeat (first | exact below_alloc _ | refine below_trans ?_ (below_alloc _))
      have K2 := Lib.hid (And.intro (H2.out.1.kept hb) (And.intro (H2.out.2.1.kept hb) (And.intro (below_trans H2.out.2.2 hb) bl.cs)))
      clear hv bl hb H2 c0 c1 c2
      refine (c12_at (ci := 3) K2.out.2.1 K2.out.2.2.2 (n := 3) rfl (by decide) k2).mono ?_
      rintro r u3 ⟨va2, rfl, hb⟩
      dsimp only [List.length_nil]
      have H3 := Lib.hid (And.intro (K2.out.1.kept hb) (And.intro (K2.out.2.1.kept hb) (below_trans K2.out.2.2.1 hb)))
      clear hb K2
      have c0 := H3.out.1.cell (i := 0) rfl
      have c1 := H3.out.1.cell (i := 1) rfl
      have c2 := H3.out.1.cell (i := 2) rfl
      go_wp2_with fail
      refine calls_named ?_
      intro v3 hv
      have bl : Blk v3 u3.heap.size (([0, -1] : List Int).map (Value.int .i64)) 3 := by rw [hv]; exact Blk.at rfl
      have hb : Below u3.heap.size u3 v3 := by rw [hv]; repeat (first | exact below_alloc _ | refine below_trans ?_ (below_alloc _))
      have K3 := Lib.hid (And.intro (H3.out.1.kept hb) (And.intro (H3.out.2.1.kept hb) (And.intro (below_trans H3.out.2.2 hb) bl.cs)))
      clear hv bl hb H3 c0 c1 c2
      refine (c12_place (ci := 2) K3.out.2.1 K3.out.2.2.2 (n := 2) rfl (by decide) k3).mono ?_
      rintro r u4 ⟨rfl, hb⟩
      dsimp only [List.length_nil]
      have H4 := Lib.hid (And.intro (K3.out.1.kept hb) (And.intro (K3.out.2.1.kept hb) (below_trans K3.out.2.2.1 hb)))
      clear hb K3
      have c0 := H4.out.1.cell (i := 0) rfl
      have c1 := H4.out.1.cell (i := 1) rfl
      have c2 := H4.out.1.cell (i := 2) rfl
      go_wp2_with fail
      have K4 := H4
      clear H4 c0 c1 c2
      refine (c12_swap K4.out.2.1 0 2 k4).mono ?_
      rintro r w5 ⟨A5, qa5, B5, e5, rfl, -, -, hb⟩
      dsimp only [List.length_nil]
      go_upto_region 20 with fail
      refine wp_named ?_
      intro u5 hu
      have hb' : Below w5.heap.size w5 u5 := by rw [hu]; repeat (first | exact below_alloc _ | refine below_trans ?_ (below_alloc _))
      have hbb := below_trans hb hb'
      have H5 := Lib.hid (And.intro (K4.out.1.kept hbb) (And.intro (K4.out.2.1.kept hbb) (below_trans K4.out.2.2 hbb)))
      clear hu hb hb' hbb K4
      have c0 := H5.out.1.cell (i := 0) rfl
      have c1 := H5.out.1.cell (i := 1) rfl
      have c2 := H5.out.1.cell (i := 2) rfl
      go_wp2_with fail
      have K5 := H5
      clear H5 c0 c1 c2
      refine (c12_swap K5.out.2.1 (-1) 0 k5).mono ?_
      rintro r w6 ⟨A6, qa6, B6, e6, rfl, -, -, hb⟩
      dsimp only [List.length_nil]
      go_upto_region 21 with fail
      refine wp_named ?_
      intro u6 hu
      have hb' : Below w6.heap.size w6 u6 := by rw [hu]; repeat (first | exact below_alloc _ | refine below_trans ?_ (below_alloc _))
      have hbb := below_trans hb hb'
      have H6 := Lib.hid (And.intro (K5.out.1.kept hbb) (And.intro (K5.out.2.1.kept hbb) (below_trans K5.out.2.2 hbb)))
      clear hu hb hb' hbb K5
      have c0 := H6.out.1.cell (i := 0) rfl
      have c1 := H6.out.1.cell (i := 1) rfl
      have c2 := H6.out.1.cell (i := 2) rfl
      go_wp2_with fail
      refine calls_named ?_
      intro v6 hv
      have bl : Blk v6 u6.heap.size (([2] : List Int).map (Value.int .i64)) 3 := by rw [hv]; exact Blk.at rfl
      have hb : Below u6.heap.size u6 v6 := by rw [hv]; repeat (first | exact below_alloc _ | refine below_trans ?_ (below_alloc _))
      have K6 := Lib.hid (And.intro (H6.out.1.kept hb) (And.intro (H6.out.2.1.kept hb) (And.intro (below_trans H6.out.2.2 hb) bl.cs)))
      clear hv bl hb H6 c0 c1 c2
      refine (c12_pick (ci := 1) K6.out.2.1 K6.out.2.2.2 (n := 1) rfl (by decide) k6).mono ?_
      rintro r w7 ⟨A7, qa7, B7, e7, rfl, -, -, hb⟩
      dsimp only [List.length_nil]
      go_upto_region 22 with fail
      refine wp_named ?_
      intro u7 hu
      have hb' : Below w7.heap.size w7 u7 := by rw [hu]; repeat (first | exact below_alloc _ | refine below_trans ?_ (below_alloc _))
      have hbb := below_trans hb hb'
      have H7 := Lib.hid (And.intro (K6.out.1.kept hbb) (And.intro (K6.out.2.1.kept hbb) (below_trans K6.out.2.2.1 hbb)))
      clear hu hb hb' hbb K6
      have c0 := H7.out.1.cell (i := 0) rfl
      have c1 := H7.out.1.cell (i := 1) rfl
      have c2 := H7.out.1.cell (i := 2) rfl
      go_wp2_with fail
      have K7 := H7
      clear H7 c0 c1 c2
      refine (c12_pick (I := none) (ci := 0) K7.out.2.1 Cs.nil (n := 0) rfl (by decide) k7).mono ?_
      rintro r w8 ⟨A8, qa8, B8, e8, rfl, -, -, hb⟩
      dsimp only [List.length_nil]
      go_upto_region 23 with fail
      refine wp_named ?_
      intro u8 hu
      have hb' : Below w8.heap.size w8 u8 := by rw [hu]; repeat (first | exact below_alloc _ | refine below_trans ?_ (below_alloc _))
      have hbb := below_trans hb hb'
      have H8 := Lib.hid (And.intro (K7.out.1.kept hbb) (And.intro (K7.out.2.1.kept hbb) (below_trans K7.out.2.2 hbb)))
      clear hu hb hb' hbb K7
      have c0 := H8.out.1.cell (i := 0) rfl
      have c1 := H8.out.1.cell (i := 1) rfl
      have c2 := H8.out.1.cell (i := 2) rfl
      go_wp2_with fail
      refine calls_named ?_
      intro v8 hv
      have bl : Blk v8 u8.heap.size (([0, 0, 0, 0, 0] : List Int).map (Value.int .i64)) 3 := by rw [hv]; exact Blk.at rfl
      have hb : Below u8.heap.size u8 v8 := by rw [hv]; repeat (first | exact below_alloc _ | refine below_trans ?_ (below_alloc _))
      have K8 := Lib.hid (And.intro (H8.out.1.kept hb) (And.intro (H8.out.2.1.kept hb) (And.intro (below_trans H8.out.2.2 hb) bl.cs)))
      clear hv bl hb H8 c0 c1 c2
      refine (c12_pick (ci := 5) K8.out.2.1 K8.out.2.2.2 (n := 5) rfl (by decide) k8).mono ?_
      rintro r w9 ⟨A9, qa9, B9, e9, rfl, -, -, hb⟩
      dsimp only [List.length_nil]
      go_upto_region 24 with fail
      refine wp_named ?_
      intro u9 hu
      have hb' : Below w9.heap.size w9 u9 := by rw [hu]; repeat (first | exact below_alloc _ | refine below_trans ?_ (below_alloc _))
      have hbb := below_trans hb hb'
      have H9 := Lib.hid (And.intro (K8.out.1.kept hbb) (And.intro (K8.out.2.1.kept hbb) (below_trans K8.out.2.2.1 hbb)))
      clear hu hb hb' hbb K8
      go_wp2_with fail
      refine calls_named ?_
      intro v9 hv
      have bl : Blk v9 u9.heap.size (([8, 8, 8, 8] : List Int).map (Value.int .i64)) 3 := by rw [hv]; exact Blk.at rfl
      have hb : Below u9.heap.size u9 v9 := by rw [hv]; repeat (first | exact below_alloc _ | refine below_trans ?_ (below_alloc _))
      refine (zeros_calls 4096 v9 (by omega)).mono ?_
      rintro r w10 ⟨gz, rfl, oz, hb'⟩
      have hbb := below_trans hb hb'
      have K9 := Lib.hid (And.intro (H9.out.1.kept hbb) (And.intro (H9.out.2.1.kept hbb) (And.intro (below_trans H9.out.2.2 hbb) (show GBig u9.heap.size gz w10 from ⟨bl.kept hb', oz.lower (Nat.zero_le _)⟩))))
      clear hv bl hb hb' hbb oz H9
      go_upto_region 25 with fail
      refine wp_named ?_
      intro u10 hu
      have bb : Blk u10 w10.heap.size [.slice (some ⟨u9.heap.size, 0, none⟩) 4 4, .int .i64 1, .slice (some ⟨gz, 0, none⟩) 4096 4096] 24 := by rw [hu]; exact Blk.at rfl
      have hb : Below w10.heap.size w10 u10 := by rw [hu]; repeat (first | exact below_alloc _ | refine below_trans ?_ (below_alloc _))
      have H10 := Lib.hid (And.intro bb (And.intro (K9.out.2.2.2.kept hb) (And.intro (below_trans K9.out.2.2.1 hb) (And.intro (K9.out.1.kept hb) (K9.out.2.1.kept hb)))))
      clear hu bb hb K9
      have c0 := H10.out.1.cell (i := 0) rfl
      have c1 := H10.out.1.cell (i := 1) rfl
      have c2 := H10.out.1.cell (i := 2) rfl
      go_wp2_with fail
      refine calls_named ?_
      intro v10 hv
      have bl : Blk v10 u10.heap.size (([0, 0] : List Int).map (Value.int .i64)) 3 := by rw [hv]; exact Blk.at rfl
      have hb : Below u10.heap.size u10 v10 := by rw [hv]; repeat (first | exact below_alloc _ | refine below_trans ?_ (below_alloc _))
      have K10 := Lib.hid (And.intro (H10.out.1.kept hb) (And.intro (H10.out.2.1.kept hb) (And.intro (below_trans H10.out.2.2.1 hb) (And.intro (H10.out.2.2.2.1.kept hb) (And.intro (H10.out.2.2.2.2.kept hb) bl.cs)))))
      clear hv bl hb H10 c0 c1 c2
      refine (big_pick (ci := 2) K10.out.2.1 K10.out.2.2.2.2.2 (n := 2) rfl (by decide) k9).mono ?_
      rintro r w11 ⟨A11, qa11, B11, e11, rfl, -, -, hb⟩
      dsimp only [List.length_nil]
      go_upto_region 26 with fail
      refine wp_named ?_
      intro u11 hu
      have hb' : Below w11.heap.size w11 u11 := by rw [hu]; repeat (first | exact below_alloc _ | refine below_trans ?_ (below_alloc _))
      have hbb := below_trans hb hb'
      have H11 := Lib.hid (And.intro (K10.out.1.kept hbb) (And.intro (K10.out.2.1.kept hbb) (And.intro (below_trans K10.out.2.2.1 hbb) (And.intro (K10.out.2.2.2.1.kept hbb) (K10.out.2.2.2.2.1.kept hbb)))))
      clear hu hb hb' hbb K10
      have c0 := H11.out.1.cell (i := 0) rfl
      have c1 := H11.out.1.cell (i := 1) rfl
      have c2 := H11.out.1.cell (i := 2) rfl
      go_wp2_with fail
      refine calls_named ?_
      intro v11 hv
      have bl : Blk v11 u11.heap.size (([0, 1] : List Int).map (Value.int .i64)) 3 := by rw [hv]; exact Blk.at rfl
      have hb : Below u11.heap.size u11 v11 := by rw [hv]; repeat (first | exact below_alloc _ | refine below_trans ?_ (below_alloc _))
      have K11 := Lib.hid (And.intro (H11.out.1.kept hb) (And.intro (H11.out.2.1.kept hb) (And.intro (below_trans H11.out.2.2.1 hb) (And.intro (H11.out.2.2.2.1.kept hb) (And.intro (H11.out.2.2.2.2.kept hb) bl.cs)))))
      clear hv bl hb H11 c0 c1 c2
      refine (big_pick (ci := 2) K11.out.2.1 K11.out.2.2.2.2.2 (n := 2) rfl (by decide) k10).mono ?_
      rintro r w12 ⟨A12, qa12, B12, e12, rfl, -, -, hb⟩
      dsimp only [List.length_nil]
      go_upto_region 27 with fail
      refine wp_named ?_
      intro u12 hu
      have hb' : Below w12.heap.size w12 u12 := by rw [hu]; repeat (first | exact below_alloc _ | refine below_trans ?_ (below_alloc _))
      have hbb := below_trans hb hb'
      have H12 := Lib.hid (And.intro (K11.out.1.kept hbb) (And.intro (K11.out.2.1.kept hbb) (And.intro (below_trans K11.out.2.2.1 hbb) (And.intro (K11.out.2.2.2.1.kept hbb) (K11.out.2.2.2.2.1.kept hbb)))))
      clear hu hb hb' hbb K11
      have c0 := H12.out.2.2.2.1.cell (i := 0) rfl
      have c1 := H12.out.2.2.2.1.cell (i := 1) rfl
      have c2 := H12.out.2.2.2.1.cell (i := 2) rfl
      go_wp2_with fail
      refine calls_named ?_
      intro v12 hv
      have bl : Blk v12 u12.heap.size (([1, 1, 0, 1] : List Int).map (Value.int .i64)) 3 := by rw [hv]; exact Blk.at rfl
      have hb : Below u12.heap.size u12 v12 := by rw [hv]; repeat (first | exact below_alloc _ | refine below_trans ?_ (below_alloc _))
      have K12 := Lib.hid (And.intro (H12.out.1.kept hb) (And.intro (H12.out.2.1.kept hb) (And.intro (below_trans H12.out.2.2.1 hb) (And.intro (H12.out.2.2.2.2.kept hb) bl.cs))))
      clear hv bl hb H12 c0 c1 c2
      refine (c12_pick (ci := 4) K12.out.2.2.2.1 K12.out.2.2.2.2 (n := 4) rfl (by decide) k11).mono ?_
      rintro r w13 ⟨A13, qa13, B13, e13, rfl, -, od, hb⟩
      have hod := od.length.2.2.2.2
      obtain ⟨bd, pd, hB1, hd20⟩ := hod 20 11 rfl
      obtain ⟨bd', pd', hB2, hd22⟩ := hod 22 10 rfl
      (try dsimp only at hB1 hB2)
      subst hB1
      cases hB2
      have HD := Lib.hid (And.intro hd20 hd22)
      have HK := Lib.hid (And.intro (K12.out.1.kept hb) (And.intro (K12.out.2.1.kept hb) (below_trans K12.out.2.2.1 hb)))
      clear hd20 hd22 hod od hb K12
      have c0 := HK.out.1.cell (i := 0) rfl
      have c1 := HK.out.1.cell (i := 1) rfl
      have c2 := HK.out.1.cell (i := 2) rfl
      have l0 := HK.out.1.lt
      simp only [List.length_cons, List.length_nil, Nat.zero_add, Nat.reduceAdd]
      go_wp2_with fail
      refine calls_named ?_
      intro y1 hy1
      have b37 : Blk y1 w13.heap.size [.slice A13 2 qa13, .int .i64 4, .slice (some ⟨bd, pd, none⟩) 24 e13] 24 := by rw [hy1]; exact Blk.at rfl
      have hb : Below w13.heap.size w13 y1 := by rw [hy1]; repeat (first | exact below_alloc _ | refine below_trans ?_ (below_alloc _))
      have HK1 := Lib.hid (And.intro (HK.out.2.1.kept hb) (And.intro (below_trans HK.out.2.2 hb) (And.intro b37 (And.intro (Ytkkohelbidmkdaa.kept hb HD.out.1) (Ytkkohelbidmkdaa.kept hb HD.out.2)))))
      clear hy1 b37 hb HK HD c0 c1 c2 l0
      refine (big_check HK1.out.1).mono ?_
      rintro r y2 ⟨rfl, hb⟩
      have c2 := (HK1.out.2.2.1.kept hb).cell (i := 2) rfl
      have d0 := Ytkkohelbidmkdaa.kept hb HK1.out.2.2.2.1
      have d1 := Ytkkohelbidmkdaa.kept hb HK1.out.2.2.2.2
      have HZ := Lib.hid (below_trans HK1.out.2.1 hb)
      clear hb HK1
      go_wp2
      go_ret
      exact ⟨rfl, HZ.out⟩
end Go.Proofs.Ytkkohelbidmkdaa
