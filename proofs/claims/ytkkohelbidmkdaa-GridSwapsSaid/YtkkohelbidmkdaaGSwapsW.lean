/-
  The law GridSwaps, walked.
-/
import Derived.Test.YtkkohelbidmkdaaGGrd
namespace Go.Proofs.Ytkkohelbidmkdaa
set_option linter.unusedVariables false
set_option linter.unusedSimpArgs false
open Go Go.RowKit

set_option maxRecDepth 100000 in
set_option maxHeartbeats 3200000 in
theorem gridSwaps_calls (d : Value) (a b n : Int) (w : World) (hd : DraftV w d) (ha0 : 0 ≤ a) (ha1 : a ≤ 255) (hb0 : 0 ≤ b) (hb1 : b ≤ 255) (hn0 : 0 ≤ n) (hn1 : n ≤ 65535) : Calls Try.prog 8 #[d, .int .u8 a, .int .u8 b, .int .u16 n] w fun r w' => r = .returned (.bool true) ∧ Below w.heap.size w w' := by
  have HD := Lib.hid hd
  obtain ⟨S, cs, ss, du, V, cv, vs, sm, rfl, _⟩ := hd.is
  obtain ⟨an, rfl⟩ := Int.eq_ofNat_of_zero_le ha0
  obtain ⟨bn, rfl⟩ := Int.eq_ofNat_of_zero_le hb0
  obtain ⟨nn, rfl⟩ := Int.eq_ofNat_of_zero_le hn0
  clear hd ha0 hb0 hn0
  go_enter Try.func8, Try.ntmps8
  go_wp2_with fail
  refine calls_named ?_
  intro w1 hw1
  have p1 : Blk w1 w.heap.size [.slice S ss.length cs, .int .u8 du, .slice V vs.length cv, .bool sm] 28 := by rw [hw1]; exact Blk.new _ _ _
  have hb1' : Below w.heap.size w w1 := by rw [hw1]; repeat (first | exact below_alloc _ | refine below_trans ?_ (below_alloc _))
  clear hw1
  refine (wakes_calls w1).mono ?_
  rintro r w2 ⟨rfl, hb2⟩
  replace p1 := p1.kept hb2
  have hb12 := below_trans hb1' hb2
  have c3 := p1.cell (i := 0) rfl
  have c4 := p1.cell (i := 1) rfl
  have c5 := p1.cell (i := 2) rfl
  have c6 := p1.cell (i := 3) rfl
  have HB := Lib.hid hb12
  clear p1 hb1' hb2 hb12
  go_wp2_with fail
  refine (draft_calls (HD.out.kept HB.out)).mono ?_
  rintro r w3 ⟨A, c, sN, on, Ad, kd, data, rfl, hdr⟩
  have HW := Lib.hid hdr
  clear c3 c4 c5 c6 hdr
  go_upto_region 4 with fail
  refine wp_named ?_
  intro w4 hw4
  have bg : Blk w4 w3.heap.size [.slice A sN.length c, .int .i64 on, .slice Ad data.length kd] 24 := by rw [hw4]; exact Blk.at rfl
  have hb4 : Below w3.heap.size w3 w4 := by rw [hw4]; repeat (first | exact below_alloc _ | refine below_trans ?_ (below_alloc _))
  have hl1 := HW.out.len1
  have HG := Lib.hid (And.intro bg (And.intro ((HW.out.grd.lower (b0 := 0) (Nat.zero_le _)).kept hb4) (below_trans HB.out (below_trans HW.out.below hb4))))
  have c0 := bg.cell (i := 0) rfl
  obtain ⟨i, hi⟩ : ∃ i, an % sN.length = i := ⟨_, rfl⟩
  obtain ⟨k, hk⟩ : ∃ k, bn % sN.length = k := ⟨_, rfl⟩
  have hil : i < sN.length := by rw [← hi]; exact Nat.mod_lt _ (by omega)
  have hkl : k < sN.length := by rw [← hk]; exact Nat.mod_lt _ (by omega)
  have hti : Int.tmod (an : Int) (sN.length : Int) = (i : Int) := by rw [Int.tmod_eq_emod_of_nonneg (by omega), ← hi]; simp
  have htk : Int.tmod (bn : Int) (sN.length : Int) = (k : Int) := by rw [Int.tmod_eq_emod_of_nonneg (by omega), ← hk]; simp
  have hli : ¬ sN.length = 0 := by omega
  have hwa : IntKind.i64.wrap (an : Int) = (an : Int) := by rw [IntWalk.i64_left]; exact wrap64_id (by omega) (by omega)
  have hwb : IntKind.i64.wrap (bn : Int) = (bn : Int) := by rw [IntWalk.i64_left]; exact wrap64_id (by omega) (by omega)
  have HI := Lib.hid (And.intro hi hk)
  clear hw4 bg hb4 HW hi hk
  refine wp_seq_all (fun _ => false) (fun _ _ => undef) (fun _ _ _ => True) (by kernel_rfl) (by kernel_rfl) (fun k x A B hb h => h) ?_
  repeat (first | (refine seq_skip (by rfl) ?_; simp only [Act.put, List.setIfInBounds_toArray, List.set_cons_zero, List.set_cons_succ, Nat.reduceAdd]) | (refine seq_pure (v := ?_) (by rfl) (by rfl) (fun W hW hC => ?_) ?_; rotate_left; (go_simp <;> with_reducible rfl); simp only [Act.put, List.setIfInBounds_toArray, List.set_cons_zero, List.set_cons_succ, Nat.reduceAdd]))
  refine seq_nil ?_; intro W hW hF
  clear hF
  have HG4 := Lib.hid (And.intro (HG.out.1.kept hW) (And.intro (HG.out.2.1.kept hW) (below_trans HG.out.2.2 hW)))
  clear HG hW c0 hti htk hli hwa hwb
  have c0 := HG4.out.1.cell (i := 0) rfl
  have c1 := HG4.out.1.cell (i := 1) rfl
  have c2 := HG4.out.1.cell (i := 2) rfl
  go_wp2_with fail
  refine (swap_grd HG4.out.2.1 hil hkl).mono ?_
  rintro r w5 ⟨A1, k1, B1, k2, rfl, g1, hdl, hb5⟩
  have hsl : (swapN sN i k).length = sN.length := swapN_length ..
  go_upto_region 6 with fail
  refine wp_named ?_
  intro w6 hw6
  have bs : Blk w6 w5.heap.size [.slice A1 sN.length k1, .int .i64 on, .slice B1 data.length k2] 24 := by rw [hw6]; exact Blk.at rfl
  have hb6 : Below w5.heap.size w5 w6 := by rw [hw6]; repeat (first | exact below_alloc _ | refine below_trans ?_ (below_alloc _))
  have hb56 := below_trans hb5 hb6
  have HG6 := Lib.hid (And.intro (HG4.out.1.kept hb56) (And.intro (HG4.out.2.1.kept hb56) (And.intro (below_trans HG4.out.2.2 hb56) (And.intro bs (And.intro (g1.kept hb6) (And.intro hdl hsl))))))
  clear c0 c1 c2 hw6 bs hb5 hb6 hb56 g1 HG4 hdl hsl
  have c0 := HG6.out.2.2.2.1.cell (i := 0) rfl
  have c1 := HG6.out.2.2.2.1.cell (i := 1) rfl
  have c2 := HG6.out.2.2.2.1.cell (i := 2) rfl
  go_wp2_with fail
  have hc := swap_grd HG6.out.2.2.2.2.1 (a := k) (b := i) (by rw [HG6.out.2.2.2.2.2.2]; exact hkl) (by rw [HG6.out.2.2.2.2.2.2]; exact hil)
  rw [HG6.out.2.2.2.2.2.2, HG6.out.2.2.2.2.2.1] at hc
  refine hc.mono ?_
  rintro r w7 ⟨A2, k3, B2, k4, rfl, g2, hdl2, hb7⟩
  rw [swapN_swapN hil hkl, swapV_back HG6.out.2.1.valid.pos HG6.out.2.1.len4 hil hkl (data_nat HG6.out.2.1.valid)] at g2
  clear hc hdl2
  go_upto_region 7 with fail
  refine wp_named ?_
  intro w8 hw8
  have bb : Blk w8 w7.heap.size [.slice A2 sN.length k3, .int .i64 on, .slice B2 data.length k4] 24 := by rw [hw8]; exact Blk.at rfl
  have hb8 : Below w7.heap.size w7 w8 := by rw [hw8]; repeat (first | exact below_alloc _ | refine below_trans ?_ (below_alloc _))
  have hb78 := below_trans hb7 hb8
  have HG8 := Lib.hid (And.intro (HG6.out.1.kept hb78) (And.intro (HG6.out.2.1.kept hb78) (And.intro (below_trans HG6.out.2.2.1 hb78) (And.intro (HG6.out.2.2.2.1.kept hb78) (And.intro (HG6.out.2.2.2.2.1.kept hb78) (And.intro HG6.out.2.2.2.2.2 (And.intro bb (g2.kept hb8))))))))
  clear c0 c1 c2 hw8 bb hb7 hb8 hb78 g2 HG6
  have c0 := HG8.out.1.cell (i := 0) rfl
  have c1 := HG8.out.1.cell (i := 1) rfl
  have c2 := HG8.out.1.cell (i := 2) rfl
  go_wp2_with fail
  refine (range_grd HG8.out.2.1).mono ?_
  rintro r w9 ⟨L1, kl1, H1, kh1, rfl, ol, oh, ll, lh, hb9⟩
  have HG9 := Lib.hid (And.intro (HG8.out.1.kept hb9) (And.intro (HG8.out.2.1.kept hb9) (And.intro (below_trans HG8.out.2.2.1 hb9) (And.intro (HG8.out.2.2.2.1.kept hb9) (And.intro (HG8.out.2.2.2.2.1.kept hb9) (And.intro HG8.out.2.2.2.2.2.1 (And.intro (HG8.out.2.2.2.2.2.2.1.kept hb9) (And.intro (HG8.out.2.2.2.2.2.2.2.kept hb9) (And.intro ol (And.intro oh (And.intro ll lh)))))))))))
  clear c0 c1 c2 ol oh ll lh hb9 HG8
  have c0 := HG9.out.2.2.2.1.cell (i := 0) rfl
  have c1 := HG9.out.2.2.2.1.cell (i := 1) rfl
  have c2 := HG9.out.2.2.2.1.cell (i := 2) rfl
  go_wp2_with fail
  have hc := range_grd HG9.out.2.2.2.2.1
  rw [HG9.out.2.2.2.2.2.1.1, HG9.out.2.2.2.2.2.1.2] at hc
  refine hc.mono ?_
  rintro r w10 ⟨L2, kl2, H2, kh2, rfl, ol, oh, ll, lh, hb10⟩
  have hrs := rangeR_swapped HG9.out.2.1.valid hil hkl
  rw [rangeR_ok HG9.out.2.1.valid, rangeR_ok (HG9.out.2.1.valid.swapped hil hkl)] at hrs
  injection hrs with e1 e2
  injection e2 with e2 e3
  rw [e1] at ol
  rw [e2] at oh
  clear hc ll lh e1 e2 e3
  have HX := Lib.hid (And.intro (HG9.out.1.kept hb10) (And.intro (HG9.out.2.1.kept hb10) (And.intro (below_trans HG9.out.2.2.1 hb10) (And.intro (HG9.out.2.2.2.1.kept hb10) (And.intro (HG9.out.2.2.2.2.1.kept hb10) HG9.out.2.2.2.2.2.1)))))
  have HY := Lib.hid (And.intro (HG9.out.2.2.2.2.2.2.1.kept hb10) (And.intro (HG9.out.2.2.2.2.2.2.2.1.kept hb10) (And.intro (And.intro (HG9.out.2.2.2.2.2.2.2.2.1.kept hb10) ol) (And.intro (And.intro (HG9.out.2.2.2.2.2.2.2.2.2.1.kept hb10) oh) HG9.out.2.2.2.2.2.2.2.2.2.2))))
  clear c0 c1 c2 ol oh hb10 HG9
  have c0 := HY.out.1.cell (i := 0) rfl
  have c1 := HY.out.1.cell (i := 1) rfl
  have c2 := HY.out.1.cell (i := 2) rfl
  have d0 := HX.out.1.cell (i := 0) rfl
  have d1 := HX.out.1.cell (i := 1) rfl
  have d2 := HX.out.1.cell (i := 2) rfl
  go_wp2_with fail
  refine (same_grd HY.out.2.1 HX.out.2.1 rfl rfl rfl).mono ?_
  rintro r w11 ⟨rfl, hb11⟩
  have HX1 := Lib.hid (And.intro (HX.out.1.kept hb11) (And.intro (HX.out.2.1.kept hb11) (And.intro (below_trans HX.out.2.2.1 hb11) (And.intro (HX.out.2.2.2.1.kept hb11) (And.intro (HX.out.2.2.2.2.1.kept hb11) HX.out.2.2.2.2.2)))))
  have HY1 := Lib.hid (And.intro (And.intro (HY.out.2.2.1.1.kept hb11) (HY.out.2.2.1.2.kept hb11)) (And.intro (And.intro (HY.out.2.2.2.1.1.kept hb11) (HY.out.2.2.2.1.2.kept hb11)) HY.out.2.2.2.2))
  clear c0 c1 c2 d0 d1 d2 hb11 HX HY
  have ho4 : on ≤ 4096 := by have := HX1.out.2.1.valid.out4; omega
  have ho1 : 1 ≤ on := by have := HX1.out.2.1.valid.out1; omega
  go_wp2_with fail
  refine (equal_same HY1.out.1.1 HY1.out.1.2 HY1.out.2.2.1 rfl ho4).mono ?_
  rintro r w12 ⟨rfl, hb12⟩
  have HX2 := Lib.hid (And.intro (HX1.out.1.kept hb12) (And.intro (HX1.out.2.1.kept hb12) (And.intro (below_trans HX1.out.2.2.1 hb12) (And.intro (HX1.out.2.2.2.1.kept hb12) (And.intro (HX1.out.2.2.2.2.1.kept hb12) HX1.out.2.2.2.2.2)))))
  have HY2 := Lib.hid (And.intro (And.intro (HY1.out.2.1.1.kept hb12) (HY1.out.2.1.2.kept hb12)) HY1.out.2.2)
  clear hb12 HX1 HY1
  go_wp2_with fail
  refine (equal_same HY2.out.1.1 HY2.out.1.2 HY2.out.2.2 rfl ho4).mono ?_
  rintro r w13 ⟨rfl, hb13⟩
  have HX3 := Lib.hid (And.intro (HX2.out.1.kept hb13) (And.intro (HX2.out.2.1.kept hb13) (And.intro (below_trans HX2.out.2.2.1 hb13) (And.intro (HX2.out.2.2.2.1.kept hb13) (And.intro (HX2.out.2.2.2.2.1.kept hb13) HX2.out.2.2.2.2.2)))))
  clear hb13 HX2 HY2
  go_upto_region 11 with fail
  have hdn := data_nat HX3.out.2.1.valid
  obtain ⟨N, hN⟩ : ∃ N, pr sN = N := ⟨_, rfl⟩
  have hN0 : 0 < N := by rw [← hN]; exact pr_pos HX3.out.2.1.valid.pos
  obtain ⟨q, hq⟩ : ∃ q, nn % N = q := ⟨_, rfl⟩
  have hqN : q < N := by rw [← hq]; exact Nat.mod_lt _ hN0
  have hq6 : q ≤ 65536 := by have : q ≤ nn := by rw [← hq]; exact Nat.mod_le _ _
                             omega
  have hwn : IntKind.i64.wrap (nn : Int) = (nn : Int) := by rw [IntWalk.i64_left]; exact wrap64_id (by omega) (by omega)
  have htd : Int.tdiv (data.length : Int) (on : Int) = (N : Int) := by rw [hdn, hN, Int.natCast_mul, Int.mul_tdiv_cancel _ (by omega)]
  have htm : Int.tmod (nn : Int) (N : Int) = (q : Int) := by rw [Int.tmod_eq_emod_of_nonneg (by omega), ← hq]; simp
  have hN1 : ¬ N = 0 := by omega
  have hN4 : N ≤ 4096 := by have h1 := HX3.out.2.1.most; rw [hdn, hN] at h1; exact Nat.le_trans (Nat.le_mul_of_pos_right _ ho1) h1
  have hwN : IntKind.i64.wrap (N : Int) = (N : Int) := by rw [IntWalk.i64_left]; exact wrap64_id (by omega) (by omega)
  have hon1 : ¬ on = 0 := by omega
  have HN := Lib.hid (And.intro hN (And.intro hqN hq6))
  have c0 := HX3.out.1.cell (i := 0) rfl
  have c1 := HX3.out.1.cell (i := 1) rfl
  have c2 := HX3.out.1.cell (i := 2) rfl
  clear hdn hN hq hqN hq6 hN0
  refine wp_seq_all (fun k => k == 11) (fun _ y => .slice (some ⟨y.i, 0, none⟩) sN.length y.k) (fun _ y W => Own W 0 (.slice (some ⟨y.i, 0, none⟩) sN.length y.k) (ints (dg sN q))) (by kernel_rfl) (by kernel_rfl) (fun k y A B hb h => h.kept hb) ?_
  repeat (first | (refine seq_skip (by rfl) ?_; simp only [Act.put, List.setIfInBounds_toArray, List.set_cons_zero, List.set_cons_succ, Nat.reduceAdd]) | (refine seq_pure (v := ?_) (by rfl) (by rfl) (fun W hW hC => ?_) ?_; rotate_left; (go_simp <;> with_reducible rfl); simp only [Act.put, List.setIfInBounds_toArray, List.set_cons_zero, List.set_cons_succ, Nat.reduceAdd]))
  refine seq_made (by rfl) (by rfl) (fun W hW hC hF R hR => ?_) (fun y => ?_)
  · have hix := lawIndex_calls A c sN q W (HX3.out.2.1.size.length.2.2.2.2.kept hW) HX3.out.2.1.len1 (by have := HX3.out.2.1.len4; omega) (fun x hx => by have := HX3.out.2.1.valid.sizes x (List.mem_map.2 ⟨x, hx, rfl⟩); omega) (by rw [HN.out.1]; exact HN.out.2.1) HN.out.2.2
    rw [ints_length] at hix
    unfold Gives; go_simp; refine hix.mono ?_; rintro r w8 ⟨gi, ki, rfl, hoi, hb8⟩; exact ⟨_, rfl, hR {i := gi, k := ki} _ hb8 (hoi.lower (Nat.zero_le _))⟩
  simp only [Act.put, List.setIfInBounds_toArray, List.set_cons_zero, List.set_cons_succ, Nat.reduceAdd]
  repeat (first | (refine seq_skip (by rfl) ?_; simp only [Act.put, List.setIfInBounds_toArray, List.set_cons_zero, List.set_cons_succ, Nat.reduceAdd]) | (refine seq_pure (v := ?_) (by rfl) (by rfl) (fun W hW hC => ?_) ?_; rotate_left; (go_simp <;> with_reducible rfl); simp only [Act.put, List.setIfInBounds_toArray, List.set_cons_zero, List.set_cons_succ, Nat.reduceAdd]))
  refine seq_nil ?_; intro W hW hF
  have hF1 := hF _ _ (List.mem_cons_self ..)
  clear hF
  obtain ⟨gi, hgi⟩ : ∃ g, y.i = g := ⟨_, rfl⟩
  obtain ⟨ki, hki⟩ : ∃ g, y.k = g := ⟨_, rfl⟩
  rw [hgi, hki] at hF1
  rw [hgi, hki]
  clear hgi hki y
  have HX4 := Lib.hid (And.intro (HX3.out.1.kept hW) (And.intro (HX3.out.2.1.kept hW) (And.intro (below_trans HX3.out.2.2.1 hW) (And.intro (HX3.out.2.2.2.1.kept hW) (And.intro (HX3.out.2.2.2.2.1.kept hW) (And.intro HX3.out.2.2.2.2.2 hF1))))))
  have hqN : q < pr sN := by rw [HN.out.1]; exact HN.out.2.1
  clear c0 c1 c2 HX3 hW hF1 htd htm hN1 hon1 hwn HN hN4 hwN
  go_wp2_with fail
  have hdl : (ints (dg sN q)).length = sN.length := by rw [ints_length, dg_length]
  have hcl := clone_calls (some ⟨gi, 0, none⟩) ki (ints (dg sN q)) W (by have := HX4.out.2.2.2.2.2.2.length.2.2.2.2; exact this) (fun e => by cases e) (by rw [hdl]; have := HX4.out.2.1.len4; omega)
  rw [hdl] at hcl
  refine hcl.mono ?_
  rintro r w14 ⟨v, rfl, how, hb14⟩
  obtain ⟨A5, k5, rfl, -⟩ := how.cs
  rw [hdl] at how ⊢
  obtain ⟨xi, bI, oI, hxi, hA, hci⟩ := HX4.out.2.2.2.2.2.2.length.2.2.2.2.at (i := i) (by rw [hdl]; exact hil)
  cases hA
  obtain ⟨xk, bI, oI, hxk, hA, hck⟩ := HX4.out.2.2.2.2.2.2.length.2.2.2.2.at (i := k) (by rw [hdl]; exact hkl)
  cases hA
  rw [Nat.zero_add] at hci hck
  have hgi := block_lt hci
  dsimp only at hgi
  replace hci := Ytkkohelbidmkdaa.kept hb14 hci
  replace hck := Ytkkohelbidmkdaa.kept hb14 hck
  obtain ⟨g5, cap5, hv5, hg50, -, -, -, -, -, o6⟩ := how.set (k := i) (by rw [hdl]; exact hil) xk
  injection hv5 with hv5 hv5' hv6
  subst hv5 hv6
  clear hv5'
  obtain ⟨cur, hcur, hsz⟩ : ∃ cur : Array Value, w14.heap[g5]? = some (.cells cur 3) ∧ sN.length ≤ cur.size := by
    obtain ⟨_, hh⟩ := how
    rcases hh with ⟨hh, _⟩ | ⟨g, cap, cur, hh, _, hh2, hh3, _, hh4, _⟩
    · cases hh
    · injection hh with h1
      injection h1 with h1
      injection h1 with h1
      subst h1
      exact ⟨cur, hh2, by omega⟩
  have n5 : ¬ gi = g5 := by omega
  have HXX := Lib.hid (And.intro hxi (And.intro hxk (And.intro hcur (And.intro hsz (And.intro o6 (And.intro hb14 (And.intro hg50 hdl)))))))
  clear hxi hxk hcur hsz o6 hb14 hg50 how hcl hgi hdl
  dsimp only
  go_upto_region 13 with fail
  refine RT.wp_seq_tail (T := RT.OneT g5 (.cells (cur.setIfInBounds i (.int .i64 xk)) 3)) 14 (fun k => k == 13) (fun _ _ => undef) (fun _ _ W => W.heap[g5]? = some (.cells (cur.setIfInBounds i (.int .i64 xk)) 3)) trivial (by kernel_rfl) (by kernel_rfl) (by decide)
    (fun _ _ A B hT h => by rcases hT.one with e | e; exact e.trans h; exact e) ?_
  repeat (first | (refine RT.seq_skip (by rfl) ?_; simp only [Act.put, List.setIfInBounds_toArray, List.set_cons_zero, List.set_cons_succ, Nat.reduceAdd]) | (refine RT.seq_pure (v := ?_) (by rfl) (by rfl) (fun W hW hn => ?_) ?_; rotate_left; (have hC := RT.OneT.cell hW; clear hW hn; go_simp <;> with_reducible rfl); simp only [Act.put, List.setIfInBounds_toArray, List.set_cons_zero, List.set_cons_succ, Nat.reduceAdd]))
  refine RT.seq_made (by rfl) (by rfl) (fun W' hW' hn hF R hR => ?_) (fun _ => ?_)
  · clear hn
    obtain ⟨⟨u, hu⟩, hfz, hT, hX⟩ := one_store HXX.out.2.2.1 (by have := HXX.out.2.2.2.1; omega) hW'
    unfold RT.Gives
    go_simp
    exact hR {} _ hT hX (fun _ h => h)
  simp only [Act.put, List.setIfInBounds_toArray, List.set_cons_zero, List.set_cons_succ, Nat.reduceAdd]
  refine RT.seq_nil ?_
  intro W7 hW7 hF
  have hX7 := hF _ _ (List.mem_cons_self ..)
  clear hF
  obtain ⟨hxi, hxk, hcur, hsz, o6, hb14, hg50, hdl⟩ := HXX.out
  have o4 := o6.of_heap (B := W7) (fun g hg => by cases hg; rw [hX7, heap_set hcur])
  have hb7 := hW7.below hb14 hg50
  have hlb' : k < ((ints (dg sN q)).set i xk).length := by rw [List.length_set, hdl]; exact hkl
  obtain ⟨g4, cap4, hv4, _, _, _, hsb, hfb, _, o5⟩ := o4.set (k := k) hlb' xi
  injection hv4 with hv4 hv5 hv6
  injection hv4 with hv4
  injection hv4 with hv4
  subst hv4
  have hsw : ((ints (dg sN q)).set i xk).set k xi = swapL (ints (dg sN q)) i k := by
    unfold swapL
    rw [hxi, hxk]; rfl
  rw [hsw] at o5
  obtain ⟨ub, hub⟩ : ∃ u, ((ints (dg sN q)).set i xk)[k]'hlb' = u := ⟨_, rfl⟩
  rw [hub] at hsb
  have hb15 := hb7.setCell (p := ⟨g5, k, none⟩) hg50 (.int .i64 xi)
  have HX5 := Lib.hid (And.intro hb15 o5)
  clear hci hck hub hsw hlb' o6 o4 hb7 hb14 hb15 o5 hcur hX7 hW7 HXX hxi hxk hsz hv5 hv6 hdl n5
  go_upto_region 14 with fail
  refine wp_named ?_
  intro w16 hw16
  rw [← hw16] at HX5
  clear hw16 hsb hfb
  obtain ⟨h1, h2, h3, h4, h5, h6, h7⟩ := HX4.out
  have HX6 := Lib.hid (And.intro (h1.kept HX5.out.1) (And.intro (h2.kept HX5.out.1) (And.intro (below_trans h3 HX5.out.1) (And.intro (h4.kept HX5.out.1) (And.intro (h5.kept HX5.out.1) (And.intro h6 (And.intro (h7.kept HX5.out.1) HX5.out.2)))))))
  clear h1 h2 h3 h4 h5 h6 h7 HX4 HX5 hg50
  have c0 := HX6.out.1.cell (i := 0) rfl
  have c1 := HX6.out.1.cell (i := 1) rfl
  have c2 := HX6.out.1.cell (i := 2) rfl
  go_wp2_with fail
  refine (at_grd HX6.out.2.1 HX6.out.2.2.2.2.2.2.1.length.2.2.2.2 (by rw [ints_length, dg_length]) (place_point HX6.out.2.1.valid hqN).2).mono ?_
  rintro r w17 ⟨Ar, kr, rfl, orr, hb17⟩
  have hrl : (rowAt data on q).length = on := rowAt_length hqN (data_nat HX6.out.2.1.valid)
  rw [hrl] at orr ⊢
  have HX7 := Lib.hid (And.intro (below_trans HX6.out.2.2.1 hb17) (And.intro (HX6.out.2.2.2.1.kept hb17) (And.intro (HX6.out.2.2.2.2.1.kept hb17) (And.intro HX6.out.2.2.2.2.2.1 (And.intro (HX6.out.2.2.2.2.2.2.2.kept hb17) (And.intro orr (And.intro hrl HX6.out.2.1.valid)))))))
  clear c0 c1 c2 orr hb17 HX6 hrl
  have c0 := HX7.out.2.1.cell (i := 0) rfl
  have c1 := HX7.out.2.1.cell (i := 1) rfl
  have c2 := HX7.out.2.1.cell (i := 2) rfl
  go_wp2_with fail
  have hat := at_grd (ci := k5) HX7.out.2.2.1 HX7.out.2.2.2.2.1.length.2.2.2.2 (by rw [swapL_length, ints_length, dg_length, swapN_length]) (at_swapped HX7.out.2.2.2.2.2.2.2 hil hkl hqN)
  rw [HX7.out.2.2.2.1.1, HX7.out.2.2.2.1.2, HX7.out.2.2.2.2.2.2.1] at hat
  refine hat.mono ?_
  rintro r w18 ⟨Aq, kq, rfl, oq, hb18⟩
  have HX8 := Lib.hid (And.intro (below_trans HX7.out.1 hb18) (And.intro (HX7.out.2.2.2.2.2.1.kept hb18) (And.intro oq HX7.out.2.2.2.2.2.2.1)))
  clear c0 c1 c2 oq hb18 HX7 hat
  go_wp2_with fail
  refine (equal_same HX8.out.2.1 HX8.out.2.2.1 HX8.out.2.2.2 rfl ho4).mono ?_
  rintro r w19 ⟨rfl, hb19⟩
  have HZ := Lib.hid (below_trans HX8.out.1 hb19)
  clear HX8 hb19
  go_wp2
  go_ret
  exact ⟨rfl, HZ.out⟩
end Go.Proofs.Ytkkohelbidmkdaa
