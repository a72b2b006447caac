/-
  The law GridChecks, walked.
-/
import Derived.Test.YtkkohelbidmkdaaGPlacesW
namespace Go.Proofs.Ytkkohelbidmkdaa
set_option linter.unusedVariables false
set_option linter.unusedSimpArgs false
open Go Go.RowKit

set_option maxRecDepth 100000 in
set_option maxHeartbeats 3200000 in
theorem gridChecks_calls (v1 v2 : Value) (ro : Int) (d : Value) (x a n x' a' n' : Int) (w : World) (hr : IsGrid w (.agg #[v1, .int .i64 ro, v2])) (hd : DraftV w d) (hx0 : 0 ≤ x) (hx1 : x ≤ 255) (ha0 : 0 ≤ a) (ha1 : a ≤ 255) (hx0' : 0 ≤ x') (hx1' : x' ≤ 255) (ha0' : 0 ≤ a') (ha1' : a' ≤ 255) :
    Calls Try.prog 7 #[.agg #[v1, .int .i64 ro, v2], d, .agg #[.int .u8 x, .int .u8 a, .int .i64 n, .int .u8 x', .int .u8 a', .int .i64 n']] w fun r w' => r = .returned (.bool true) ∧ Below w.heap.size w w' := by
  obtain ⟨RA, rn, rc, RB, rm, re, rfl, rfl⟩ := hr.shape
  have HD := Lib.hid hd
  obtain ⟨S, cs, ss, du, V, cv, vs, sm, rfl, _⟩ := hd.is
  have HR := Lib.hid hr
  clear hd hr
  go_enter Try.func7, Try.ntmps7
  go_wp2_with fail
  refine calls_named ?_
  intro w1 hw1
  have p0 : Blk w1 w.heap.size [.slice RA rn rc, .int .i64 ro, .slice RB rm re] 24 := by rw [hw1]; exact ((Blk.new _ _ _).alloc _).alloc _
  have p1 : Blk w1 (w.heap.size + 1) [.slice S ss.length cs, .int .u8 du, .slice V vs.length cv, .bool sm] 28 := by rw [hw1]; exact (Blk.at (by simp)).alloc _
  have p2 : Blk w1 (w.heap.size + 1 + 1) [.int .u8 x, .int .u8 a, .int .i64 n, .int .u8 x', .int .u8 a', .int .i64 n'] 31 := by rw [hw1]; exact Blk.at (by simp)
  have hb1 : Below w.heap.size w w1 := by rw [hw1]; repeat (first | exact below_alloc _ | refine below_trans ?_ (below_alloc _))
  clear hw1
  refine (wakes_calls w1).mono ?_
  rintro r w2 ⟨rfl, hb2⟩
  replace p0 := p0.kept hb2
  replace p1 := p1.kept hb2
  replace p2 := p2.kept hb2
  have hb12 := below_trans hb1 hb2
  have c0 := p0.cell (i := 0) rfl
  have c1 := p0.cell (i := 1) rfl
  have c2 := p0.cell (i := 2) rfl
  have c3 := p1.cell (i := 0) rfl
  have c4 := p1.cell (i := 1) rfl
  have c5 := p1.cell (i := 2) rfl
  have c6 := p1.cell (i := 3) rfl
  have c7 := p2.cell (i := 0) rfl
  have c8 := p2.cell (i := 1) rfl
  have c9 := p2.cell (i := 2) rfl
  have c10 := p2.cell (i := 3) rfl
  have c11 := p2.cell (i := 4) rfl
  have c12 := p2.cell (i := 5) rfl
  have HB := Lib.hid hb12
  clear p0 p1 p2 hb1 hb2 hb12
  go_wp2_with fail
  refine (four_calls _ _ _ _ _ _ _ _ _ _ _ (HR.out.kept HB.out) (HD.out.kept HB.out) hx0 hx1 ha0 ha1 hx0' hx1' ha0' ha1').mono ?_
  rintro r w3 ⟨a0, o0, b0, a1, o1, b1, a2, o2, b2, a3, o3, b3, rfl, g0, g1, g2, g3, hb3⟩
  obtain ⟨A0, n0, q0, B0, m0, e0, rfl, rfl⟩ := g0.shape
  obtain ⟨A1, n1, q1, B1, m1, e1, rfl, rfl⟩ := g1.shape
  obtain ⟨A2, n2, q2, B2, m2, e2, rfl, rfl⟩ := g2.shape
  obtain ⟨A3, n3, q3, B3, m3, e3, rfl, rfl⟩ := g3.shape
  have HG := Lib.hid (And.intro g0 (And.intro g1 (And.intro g2 (And.intro g3 (below_trans HB.out hb3)))))
  clear c0 c1 c2 c3 c4 c5 c6 c7 c8 c9 c10 c11 c12 g0 g1 g2 g3 hb3 HB
  go_upto_region 4 with fail
  refine wp_named ?_
  intro w4 hw4
  have bq : Blk w4 w3.heap.size [.slice A0 n0 q0, .int .i64 o0, .slice B0 m0 e0, .slice A1 n1 q1, .int .i64 o1, .slice B1 m1 e1, .slice A2 n2 q2, .int .i64 o2, .slice B2 m2 e2, .slice A3 n3 q3, .int .i64 o3, .slice B3 m3 e3] 34 := by rw [hw4]; exact Blk.at rfl
  have hb4 : Below w3.heap.size w3 w4 := by rw [hw4]; repeat (first | exact below_alloc _ | refine below_trans ?_ (below_alloc _))
  clear hw4
  have k0 := bq.cell (i := 0) rfl
  have k1 := bq.cell (i := 1) rfl
  have k2 := bq.cell (i := 2) rfl
  have k3 := bq.cell (i := 3) rfl
  have k4 := bq.cell (i := 4) rfl
  have k5 := bq.cell (i := 5) rfl
  have k6 := bq.cell (i := 6) rfl
  have k7 := bq.cell (i := 7) rfl
  have k8 := bq.cell (i := 8) rfl
  have k9 := bq.cell (i := 9) rfl
  have k10 := bq.cell (i := 10) rfl
  have k11 := bq.cell (i := 11) rfl
  have HQ := Lib.hid (And.intro bq (And.intro (HG.out.1.kept hb4) (And.intro (HG.out.2.1.kept hb4) (And.intro (HG.out.2.2.1.kept hb4) (And.intro (HG.out.2.2.2.1.kept hb4) (below_trans HG.out.2.2.2.2 hb4))))))
  clear bq hb4 HG
  go_wp2_with fail
  clear k0 k1 k2 k3 k4 k5 k6 k7 k8 k9 k10 k11
  go_loopw [25] (fun i wr => ∃ k, k ≤ 4 ∧ i = .int .i64 (k : Nat) ∧ Below w4.heap.size w4 wr) (fun i _ => 4 - (intOf i).toNat)
  case atStart => exact ⟨0, Nat.zero_le _, rfl, Below.refl _ _⟩
  case round =>
    obtain ⟨k, hk, rfl, hbr⟩ := hrel
    by_cases hlt : k < 4
    · have hkb : decide ((k : Int) < 4) = true := decide_eq_true (by omega)
      obtain ⟨A, c, s, o, B, e, dd, hgv, hix⟩ := index_four (.slice A0 n0 q0) (.slice B0 m0 e0) (.slice A1 n1 q1) (.slice B1 m1 e1) (.slice A2 n2 q2) (.slice B2 m2 e2) (.slice A3 n3 q3) (.slice B3 m3 e3) o0 o1 o2 o3 (HQ.out.2.1.kept hbr) (HQ.out.2.2.1.kept hbr) (HQ.out.2.2.2.1.kept hbr) (HQ.out.2.2.2.2.1.kept hbr) hlt
      have HV := Lib.hid hgv
      have HBR := Lib.hid hbr
      clear hgv hbr
      go_upto_region 7 with fail
      refine wp_named ?_
      intro w5 hw5
      have b12 : Blk w5 wr.heap.size [.slice A s.length c, .int .i64 o, .slice B dd.length e] 24 := by rw [hw5]; exact Blk.at rfl
      have hb5 : Below wr.heap.size wr w5 := by rw [hw5]; repeat (first | exact below_alloc _ | refine below_trans ?_ (below_alloc _))
      clear hw5 hix hkb
      have c0 := b12.cell (i := 0) rfl
      have c1 := b12.cell (i := 1) rfl
      have c2 := b12.cell (i := 2) rfl
      have HC := Lib.hid (And.intro b12 (And.intro (HV.out.kept hb5) (below_trans HBR.out hb5)))
      clear b12 hb5 HV HBR
      go_wp2_with fail
      refine (range_calls A B c e s dd o w5 HC.out.2.1.cs HC.out.2.1.cd (by have := HC.out.2.1.ls; have := HC.out.2.1.lc; omega) HC.out.2.1.ld HC.out.2.1.le).mono ?_
      rintro r w6 ⟨u1, u2, rfl, ol, oh, hb6⟩
      obtain ⟨⟨lo, hi, er⟩, hrr⟩ : ∃ p, rangeR s o dd = p := ⟨_, rfl⟩
      rw [hrr] at ol oh ⊢
      obtain ⟨La, lk, rfl, hl1, hl2, _, hlc⟩ := ol.cs
      obtain ⟨Ha, hk', rfl, hh1, hh2, _, hhc⟩ := oh.cs
      have HR1 := Lib.hid hrr
      have HC6 := Lib.hid (And.intro (HC.out.1.kept hb6) (And.intro (HC.out.2.1.kept hb6) (And.intro (below_trans HC.out.2.2 hb6) (And.intro hlc (And.intro hhc (And.intro (Nat.le_trans hl1 hl2) (Nat.le_trans hh1 hh2)))))))
      clear hrr ol oh hlc hhc hl1 hl2 hh1 hh2 hb6 c0 c1 c2 HC
      have c0 := HC6.out.1.cell (i := 0) rfl
      have c1 := HC6.out.1.cell (i := 1) rfl
      have c2 := HC6.out.1.cell (i := 2) rfl
      dsimp only
      go_wp2_with fail
      refine (refRange_calls A B c e s dd o w6 HC6.out.2.1.cs HC6.out.2.1.cd (by have := HC6.out.2.1.ls; have := HC6.out.2.1.lc; omega) HC6.out.2.1.ld HC6.out.2.1.le).mono ?_
      rintro r w7 ⟨u1, u2, rfl, ol, oh, hb7⟩
      rw [HR1.out] at ol oh ⊢
      obtain ⟨La', lk', rfl, _, _, _, hlc⟩ := ol.cs
      obtain ⟨Ha', hk'', rfl, _, _, _, hhc⟩ := oh.cs
      have HC7 := Lib.hid (And.intro (HC6.out.1.kept hb7) (And.intro (HC6.out.2.1.kept hb7) (And.intro (below_trans HC6.out.2.2.1 hb7) (And.intro (HC6.out.2.2.2.1.kept hb7) (And.intro (HC6.out.2.2.2.2.1.kept hb7) (And.intro hlc (And.intro hhc HC6.out.2.2.2.2.2)))))))
      clear ol oh hlc hhc hb7 c0 c1 c2 HC6
      have c0 := HC7.out.1.cell (i := 0) rfl
      have c1 := HC7.out.1.cell (i := 1) rfl
      have c2 := HC7.out.1.cell (i := 2) rfl
      dsimp only
      go_wp2_with fail
      obtain ⟨nn, hnn⟩ : ∃ q, checkN s o dd = q := ⟨_, rfl⟩
      have HNN := Lib.hid hnn
      clear hnn
      have hn1 : (nn != nn) = false := by simp
      have hn2 : (er != er) = false := by simp
      have hlm : lo.length ≤ 9223372036854775807 := by have := HC7.out.2.2.2.2.2.2.2.1; simp only [maxLen] at this; omega
      have hhm : hi.length ≤ 9223372036854775807 := by have := HC7.out.2.2.2.2.2.2.2.2; simp only [maxLen] at this; omega
      refine wp_seq_all (fun k => k == 1 || k == 3 || k == 13 || k == 19) (fun k _ => if k = 1 ∨ k = 3 then .int .i64 nn else .bool true) (fun _ _ _ => True) (by kernel_rfl) (by kernel_rfl) (fun _ _ _ _ _ _ => trivial) ?_
      repeat (first | (refine seq_skip (by rfl) ?_; simp only [Act.put, List.setIfInBounds_toArray, List.set_cons_zero, List.set_cons_succ, Nat.reduceAdd]) | (refine seq_pure (v := ?_) (by rfl) (by rfl) (fun W hW hC => ?_) ?_; rotate_left; (go_simp <;> with_reducible rfl); simp only [Act.put, List.setIfInBounds_toArray, List.set_cons_zero, List.set_cons_succ, Nat.reduceAdd]))
      refine seq_made (by rfl) (by rfl) (fun W hW hC hF R hR => ?_) (fun _ => ?_)
      · unfold Gives; go_simp; refine (check_calls A B c e s dd o W (HC7.out.2.1.cs.kept hW) (HC7.out.2.1.cd.kept hW) (by have := HC7.out.2.1.ls; have := HC7.out.2.1.lc; omega) (by have := HC7.out.2.1.ld; have := HC7.out.2.1.le; omega)).mono ?_; rintro r w8 ⟨rfl, hb8⟩; exact ⟨_, rfl, by rw [HNN.out]; exact hR {} _ hb8 trivial⟩
      simp only [↓reduceIte, Nat.reduceEqDiff, true_or, or_true]; simp only [Act.put, List.setIfInBounds_toArray, List.set_cons_zero, List.set_cons_succ, Nat.reduceAdd]
      repeat (first | (refine seq_skip (by rfl) ?_; simp only [Act.put, List.setIfInBounds_toArray, List.set_cons_zero, List.set_cons_succ, Nat.reduceAdd]) | (refine seq_pure (v := ?_) (by rfl) (by rfl) (fun W hW hC => ?_) ?_; rotate_left; (go_simp <;> with_reducible rfl); simp only [Act.put, List.setIfInBounds_toArray, List.set_cons_zero, List.set_cons_succ, Nat.reduceAdd]))
      refine seq_made (by rfl) (by rfl) (fun W hW hC hF R hR => ?_) (fun _ => ?_)
      · unfold Gives; go_simp; refine (refCheck_calls A B c e s dd o W (HC7.out.2.1.cs.kept hW) (HC7.out.2.1.cd.kept hW) (by have := HC7.out.2.1.ls; have := HC7.out.2.1.lc; omega) (by have := HC7.out.2.1.ld; have := HC7.out.2.1.le; omega)).mono ?_; rintro r w8 ⟨rfl, hb8⟩; exact ⟨_, rfl, by rw [HNN.out]; exact hR {} _ hb8 trivial⟩
      simp only [↓reduceIte, Nat.reduceEqDiff, true_or, or_true]; simp only [Act.put, List.setIfInBounds_toArray, List.set_cons_zero, List.set_cons_succ, Nat.reduceAdd]
      repeat (first | (refine seq_skip (by rfl) ?_; simp only [Act.put, List.setIfInBounds_toArray, List.set_cons_zero, List.set_cons_succ, Nat.reduceAdd]) | (refine seq_pure (v := ?_) (by rfl) (by rfl) (fun W hW hC => ?_) ?_; rotate_left; (go_simp <;> with_reducible rfl); simp only [Act.put, List.setIfInBounds_toArray, List.set_cons_zero, List.set_cons_succ, Nat.reduceAdd]))
      refine seq_made (by rfl) (by rfl) (fun W hW hC hF R hR => ?_) (fun _ => ?_)
      · unfold Gives; go_simp; refine (equal_calls La La' _ _ lo lo W (HC7.out.2.2.2.1.kept hW) (HC7.out.2.2.2.2.2.1.kept hW) hlm hlm).mono ?_; rintro r w8 ⟨rfl, hb8⟩; exact ⟨_, rfl, by rw [decide_eq_true (rfl : lo = lo)]; exact hR {} _ hb8 trivial⟩
      simp only [↓reduceIte, Nat.reduceEqDiff, or_false]; simp only [Act.put, List.setIfInBounds_toArray, List.set_cons_zero, List.set_cons_succ, Nat.reduceAdd]
      repeat (first | (refine seq_skip (by rfl) ?_; simp only [Act.put, List.setIfInBounds_toArray, List.set_cons_zero, List.set_cons_succ, Nat.reduceAdd]) | (refine seq_pure (v := ?_) (by rfl) (by rfl) (fun W hW hC => ?_) ?_; rotate_left; (go_simp <;> with_reducible rfl); simp only [Act.put, List.setIfInBounds_toArray, List.set_cons_zero, List.set_cons_succ, Nat.reduceAdd]))
      refine seq_made (by rfl) (by rfl) (fun W hW hC hF R hR => ?_) (fun _ => ?_)
      · unfold Gives; go_simp; refine (equal_calls Ha Ha' _ _ hi hi W (HC7.out.2.2.2.2.1.kept hW) (HC7.out.2.2.2.2.2.2.1.kept hW) hhm hhm).mono ?_; rintro r w8 ⟨rfl, hb8⟩; exact ⟨_, rfl, by rw [decide_eq_true (rfl : hi = hi)]; exact hR {} _ hb8 trivial⟩
      simp only [↓reduceIte, Nat.reduceEqDiff, or_false]; simp only [Act.put, List.setIfInBounds_toArray, List.set_cons_zero, List.set_cons_succ, Nat.reduceAdd]
      repeat (first | (refine seq_skip (by rfl) ?_; simp only [Act.put, List.setIfInBounds_toArray, List.set_cons_zero, List.set_cons_succ, Nat.reduceAdd]) | (refine seq_pure (v := ?_) (by rfl) (by rfl) (fun W hW hC => ?_) ?_; rotate_left; (go_simp <;> with_reducible rfl); simp only [Act.put, List.setIfInBounds_toArray, List.set_cons_zero, List.set_cons_succ, Nat.reduceAdd]))
      refine seq_nil ?_; intro W hW hF
      clear hF
      have HC8 := Lib.hid (And.intro (HC7.out.1.kept hW) (And.intro (HC7.out.2.1.kept hW) (below_trans HC7.out.2.2.1 hW)))
      clear hW HC7 c0 c1 c2 hn1 hn2 hlm hhm
      have bq := HQ.out.1.kept HC8.out.2.2
      have k0 := bq.cell (i := 0) rfl
      have k1 := bq.cell (i := 1) rfl
      have k2 := bq.cell (i := 2) rfl
      have k3 := bq.cell (i := 3) rfl
      have k4 := bq.cell (i := 4) rfl
      have k5 := bq.cell (i := 5) rfl
      have k6 := bq.cell (i := 6) rfl
      have k7 := bq.cell (i := 7) rfl
      have k8 := bq.cell (i := 8) rfl
      have k9 := bq.cell (i := 9) rfl
      have k10 := bq.cell (i := 10) rfl
      have k11 := bq.cell (i := 11) rfl
      clear bq
      go_wp2_with fail
      clear k0 k1 k2 k3 k4 k5 k6 k7 k8 k9 k10 k11
      go_loopw [63] (fun i wq => ∃ j, j ≤ 4 ∧ i = .int .i64 (j : Nat) ∧ Below W.heap.size W wq) (fun i _ => 4 - (intOf i).toNat)
      case atStart => exact ⟨0, Nat.zero_le _, rfl, Below.refl _ _⟩
      case round =>
        obtain ⟨j, hj, rfl, hbq⟩ := hrel
        have hb4q := below_trans HC8.out.2.2 hbq
        by_cases hlj : j < 4
        · have hjb : decide ((j : Int) < 4) = true := decide_eq_true (by omega)
          obtain ⟨A', c', s', o', B', e', dd', hgv, hix⟩ := index_four (.slice A0 n0 q0) (.slice B0 m0 e0) (.slice A1 n1 q1) (.slice B1 m1 e1) (.slice A2 n2 q2) (.slice B2 m2 e2) (.slice A3 n3 q3) (.slice B3 m3 e3) o0 o1 o2 o3 (HQ.out.2.1.kept hb4q) (HQ.out.2.2.1.kept hb4q) (HQ.out.2.2.2.1.kept hb4q) (HQ.out.2.2.2.2.1.kept hb4q) hlj
          have HV := Lib.hid (And.intro hgv (And.intro hbq hb4q))
          clear hgv hbq hb4q
          go_upto_region 14 with fail
          refine wp_named ?_
          intro w9 hw9
          obtain ⟨wq0, hwq0⟩ : ∃ w, w = wr := ⟨_, rfl⟩
          have b17 : Blk w9 wr.heap.size [.slice A' s'.length c', .int .i64 o', .slice B' dd'.length e'] 24 := by rw [hw9]; exact Blk.at rfl
          have hb9 : Below wr.heap.size wr w9 := by rw [hw9]; repeat (first | exact below_alloc _ | refine below_trans ?_ (below_alloc _))
          have b12 := (HC8.out.1.kept HV.out.2.1).kept hb9
          have g1 := (HC8.out.2.1.kept HV.out.2.1).kept hb9
          have g2 := HV.out.1.kept hb9
          clear hw9 hix hjb hwq0
          have c0 := b12.cell (i := 0) rfl
          have c1 := b12.cell (i := 1) rfl
          have c2 := b12.cell (i := 2) rfl
          have d0 := b17.cell (i := 0) rfl
          have d1 := b17.cell (i := 1) rfl
          have d2 := b17.cell (i := 2) rfl
          obtain ⟨qq, hqq⟩ : ∃ q, (decide (s = s') && decide (o = o') && decide (dd = dd')) = q := ⟨_, rfl⟩
          have hn1 : (qq != qq) = false := by simp
          have HP := Lib.hid (And.intro g1 (And.intro g2 (And.intro (below_trans HV.out.2.1 hb9) hqq)))
          clear b12 b17 hb9 g1 g2 hqq HV
          refine wp_seq_all (fun k => k == 2 || k == 5) (fun _ _ => .bool qq) (fun _ _ _ => True) (by kernel_rfl) (by kernel_rfl) (fun _ _ _ _ _ _ => trivial) ?_
          repeat (first | (refine seq_skip (by rfl) ?_; simp only [Act.put, List.setIfInBounds_toArray, List.set_cons_zero, List.set_cons_succ, Nat.reduceAdd]) | (refine seq_pure (v := ?_) (by rfl) (by rfl) (fun W hW hC => ?_) ?_; rotate_left; (go_simp <;> with_reducible rfl); simp only [Act.put, List.setIfInBounds_toArray, List.set_cons_zero, List.set_cons_succ, Nat.reduceAdd]))
          refine seq_made (by rfl) (by rfl) (fun V hV hC hF R hR => ?_) (fun _ => ?_)
          · unfold Gives; go_simp; refine (same_calls A B A' B' c e c' e' s dd s' dd' o o' V (HP.out.1.cs.kept hV) (HP.out.1.cd.kept hV) (HP.out.2.1.cs.kept hV) (HP.out.2.1.cd.kept hV) (by have := HP.out.1.ls; have := HP.out.1.lc; omega) (by have := HP.out.1.ld; have := HP.out.1.le; omega) (by have := HP.out.2.1.ls; have := HP.out.2.1.lc; omega) (by have := HP.out.2.1.ld; have := HP.out.2.1.le; omega)).mono ?_; rintro r w8 ⟨rfl, hb8⟩; exact ⟨_, rfl, by rw [HP.out.2.2.2]; exact hR {} _ hb8 trivial⟩
          simp only [Act.put, List.setIfInBounds_toArray, List.set_cons_zero, List.set_cons_succ, Nat.reduceAdd]
          repeat (first | (refine seq_skip (by rfl) ?_; simp only [Act.put, List.setIfInBounds_toArray, List.set_cons_zero, List.set_cons_succ, Nat.reduceAdd]) | (refine seq_pure (v := ?_) (by rfl) (by rfl) (fun W hW hC => ?_) ?_; rotate_left; (go_simp <;> with_reducible rfl); simp only [Act.put, List.setIfInBounds_toArray, List.set_cons_zero, List.set_cons_succ, Nat.reduceAdd]))
          refine seq_made (by rfl) (by rfl) (fun V hV hC hF R hR => ?_) (fun _ => ?_)
          · unfold Gives; go_simp; refine (refSame_calls A B A' B' c e c' e' s dd s' dd' o o' V (HP.out.1.cs.kept hV) (HP.out.1.cd.kept hV) (HP.out.2.1.cs.kept hV) (HP.out.2.1.cd.kept hV) (by have := HP.out.1.ls; have := HP.out.1.lc; omega) (by have := HP.out.1.ld; have := HP.out.1.le; omega) (by have := HP.out.2.1.ls; have := HP.out.2.1.lc; omega) (by have := HP.out.2.1.ld; have := HP.out.2.1.le; omega)).mono ?_; rintro r w8 ⟨rfl, hb8⟩; exact ⟨_, rfl, by rw [HP.out.2.2.2]; exact hR {} _ hb8 trivial⟩
          simp only [Act.put, List.setIfInBounds_toArray, List.set_cons_zero, List.set_cons_succ, Nat.reduceAdd]
          repeat (first | (refine seq_skip (by rfl) ?_; simp only [Act.put, List.setIfInBounds_toArray, List.set_cons_zero, List.set_cons_succ, Nat.reduceAdd]) | (refine seq_pure (v := ?_) (by rfl) (by rfl) (fun W hW hC => ?_) ?_; rotate_left; (go_simp <;> with_reducible rfl); simp only [Act.put, List.setIfInBounds_toArray, List.set_cons_zero, List.set_cons_succ, Nat.reduceAdd]))
          refine seq_nil ?_; intro V hV hF
          clear hF
          have HP9 := Lib.hid (below_trans HP.out.2.2.1 hV)
          clear hV HP c0 c1 c2 d0 d1 d2
          go_wp2
          go_roundw
          case rel => exact ⟨j + 1, by omega, by go_num, HP9.out⟩
          case measure => simp [intOf]; omega
        · have hjb : decide ((j : Int) < 4) = false := decide_eq_false (by omega)
          have HBQ := Lib.hid hb4q
          clear hbq hb4q
          go_wp2
          go_roundw
          case rel => exact ⟨k + 1, by omega, by go_num, HBQ.out⟩
          case measure => simp [intOf]; omega
    · have hke : decide ((k : Int) < 4) = false := decide_eq_false (by omega)
      have HBR := Lib.hid (below_trans HQ.out.2.2.2.2.2 hbr)
      clear hbr
      go_wp2
      go_ret
      exact ⟨rfl, HBR.out⟩
end Go.Proofs.Ytkkohelbidmkdaa
