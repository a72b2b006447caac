/-
  image.Cut.
-/
import Derived.Test.YtpgkhhdobolfbaaICopy
namespace Go.Proofs.Ytpgkhhdobolfbaa
set_option linter.unusedVariables false
set_option linter.unusedSimpArgs false
open Go Go.RowKit

set_option maxRecDepth 100000 in
set_option maxHeartbeats 6400000 in
theorem cut_calls (m : Im) (x y wd hi : Int) (w : World) :
    Calls Try.prog 17 #[m.v, .int .i64 x, .int .i64 y, .int .i64 wd, .int .i64 hi] w fun e w' => e = .returned (.tuple #[(cutS m x y wd hi).1.v, .int .i64 (cutS m x y wd hi).2]) ∧ Below w.heap.size w w' := by
  obtain ⟨mW, mH, mC, mB, mP, mPd, mO, hm⟩ : ∃ a b c d e f g, m = ⟨a, b, c, d, e, f, g⟩ := ⟨_, _, _, _, _, _, _, rfl⟩
  have HF := Lib.hid (fun w => open_calls m w)
  have hv : m.v = .agg #[.int .i64 mW, .int .i64 mH, .int .i64 mC, .int .i64 mB, .bool mP, .int .i64 mPd, .string mO] := by rw [hm]; rfl
  rw [hv] at HF ⊢
  have HM := Lib.hid hm
  clear hm hv
  go_enter Try.func17, Try.ntmps17
  go_upto_region 1 with fail
  refine wp_named ?_
  intro w1 hw1
  have b0 : Blk w1 w.heap.size [.int .i64 mW, .int .i64 mH, .int .i64 mC, .int .i64 mB, .bool mP, .int .i64 mPd, .string mO] 24 := by rw [hw1]; exact (Blk.new _ _ _).alloc _
  have br : Blk w1 (w.heap.size + 1) zeroC 24 := by rw [hw1]; exact Blk.at (by simp)
  have hb1 : Below w.heap.size w w1 := by rw [hw1]; repeat (first | exact below_alloc _ | refine below_trans ?_ (below_alloc _))
  clear hw1
  have c0 := b0.cell (i := 0) rfl
  have c1 := b0.cell (i := 1) rfl
  have c2 := b0.cell (i := 2) rfl
  have c3 := b0.cell (i := 3) rfl
  have c4 := b0.cell (i := 4) rfl
  have c5 := b0.cell (i := 5) rfl
  have c6 := b0.cell (i := 6) rfl
  have HB := Lib.hid (And.intro hb1 (And.intro br b0))
  clear b0 hb1 br
  go_wp2_with fail
  refine (HF.out w1).mono ?_
  rintro r w2 hr
  have br := HB.out.2.1.kept hr.1
  have hbw := below_trans HB.out.1 hr.1
  have b0 := HB.out.2.2.kept hr.1
  clear c0 c1 c2 c3 c4 c5 c6
  cases hg : m.good with
  | false =>
    have hr2 := open_bad hr hg
    have HG := Lib.hid (show cutS m x y wd hi = (Im.zero, 420) by unfold cutS; rw [hg]; rfl)
    clear hr hg b0
    subst hr2
    have HW := Lib.hid (below_set7 hbw (Nat.le_succ w.heap.size))
    have r0 := br.cell (i := 0) rfl
    have r1 := br.cell (i := 1) rfl
    have r2 := br.cell (i := 2) rfl
    have r3 := br.cell (i := 3) rfl
    have r4 := br.cell (i := 4) rfl
    have r5 := br.cell (i := 5) rfl
    have r6 := br.cell (i := 6) rfl
    have f0 := br.free 0
    have f1 := br.free 1
    have f2 := br.free 2
    have f3 := br.free 3
    have f4 := br.free 4
    have f5 := br.free 5
    have f6 := br.free 6
    clear br hbw 
    go_wp2_with fail
    rw [HG.out]
    exact bodyPost_ret (v := .tuple #[Im.zero.v, .int .i64 420]) (by rw [zero_v]; simp [results, Try.results17, go_sem, *]) rfl ⟨rfl, HW.out _ _ _ _ _ _ _⟩
  | true =>
    obtain ⟨b, g, k, hr2, hvw, hgb, hgg, hne⟩ := open_good hr hg
    have hok := m.good_ok hg
    have n := (m.good_val hg).nums
    have hcut : cutS m x y wd hi = if insideB m x y wd hi then (img { m.lay with W := wd.toNat, H := hi.toNat } (fun i k c => m.smp (x.toNat + i) (y.toNat + k) c), 0) else (Im.zero, 2) := by
      unfold cutS
      rw [hg]
      rfl
    have hgw : w.heap.size + 1 < w1.heap.size := HB.out.2.1.lt
    obtain ⟨L, hL⟩ : ∃ L, m.lay = L := ⟨_, rfl⟩
    obtain ⟨l, hl⟩ : ∃ l, m.l = l := ⟨_, rfl⟩
    have hsmp : m.smp = samp L l := by unfold Im.smp; rw [hL, hl]
    have hO : m.O = mO := by rw [HM.out]
    rw [hL] at hok hvw n hcut
    rw [hl, hO] at hvw
    rw [hsmp] at hcut
    have hins : insideB m x y wd hi = (betw 1 (L.W : Nat) [wd] && (betw 1 (L.H : Nat) [hi] && (betw 0 ((L.W : Int) - wd) [x] && betw 0 ((L.H : Int) - hi) [y]))) := by
      unfold insideB
      rw [n.w, n.h, Bool.eq_iff_iff, Bool.and_eq_true, Bool.and_eq_true, Bool.and_eq_true, decide_eq_true_iff, betw_one, betw_one, betw_one, betw_one]
      omega
    have v0 := hvw.blk.cell (i := 0) rfl
    have HV := Lib.hid (And.intro hok (And.intro hvw (And.intro hgb (And.intro hgg (And.intro hne (And.intro hgw (And.intro hcut (And.intro hins (And.intro n hL)))))))))
    have HW2 := Lib.hid (And.intro br (And.intro hbw b0))
    clear hr hg hvw hgb hgg hne hok n hcut hgw hL hl hsmp hO hins br hbw b0 HB HF
    subst hr2
    obtain ⟨lW, hlW⟩ : ∃ q : Nat, L.W = q := ⟨_, rfl⟩
    obtain ⟨lH, hlH⟩ : ∃ q : Nat, L.H = q := ⟨_, rfl⟩
    rw [hlW] at v0
    have HLW := Lib.hid (And.intro hlW hlH)
    clear hlW hlH
    go_wp2_with fail
    refine calls_named ?_
    intro w3 hw3
    have bs : Blk w3 w2.heap.size ([wd].map (Value.int .i64)) 3 := by rw [hw3]; exact Blk.new _ _ _
    have hb3 : Below w2.heap.size w2 w3 := by rw [hw3]; exact below_alloc _
    clear hw3 v0
    refine (between_calls (some ⟨w2.heap.size, 0, none⟩) 1 [wd] 1 (lW : Nat) w3 (blk_row bs) (by simp)).mono ?_
    rintro r w4 ⟨rfl, hb4⟩
    have hb24 := below_trans hb3 hb4
    have v1 := (HV.out.2.1.kept hb24).blk.cell (i := 1) rfl
    rw [HLW.out.2] at v1
    have HD := Lib.hid hb24
    clear bs hb3 hb4 hb24
    cases k1 : betw 1 (lW : Nat) [wd] with
    | false =>
      have br := HW2.out.1.kept HD.out
      have hbw := below_trans HW2.out.2.1 HD.out
      have HK := Lib.hid (show cutS m x y wd hi = (Im.zero, 2) by rw [HV.out.2.2.2.2.2.2.1, HV.out.2.2.2.2.2.2.2.1, HLW.out.1, k1]; rfl)
      clear k1 v1
      have HW := Lib.hid (below_set7 hbw (Nat.le_succ w.heap.size))
      have r0 := br.cell (i := 0) rfl
      have r1 := br.cell (i := 1) rfl
      have r2 := br.cell (i := 2) rfl
      have r3 := br.cell (i := 3) rfl
      have r4 := br.cell (i := 4) rfl
      have r5 := br.cell (i := 5) rfl
      have r6 := br.cell (i := 6) rfl
      have f0 := br.free 0
      have f1 := br.free 1
      have f2 := br.free 2
      have f3 := br.free 3
      have f4 := br.free 4
      have f5 := br.free 5
      have f6 := br.free 6
      clear br hbw 
      go_wp2_with fail
      rw [HK.out]
      exact bodyPost_ret (v := .tuple #[Im.zero.v, .int .i64 2]) (by rw [zero_v]; simp [results, Try.results17, go_sem, *]) rfl ⟨rfl, HW.out _ _ _ _ _ _ _⟩
    | true =>
      have HK1 := Lib.hid k1
      clear k1
      go_wp2_with fail
      refine calls_named ?_
      intro w5 hw5
      have bs : Blk w5 w4.heap.size ([hi].map (Value.int .i64)) 3 := by rw [hw5]; exact Blk.new _ _ _
      have hb5 : Below w4.heap.size w4 w5 := by rw [hw5]; exact below_alloc _
      clear hw5 v1
      refine (between_calls (some ⟨w4.heap.size, 0, none⟩) 1 [hi] 1 (lH : Nat) w5 (blk_row bs) (by simp)).mono ?_
      rintro r w6 ⟨rfl, hb6⟩
      have hb26 := below_trans HD.out (below_trans hb5 hb6)
      have HE := Lib.hid hb26
      clear bs hb5 hb6 hb26 HD
      cases k2 : betw 1 (lH : Nat) [hi] with
      | false =>
        have br := HW2.out.1.kept HE.out
        have hbw := below_trans HW2.out.2.1 HE.out
        have HK := Lib.hid (show cutS m x y wd hi = (Im.zero, 2) by rw [HV.out.2.2.2.2.2.2.1, HV.out.2.2.2.2.2.2.2.1, HLW.out.1, HLW.out.2, HK1.out, k2]; rfl)
        clear k2
        have HW := Lib.hid (below_set7 hbw (Nat.le_succ w.heap.size))
        have r0 := br.cell (i := 0) rfl
        have r1 := br.cell (i := 1) rfl
        have r2 := br.cell (i := 2) rfl
        have r3 := br.cell (i := 3) rfl
        have r4 := br.cell (i := 4) rfl
        have r5 := br.cell (i := 5) rfl
        have r6 := br.cell (i := 6) rfl
        have f0 := br.free 0
        have f1 := br.free 1
        have f2 := br.free 2
        have f3 := br.free 3
        have f4 := br.free 4
        have f5 := br.free 5
        have f6 := br.free 6
        clear br hbw 
        go_wp2_with fail
        rw [HK.out]
        exact bodyPost_ret (v := .tuple #[Im.zero.v, .int .i64 2]) (by rw [zero_v]; simp [results, Try.results17, go_sem, *]) rfl ⟨rfl, HW.out _ _ _ _ _ _ _⟩
      | true =>
        have HK2 := Lib.hid k2
        have h1 := betw_one.1 HK1.out
        have h2 := betw_one.1 k2
        have HI := Lib.hid (inside_calls HV.out.1 (HV.out.2.1.kept HE.out) x y wd hi (by have := HV.out.1.w2; have := HLW.out.1; omega) (by have := HV.out.1.h2; have := HLW.out.2; omega))
        clear k2 h1 h2
        go_wp2_with fail
        refine HI.out.mono ?_
        rintro r w7 ⟨rfl, hb7⟩
        have hb27 := below_trans HE.out hb7
        have HG := Lib.hid hb27
        clear HI HE hb7 hb27
        cases k3 : (betw 0 ((L.W : Int) - wd) [x] && betw 0 ((L.H : Int) - hi) [y]) with
        | false =>
          have br := HW2.out.1.kept HG.out
          have hbw := below_trans HW2.out.2.1 HG.out
          have HK := Lib.hid (show cutS m x y wd hi = (Im.zero, 2) by rw [HV.out.2.2.2.2.2.2.1, HV.out.2.2.2.2.2.2.2.1, k3, HLW.out.1, HLW.out.2, HK1.out, HK2.out]; rfl)
          clear k3
          have HW := Lib.hid (below_set7 hbw (Nat.le_succ w.heap.size))
          have r0 := br.cell (i := 0) rfl
          have r1 := br.cell (i := 1) rfl
          have r2 := br.cell (i := 2) rfl
          have r3 := br.cell (i := 3) rfl
          have r4 := br.cell (i := 4) rfl
          have r5 := br.cell (i := 5) rfl
          have r6 := br.cell (i := 6) rfl
          have f0 := br.free 0
          have f1 := br.free 1
          have f2 := br.free 2
          have f3 := br.free 3
          have f4 := br.free 4
          have f5 := br.free 5
          have f6 := br.free 6
          clear br hbw 
          go_wp2_with fail
          rw [HK.out]
          exact bodyPost_ret (v := .tuple #[Im.zero.v, .int .i64 2]) (by rw [zero_v]; simp [results, Try.results17, go_sem, *]) rfl ⟨rfl, HW.out _ _ _ _ _ _ _⟩
        | true =>
          have hcut : cutS m x y wd hi = (img { L with W := wd.toNat, H := hi.toNat } (fun i k c => samp L l (x.toNat + i) (y.toNat + k) c), 0) := by
            rw [HV.out.2.2.2.2.2.2.1, HV.out.2.2.2.2.2.2.2.1, k3, HLW.out.1, HLW.out.2, HK1.out, HK2.out]; rfl
          rw [Bool.and_eq_true, betw_one, betw_one] at k3
          have h1 := betw_one.1 HK1.out
          have h2 := betw_one.1 HK2.out
          rw [← HLW.out.1] at h1
          rw [← HLW.out.2] at h2
          obtain ⟨X, rfl⟩ := Int.eq_ofNat_of_zero_le k3.1.1
          obtain ⟨Y, rfl⟩ := Int.eq_ofNat_of_zero_le k3.2.1
          obtain ⟨D, rfl⟩ := Int.eq_ofNat_of_zero_le (show 0 ≤ wd by omega)
          obtain ⟨E, rfl⟩ := Int.eq_ofNat_of_zero_le (show 0 ≤ hi by omega)
          have b0 := HW2.out.2.2.kept HG.out
          have br := HW2.out.1.kept HG.out
          have hbw := below_trans HW2.out.2.1 HG.out
          have hvw := HV.out.2.1.kept HG.out
          have h27 := HG.out.size
          have HX := Lib.hid (And.intro (show X + D ≤ L.W by omega) (And.intro (show Y + E ≤ L.H by omega) (And.intro (show 1 ≤ D by omega) (And.intro (show 1 ≤ E by omega) (And.intro hcut (And.intro br (And.intro hbw (And.intro hvw h27))))))))
          have c0 := b0.cell (i := 0) rfl
          have c1 := b0.cell (i := 1) rfl
          have c2 := b0.cell (i := 2) rfl
          have c3 := b0.cell (i := 3) rfl
          have c4 := b0.cell (i := 4) rfl
          have c5 := b0.cell (i := 5) rfl
          have c6 := b0.cell (i := 6) rfl
          clear k3 h1 h2 hcut br hbw hvw h27 HG HW2 b0
          go_upto_region 7 with fail
          refine wp_named ?_
          intro w8 hw8
          have bp : Blk w8 w7.heap.size [.int .i64 mW, .int .i64 mH, .int .i64 mC, .int .i64 mB, .bool mP, .int .i64 mPd, .string mO] 24 := by rw [hw8]; exact Blk.new _ _ _
          have hb8 : Below w7.heap.size w7 w8 := by rw [hw8]; exact below_alloc _
          clear hw8 c0 c1 c2 c3 c4 c5 c6
          have p0 := bp.cell (i := 0) rfl
          have p1 := bp.cell (i := 1) rfl
          have f0 := bp.free 0
          have f1 := bp.free 1
          have HP := Lib.hid (And.intro bp hb8)
          clear bp hb8
          go_upto_region 8 with fail
          refine wp_named ?_
          intro w9 hw9
          have bp : Blk w9 w7.heap.size [.int .i64 (D : Nat), .int .i64 (E : Nat), .int .i64 mC, .int .i64 mB, .bool mP, .int .i64 mPd, .string mO] 24 := by rw [hw9]; exact (HP.out.1.set 0 _).set 1 _
          have hb9 : Below w7.heap.size w7 w9 := by rw [hw9]; exact (HP.out.2.setCell (p := ⟨w7.heap.size, 0, none⟩) (Nat.le_refl _) _).setCell (p := ⟨w7.heap.size, 1, none⟩) (Nat.le_refl _) _
          clear hw9 p0 p1 f0 f1 HP
          have c0 := bp.cell (i := 0) rfl
          have c1 := bp.cell (i := 1) rfl
          have c2 := bp.cell (i := 2) rfl
          have c3 := bp.cell (i := 3) rfl
          have c4 := bp.cell (i := 4) rfl
          have c5 := bp.cell (i := 5) rfl
          have c6 := bp.cell (i := 6) rfl
          have HQ := Lib.hid hb9
          clear bp hb9
          obtain ⟨m2, hm2⟩ : ∃ m2 : Im, m2 = ⟨(D : Nat), (E : Nat), mC, mB, mP, mPd, mO⟩ := ⟨_, rfl⟩
          have HBl := Lib.hid (blank_calls m2 w9)
          have hv2 : m2.v = .agg #[.int .i64 (D : Nat), .int .i64 (E : Nat), .int .i64 mC, .int .i64 mB, .bool mP, .int .i64 mPd, .string mO] := by rw [hm2]; rfl
          rw [hv2] at HBl
          have HM2 := Lib.hid hm2
          clear hm2 hv2
          go_wp2_with fail
          refine HBl.out.mono ?_
          rintro r w10 hr
          clear HBl
          have hl2 : m2.lay = { L with W := D, H := E } := by
            have hL := HV.out.2.2.2.2.2.2.2.2.2
            rw [HM.out] at hL
            rw [HM2.out, ← hL]
            rfl
          have hs2 : m2.shp = true := by
            have n := HV.out.2.2.2.2.2.2.2.2.1
            have hsh := nums_shp n
            rw [HM.out] at hsh n
            obtain ⟨x1, x2, x3, x4, _⟩ := HX.out
            have hok := HV.out.1
            have hmo : D * E * L.C ≤ L.W * L.H * L.C := Nat.mul_le_mul_right _ (Nat.mul_le_mul (by omega) (by omega))
            have hm4 := hok.most
            have hw2 := hok.w2
            have hh2 := hok.h2
            have hc1 : mC = (L.C : Nat) := n.c
            refine decide_eq_true ?_
            rw [HM2.out]
            refine ⟨by dsimp only; omega, by dsimp only; omega, by dsimp only; omega, by dsimp only; omega, hsh.c1, hsh.c2, ?_, hsh.bits, hsh.pad⟩
            dsimp only
            rw [hc1, ← Int.natCast_mul, ← Int.natCast_mul]
            omega
          obtain ⟨bt, gt, kt, hr2, hvt, hbt, hbg, hokt⟩ := blank_ok hr hs2
          have hO2 : m2.O = mO := by rw [HM2.out]
          rw [hl2] at hvt hokt
          rw [hO2] at hvt
          obtain ⟨_, _, _, _, hcut, br, hbw, hvw, h27⟩ := HX.out
          have hb710 := below_trans HQ.out hr.1
          have HY := Lib.hid (And.intro hvt (And.intro hbt (And.intro hbg (And.intro hokt (And.intro (hvw.kept hb710) (And.intro (br.kept hb710) (And.intro (below_trans hbw hb710) (And.intro hvw.oct.lt (And.intro hvw.blk.lt (And.intro HQ.out.size br.lt))))))))))
          clear hr hs2 hvt hbt hbg hokt hO2 hl2 br hbw hvw h27 hb710 c0 c1 c2 c3 c4 c5 c6 hcut
          subst hr2
          have HC := Lib.hid (copied_calls HV.out.1 HY.out.2.2.2.1 HY.out.2.2.2.2.1 HY.out.1 rfl (Nat.ne_of_lt HY.out.2.2.1) (by have := HY.out; omega) (by have := HY.out; omega) (pix_zero HY.out.2.2.2.1) X Y 0 0 D E HX.out.1 HX.out.2.1 (by show 0 + D ≤ D; omega) (by show 0 + E ≤ E; omega))
          go_wp2_with fail
          refine HC.out.mono ?_
          rintro r w11 ⟨⟨u, rfl⟩, hz11, l2, hv11, hp11⟩
          have HZ := Lib.hid (And.intro hz11 (And.intro hv11 hp11))
          clear hz11 hv11 hp11 HC
          go_wp2_with fail
          refine (closed_img HY.out.2.2.2.1 HZ.out.2.1 (Nat.ne_of_lt HY.out.2.2.1) HZ.out.2.2).mono ?_
          rintro r w12 ⟨rfl, hz12⟩
          have hR : img { L with W := D, H := E } (copS (fun _ _ _ => 0) (samp L l) X Y 0 0 D E D 0) = img { L with W := D, H := E } (fun i k c => samp L l (X + i) (Y + k) c) := by
            refine img_congr HY.out.2.2.2.1 fun a b c ha hb hc => ?_
            have ha' : a < D := ha
            have hb' : b < E := hb
            unfold copS
            rw [if_pos (by omega)]
            rfl
          rw [hR]
          obtain ⟨R, hR⟩ : ∃ R, img { L with W := D, H := E } (fun i k c => samp L l (X + i) (Y + k) c) = R := ⟨_, rfl⟩
          have hcut : cutS m (X : Int) (Y : Int) (D : Int) (E : Int) = (R, 0) := by rw [HX.out.2.2.2.2.1, ← hR]; rfl
          rw [hR]
          have br := (HY.out.2.2.2.2.2.1.offZ HZ.out.1 (by have := HY.out; omega)).offZ hz12 (by have := HY.out; omega)
          have hws : w.heap.size ≤ w7.heap.size := HX.out.2.2.2.2.2.2.1.size
          have hbw := Below.offZ (Below.offZ HY.out.2.2.2.2.2.2.1 (Nat.le_refl _) HZ.out.1 (by have := HY.out; omega)) (Nat.le_refl _) hz12 (by have := HY.out; omega)
          have HR := Lib.hid hcut
          clear hz12 hR hcut hws
          rw [imgV_eq]
          have HW := Lib.hid (below_set7 hbw (Nat.le_succ w.heap.size))
          have r0 := br.cell (i := 0) rfl
          have r1 := br.cell (i := 1) rfl
          have r2 := br.cell (i := 2) rfl
          have r3 := br.cell (i := 3) rfl
          have r4 := br.cell (i := 4) rfl
          have r5 := br.cell (i := 5) rfl
          have r6 := br.cell (i := 6) rfl
          have f0 := br.free 0
          have f1 := br.free 1
          have f2 := br.free 2
          have f3 := br.free 3
          have f4 := br.free 4
          have f5 := br.free 5
          have f6 := br.free 6
          clear br hbw 
          go_wp2_with fail
          rw [HR.out]
          exact bodyPost_ret (v := .tuple #[R.v, .int .i64 0]) (by rw [imgV_eq]; simp [results, Try.results17, go_sem, *]) rfl ⟨rfl, HW.out _ _ _ _ _ _ _⟩
end Go.Proofs.Ytpgkhhdobolfbaa
