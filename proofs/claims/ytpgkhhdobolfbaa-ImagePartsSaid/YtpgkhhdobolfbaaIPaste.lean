/-
  image.Paste.
-/
import Derived.Test.YtpgkhhdobolfbaaICut
namespace Go.Proofs.Ytpgkhhdobolfbaa
set_option linter.unusedVariables false
set_option linter.unusedSimpArgs false
open Go Go.RowKit

set_option maxRecDepth 100000 in
set_option maxHeartbeats 6400000 in
theorem paste_calls (m p : Im) (x y : Int) (w : World) :
    Calls Try.prog 18 #[m.v, p.v, .int .i64 x, .int .i64 y] w fun e w' => e = .returned (.tuple #[(pasteS m p x y).1.v, .int .i64 (pasteS m p x y).2]) ∧ Below w.heap.size w w' := by
  obtain ⟨mW, mH, mC, mB, mP, mPd, mO, hm⟩ : ∃ a b c d e f g, m = ⟨a, b, c, d, e, f, g⟩ := ⟨_, _, _, _, _, _, _, rfl⟩
  obtain ⟨pW, pH, pC, pB, pP, pPd, pO, hp⟩ : ∃ a b c d e f g, p = ⟨a, b, c, d, e, f, g⟩ := ⟨_, _, _, _, _, _, _, rfl⟩
  have HF := Lib.hid (fun w => open_calls m w)
  have HF2 := Lib.hid (fun w => open_calls p w)
  have hv : m.v = .agg #[.int .i64 mW, .int .i64 mH, .int .i64 mC, .int .i64 mB, .bool mP, .int .i64 mPd, .string mO] := by rw [hm]; rfl
  have hv2 : p.v = .agg #[.int .i64 pW, .int .i64 pH, .int .i64 pC, .int .i64 pB, .bool pP, .int .i64 pPd, .string pO] := by rw [hp]; rfl
  rw [hv] at HF ⊢
  rw [hv2] at HF2 ⊢
  have HM := Lib.hid (And.intro hm hp)
  clear hm hv hp hv2
  go_enter Try.func18, Try.ntmps18
  go_upto_region 1 with fail
  refine wp_named ?_
  intro w1 hw1
  have b0 : Blk w1 w.heap.size [.int .i64 mW, .int .i64 mH, .int .i64 mC, .int .i64 mB, .bool mP, .int .i64 mPd, .string mO] 24 := by rw [hw1]; exact ((Blk.new _ _ _).alloc _).alloc _
  have b1 : Blk w1 (w.heap.size + 1) [.int .i64 pW, .int .i64 pH, .int .i64 pC, .int .i64 pB, .bool pP, .int .i64 pPd, .string pO] 24 := by rw [hw1]; exact (Blk.at (by simp)).alloc _
  have br : Blk w1 (w.heap.size + 1 + 1) zeroC 24 := by rw [hw1]; exact Blk.at (by simp)
  have hb1 : Below w.heap.size w w1 := by rw [hw1]; repeat (first | exact below_alloc _ | refine below_trans ?_ (below_alloc _))
  clear hw1
  have c0 := b0.cell (i := 0) rfl
  have c1 := b0.cell (i := 1) rfl
  have c2 := b0.cell (i := 2) rfl
  have c3 := b0.cell (i := 3) rfl
  have c4 := b0.cell (i := 4) rfl
  have c5 := b0.cell (i := 5) rfl
  have c6 := b0.cell (i := 6) rfl
  have HB := Lib.hid (And.intro hb1 (And.intro br b1))
  clear b0 hb1 br b1
  go_wp2_with fail
  refine (HF.out w1).mono ?_
  rintro r w2 hr
  have br := HB.out.2.1.kept hr.1
  have hbw := below_trans HB.out.1 hr.1
  have b1 := HB.out.2.2.kept hr.1
  clear c0 c1 c2 c3 c4 c5 c6
  cases hg : m.good with
  | false =>
    have hr2 := open_bad hr hg
    have HG := Lib.hid (show pasteS m p x y = (Im.zero, 420) by unfold pasteS; rw [hg]; rfl)
    clear hr hg b1
    subst hr2
    have HW := Lib.hid (below_set7 hbw (Nat.le_add_right w.heap.size 2))
    have r0 := br.cell (i := 0) rfl
    have r1 := br.cell (i := 1) rfl
    have r2 := br.cell (i := 2) rfl
    have r3 := br.cell (i := 3) rfl
    have r4 := br.cell (i := 4) rfl
    have r5 := br.cell (i := 5) rfl
    have r6 := br.cell (i := 6) rfl
    have f0 := br.free 0
    have f1 := br.free 1
    have f2 := br.free 2
    have f3 := br.free 3
    have f4 := br.free 4
    have f5 := br.free 5
    have f6 := br.free 6
    clear br hbw 
    go_wp2_with fail
    rw [HG.out]
    exact bodyPost_ret (v := .tuple #[Im.zero.v, .int .i64 420]) (by rw [zero_v]; simp [results, Try.results18, go_sem, *]) rfl ⟨rfl, HW.out _ _ _ _ _ _ _⟩
  | true =>
    obtain ⟨b, g, k, hr2, hvw, hgb, hgg, hne⟩ := open_good hr hg
    have hgw : w.heap.size + 1 + 1 < w1.heap.size := HB.out.2.1.lt
    have HV := Lib.hid (And.intro hvw (And.intro hgb (And.intro hgg (And.intro hne (And.intro hgw (And.intro hg (And.intro br (And.intro hbw b1))))))))
    have hok := m.good_ok hg
    have c0 := b1.cell (i := 0) rfl
    have c1 := b1.cell (i := 1) rfl
    have c2 := b1.cell (i := 2) rfl
    have c3 := b1.cell (i := 3) rfl
    have c4 := b1.cell (i := 4) rfl
    have c5 := b1.cell (i := 5) rfl
    have c6 := b1.cell (i := 6) rfl
    clear hr hg hvw hgb hgg hne hgw br hbw b1 HB HF
    subst hr2
    go_wp2_with fail
    refine (HF2.out w2).mono ?_
    rintro r w3 hr
    have br := HV.out.2.2.2.2.2.2.1.kept hr.1
    have hbw := below_trans HV.out.2.2.2.2.2.2.2.1 hr.1
    clear c0 c1 c2 c3 c4 c5 c6
    cases hg2 : p.good with
    | false =>
      have hr2 := open_bad hr hg2
      have HG := Lib.hid (show pasteS m p x y = (Im.zero, 420) by unfold pasteS; rw [hg2, Bool.and_false]; rfl)
      clear hr hg2
      subst hr2
      have HW := Lib.hid (below_set7 hbw (Nat.le_add_right w.heap.size 2))
      have r0 := br.cell (i := 0) rfl
      have r1 := br.cell (i := 1) rfl
      have r2 := br.cell (i := 2) rfl
      have r3 := br.cell (i := 3) rfl
      have r4 := br.cell (i := 4) rfl
      have r5 := br.cell (i := 5) rfl
      have r6 := br.cell (i := 6) rfl
      have f0 := br.free 0
      have f1 := br.free 1
      have f2 := br.free 2
      have f3 := br.free 3
      have f4 := br.free 4
      have f5 := br.free 5
      have f6 := br.free 6
      clear br hbw 
      go_wp2_with fail
      rw [HG.out]
      exact bodyPost_ret (v := .tuple #[Im.zero.v, .int .i64 420]) (by rw [zero_v]; simp [results, Try.results18, go_sem, *]) rfl ⟨rfl, HW.out _ _ _ _ _ _ _⟩
    | true =>
      obtain ⟨b2, g2, k2, hr2, hvw2, hgb2, hgg2, hne2⟩ := open_good hr hg2
      have hok2 := p.good_ok hg2
      have hpix := m.good_pix HV.out.2.2.2.2.2.1
      have hpaste : pasteS m p x y = if decide (m.C = p.C ∧ m.B = p.B) && insideB m x y p.W p.H then (img m.lay (overS m.smp p.smp x.toNat y.toNat p.lay.W p.lay.H), 0) else (Im.zero, 2) := by
        unfold pasteS
        rw [hg2, HV.out.2.2.2.2.2.1]
        rfl
      have n := (m.good_val HV.out.2.2.2.2.2.1).nums
      have n2 := (p.good_val hg2).nums
      obtain ⟨L, hL⟩ : ∃ L, m.lay = L := ⟨_, rfl⟩
      obtain ⟨l, hl⟩ : ∃ l, m.l = l := ⟨_, rfl⟩
      obtain ⟨O, hO⟩ : ∃ l, m.O = l := ⟨_, rfl⟩
      obtain ⟨L2, hL2⟩ : ∃ L, p.lay = L := ⟨_, rfl⟩
      obtain ⟨l2, hl2⟩ : ∃ l, p.l = l := ⟨_, rfl⟩
      obtain ⟨O2, hO2⟩ : ∃ l, p.O = l := ⟨_, rfl⟩
      have hsmp2 : p.smp = samp L2 l2 := by unfold Im.smp; rw [hL2, hl2]
      have hvm := HV.out.1
      rw [hL, hl, hO] at hvm
      rw [hL, hl] at hpix
      rw [hL] at hok n hpaste
      rw [hL2, hsmp2] at hpaste
      rw [hL2] at hok2 n2
      rw [hL2, hl2, hO2] at hvw2
      replace hpaste : pasteS m p x y = if decide (L.C = L2.C ∧ 8 * L.k = 8 * L2.k) && (betw 0 ((L.W : Int) - (L2.W : Int)) [x] && betw 0 ((L.H : Int) - (L2.H : Int)) [y]) then (img L (overS m.smp (samp L2 l2) x.toNat y.toNat L2.W L2.H), 0) else (Im.zero, 2) := by
        rw [hpaste]
        congr 2
        have h1 := hok2.w1
        have h2 := hok2.h1
        unfold insideB
        rw [n.c, n2.c, n.b, n2.b, n.w, n.h, n2.w, n2.h]
        congr 1
        · congr 1
          exact propext ⟨fun h => ⟨by omega, by omega⟩, fun h => ⟨by omega, by omega⟩⟩
        · rw [Bool.eq_iff_iff, Bool.and_eq_true, decide_eq_true_iff, betw_one, betw_one]
          omega
      have hvm3 := hvm.kept hr.1
      have m2 := hvm3.blk.cell (i := 2) rfl
      have m3 := hvm3.blk.cell (i := 3) rfl
      have q0 := hvw2.blk.cell (i := 0) rfl
      have q1 := hvw2.blk.cell (i := 1) rfl
      have q2 := hvw2.blk.cell (i := 2) rfl
      have q3 := hvw2.blk.cell (i := 3) rfl
      obtain ⟨C1, hC1⟩ : ∃ q : Nat, L.C = q := ⟨_, rfl⟩
      obtain ⟨C2, hC2⟩ : ∃ q : Nat, L2.C = q := ⟨_, rfl⟩
      obtain ⟨B1, hB1⟩ : ∃ q : Nat, 8 * L.k = q := ⟨_, rfl⟩
      obtain ⟨B2, hB2⟩ : ∃ q : Nat, 8 * L2.k = q := ⟨_, rfl⟩
      obtain ⟨P1, hP1⟩ : ∃ q : Nat, L2.W = q := ⟨_, rfl⟩
      obtain ⟨P2, hP2⟩ : ∃ q : Nat, L2.H = q := ⟨_, rfl⟩
      rw [hC1] at m2
      rw [hB1] at m3
      rw [hP1] at q0
      rw [hP2] at q1
      rw [hC2] at q2
      rw [hB2] at q3
      have hwg := hvm.oct.lt
      have hwb := hvm.blk.lt
      have HX := Lib.hid (And.intro hok (And.intro hok2 (And.intro hpix (And.intro hpaste (And.intro hvm3 (And.intro hvw2 (And.intro hgb2 (And.intro hgg2 (And.intro hne2 (And.intro br (And.intro hbw (And.intro hwg hwb))))))))))))
      have HE := Lib.hid (And.intro hC1 (And.intro hC2 (And.intro hB1 (And.intro hB2 (And.intro hP1 hP2)))))
      have hsz : w.heap.size + 1 + 1 < g := by have := HV.out; omega
      have hszb : w.heap.size + 1 + 1 < b := by have := HV.out; omega
      have HS := Lib.hid (And.intro hsz (And.intro hszb HV.out.2.2.2.1))
      clear hr hg2 hvw2 hgb2 hgg2 hne2 hok hok2 hpix hpaste n n2 hL hl hO hL2 hl2 hO2 hsmp2 hvm hvm3 hC1 hC2 hB1 hB2 hP1 hP2 br hbw hwg hwb HV HF2 hsz hszb
      subst hr2
      go_wp2_with fail
      by_cases e1 : C1 = C2
      · by_cases e2 : B1 = B2
        · have hb1 := HX.out.2.1.w1
          have hb2 := HX.out.2.1.w2
          have hb3 := HX.out.2.1.h1
          have hb4 := HX.out.2.1.h2
          rw [HE.out.2.2.2.2.1] at hb1 hb2
          rw [HE.out.2.2.2.2.2] at hb3 hb4
          have HI := Lib.hid (fun W (h : Below w3.heap.size w3 W) => inside_calls HX.out.1 (HX.out.2.2.2.2.1.kept h) x y (P1 : Nat) (P2 : Nat) (by omega) (by omega))
          obtain ⟨qb, hqb⟩ : ∃ qb, (betw 0 ((L.W : Int) - (P1 : Int)) [x] && betw 0 ((L.H : Int) - (P2 : Int)) [y]) = qb := ⟨_, rfl⟩
          rw [hqb] at HI
          have HK := Lib.hid (And.intro e1 (And.intro e2 hqb))
          clear hb1 hb2 hb3 hb4 hqb
          subst e1
          subst e2
          cases qb with
          | false =>
            refine wp_seq_all (fun k => k == 38) (fun _ _ => .bool false) (fun _ _ _ => True) (by kernel_rfl) (by kernel_rfl) (fun _ _ _ _ _ h => h) ?_
            repeat (first | (refine seq_skip (by rfl) ?_; simp only [Act.put, List.setIfInBounds_toArray, List.set_cons_zero, List.set_cons_succ, Nat.reduceAdd]) | (refine seq_pure (v := ?_) (by rfl) (by rfl) (fun W hW hC => ?_) ?_; rotate_left; (go_simp <;> with_reducible rfl); simp only [Act.put, List.setIfInBounds_toArray, List.set_cons_zero, List.set_cons_succ, Nat.reduceAdd]))
            refine seq_made (by rfl) (by rfl) (fun W hW hC hF R hR => ?_) (fun _ => ?_)
            · unfold Gives; go_simp
              refine (HI.out W hW).mono ?_
              rintro r w8 ⟨rfl, hb8⟩
              refine ⟨_, rfl, ?_⟩
              exact hR {} _ hb8 trivial
            simp only [Act.put, List.setIfInBounds_toArray, List.set_cons_zero, List.set_cons_succ, Nat.reduceAdd]
            repeat (first | (refine seq_skip (by rfl) ?_; simp only [Act.put, List.setIfInBounds_toArray, List.set_cons_zero, List.set_cons_succ, Nat.reduceAdd]) | (refine seq_pure (v := ?_) (by rfl) (by rfl) (fun W hW hC => ?_) ?_; rotate_left; (go_simp <;> with_reducible rfl); simp only [Act.put, List.setIfInBounds_toArray, List.set_cons_zero, List.set_cons_succ, Nat.reduceAdd]))
            refine seq_nil ?_; intro W hW hF
            clear hF
            have br := HX.out.2.2.2.2.2.2.2.2.2.1.kept hW
            have hbw := below_trans HX.out.2.2.2.2.2.2.2.2.2.2.1 hW
            have HZ := Lib.hid (show pasteS m p x y = (Im.zero, 2) by rw [HX.out.2.2.2.1, HE.out.2.2.2.2.1, HE.out.2.2.2.2.2, HK.out.2.2, Bool.and_false]; rfl)
            clear hW m2 m3 q0 q1 q2 q3
            have HW := Lib.hid (below_set7 hbw (Nat.le_add_right w.heap.size 2))
            have r0 := br.cell (i := 0) rfl
            have r1 := br.cell (i := 1) rfl
            have r2 := br.cell (i := 2) rfl
            have r3 := br.cell (i := 3) rfl
            have r4 := br.cell (i := 4) rfl
            have r5 := br.cell (i := 5) rfl
            have r6 := br.cell (i := 6) rfl
            have f0 := br.free 0
            have f1 := br.free 1
            have f2 := br.free 2
            have f3 := br.free 3
            have f4 := br.free 4
            have f5 := br.free 5
            have f6 := br.free 6
            clear br hbw 
            go_wp2_with fail
            rw [HZ.out]
            exact bodyPost_ret (v := .tuple #[Im.zero.v, .int .i64 2]) (by rw [zero_v]; simp [results, Try.results18, go_sem, *]) rfl ⟨rfl, HW.out _ _ _ _ _ _ _⟩
          | true =>
            refine wp_seq_all (fun k => k == 38) (fun _ _ => .bool true) (fun _ _ _ => True) (by kernel_rfl) (by kernel_rfl) (fun _ _ _ _ _ h => h) ?_
            repeat (first | (refine seq_skip (by rfl) ?_; simp only [Act.put, List.setIfInBounds_toArray, List.set_cons_zero, List.set_cons_succ, Nat.reduceAdd]) | (refine seq_pure (v := ?_) (by rfl) (by rfl) (fun W hW hC => ?_) ?_; rotate_left; (go_simp <;> with_reducible rfl); simp only [Act.put, List.setIfInBounds_toArray, List.set_cons_zero, List.set_cons_succ, Nat.reduceAdd]))
            refine seq_made (by rfl) (by rfl) (fun W hW hC hF R hR => ?_) (fun _ => ?_)
            · unfold Gives; go_simp
              refine (HI.out W hW).mono ?_
              rintro r w8 ⟨rfl, hb8⟩
              refine ⟨_, rfl, ?_⟩
              exact hR {} _ hb8 trivial
            simp only [Act.put, List.setIfInBounds_toArray, List.set_cons_zero, List.set_cons_succ, Nat.reduceAdd]
            repeat (first | (refine seq_skip (by rfl) ?_; simp only [Act.put, List.setIfInBounds_toArray, List.set_cons_zero, List.set_cons_succ, Nat.reduceAdd]) | (refine seq_pure (v := ?_) (by rfl) (by rfl) (fun W hW hC => ?_) ?_; rotate_left; (go_simp <;> with_reducible rfl); simp only [Act.put, List.setIfInBounds_toArray, List.set_cons_zero, List.set_cons_succ, Nat.reduceAdd]))
            refine seq_nil ?_; intro W hW hF
            clear hF HI
            replace q0 := Ytpgkhhdobolfbaa.kept hW q0
            replace q1 := Ytpgkhhdobolfbaa.kept hW q1
            have hk := HK.out.2.2
            rw [Bool.and_eq_true, betw_one, betw_one] at hk
            obtain ⟨X, rfl⟩ := Int.eq_ofNat_of_zero_le hk.1.1
            obtain ⟨Y, rfl⟩ := Int.eq_ofNat_of_zero_le hk.2.1
            have HC := Lib.hid (fun W2 (h : Below W.heap.size W W2) => copied_calls HX.out.2.1 HX.out.1 ((HX.out.2.2.2.2.2.1.kept hW).kept h) ((HX.out.2.2.2.2.1.kept hW).kept h) (by rw [HE.out.1, HE.out.2.1]) HS.out.2.2 (by have := HX.out; omega) (by have := HX.out; omega) HX.out.2.2.1 0 0 X Y P1 P2 (by have := HE.out; omega) (by have := HE.out; omega) (by omega) (by omega))
            have HD := Lib.hid (And.intro (HX.out.2.2.2.2.2.2.2.2.2.1.kept hW) (below_trans HX.out.2.2.2.2.2.2.2.2.2.2.1 hW))
            clear hW hk m2 m3 q2 q3
            go_wp2_with fail
            refine wp_seq_tail 14 (fun _ => false) (fun _ _ => undef) (fun _ _ _ => True) (by kernel_rfl) (by kernel_rfl) (by decide) (fun _ _ _ _ _ h => h) ?_
            repeat (first | (refine seq_skip (by rfl) ?_; simp only [Act.put, List.setIfInBounds_toArray, List.set_cons_zero, List.set_cons_succ, Nat.reduceAdd]) | (refine seq_pure (v := ?_) (by rfl) (by rfl) (fun W hW hC => ?_) ?_; rotate_left; (go_simp <;> with_reducible rfl); simp only [Act.put, List.setIfInBounds_toArray, List.set_cons_zero, List.set_cons_succ, Nat.reduceAdd]))
            refine seq_nil ?_; intro W2 hW2 hF
            clear hF q0 q1
            have HE2 := Lib.hid (And.intro (HC.out W2 hW2) (And.intro (HD.out.1.kept hW2) (below_trans HD.out.2 hW2)))
            clear hW2 HC HD
            go_wp2_with fail
            refine HE2.out.1.mono ?_
            rintro r w11 ⟨⟨u, rfl⟩, hz11, l3, hv11, hp11⟩
            have HZ := Lib.hid (And.intro hz11 (And.intro hv11 hp11))
            clear hz11 hv11 hp11
            go_wp2_with fail
            refine (closed_img HX.out.1 HZ.out.2.1 HS.out.2.2 HZ.out.2.2).mono ?_
            rintro r w12 ⟨rfl, hz12⟩
            have hR : img L (copS m.smp (samp L2 l2) 0 0 X Y P1 P2 P1 0) = img L (overS m.smp (samp L2 l2) X Y P1 P2) := by
              refine img_congr HX.out.1 fun a b c ha hb hc => ?_
              unfold copS overS
              by_cases e : X ≤ a ∧ a < X + P1 ∧ Y ≤ b ∧ b < Y + P2
              · rw [if_pos (by omega), if_pos e, Nat.zero_add, Nat.zero_add]
              · rw [if_neg (by omega), if_neg e]
            rw [hR]
            obtain ⟨R, hR⟩ : ∃ R, img L (overS m.smp (samp L2 l2) X Y P1 P2) = R := ⟨_, rfl⟩
            have hcut : pasteS m p (X : Int) (Y : Int) = (R, 0) := by
              rw [HX.out.2.2.2.1, HE.out.2.2.2.2.1, HE.out.2.2.2.2.2, HK.out.2.2, decide_eq_true (by have := HE.out; omega), Bool.and_self, if_pos rfl, ← hR]
              rfl
            rw [hR]
            have br := (HE2.out.2.1.offZ HZ.out.1 (by have := HS.out; omega)).offZ hz12 (by have := HS.out; omega)
            have hbw := Below.offZ (Below.offZ HE2.out.2.2 (Nat.le_refl _) HZ.out.1 (by have := HS.out; omega)) (Nat.le_refl _) hz12 (by have := HS.out; omega)
            have HR := Lib.hid hcut
            clear hz12 hR hcut
            rw [imgV_eq]
            have HW := Lib.hid (below_set7 hbw (Nat.le_add_right w.heap.size 2))
            have r0 := br.cell (i := 0) rfl
            have r1 := br.cell (i := 1) rfl
            have r2 := br.cell (i := 2) rfl
            have r3 := br.cell (i := 3) rfl
            have r4 := br.cell (i := 4) rfl
            have r5 := br.cell (i := 5) rfl
            have r6 := br.cell (i := 6) rfl
            have f0 := br.free 0
            have f1 := br.free 1
            have f2 := br.free 2
            have f3 := br.free 3
            have f4 := br.free 4
            have f5 := br.free 5
            have f6 := br.free 6
            clear br hbw 
            go_wp2_with fail
            rw [HR.out]
            exact bodyPost_ret (v := .tuple #[R.v, .int .i64 0]) (by rw [imgV_eq]; simp [results, Try.results18, go_sem, *]) rfl ⟨rfl, HW.out _ _ _ _ _ _ _⟩
        · have hnb : ((B1 : Int) != (B2 : Int)) = true := by simpa [bne_iff_ne] using (fun h => e2 (by omega) : ¬ (B1 : Int) = (B2 : Int))
          have HK := Lib.hid (show pasteS m p x y = (Im.zero, 2) by rw [HX.out.2.2.2.1, decide_eq_false (by have := HE.out; omega), Bool.false_and]; rfl)
          clear e2
          subst e1
          refine wp_seq_all (fun _ => false) (fun _ _ => undef) (fun _ _ _ => True) (by kernel_rfl) (by kernel_rfl) (fun _ _ _ _ _ h => h) ?_
          repeat (first | (refine seq_skip (by rfl) ?_; simp only [Act.put, List.setIfInBounds_toArray, List.set_cons_zero, List.set_cons_succ, Nat.reduceAdd]) | (refine seq_pure (v := ?_) (by rfl) (by rfl) (fun W hW hC => ?_) ?_; rotate_left; (go_simp <;> with_reducible rfl); simp only [Act.put, List.setIfInBounds_toArray, List.set_cons_zero, List.set_cons_succ, Nat.reduceAdd]))
          refine seq_nil ?_; intro W hW hF
          clear hF
          have br := HX.out.2.2.2.2.2.2.2.2.2.1.kept hW
          have hbw := below_trans HX.out.2.2.2.2.2.2.2.2.2.2.1 hW
          clear hW m2 m3 q0 q1 q2 q3 hnb
          have HW := Lib.hid (below_set7 hbw (Nat.le_add_right w.heap.size 2))
          have r0 := br.cell (i := 0) rfl
          have r1 := br.cell (i := 1) rfl
          have r2 := br.cell (i := 2) rfl
          have r3 := br.cell (i := 3) rfl
          have r4 := br.cell (i := 4) rfl
          have r5 := br.cell (i := 5) rfl
          have r6 := br.cell (i := 6) rfl
          have f0 := br.free 0
          have f1 := br.free 1
          have f2 := br.free 2
          have f3 := br.free 3
          have f4 := br.free 4
          have f5 := br.free 5
          have f6 := br.free 6
          clear br hbw 
          go_wp2_with fail
          rw [HK.out]
          exact bodyPost_ret (v := .tuple #[Im.zero.v, .int .i64 2]) (by rw [zero_v]; simp [results, Try.results18, go_sem, *]) rfl ⟨rfl, HW.out _ _ _ _ _ _ _⟩
      · have hnc : ((C1 : Int) != (C2 : Int)) = true := by simpa [bne_iff_ne] using (fun h => e1 (by omega) : ¬ (C1 : Int) = (C2 : Int))
        have HK := Lib.hid (show pasteS m p x y = (Im.zero, 2) by rw [HX.out.2.2.2.1, decide_eq_false (by have := HE.out; omega), Bool.false_and]; rfl)
        clear e1
        refine wp_seq_all (fun _ => false) (fun _ _ => undef) (fun _ _ _ => True) (by kernel_rfl) (by kernel_rfl) (fun _ _ _ _ _ h => h) ?_
        repeat (first | (refine seq_skip (by rfl) ?_; simp only [Act.put, List.setIfInBounds_toArray, List.set_cons_zero, List.set_cons_succ, Nat.reduceAdd]) | (refine seq_pure (v := ?_) (by rfl) (by rfl) (fun W hW hC => ?_) ?_; rotate_left; (go_simp <;> with_reducible rfl); simp only [Act.put, List.setIfInBounds_toArray, List.set_cons_zero, List.set_cons_succ, Nat.reduceAdd]))
        refine seq_nil ?_; intro W hW hF
        clear hF
        have br := HX.out.2.2.2.2.2.2.2.2.2.1.kept hW
        have hbw := below_trans HX.out.2.2.2.2.2.2.2.2.2.2.1 hW
        clear hW m2 m3 q0 q1 q2 q3 hnc
        have HW := Lib.hid (below_set7 hbw (Nat.le_add_right w.heap.size 2))
        have r0 := br.cell (i := 0) rfl
        have r1 := br.cell (i := 1) rfl
        have r2 := br.cell (i := 2) rfl
        have r3 := br.cell (i := 3) rfl
        have r4 := br.cell (i := 4) rfl
        have r5 := br.cell (i := 5) rfl
        have r6 := br.cell (i := 6) rfl
        have f0 := br.free 0
        have f1 := br.free 1
        have f2 := br.free 2
        have f3 := br.free 3
        have f4 := br.free 4
        have f5 := br.free 5
        have f6 := br.free 6
        clear br hbw 
        go_wp2_with fail
        rw [HK.out]
        exact bodyPost_ret (v := .tuple #[Im.zero.v, .int .i64 2]) (by rw [zero_v]; simp [results, Try.results18, go_sem, *]) rfl ⟨rfl, HW.out _ _ _ _ _ _ _⟩
end Go.Proofs.Ytpgkhhdobolfbaa
