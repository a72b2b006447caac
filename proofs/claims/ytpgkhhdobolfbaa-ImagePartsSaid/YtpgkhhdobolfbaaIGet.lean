/-
  image.Get, image.Set, image.Make.
-/
import Derived.Test.YtpgkhhdobolfbaaIApi
namespace Go.Proofs.Ytpgkhhdobolfbaa
set_option linter.unusedVariables false
set_option linter.unusedSimpArgs false
open Go Go.RowKit

/-- The zero image's cells. -/
abbrev zeroC : List Value := [.int .i64 0, .int .i64 0, .int .i64 0, .int .i64 0, .bool false, .int .i64 0, .string ⟨#[]⟩]

theorem closed_img {L : Lay} {w : World} {b g k : Nat} {O : ByteArray} {l : List UInt8} (hok : L.Ok) (hv : View w b g L O k l) (hne : b ≠ g) {f : Nat → Nat → Nat → Nat} (hp : Pix L l f) :
    Calls Try.prog 42 #[.pointer (some ⟨b, 0, none⟩)] w fun e w' => e = .returned (img L f).v ∧ OffZ b (b + 1) w w' := by
  refine (closed_calls hok hv.blk hv.oct hne).mono ?_
  rintro e w' ⟨rfl, hz⟩
  refine ⟨?_, hz⟩
  rw [hp.octs hok]
  rfl

theorem below_set7 {w W : World} (h : Below w.heap.size w W) {c : Nat} (hc : w.heap.size ≤ c) (v0 v1 v2 v3 v4 v5 v6 : Value) :
    Below w.heap.size w (((((((W.setCell ⟨c, 0, none⟩ v0).setCell ⟨c, 1, none⟩ v1).setCell ⟨c, 2, none⟩ v2).setCell ⟨c, 3, none⟩ v3).setCell ⟨c, 4, none⟩ v4).setCell ⟨c, 5, none⟩ v5).setCell ⟨c, 6, none⟩ v6) :=
  ((((((h.setCell (p := ⟨c, 0, none⟩) hc _).setCell (p := ⟨c, 1, none⟩) hc _).setCell (p := ⟨c, 2, none⟩) hc _).setCell (p := ⟨c, 3, none⟩) hc _).setCell (p := ⟨c, 4, none⟩) hc _).setCell (p := ⟨c, 5, none⟩) hc _).setCell (p := ⟨c, 6, none⟩) hc _

theorem at_cases {m : Im} {x y : Int} {w w' : World} {e : Ending} (h : AtR m x y w e w') :
    (∃ E : Int, (E = 420 ∨ E = 2) ∧ e = .returned (.tuple #[.pointer none, .int .i64 E]) ∧ (∀ l, setS m x y l = (Im.zero, E)) ∧ getS m x y = ([], E)) ∨
    (m.good = true ∧ thereB m x y = true ∧ ∃ b g k, e = .returned (.tuple #[.pointer (some ⟨b, 0, none⟩), .int .i64 0]) ∧ View w' b g m.lay m.O k m.l ∧ w.heap.size ≤ b ∧ w.heap.size ≤ g ∧ b ≠ g) := by
  obtain ⟨_, h⟩ := h
  cases hg : m.good with
  | false =>
    rw [hg] at h
    exact .inl ⟨420, .inl rfl, h, fun l => by unfold setS; rw [hg]; rfl, by unfold getS; rw [hg]; rfl⟩
  | true =>
    rw [hg, if_pos rfl] at h
    cases ht : thereB m x y with
    | false =>
      rw [ht] at h
      exact .inl ⟨2, .inr rfl, h, fun l => by unfold setS; rw [hg, ht]; rfl, by unfold getS; rw [hg, ht]; rfl⟩
    | true =>
      rw [ht, if_pos rfl] at h
      exact .inr ⟨rfl, rfl, h⟩

/-- A row of numbers, made behind block n. -/
def RowN (w : World) (n : Nat) (v : Value) (xs : List Int) : Prop := ∃ A c, v = .slice A xs.length c ∧ Cs w .i64 A xs ∧ (∀ p, A = some p → n ≤ p.block ∧ p.block < w.heap.size) ∧ xs.length ≤ 9223372036854775807

theorem there_nat {m : Im} {x y : Int} (hg : m.good = true) (h : thereB m x y = true) : ∃ X Y : Nat, x = X ∧ y = Y ∧ X < m.lay.W ∧ Y < m.lay.H := by
  have n := (m.good_val hg).nums
  have h := of_decide_eq_true h
  rw [n.w, n.h] at h
  exact ⟨x.toNat, y.toNat, by omega, by omega, by omega, by omega⟩

set_option maxHeartbeats 1600000 in
theorem get_calls (m : Im) (x y : Int) (w : World) : Calls Try.prog 14 #[m.v, .int .i64 x, .int .i64 y] w fun e w' => ∃ v, e = .returned (.tuple #[v, .int .i64 (getS m x y).2]) ∧ RowN w' w.heap.size v (getS m x y).1 ∧ Below w.heap.size w w' := by
  obtain ⟨mW, mH, mC, mB, mP, mPd, mO, hm⟩ : ∃ a b c d e f g, m = ⟨a, b, c, d, e, f, g⟩ := ⟨_, _, _, _, _, _, _, rfl⟩
  have HF := Lib.hid (fun w => at_calls m x y w)
  have hv : m.v = .agg #[.int .i64 mW, .int .i64 mH, .int .i64 mC, .int .i64 mB, .bool mP, .int .i64 mPd, .string mO] := by rw [hm]; rfl
  rw [hv] at HF ⊢
  clear hm hv
  go_enter Try.func14, Try.ntmps14
  go_upto_region 1 with fail
  refine wp_named ?_
  intro w1 hw1
  have b0 : Blk w1 w.heap.size [.int .i64 mW, .int .i64 mH, .int .i64 mC, .int .i64 mB, .bool mP, .int .i64 mPd, .string mO] 24 := by rw [hw1]; exact Blk.new _ _ _
  have hb1 : Below w.heap.size w w1 := by rw [hw1]; repeat (first | exact below_alloc _ | refine below_trans ?_ (below_alloc _))
  clear hw1
  have c0 := b0.cell (i := 0) rfl
  have c1 := b0.cell (i := 1) rfl
  have c2 := b0.cell (i := 2) rfl
  have c3 := b0.cell (i := 3) rfl
  have c4 := b0.cell (i := 4) rfl
  have c5 := b0.cell (i := 5) rfl
  have c6 := b0.cell (i := 6) rfl
  have HB := Lib.hid hb1
  clear b0 hb1
  go_wp2_with fail
  refine (HF.out w1).mono ?_
  rintro r w2 hr
  have HC := Lib.hid (below_trans HB.out hr.1)
  rcases at_cases hr with ⟨E, hE, hr2, _, hS⟩ | ⟨hg, ht, b, g, k, hr2, hvw, hgb, hgg, hne⟩
  · have HG := Lib.hid hS
    clear hr hS c0 c1 c2 c3 c4 c5 c6
    subst hr2
    rcases hE with rfl | rfl
    all_goals
      go_wp2
      go_ret2
      rw [HG.out]
      exact ⟨_, rfl, ⟨none, 0, rfl, Cs.nil, (fun p e => by cases e), by simp⟩, HC.out⟩
  · obtain ⟨X, Y, rfl, rfl, hX, hY⟩ := there_nat hg ht
    have hok := m.good_ok hg
    have HP := Lib.hid (pixel_calls hok hvw X Y hX hY)
    have HS := Lib.hid (And.intro (show getS m (X : Int) (Y : Int) = (pixelS m X Y, okN) by unfold getS; rw [hg, ht]; simp) hok)
    clear hr hg ht hvw hgb hgg hne hX hY hok c0 c1 c2 c3 c4 c5 c6
    subst hr2
    go_wp2_with fail
    refine HP.out.mono ?_
    rintro r w3 ⟨q, rfl, hq, hqs, hb3⟩
    have HQ := Lib.hid (And.intro hq (And.intro hqs hb3))
    clear hq hqs hb3
    go_wp2
    go_ret2
    rw [HS.out.1]
    have hlen : (pixelS m X Y).length = m.lay.C := by simp [pixelS]
    refine ⟨_, rfl, ⟨some ⟨q, 0, none⟩, m.lay.C, by rw [hlen]; rfl, blk_row HQ.out.1, ?_, ?_⟩, below_trans HC.out HQ.out.2.2⟩
    · intro p e
      cases e
      exact ⟨Nat.le_trans HC.out.size HQ.out.2.1, HQ.out.1.lt⟩
    · show (pixelS m X Y).length ≤ _
      rw [hlen]
      have := HS.out.2.c2
      omega

theorem imgV_eq (r : Im) : r.v = .agg #[.int .i64 r.W, .int .i64 r.H, .int .i64 r.C, .int .i64 r.B, .bool r.P, .int .i64 r.Pd, .string r.O] := rfl
theorem zero_v : Im.zero.v = .agg #[.int .i64 0, .int .i64 0, .int .i64 0, .int .i64 0, .bool false, .int .i64 0, .string ⟨#[]⟩] := rfl

theorem fit_iff {m : Im} (hg : m.good = true) (l : List Int) : fitB m l = (decide ((l.length : Int) = (m.lay.C : Nat)) && betw 0 (2 ^ (8 * m.lay.k) - 1) l) := by
  have n := (m.good_val hg).nums
  unfold fitB
  rw [n.c, n.b, Int.toNat_natCast]
  congr 1
  unfold betw
  rw [Bool.eq_iff_iff, Bool.not_eq_true', List.any_eq_false, List.all_eq_true]
  refine forall_congr' fun v => forall_congr' fun _ => ?_
  simp only [outB, decide_eq_true_iff, Bool.or_eq_true, not_or]
  omega

set_option maxRecDepth 100000 in
set_option maxHeartbeats 3200000 in
theorem set_calls (m : Im) (x y : Int) (A : Option Addr) (ca : Nat) (vs : List Int) (w : World) (hvs : Cs w .i64 A vs) (hvl : vs.length ≤ 9223372036854775807) (hA : ∀ p, A = some p → p.block < w.heap.size) :
    Calls Try.prog 15 #[m.v, .int .i64 x, .int .i64 y, .slice A vs.length ca] w fun e w' => e = .returned (.tuple #[(setS m x y vs).1.v, .int .i64 (setS m x y vs).2]) ∧ Below w.heap.size w w' := by
  obtain ⟨mW, mH, mC, mB, mP, mPd, mO, hm⟩ : ∃ a b c d e f g, m = ⟨a, b, c, d, e, f, g⟩ := ⟨_, _, _, _, _, _, _, rfl⟩
  have HF := Lib.hid (fun w => at_calls m x y w)
  have hv : m.v = .agg #[.int .i64 mW, .int .i64 mH, .int .i64 mC, .int .i64 mB, .bool mP, .int .i64 mPd, .string mO] := by rw [hm]; rfl
  rw [hv] at HF ⊢
  have HCs := Lib.hid (And.intro hvs hA)
  clear hm hv hvs hA
  go_enter Try.func15, Try.ntmps15
  go_upto_region 1 with fail
  refine wp_named ?_
  intro w1 hw1
  have b0 : Blk w1 w.heap.size [.int .i64 mW, .int .i64 mH, .int .i64 mC, .int .i64 mB, .bool mP, .int .i64 mPd, .string mO] 24 := by rw [hw1]; exact (Blk.new _ _ _).alloc _
  have br : Blk w1 (w.heap.size + 1) zeroC 24 := by rw [hw1]; exact Blk.at (by simp)
  have hb1 : Below w.heap.size w w1 := by rw [hw1]; repeat (first | exact below_alloc _ | refine below_trans ?_ (below_alloc _))
  clear hw1
  have c0 := b0.cell (i := 0) rfl
  have c1 := b0.cell (i := 1) rfl
  have c2 := b0.cell (i := 2) rfl
  have c3 := b0.cell (i := 3) rfl
  have c4 := b0.cell (i := 4) rfl
  have c5 := b0.cell (i := 5) rfl
  have c6 := b0.cell (i := 6) rfl
  have HB := Lib.hid (And.intro hb1 br)
  clear b0 hb1 br
  go_wp2_with fail
  refine (HF.out w1).mono ?_
  rintro r w2 hr
  have br := HB.out.2.kept hr.1
  have hbw := below_trans HB.out.1 hr.1
  clear c0 c1 c2 c3 c4 c5 c6
  rcases at_cases hr with ⟨E, hE, hr2, hS, _⟩ | ⟨hg, ht, b, g, k, hr2, hvw, hgb, hgg, hne⟩
  · have HG := Lib.hid (hS vs)
    have HW := Lib.hid (below_set7 hbw (Nat.le_succ w.heap.size))
    clear hr hS hbw
    have r0 := br.cell (i := 0) rfl
    have r1 := br.cell (i := 1) rfl
    have r2 := br.cell (i := 2) rfl
    have r3 := br.cell (i := 3) rfl
    have r4 := br.cell (i := 4) rfl
    have r5 := br.cell (i := 5) rfl
    have r6 := br.cell (i := 6) rfl
    have f0 := br.free 0
    have f1 := br.free 1
    have f2 := br.free 2
    have f3 := br.free 3
    have f4 := br.free 4
    have f5 := br.free 5
    have f6 := br.free 6
    clear br
    subst hr2
    rcases hE with rfl | rfl
    all_goals
      go_wp2_with fail
      rw [HG.out]
      first
      | exact bodyPost_ret (v := .tuple #[Im.zero.v, .int .i64 420]) (by rw [zero_v]; simp [results, Try.results15, go_sem, *]) rfl ⟨rfl, HW.out _ _ _ _ _ _ _⟩
      | exact bodyPost_ret (v := .tuple #[Im.zero.v, .int .i64 2]) (by rw [zero_v]; simp [results, Try.results15, go_sem, *]) rfl ⟨rfl, HW.out _ _ _ _ _ _ _⟩
  · obtain ⟨X, Y, rfl, rfl, hX, hY⟩ := there_nat hg ht
    have hok := m.good_ok hg
    have hfit := fit_iff hg vs
    have hset : setS m (X : Int) (Y : Int) vs = if fitB m vs then (img m.lay (updS m.smp X Y vs), 0) else (Im.zero, 2) := by
      unfold setS
      rw [hg, ht]
      simp [okN, errArg]
    have hpix := m.good_pix hg
    obtain ⟨L, hL⟩ : ∃ L, m.lay = L := ⟨_, rfl⟩
    obtain ⟨l, hl⟩ : ∃ l, m.l = l := ⟨_, rfl⟩
    obtain ⟨O, hO⟩ : ∃ l, m.O = l := ⟨_, rfl⟩
    rw [hL] at hok hvw hX hY hfit hset hpix
    rw [hl] at hvw hpix
    rw [hO] at hvw
    have v2 := hvw.blk.cell (i := 2) rfl
    have hgw : w.heap.size ≤ w1.heap.size := HB.out.1.size
    have h1w : w.heap.size + 1 < w1.heap.size := HB.out.2.lt
    have hcs2 := HCs.out.1.kept hbw
    have HV := Lib.hid (And.intro hok (And.intro hvw (And.intro hX (And.intro hY (And.intro hpix (And.intro hset (And.intro hbw (And.intro br (And.intro (Nat.le_trans hgw hgb) (And.intro (Nat.le_trans hgw hgg) (And.intro hne (And.intro (Nat.lt_of_lt_of_le h1w hgb) (And.intro (Nat.lt_of_lt_of_le h1w hgg) hcs2)))))))))))))
    have HFit := Lib.hid hfit
    clear hg ht hok hvw hX hY hpix hset hbw br hgb hgg hne hfit hL hl hO hr hgw h1w hcs2 HB HF
    subst hr2
    obtain ⟨nC, hnC⟩ : ∃ n, L.C = n := ⟨_, rfl⟩
    rw [hnC] at v2
    have HNC := Lib.hid hnC
    by_cases hlen : vs.length = nC
    · have HLen := Lib.hid hlen
      clear hnC
      subst hlen
      rcases HV.out.1.bits with e | e
      · have v3 : w2.cell? ⟨b, 3, none⟩ = some (.int .i64 8) := by have := HV.out.2.1.blk.cell (i := 3) rfl; rw [e] at this; exact this
        have hfb : fitB m vs = betw 0 255 vs := by
          rw [HFit.out, HNC.out, decide_eq_true (by have := HLen.out; omega), Bool.true_and, e]
          rfl
        have HE := Lib.hid (And.intro e hfb)
        clear e hfb
        go_wp2_with fail
        refine (between_calls A ca vs 0 255 w2 HV.out.2.2.2.2.2.2.2.2.2.2.2.2.2 hvl).mono ?_
        rintro r w3 ⟨rfl, hb3⟩
        have br := HV.out.2.2.2.2.2.2.2.1.kept hb3
        have hbw := below_trans HV.out.2.2.2.2.2.2.1 hb3
        cases hf : betw 0 255 vs with
        | false =>
          have HFF := Lib.hid hf
          have HW := Lib.hid (below_set7 hbw (Nat.le_succ w.heap.size))
          clear hb3 hbw hf v2 v3
          have r0 := br.cell (i := 0) rfl
          have r1 := br.cell (i := 1) rfl
          have r2 := br.cell (i := 2) rfl
          have r3 := br.cell (i := 3) rfl
          have r4 := br.cell (i := 4) rfl
          have r5 := br.cell (i := 5) rfl
          have r6 := br.cell (i := 6) rfl
          have f0 := br.free 0
          have f1 := br.free 1
          have f2 := br.free 2
          have f3 := br.free 3
          have f4 := br.free 4
          have f5 := br.free 5
          have f6 := br.free 6
          clear br
          go_wp2_with fail
          rw [HV.out.2.2.2.2.2.1, HE.out.2, HFF.out]
          exact bodyPost_ret (v := .tuple #[Im.zero.v, .int .i64 2]) (by rw [zero_v]; simp [results, Try.results15, go_sem, *]) rfl ⟨rfl, HW.out _ _ _ _ _ _ _⟩
        | true =>
          have hall : ∀ v ∈ vs, 0 ≤ v ∧ v < 65536 := by
            intro v hv
            unfold betw at hf
            rw [Bool.not_eq_true', List.any_eq_false] at hf
            have := hf v hv
            simp only [outB, Bool.or_eq_true, decide_eq_true_iff, not_or] at this
            omega
          have HP := Lib.hid (put_calls HV.out.1 (HV.out.2.1.kept hb3) HV.out.2.2.2.2.2.2.2.2.2.2.1 HV.out.2.2.2.2.1 X Y HV.out.2.2.1 HV.out.2.2.2.1 A ca vs (HV.out.2.2.2.2.2.2.2.2.2.2.2.2.2.kept hb3) (fun p e => by have := HCs.out.2 p e; have := HV.out.2.2.2.2.2.2.2.2.2.1; omega) (by rw [HNC.out]) hall)
          have HFF := Lib.hid (And.intro hf (And.intro br hbw))
          clear hb3 hbw hf br hall v2 v3
          go_wp2_with fail
          refine HP.out.mono ?_
          rintro r w4 ⟨⟨u, rfl⟩, hz4, l2, hv4, hp4⟩
          have HQ := Lib.hid (And.intro hz4 (And.intro hv4 hp4))
          clear hz4 hv4 hp4 HP
          go_wp2_with fail
          refine (closed_img HV.out.1 HQ.out.2.1 HV.out.2.2.2.2.2.2.2.2.2.2.1 HQ.out.2.2).mono ?_
          rintro r w5 ⟨rfl, hz5⟩
          obtain ⟨R, hR⟩ : ∃ R, img L (updS m.smp X Y vs) = R := ⟨_, rfl⟩
          have hzz : OffZ 0 (w5.heap.size + b + g + 2) w w := OffZ.refl _ _ _
          have br := (HFF.out.2.1.offZ HQ.out.1 (by have := HV.out.2.2.2.2.2.2.2.2.2.2.2.2.1; omega)).offZ hz5 (by have := HV.out.2.2.2.2.2.2.2.2.2.2.2.1; omega)
          have hbw := Below.offZ (Below.offZ HFF.out.2.2 (Nat.le_refl _) HQ.out.1 HV.out.2.2.2.2.2.2.2.2.2.1) (Nat.le_refl _) hz5 HV.out.2.2.2.2.2.2.2.2.1
          rw [hR, imgV_eq]
          have HW := Lib.hid (And.intro (below_set7 hbw (Nat.le_succ w.heap.size)) hR)
          clear hz5 hzz hbw hR
          have r0 := br.cell (i := 0) rfl
          have r1 := br.cell (i := 1) rfl
          have r2 := br.cell (i := 2) rfl
          have r3 := br.cell (i := 3) rfl
          have r4 := br.cell (i := 4) rfl
          have r5 := br.cell (i := 5) rfl
          have r6 := br.cell (i := 6) rfl
          have f0 := br.free 0
          have f1 := br.free 1
          have f2 := br.free 2
          have f3 := br.free 3
          have f4 := br.free 4
          have f5 := br.free 5
          have f6 := br.free 6
          clear br
          go_wp2_with fail
          rw [HV.out.2.2.2.2.2.1, HE.out.2, HFF.out.1, if_pos rfl, HW.out.2]
          exact bodyPost_ret (v := .tuple #[R.v, .int .i64 0]) (by rw [imgV_eq]; simp [results, Try.results15, go_sem, *]) rfl ⟨rfl, HW.out.1 _ _ _ _ _ _ _⟩
      · have v3 : w2.cell? ⟨b, 3, none⟩ = some (.int .i64 16) := by have := HV.out.2.1.blk.cell (i := 3) rfl; rw [e] at this; exact this
        have hfb : fitB m vs = betw 0 65535 vs := by
          rw [HFit.out, HNC.out, decide_eq_true (by have := HLen.out; omega), Bool.true_and, e]
          rfl
        have HE := Lib.hid (And.intro e hfb)
        clear e hfb
        go_wp2_with fail
        refine (between_calls A ca vs 0 65535 w2 HV.out.2.2.2.2.2.2.2.2.2.2.2.2.2 hvl).mono ?_
        rintro r w3 ⟨rfl, hb3⟩
        have br := HV.out.2.2.2.2.2.2.2.1.kept hb3
        have hbw := below_trans HV.out.2.2.2.2.2.2.1 hb3
        cases hf : betw 0 65535 vs with
        | false =>
          have HFF := Lib.hid hf
          have HW := Lib.hid (below_set7 hbw (Nat.le_succ w.heap.size))
          clear hb3 hbw hf v2 v3
          have r0 := br.cell (i := 0) rfl
          have r1 := br.cell (i := 1) rfl
          have r2 := br.cell (i := 2) rfl
          have r3 := br.cell (i := 3) rfl
          have r4 := br.cell (i := 4) rfl
          have r5 := br.cell (i := 5) rfl
          have r6 := br.cell (i := 6) rfl
          have f0 := br.free 0
          have f1 := br.free 1
          have f2 := br.free 2
          have f3 := br.free 3
          have f4 := br.free 4
          have f5 := br.free 5
          have f6 := br.free 6
          clear br
          go_wp2_with fail
          rw [HV.out.2.2.2.2.2.1, HE.out.2, HFF.out]
          exact bodyPost_ret (v := .tuple #[Im.zero.v, .int .i64 2]) (by rw [zero_v]; simp [results, Try.results15, go_sem, *]) rfl ⟨rfl, HW.out _ _ _ _ _ _ _⟩
        | true =>
          have hall : ∀ v ∈ vs, 0 ≤ v ∧ v < 65536 := by
            intro v hv
            unfold betw at hf
            rw [Bool.not_eq_true', List.any_eq_false] at hf
            have := hf v hv
            simp only [outB, Bool.or_eq_true, decide_eq_true_iff, not_or] at this
            omega
          have HP := Lib.hid (put_calls HV.out.1 (HV.out.2.1.kept hb3) HV.out.2.2.2.2.2.2.2.2.2.2.1 HV.out.2.2.2.2.1 X Y HV.out.2.2.1 HV.out.2.2.2.1 A ca vs (HV.out.2.2.2.2.2.2.2.2.2.2.2.2.2.kept hb3) (fun p e => by have := HCs.out.2 p e; have := HV.out.2.2.2.2.2.2.2.2.2.1; omega) (by rw [HNC.out]) hall)
          have HFF := Lib.hid (And.intro hf (And.intro br hbw))
          clear hb3 hbw hf br hall v2 v3
          go_wp2_with fail
          refine HP.out.mono ?_
          rintro r w4 ⟨⟨u, rfl⟩, hz4, l2, hv4, hp4⟩
          have HQ := Lib.hid (And.intro hz4 (And.intro hv4 hp4))
          clear hz4 hv4 hp4 HP
          go_wp2_with fail
          refine (closed_img HV.out.1 HQ.out.2.1 HV.out.2.2.2.2.2.2.2.2.2.2.1 HQ.out.2.2).mono ?_
          rintro r w5 ⟨rfl, hz5⟩
          obtain ⟨R, hR⟩ : ∃ R, img L (updS m.smp X Y vs) = R := ⟨_, rfl⟩
          have hzz : OffZ 0 (w5.heap.size + b + g + 2) w w := OffZ.refl _ _ _
          have br := (HFF.out.2.1.offZ HQ.out.1 (by have := HV.out.2.2.2.2.2.2.2.2.2.2.2.2.1; omega)).offZ hz5 (by have := HV.out.2.2.2.2.2.2.2.2.2.2.2.1; omega)
          have hbw := Below.offZ (Below.offZ HFF.out.2.2 (Nat.le_refl _) HQ.out.1 HV.out.2.2.2.2.2.2.2.2.2.1) (Nat.le_refl _) hz5 HV.out.2.2.2.2.2.2.2.2.1
          rw [hR, imgV_eq]
          have HW := Lib.hid (And.intro (below_set7 hbw (Nat.le_succ w.heap.size)) hR)
          clear hz5 hzz hbw hR
          have r0 := br.cell (i := 0) rfl
          have r1 := br.cell (i := 1) rfl
          have r2 := br.cell (i := 2) rfl
          have r3 := br.cell (i := 3) rfl
          have r4 := br.cell (i := 4) rfl
          have r5 := br.cell (i := 5) rfl
          have r6 := br.cell (i := 6) rfl
          have f0 := br.free 0
          have f1 := br.free 1
          have f2 := br.free 2
          have f3 := br.free 3
          have f4 := br.free 4
          have f5 := br.free 5
          have f6 := br.free 6
          clear br
          go_wp2_with fail
          rw [HV.out.2.2.2.2.2.1, HE.out.2, HFF.out.1, if_pos rfl, HW.out.2]
          exact bodyPost_ret (v := .tuple #[R.v, .int .i64 0]) (by rw [imgV_eq]; simp [results, Try.results15, go_sem, *]) rfl ⟨rfl, HW.out.1 _ _ _ _ _ _ _⟩
    · have hlb : ¬ ((vs.length : Int) = (nC : Int)) := by omega
      have HLen := Lib.hid hlen
      obtain ⟨br, hbw⟩ := And.intro HV.out.2.2.2.2.2.2.2.1 HV.out.2.2.2.2.2.2.1
      have HW := Lib.hid (below_set7 hbw (Nat.le_succ w.heap.size))
      have r0 := br.cell (i := 0) rfl
      have r1 := br.cell (i := 1) rfl
      have r2 := br.cell (i := 2) rfl
      have r3 := br.cell (i := 3) rfl
      have r4 := br.cell (i := 4) rfl
      have r5 := br.cell (i := 5) rfl
      have r6 := br.cell (i := 6) rfl
      have f0 := br.free 0
      have f1 := br.free 1
      have f2 := br.free 2
      have f3 := br.free 3
      have f4 := br.free 4
      have f5 := br.free 5
      have f6 := br.free 6
      clear br hbw hlen hnC
      go_wp2_with fail
      rw [HV.out.2.2.2.2.2.1, HFit.out, HNC.out, decide_eq_false (by have := HLen.out; omega), Bool.false_and]
      exact bodyPost_ret (v := .tuple #[Im.zero.v, .int .i64 2]) (by rw [zero_v]; simp [results, Try.results15, go_sem, *]) rfl ⟨rfl, HW.out _ _ _ _ _ _ _⟩
end Go.Proofs.Ytpgkhhdobolfbaa
