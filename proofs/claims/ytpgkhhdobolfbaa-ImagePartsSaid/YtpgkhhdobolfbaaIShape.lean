/-
  image.Shape.
-/
import Derived.Test.YtpgkhhdobolfbaaIChange
namespace Go.Proofs.Ytpgkhhdobolfbaa
set_option linter.unusedVariables false
set_option linter.unusedSimpArgs false
open Go Go.RowKit
attribute [local go_sem] Oper.semAt_some run_store_func

set_option maxRecDepth 100000 in
set_option maxHeartbeats 6400000 in
theorem shape_calls (m : Im) (nb : Int) (nP : Bool) (npd : Int) (w : World) :
    Calls Try.prog 16 #[m.v, .int .i64 nb, .bool nP, .int .i64 npd] w fun e w' => e = .returned (.tuple #[(shapeS m nb nP npd).1.v, .int .i64 (shapeS m nb nP npd).2]) ∧ Below w.heap.size w w' := by
  obtain ⟨mW, mH, mC, mB, mP, mPd, mO, hm⟩ : ∃ a b c d e f g, m = ⟨a, b, c, d, e, f, g⟩ := ⟨_, _, _, _, _, _, _, rfl⟩
  have HF := Lib.hid (fun w => open_calls m w)
  have hv : m.v = .agg #[.int .i64 mW, .int .i64 mH, .int .i64 mC, .int .i64 mB, .bool mP, .int .i64 mPd, .string mO] := by rw [hm]; rfl
  rw [hv] at HF ⊢
  have HM := Lib.hid hm
  clear hm hv
  refine (callsIn_wide (n := 0)).1 (callsIn_of_wp_marks Try.func16 rfl trivial (wpIn_wide.2 ?_) rfl)
  simp only [Try.ntmps16, List.size_toArray, List.length_cons, List.length_nil, Nat.reduceAdd, Nat.reduceSub, Array.replicate_succ, Array.replicate_zero, List.push_toArray, List.append_toArray, List.nil_append, List.cons_append]
  go_upto_region 1 with fail
  refine wp_named ?_
  intro w1 hw1
  have b0 : Blk w1 w.heap.size [.int .i64 mW, .int .i64 mH, .int .i64 mC, .int .i64 mB, .bool mP, .int .i64 mPd, .string mO] 24 := by rw [hw1]; exact (Blk.new _ _ _).alloc _
  have br : Blk w1 (w.heap.size + 1) zeroC 24 := by rw [hw1]; exact Blk.at (by simp)
  have hb1 : Below w.heap.size w w1 := by rw [hw1]; repeat (first | exact below_alloc _ | refine below_trans ?_ (below_alloc _))
  clear hw1
  have c0 := b0.cell (i := 0) rfl
  have c1 := b0.cell (i := 1) rfl
  have c2 := b0.cell (i := 2) rfl
  have c3 := b0.cell (i := 3) rfl
  have c4 := b0.cell (i := 4) rfl
  have c5 := b0.cell (i := 5) rfl
  have c6 := b0.cell (i := 6) rfl
  have HB := Lib.hid (And.intro hb1 (And.intro br b0))
  clear b0 hb1 br
  go_wp2_with fail
  refine (HF.out w1).mono ?_
  rintro r w2 hr
  have br := HB.out.2.1.kept hr.1
  have hbw := below_trans HB.out.1 hr.1
  have b0 := HB.out.2.2.kept hr.1
  clear c0 c1 c2 c3 c4 c5 c6
  cases hg : m.good with
  | false =>
    have hr2 := open_bad hr hg
    have HG := Lib.hid (show shapeS m nb nP npd = (Im.zero, 420) by unfold shapeS; rw [hg]; rfl)
    clear hr hg b0
    subst hr2
    go_upto_region 2 with fail
    refine wp_named ?_
    intro w3 hw3
    replace br : Blk w3 (w.heap.size + 1) zeroC 24 := by rw [hw3]; exact br.alloc _
    replace hbw : Below w.heap.size w w3 := by rw [hw3]; exact below_trans hbw (below_alloc _)
    clear hw3
    have HWz := Lib.hid (below_set7 hbw (Nat.le_succ w.heap.size))
    have r0 := br.cell (i := 0) rfl
    have r1 := br.cell (i := 1) rfl
    have r2 := br.cell (i := 2) rfl
    have r3 := br.cell (i := 3) rfl
    have r4 := br.cell (i := 4) rfl
    have r5 := br.cell (i := 5) rfl
    have r6 := br.cell (i := 6) rfl
    have f0 := br.free 0
    have f1 := br.free 1
    have f2 := br.free 2
    have f3 := br.free 3
    have f4 := br.free 4
    have f5 := br.free 5
    have f6 := br.free 6
    clear br hbw
    go_wp2_with fail
    rw [HG.out]
    exact leaves_ret (.tuple #[Im.zero.v, .int .i64 420]) (by rw [zero_v]; simp [results, Try.results16, go_sem, *]) ⟨rfl, HWz.out _ _ _ _ _ _ _⟩
  | true =>
    obtain ⟨b, g, k, hr2, hvw, hgb, hgg, hne⟩ := open_good hr hg
    have hgw : w.heap.size + 1 < w1.heap.size := HB.out.2.1.lt
    have HV := Lib.hid (And.intro hvw (And.intro hgb (And.intro hgg (And.intro hne (And.intro hgw hg)))))
    have HW2 := Lib.hid (And.intro br (And.intro hbw b0))
    clear hr hg hvw hgb hgg hne hgw br hbw b0 HB HF
    subst hr2
    go_upto_region 2 with fail
    refine wp_named ?_
    intro w3 hw3
    have bp : Blk w3 w2.heap.size [.pointer (some ⟨b, 0, none⟩)] 79 := by rw [hw3]; exact Blk.new _ _ _
    have hb3 : Below w2.heap.size w2 w3 := by rw [hw3]; exact below_alloc _
    have hs3 : w3.heap.size = w2.heap.size + 1 := by rw [hw3]; simp
    clear hw3
    have b0 := HW2.out.2.2.kept hb3
    have c0 := b0.cell (i := 0) rfl
    have c1 := b0.cell (i := 1) rfl
    have c2 := b0.cell (i := 2) rfl
    have c3 := b0.cell (i := 3) rfl
    have c4 := b0.cell (i := 4) rfl
    have c5 := b0.cell (i := 5) rfl
    have c6 := b0.cell (i := 6) rfl
    have H3 := Lib.hid (And.intro bp (And.intro hb3 (And.intro b0 hs3)))
    clear bp hb3 b0 hs3
    go_upto_region 5 with fail
    refine wp_named ?_
    intro w4 hw4
    have bl : Blk w4 w3.heap.size [.int .i64 mW, .int .i64 mH, .int .i64 mC, .int .i64 mB, .bool mP, .int .i64 mPd, .string mO] 24 := by rw [hw4]; exact Blk.new _ _ _
    have hb4 : Below w3.heap.size w3 w4 := by rw [hw4]; exact below_alloc _
    have hs4 : w4.heap.size = w3.heap.size + 1 := by rw [hw4]; simp
    clear hw4 c0 c1 c2 c3 c4 c5 c6
    have p3 := bl.cell (i := 3) rfl
    have p4 := bl.cell (i := 4) rfl
    have p5 := bl.cell (i := 5) rfl
    have p6 := bl.cell (i := 6) rfl
    have f3 := bl.free 3
    have f4 := bl.free 4
    have f5 := bl.free 5
    have f6 := bl.free 6
    have b0 := H3.out.2.2.1.kept hb4
    have H4 := Lib.hid (And.intro bl (And.intro hb4 (And.intro hs4 b0)))
    clear bl hb4 hs4 b0
    go_upto_region 6 with fail
    refine wp_named ?_
    intro w5 hw5
    have hz5 : OffZ w3.heap.size (w3.heap.size + 1) w4 w5 := by
      rw [hw5]
      exact (((OffZ.setCell w4 (p := ⟨w3.heap.size, 3, none⟩) (Nat.le_refl w3.heap.size) (Nat.lt_succ_self w3.heap.size) _).trans (OffZ.setCell _ (p := ⟨w3.heap.size, 4, none⟩) (Nat.le_refl w3.heap.size) (Nat.lt_succ_self w3.heap.size) _)).trans (OffZ.setCell _ (p := ⟨w3.heap.size, 5, none⟩) (Nat.le_refl w3.heap.size) (Nat.lt_succ_self w3.heap.size) _)).trans (OffZ.setCell _ (p := ⟨w3.heap.size, 6, none⟩) (Nat.le_refl w3.heap.size) (Nat.lt_succ_self w3.heap.size) _)
    have bl : Blk w5 w3.heap.size [.int .i64 mW, .int .i64 mH, .int .i64 mC, .int .i64 nb, .bool nP, .int .i64 npd, .string ⟨#[]⟩] 24 := by
      rw [hw5]; exact (((H4.out.1.set 3 _).set 4 _).set 5 _).set 6 _
    have hs5 : w5.heap.size = w4.heap.size := by rw [hw5]; simp
    have b0 := H4.out.2.2.2.offZ hz5 (by have := H4.out.2.2.2.lt; have := H3.out.2.2.1.lt; omega)
    clear hw5 p3 p4 p5 p6 f3 f4 f5 f6
    have hb5 : Below w3.heap.size w3 w5 := Below.offZ H4.out.2.1 (Nat.le_refl _) hz5 (Nat.le_refl _)
    have c0 := b0.cell (i := 0) rfl
    have c1 := b0.cell (i := 1) rfl
    have c2 := b0.cell (i := 2) rfl
    have c3 := b0.cell (i := 3) rfl
    have c4 := b0.cell (i := 4) rfl
    have c5 := b0.cell (i := 5) rfl
    have c6 := b0.cell (i := 6) rfl
    have H5 := Lib.hid (And.intro bl (And.intro hb5 (And.intro b0 (And.intro hs5 H4.out.2.2.1))))
    clear bl hz5 hs5 b0 H4 hb5
    go_upto_region 7 with fail
    refine wp_named ?_
    intro w6 hw6
    have bo : Blk w6 w5.heap.size [.int .i64 mW, .int .i64 mH, .int .i64 mC, .int .i64 mB, .bool mP, .int .i64 mPd, .string ⟨#[]⟩] 24 := by rw [hw6]; exact Blk.new _ _ _
    have hb6 : Below w5.heap.size w5 w6 := by rw [hw6]; exact below_alloc _
    clear hw6 c0 c1 c2 c3 c4 c5 c6
    have bl := H5.out.1.kept hb6
    have H6 := Lib.hid (And.intro bl (And.intro (below_trans H5.out.2.1 hb6) (And.intro (H5.out.2.2.1.kept hb6) bo)))
    clear bl bo hb6
    have hbw6 := below_trans (below_trans HW2.out.2.1 H3.out.2.1) H6.out.2.1
    have br6 := (HW2.out.1.kept H3.out.2.1).kept H6.out.2.1
    have H7 := Lib.hid (And.intro hbw6 br6)
    clear hbw6 br6
    refine wp_region_open ?_
    refine wpList_load_row rfl 24 (.tmp 12) rfl w3.heap.size rfl 24 #[.int .i64 mW, .int .i64 mH, .int .i64 mC, .int .i64 nb, .bool nP, .int .i64 npd, .string ⟨#[]⟩] (0, 0) _ H6.out.1 Try.underlying24 rfl (by kernel_rfl) ?_
    simp only [Act.put, List.setIfInBounds_toArray, List.set_cons_zero, List.set_cons_succ, Nat.reduceAdd]
    refine wpList_load_row rfl 24 (.tmp 13) rfl w5.heap.size rfl 24 #[.int .i64 mW, .int .i64 mH, .int .i64 mC, .int .i64 mB, .bool mP, .int .i64 mPd, .string ⟨#[]⟩] (0, 0) _ H6.out.2.2.2 Try.underlying24 rfl (by kernel_rfl) ?_
    simp only [Act.put, List.setIfInBounds_toArray, List.set_cons_zero, List.set_cons_succ, Nat.reduceAdd]
    refine wpList_eql_img rfl (.tmp 49) (.tmp 50) rfl ⟨mW, mH, mC, nb, nP, npd, ⟨#[]⟩⟩ ⟨mW, mH, mC, mB, mP, mPd, ⟨#[]⟩⟩ rfl rfl ?_
    simp only [Act.put, List.setIfInBounds_toArray, List.set_cons_zero, List.set_cons_succ, Nat.reduceAdd]
    refine wpList_nil ?_
    obtain ⟨qv, hqv⟩ : ∃ qv, eqI ⟨mW, mH, mC, nb, nP, npd, ⟨#[]⟩⟩ ⟨mW, mH, mC, mB, mP, mPd, ⟨#[]⟩⟩ = qv := ⟨_, rfl⟩
    rw [hqv]
    cases qv with
    | true =>
      have HE := Lib.hid (show nb = mB ∧ nP = mP ∧ npd = mPd by
        have h := of_decide_eq_true hqv
        exact ⟨h.2.2.2.1, h.2.2.2.2.1, h.2.2.2.2.2.1⟩)
      have b0 := H6.out.2.2.1
      have s0 := b0.cell (i := 0) rfl
      have s1 := b0.cell (i := 1) rfl
      have s2 := b0.cell (i := 2) rfl
      have s3 := b0.cell (i := 3) rfl
      have s4 := b0.cell (i := 4) rfl
      have s5 := b0.cell (i := 5) rfl
      have s6 := b0.cell (i := 6) rfl
      have br := H7.out.2
      have hbw := H7.out.1
      have hgood := HV.out.2.2.2.2.2
      have HR := Lib.hid (show shapeS m nb nP npd = (m, 0) by
        have hM := HM.out
        have hsh := (m.good_val hgood).nums
        have hs := nums_shp hsh
        unfold shapeS
        rw [hgood, if_pos rfl, HE.out.1, HE.out.2.1, HE.out.2.2]
        have e1 : mB = m.B := by rw [hM]
        have e2 : mP = m.P := by rw [hM]
        have e3 : mPd = m.Pd := by rw [hM]
        rw [e1, e2, e3, if_pos (show shB m.W m.H m.C m.B m.Pd = true from decide_eq_true hs)]
        have hmk := m.good_mk hgood
        have hconv : img m.lay (fun x y c => convS m.B m.B (m.smp x y c)) = img m.lay m.smp := img_congr (m.good_ok hgood) fun x y c _ _ _ => by unfold convS; rw [if_neg (by omega), if_neg (by omega)]
        have hlay : (⟨m.W.toNat, m.H.toNat, m.C.toNat, m.B.toNat / 8, m.P, m.Pd.toNat⟩ : Lay) = m.lay := rfl
        rw [hlay, hconv, ← hmk]
        rfl)
      have HWz := Lib.hid (below_set7 hbw (Nat.le_succ w.heap.size))
      have r0 := br.cell (i := 0) rfl
      have r1 := br.cell (i := 1) rfl
      have r2 := br.cell (i := 2) rfl
      have r3 := br.cell (i := 3) rfl
      have r4 := br.cell (i := 4) rfl
      have r5 := br.cell (i := 5) rfl
      have r6 := br.cell (i := 6) rfl
      have f0 := br.free 0
      have f1 := br.free 1
      have f2 := br.free 2
      have f3 := br.free 3
      have f4 := br.free 4
      have f5 := br.free 5
      have f6 := br.free 6
      have hv : m.v = .agg #[.int .i64 mW, .int .i64 mH, .int .i64 mC, .int .i64 mB, .bool mP, .int .i64 mPd, .string mO] := by rw [HM.out]; rfl
      have HVV := Lib.hid hv
      clear br hbw b0 hgood hv hqv
      go_wp2_with fail
      rw [HR.out]
      exact leaves_ret (.tuple #[m.v, .int .i64 0]) (by rw [HVV.out]; simp [results, Try.results16, go_sem, *]) ⟨rfl, HWz.out _ _ _ _ _ _ _⟩
    | false =>
      have bl := H6.out.1
      have c0 := bl.cell (i := 0) rfl
      have c1 := bl.cell (i := 1) rfl
      have c2 := bl.cell (i := 2) rfl
      have c3 := bl.cell (i := 3) rfl
      have c4 := bl.cell (i := 4) rfl
      have c5 := bl.cell (i := 5) rfl
      have c6 := bl.cell (i := 6) rfl
      clear bl hqv
      go_wp2_with fail
      obtain ⟨mm, hmm⟩ : ∃ mm : Im, mm = ⟨mW, mH, mC, nb, nP, npd, ⟨#[]⟩⟩ := ⟨_, rfl⟩
      have hv2 : mm.v = .agg #[.int .i64 mW, .int .i64 mH, .int .i64 mC, .int .i64 nb, .bool nP, .int .i64 npd, .string ⟨#[]⟩] := by rw [hmm]; rfl
      have HBl := Lib.hid (blank_calls mm w6)
      rw [hv2] at HBl
      have HMM := Lib.hid hmm
      clear hmm hv2
      refine HBl.out.mono ?_
      rintro r w7 hr
      clear HBl c0 c1 c2 c3 c4 c5 c6
      have hshape : shapeS m nb nP npd = if mm.shp then (img mm.lay (fun x y c => convS m.B nb (m.smp x y c)), 0) else (Im.zero, 2) := by
        unfold shapeS
        rw [HV.out.2.2.2.2.2, HMM.out, HM.out]
        rfl
      cases hs : mm.shp with
      | false =>
        have hr2 := blank_no hr hs
        have HG := Lib.hid (show shapeS m nb nP npd = (Im.zero, 2) by rw [hshape, hs]; rfl)
        have br0 := H7.out.2.kept hr.1
        have hbw0 := below_trans H7.out.1 hr.1
        clear hr hs hshape
        subst hr2
        go_upto_region 10 with fail
        refine wp_named ?_
        intro w8 hw8
        have br : Blk w8 (w.heap.size + 1) zeroC 24 := by rw [hw8]; exact br0.alloc _
        have hbw : Below w.heap.size w w8 := by rw [hw8]; exact below_trans hbw0 (below_alloc _)
        clear hw8 br0 hbw0
        have HWz := Lib.hid (below_set7 hbw (Nat.le_succ w.heap.size))
        have r0 := br.cell (i := 0) rfl
        have r1 := br.cell (i := 1) rfl
        have r2 := br.cell (i := 2) rfl
        have r3 := br.cell (i := 3) rfl
        have r4 := br.cell (i := 4) rfl
        have r5 := br.cell (i := 5) rfl
        have r6 := br.cell (i := 6) rfl
        have f0 := br.free 0
        have f1 := br.free 1
        have f2 := br.free 2
        have f3 := br.free 3
        have f4 := br.free 4
        have f5 := br.free 5
        have f6 := br.free 6
        clear br hbw
        go_wp2_with fail
        rw [HG.out]
        exact leaves_ret (.tuple #[Im.zero.v, .int .i64 2]) (by rw [zero_v]; simp [results, Try.results16, go_sem, *]) ⟨rfl, HWz.out _ _ _ _ _ _ _⟩
      | true =>
        obtain ⟨bt, gt, kt, hr2, hvt, hbt, hbg, hokt⟩ := blank_ok hr hs
        rw [hs, if_pos rfl] at hshape
        have hOt : mm.O = ⟨#[]⟩ := by rw [HMM.out]
        rw [hOt] at hvt
        have hok := m.good_ok HV.out.2.2.2.2.2
        have n := (m.good_val HV.out.2.2.2.2.2).nums
        have n2 := lay_nums (of_decide_eq_true hs) mm.P
        have hvm := HV.out.1
        have hO : m.O = mO := by rw [HM.out]
        have hsmp : m.smp = samp m.lay m.l := rfl
        obtain ⟨L, hL⟩ : ∃ L, m.lay = L := ⟨_, rfl⟩
        obtain ⟨l, hl⟩ : ∃ l, m.l = l := ⟨_, rfl⟩
        obtain ⟨Lt, hLt⟩ : ∃ L, mm.lay = L := ⟨_, rfl⟩
        replace n2 : Nums mm.lay mm.W mm.H mm.C mm.B mm.P mm.Pd := n2
        rw [hLt] at hvt hokt hshape n2
        rw [hL, hl, hO] at hvm
        rw [hL] at hok n
        rw [hsmp, hL, hl] at hshape
        have hWW : L.W = Lt.W ∧ L.H = Lt.H ∧ L.C = Lt.C ∧ mB = ((8 * L.k : Nat) : Int) ∧ nb = ((8 * Lt.k : Nat) : Int) := by
          have h1 := n.w; have h2 := n.h; have h3 := n.c; have h4 := n.b
          have g1 := n2.w; have g2 := n2.h; have g3 := n2.c; have g4 := n2.b
          rw [HM.out] at h1 h2 h3 h4
          rw [HMM.out] at g1 g2 g3 g4
          dsimp only at h1 h2 h3 h4 g1 g2 g3 g4
          exact ⟨by omega, by omega, by omega, h4, g4⟩
        have hmB : m.B = mB := by rw [HM.out]
        rw [hmB] at hshape
        have hb27 : Below w2.heap.size w2 w7 := below_trans (below_trans H3.out.2.1 H6.out.2.1) hr.1
        have hv7 := hvm.kept hb27
        have hpv := (H3.out.1.kept H6.out.2.1).kept hr.1
        have b0 := H6.out.2.2.1.kept hr.1
        have br7 := H7.out.2.kept hr.1
        have hbw7 := below_trans H7.out.1 hr.1
        have hsz26 : w2.heap.size < w6.heap.size := Nat.lt_of_lt_of_le H3.out.1.lt H6.out.2.1.size
        have hls : w.heap.size + 1 < w2.heap.size := HW2.out.1.lt
        have HL := Lib.hid (And.intro hok (And.intro n (And.intro hWW hshape)))
        have HY := Lib.hid (And.intro hvt (And.intro hbt (And.intro hbg (And.intro hokt (And.intro hv7 (And.intro hpv (And.intro br7 (And.intro hbw7 (And.intro hsz26 (And.intro hls (And.intro hvm.oct.lt (And.intro hvm.blk.lt b0))))))))))))
        have hb7 : b < w7.heap.size := by have := hvm.blk.lt; have := hb27.size; omega
        have hg7 : g < w7.heap.size := by have := hvm.oct.lt; have := hb27.size; omega
        have HN7 := Lib.hid (And.intro hb7 hg7)
        have d3 := b0.cell (i := 3) rfl
        clear hb7 hg7 hr hs hshape hvt hbt hbg hokt hOt hok n n2 hvm hO hsmp hL hl hLt hWW hmB hb27 hv7 hpv br7 hbw7 hsz26 hls b0
        subst hr2
        go_upto_region 13 with fail
        refine wp_named ?_
        intro w8 hw8
        have hb8 : Below w7.heap.size w7 w8 := by rw [hw8]; exact below_trans (below_alloc _) (below_alloc _)
        have hob8 : Blk w8 w7.heap.size [.pointer (some ⟨bt, 0, none⟩)] 79 := by rw [hw8]; exact (Blk.new _ _ _).alloc _
        have hcb8 : Blk w8 (w7.heap.size + 1) [.func (.func 44) #[] #[]] 89 := by rw [hw8]; exact Blk.at (by simp)
        replace d3 := Ytpgkhhdobolfbaa.kept hb8 d3
        clear hw8
        have H8 := Lib.hid (And.intro hb8 (And.intro hob8 hcb8))
        clear hb8
        have u0 := hcb8.cell (i := 0) rfl
        have v0 := hcb8.free 0
        clear hob8 hcb8
        have hl1 : b < w8.heap.size := by have := HN7.out; have := H8.out.1.size; omega
        have hl2 : g < w8.heap.size := by have := HN7.out; have := H8.out.1.size; omega
        have hl3 : bt < w8.heap.size := by have := HY.out.1.blk.lt; have := H8.out.1.size; omega
        have hl4 : gt < w8.heap.size := by have := HY.out.1.oct.lt; have := H8.out.1.size; omega
        have hl5 : w2.heap.size < w8.heap.size := by have := HY.out; have := HY.out.2.2.2.2.2.1.lt; have := H8.out.1.size; omega
        have hl6 : w7.heap.size < w8.heap.size := H8.out.2.1.lt
        have hl7 : w7.heap.size + 1 < w8.heap.size := H8.out.2.2.lt
        have hl8 : w.heap.size + 1 < w8.heap.size := by have := HY.out; omega
        rcases Int.lt_trichotomy mB nb with hlt | heq | hgt
        · have hlt' : mB < nb := hlt
          have HLT := Lib.hid hlt
          clear hlt
          go_upto_region 17 with fail
          refine wp_named ?_
          intro w9 hw9
          have hz : OffZ (w7.heap.size + 1) (w7.heap.size + 1 + 1) w8 w9 := by rw [hw9]; exact OffZ.setCell w8 (p := ⟨w7.heap.size + 1, 0, none⟩) (Nat.le_refl (w7.heap.size + 1)) (Nat.lt_succ_self (w7.heap.size + 1)) _
          have hs9 : w9.heap.size = w8.heap.size := by rw [hw9]; simp
          have hv9 := (HY.out.2.2.2.2.1.kept H8.out.1).offZ hz (by have := HN7.out; omega) (by have := HN7.out; omega)
          have ht9 := (HY.out.1.kept H8.out.1).offZ hz (by have := HY.out.1.blk.lt; omega) (by have := HY.out.1.oct.lt; omega)
          have hpv9 := (HY.out.2.2.2.2.2.1.kept H8.out.1).offZ hz (by have := HY.out.2.2.2.2.2.1.lt; omega)
          have hob9 := H8.out.2.1.offZ hz (by omega)
          have br9 := (HY.out.2.2.2.2.2.2.1.kept H8.out.1).offZ hz (by have := HY.out.2.2.2.2.2.2.1.lt; omega)
          have hbw9 := Below.offZ (below_trans HY.out.2.2.2.2.2.2.2.1 H8.out.1) (Nat.le_refl _) hz (by have := HY.out.2.2.2.2.2.2.2.1.size; omega)
          have hcur : Blk w9 (w7.heap.size + 1) [.func (.func 45) #[] #[]] 89 := by rw [hw9]; exact H8.out.2.2.set 0 _
          have hI0 : ShpI w b g k bt gt kt w2.heap.size w7.heap.size (w7.heap.size + 1) L Lt mO ⟨#[]⟩ l 45 (shpS L.W (fun v => 257 * v) (samp L l)) 0 w9 :=
            ⟨hv9, ⟨_, ht9, (pix_zero HY.out.2.2.2.1).congr fun _ _ _ _ _ _ => by unfold shpS; rw [if_neg (by omega)]⟩, hpv9, hob9, hcur, br9, hbw9⟩
          clear hv9 ht9 hpv9 hob9 hcur br9 hbw9
          clear hw9 hz d3 u0 v0 hlt'
          rw [← hs9] at hl1 hl2 hl3 hl4 hl5 hl6 hl7 hl8
          clear hs9
          have H9 := Lib.hid (And.intro hI0 (And.intro hl1 (And.intro hl2 (And.intro hl3 (And.intro hl4 (And.intro hl5 (And.intro hl6 (And.intro hl7 hl8))))))))
          have p0 := hI0.pv.cell (i := 0) rfl
          clear hI0 hl1 hl2 hl3 hl4 hl5 hl6 hl7 hl8
          go_wp2_with fail
          clear p0
          have HKP := Lib.hid (fun n A B (h : ShpI w b g k bt gt kt w2.heap.size w7.heap.size (w7.heap.size + 1) L Lt mO ⟨#[]⟩ l 45 (shpS L.W (fun v => 257 * v) (samp L l)) n A) (hb : Below A.heap.size A B) => h.offZ (z0 := w9.heap.size) (z1 := w9.heap.size) (OffZ.of_below hb) H9.out.2.1 H9.out.2.2.1 H9.out.2.2.2.1 H9.out.2.2.2.2.1 H9.out.2.2.2.2.2.1 H9.out.2.2.2.2.2.2.1 H9.out.2.2.2.2.2.2.2.1 H9.out.2.2.2.2.2.2.2.2)
          have HNE := Lib.hid (show b < gt ∧ g < gt ∧ w2.heap.size < gt ∧ w7.heap.size ≠ gt ∧ w7.heap.size + 1 ≠ gt ∧ w.heap.size + 1 < gt ∧ b < bt ∧ g < bt ∧ w.heap.size + 1 < bt ∧ w.heap.size + 1 < w9.heap.size ∧ bt < w9.heap.size by
            have h1 := HY.out
            have h2 := HY.out.1.oct.lt
            have h4 := H9.out
            exact ⟨by omega, by omega, by omega, by omega, by omega, by omega, by omega, by omega, by omega, by omega, by omega⟩)
          have HBD := Lib.hid (show ∀ X Y c : Nat, 0 ≤ ((((fun v => 257 * v) (samp L l X Y c) : Nat)) : Int) ∧ ((((fun v => 257 * v) (samp L l X Y c) : Nat)) : Int) < 65536 by
            intro X Y c
            have h1 := samp_lt HL.out.1 l X Y c
            have h3 := HLT.out
            have h5 := HL.out.2.2.1
            dsimp only
            rcases HL.out.1.bits with e | e <;> rcases HY.out.2.2.2.1.bits with e2 | e2 <;> rw [e] at h1 h5 <;> rw [e2] at h5 <;> simp only [Nat.reduceMul, Nat.reducePow] at h1 <;> omega)
          have HCV := Lib.hid (show ∀ v, convS mB nb v = (fun v => 257 * v) v by
            intro v
            have h3 := HLT.out
            have h5 := HL.out.2.2.1
            unfold convS
            rcases HL.out.1.bits with e | e <;> rcases HY.out.2.2.2.1.bits with e2 | e2 <;> rw [e] at h5 <;> rw [e2] at h5 <;> (split <;> (try split) <;> first | rfl | omega))
          refine wp_frame ?_
          intro T hT
          have hit := pixels_iter HL.out.1 b mO (.slice (some ⟨g, 0, none⟩) l.length k) w9
          refine wp_rangeH (c := 0) (by rw [hT]; rfl) (fun _ _ => rfl) hit (Below.refl _ _) ?_
            (ShpI w b g k bt gt kt w2.heap.size w7.heap.size (w7.heap.size + 1) L Lt mO ⟨#[]⟩ l 45 (shpS L.W (fun v => 257 * v) (samp L l)))
            (fun n A B h hz => h.offZ hz H9.out.2.1 H9.out.2.2.1 H9.out.2.2.2.1 H9.out.2.2.2.2.1 H9.out.2.2.2.2.2.1 H9.out.2.2.2.2.2.2.1 H9.out.2.2.2.2.2.2.2.1 H9.out.2.2.2.2.2.2.2.2) (fun n A h => h.vw.blk) H9.out.1
            (fun n x a' AW => ∃ X Y : Nat, X = n % L.W ∧ Y = n / L.W ∧ X < L.W ∧ Y < L.H ∧ a' = { tmps := ((((T.setIfInBounds 74 (.int .i64 (X : Nat))).setIfInBounds 75 (.int .i64 (Y : Nat))).setIfInBounds 16 (.int .i64 (X : Nat))).setIfInBounds 17 (.int .i64 (Y : Nat))), defers := [] } ∧
              ShpI w b g k bt gt kt w2.heap.size w7.heap.size (w7.heap.size + 1) L Lt mO ⟨#[]⟩ l 45 (shpS L.W (fun v => 257 * v) (samp L l)) n AW) ?_ ?_ ?_ ?_
          · intro n x hx
            rw [(allXY_some hx).2.2.2]; rfl
          · rintro n x a' A B ⟨X, Y, e1, e2, e3, e4, rfl, hi⟩ hz
            exact ⟨X, Y, e1, e2, e3, e4, rfl, hi.offZ hz H9.out.2.1 H9.out.2.2.1 H9.out.2.2.2.1 H9.out.2.2.2.2.1 H9.out.2.2.2.2.2.1 H9.out.2.2.2.2.2.2.1 H9.out.2.2.2.2.2.2.2.1 H9.out.2.2.2.2.2.2.2.2⟩
          · intro q n x1 x2 A hx hI hsz K hK
            obtain ⟨hk, hX, hY, rfl⟩ := allXY_some hx
            have HK := Lib.hid (fun X Y e1 e2 e3 e4 => hK { tmps := ((((T.setIfInBounds 74 (.int .i64 (X : Nat))).setIfInBounds 75 (.int .i64 (Y : Nat))).setIfInBounds 16 (.int .i64 (X : Nat))).setIfInBounds 17 (.int .i64 (Y : Nat))), defers := [] } A (KeepZ.refl _ _ _) ⟨X, Y, e1, e2, e3, e4, rfl, hI⟩)
            clear hK hI hx
            obtain ⟨X, hXe⟩ : ∃ X, x1 % L.W = X := ⟨_, rfl⟩
            obtain ⟨Y, hYe⟩ : ∃ X, x1 / L.W = X := ⟨_, rfl⟩
            rw [hXe] at hX ⊢
            rw [hYe] at hY ⊢
            have HK2 := Lib.hid (HK.out X Y hXe.symm hYe.symm hX hY)
            clear HK hXe hYe hX hY hk hit
            rw [fold_two]
            subst hT
            simp only [List.setIfInBounds_toArray, List.set_cons_succ, List.set_cons_zero] at HK2 ⊢
            gi_wp2
            exact HK2.out
          · intro q n x1 x2 a' A hx hA hsz
            obtain ⟨X, Y, e1, e2, e3, e4, rfl, hi⟩ := hA
            clear hx hit
            subst hT
            simp only [List.setIfInBounds_toArray, List.set_cons_succ, List.set_cons_zero]
            have HI := Lib.hid (And.intro hi (And.intro e1 (And.intro e2 (And.intro e3 e4))))
            have p0 := hi.pv.cell (i := 0) rfl
            have HP := Lib.hid (pixel_calls HL.out.1 hi.vw X Y e3 e4)
            clear hi e1 e2 e3 e4
            gi_wp2_with fail
            refine ⟨trivial, fun hd => by simp [Fence.wide] at hd, CallsIn.inRound q (callsIn_wide.2 (Calls.mono HP.out ?_))⟩
            rintro r A2 ⟨qr, rfl, hq, hqs, hb2⟩
            have hi2 := HKP.out _ _ _ HI.out.1 hb2
            have HI2 := Lib.hid (And.intro hi2 (And.intro hq (And.intro hqs hb2)))
            clear hi2 hq hqs hb2 HP p0
            dsimp only
            gi_wp2_with fail
            refine wpIn_named ?_
            intro A3 hA3
            have hlb : Blk A3 A2.heap.size [.slice (some ⟨qr, 0, none⟩) L.C L.C] 29 := by rw [hA3]; exact Blk.new _ _ _
            have hb3 : Below A2.heap.size A2 A3 := by rw [hA3]; exact below_alloc _
            clear hA3
            have hi3 := HKP.out _ _ _ HI2.out.1 hb3
            have o0 := hi3.ob.cell (i := 0) rfl
            have l0 := hlb.cell (i := 0) rfl
            have hC4 : L.C ≤ 4 := HL.out.1.c2
            have HC4 := Lib.hid hC4
            have hqv : Blk A3 qr ((((List.range L.C).map (samp L l X Y)).map fun v : Nat => (v : Int)).map (Value.int .i64)) 3 := by rw [show ((List.range L.C).map (samp L l X Y)).map (fun v : Nat => (v : Int)) = (List.range L.C).map (fun c => (samp L l X Y c : Int)) by rw [List.map_map]; rfl]; exact HI2.out.2.1.kept hb3
            have HM3 := Lib.hid (fun W (hW : Below A3.heap.size A3 W) => made49_calls L.C (by omega) (w7.heap.size + 1) A2.heap.size (fun c => (((fun v => 257 * v) (samp L l X Y c) : Nat) : Int)) W (fun c W2 hc hW2 => by
              have hsm : samp L l X Y c < 65536 := by
                have := samp_lt HL.out.1 l X Y c
                have h2 : 2 ^ (8 * L.k) ≤ 65536 := by rcases HL.out.1.bits with e | e <;> rw [e] <;> decide
                omega
              have hcb := ((hi3.cb.kept hW).kept hW2).cell (i := 0) rfl
              have hlc := ((hlb.kept hW).kept hW2).cell (i := 0) rfl
              exact ch45_calls hcb hlc ((hqv.kept hW).kept hW2) c (samp L l X Y c) (by rw [List.getElem?_map, List.getElem?_range hc]; rfl) hc hsm hC4))
            have HI3 := Lib.hid (And.intro hi3 hb3)
            clear hi3 hlb hb3 hqv hC4
            refine wpIn_seq_tail 7 (fun k => k == 6) (fun _ x => .slice (some ⟨x.i, 0, none⟩) L.C L.C) (fun _ x W => Blk W x.i (((List.range L.C).map (fun c => (((fun v => 257 * v) (samp L l X Y c) : Nat) : Int))).map (Value.int .i64)) 3 ∧ A3.heap.size ≤ x.i) (by kernel_rfl) (by kernel_rfl) (by kernel_rfl) (by decide)
              (by rintro ⟨_, _, h⟩; exact absurd (And.left (a := Exit.outgrown = Exit.normal) h) (by simp)) (fun _ _ _ _ hb h => ⟨h.1.kept hb, h.2⟩) ?_
            repeat (first | (refine seq_skip (by rfl) ?_; simp only [Act.put, List.setIfInBounds_toArray, List.set_cons_zero, List.set_cons_succ, Nat.reduceAdd]) | (refine seq_pure (v := ?_) (by rfl) (by rfl) (fun W hW hC => ?_) ?_; rotate_left; (go_simp <;> with_reducible rfl); simp only [Act.put, List.setIfInBounds_toArray, List.set_cons_zero, List.set_cons_succ, Nat.reduceAdd]))
            refine seq_made (by rfl) (by rfl) (fun W hW hC hF R hR => ?_) (fun y6 => ?_)
            · unfold Gives; go_simp
              refine (HM3.out W hW).mono ?_
              rintro r W8 ⟨g8, rfl, hblk, hgs, hb8⟩
              refine ⟨_, rfl, ?_⟩
              exact hR { i := g8 } _ hb8 ⟨hblk, Nat.le_trans hW.size hgs⟩
            simp only [Act.put, List.setIfInBounds_toArray, List.set_cons_zero, List.set_cons_succ, Nat.reduceAdd]
            refine seq_nil ?_
            intro W4 hW4 hF
            obtain ⟨hr4, hrg⟩ := hF _ _ (List.mem_cons_self ..)
            clear hF o0 l0 HM3
            have hi4 := HKP.out _ _ _ HI3.out.1 hW4
            obtain ⟨l4, hvo, hpo⟩ := hi4.out
            have hrl : ((List.range L.C).map (fun c => (((fun v => 257 * v) (samp L l X Y c) : Nat) : Int))).length = L.C := by simp
            have hA0 : A.heap.size ≤ A3.heap.size := Nat.le_trans HI2.out.2.2.2.size HI3.out.2.size
            have hwA : w9.heap.size ≤ A.heap.size := by omega
            have HPut := Lib.hid (put_calls HY.out.2.2.2.1 hvo (Nat.ne_of_lt HY.out.2.2.1) hpo X Y (by rw [← HL.out.2.2.1.1]; exact HI.out.2.2.2.1) (by rw [← HL.out.2.2.1.2.1]; exact HI.out.2.2.2.2) (some ⟨y6.i, 0, none⟩) L.C ((List.range L.C).map (fun c => (((fun v => 257 * v) (samp L l X Y c) : Nat) : Int))) (blk_row hr4)
              (fun p e => by cases e; show y6.i ≠ gt; have := H9.out.2.2.2.2.1; omega) (by rw [hrl]; exact HL.out.2.2.1.2.2.1)
              (fun v hv => by
                obtain ⟨c, _, rfl⟩ := List.mem_map.1 hv
                exact HBD.out X Y c))
            rw [hrl] at HPut
            have HI4 := Lib.hid (And.intro hi4 (And.intro hW4 hwA))
            clear hi4 hW4 hr4 hrg hvo hpo hrl hA0 hwA
            go_wp2_with fail
            refine HPut.out.mono ?_
            rintro r W5 ⟨⟨u, rfl⟩, hz5, l5, hv5, hp5⟩
            clear HPut
            dsimp only
            go_wp2_with fail
            have hh := H9.out
            have hsA := HI2.out.2.2.2.size
            have hsA3 := HI3.out.2.size
            have hs34 := HI4.out.2.1.size
            have hge : w9.heap.size + 2 ≤ A.heap.size := hsz
            refine ⟨((KeepZ.of_below HI2.out.2.2.2 (by omega)).trans (KeepZ.of_below HI3.out.2 (by omega))).trans ((KeepZ.of_below HI4.out.2.1 (by omega)).trans (KeepZ.of_offZ hz5 (by omega) (by omega))), ?_⟩
            have hi5 := HI4.out.1
            have hbtl := HY.out.2.2.1
            refine ⟨hi5.vw.offZ hz5 (by have := HNE.out; omega) (by have := HNE.out; omega), ⟨l5, hv5, ?_⟩, hi5.pv.offZ hz5 (by have := HNE.out; omega), hi5.ob.offZ hz5 (by have := HNE.out; omega), hi5.cb.offZ hz5 (by have := HNE.out; omega), hi5.res.offZ hz5 (by have := HNE.out; omega), Below.offZ hi5.below (Nat.le_refl _) hz5 (by have := HNE.out; omega)⟩
            have he1 := HI.out.2.1
            have he2 := HI.out.2.2.1
            rw [he1, he2] at hp5
            exact shpS_step HL.out.2.2.1.1.symm HL.out.1.w1 (by rw [HL.out.2.2.1.2.2.1]) hp5
          · intro W9 hI hK9
            rw [allXY_length] at hI
            obtain ⟨l9, hv9, hp9⟩ := hI.out
            have o0 := hI.ob.cell (i := 0) rfl
            have HE := Lib.hid (And.intro hI (And.intro hK9 (And.intro hv9 hp9)))
            clear hI hK9 hv9 hp9 hit
            subst hT
            go_wp2_with fail
            refine (closed_img HY.out.2.2.2.1 HE.out.2.2.1 (Nat.ne_of_lt HY.out.2.2.1) HE.out.2.2.2).mono ?_
            rintro r W10 ⟨rfl, hz10⟩
            have hR : img Lt (shpS L.W (fun v => 257 * v) (samp L l) (L.H * L.W)) = img Lt (fun x y c => convS mB nb (samp L l x y c)) := by
              refine img_congr HY.out.2.2.2.1 fun x y c hx hy hc => ?_
              have hx' : x < L.W := by rw [HL.out.2.2.1.1]; exact hx
              have hy' : y < L.H := by rw [HL.out.2.2.1.2.1]; exact hy
              have hlt : y * L.W + x < L.H * L.W := by
                have : (y + 1) * L.W ≤ L.H * L.W := Nat.mul_le_mul_right _ hy'
                rw [Nat.succ_mul] at this
                omega
              unfold shpS
              rw [if_pos hlt]
              exact (HCV.out _).symm
            rw [hR]
            obtain ⟨R, hR⟩ : ∃ R, img Lt (fun x y c => convS mB nb (samp L l x y c)) = R := ⟨_, rfl⟩
            have hcut : shapeS m nb nP npd = (R, 0) := by rw [HL.out.2.2.2, ← hR]
            rw [hR, imgV_eq]
            have br := HE.out.1.res.offZ hz10 (by have := HNE.out; omega)
            have hbw := Below.offZ HE.out.1.below (Nat.le_refl _) hz10 (by have := HNE.out; omega)
            have hk10 : W10.heap[w9.heap.size]? = some (.deferred (some [])) := (hz10.block _ ((Array.getElem?_eq_some_iff.1 HE.out.2.1).1) (by have := H9.out; omega)).trans HE.out.2.1
            have HR := Lib.hid (And.intro hcut (And.intro br (And.intro hbw hk10)))
            have r0 := br.cell (i := 0) rfl
            have r1 := br.cell (i := 1) rfl
            have r2 := br.cell (i := 2) rfl
            have r3 := br.cell (i := 3) rfl
            have r4 := br.cell (i := 4) rfl
            have r5 := br.cell (i := 5) rfl
            have r6 := br.cell (i := 6) rfl
            have f0 := br.free 0
            have f1 := br.free 1
            have f2 := br.free 2
            have f3 := br.free 3
            have f4 := br.free 4
            have f5 := br.free 5
            have f6 := br.free 6
            clear br hbw hk10 hcut hz10 hR o0
            go_wp2_with fail
            rw [HR.out.1]
            have hr9 : w9.heap.size ≠ w.heap.size + 1 := by have := H9.out; omega
            refine leaves_mark (r := w9.heap.size) (by exact (heap_set7 (v0 := .int .i64 R.W) (v1 := .int .i64 R.H) (v2 := .int .i64 R.C) (v3 := .int .i64 R.B) (v4 := .bool R.P) (v5 := .int .i64 R.Pd) (v6 := .string R.O) hr9).trans HR.out.2.2.2) fun W11 hW11 => ?_
            have hz := (blk_set7 (v0 := .int .i64 R.W) (v1 := .int .i64 R.H) (v2 := .int .i64 R.C) (v3 := .int .i64 R.B) (v4 := .bool R.P) (v5 := .int .i64 R.Pd) (v6 := .string R.O) HR.out.2.1).offZ hW11 (by have := H9.out; omega)
            have d0 := hz.cell (i := 0) rfl
            have d1 := hz.cell (i := 1) rfl
            have d2 := hz.cell (i := 2) rfl
            have d3 := hz.cell (i := 3) rfl
            have d4 := hz.cell (i := 4) rfl
            have d5 := hz.cell (i := 5) rfl
            have d6 := hz.cell (i := 6) rfl
            refine ⟨.tuple #[R.v, .int .i64 0], by rw [imgV_eq]; simp [results, Try.results16, go_sem, d0, d1, d2, d3, d4, d5, d6], rfl, ?_⟩
            exact Below.offZ (below_set7 HR.out.2.2.1 (Nat.le_succ w.heap.size) _ _ _ _ _ _ _) (Nat.le_refl _) hW11 (by have := H9.out; omega)
        · have HLT := Lib.hid heq
          have hn1 : ¬ mB < nb := by omega
          have hn2 : ¬ nb < mB := by omega
          clear heq
          go_upto_region 17 with fail
          refine wp_named ?_
          intro w9 hw9
          have hv9 := HY.out.2.2.2.2.1.kept H8.out.1
          have ht9 := HY.out.1.kept H8.out.1
          have hpv9 := HY.out.2.2.2.2.2.1.kept H8.out.1
          have hob9 := H8.out.2.1
          have br9 := HY.out.2.2.2.2.2.2.1.kept H8.out.1
          have hbw9 := below_trans HY.out.2.2.2.2.2.2.2.1 H8.out.1
          have hc8 := H8.out.2.2
          rw [← hw9] at hv9 ht9 hpv9 hob9 br9 hbw9 hc8 hl1 hl2 hl3 hl4 hl5 hl6 hl7 hl8
          have hcur : Blk w9 (w7.heap.size + 1) [.func (.func 44) #[] #[]] 89 := hc8
          have hI0 : ShpI w b g k bt gt kt w2.heap.size w7.heap.size (w7.heap.size + 1) L Lt mO ⟨#[]⟩ l 44 (shpS L.W (fun v => v) (samp L l)) 0 w9 :=
            ⟨hv9, ⟨_, ht9, (pix_zero HY.out.2.2.2.1).congr fun _ _ _ _ _ _ => by unfold shpS; rw [if_neg (by omega)]⟩, hpv9, hob9, hcur, br9, hbw9⟩
          clear hv9 ht9 hpv9 hob9 hcur br9 hbw9
          clear hw9 d3 u0 v0 hn1 hn2 hc8
          have H9 := Lib.hid (And.intro hI0 (And.intro hl1 (And.intro hl2 (And.intro hl3 (And.intro hl4 (And.intro hl5 (And.intro hl6 (And.intro hl7 hl8))))))))
          have p0 := hI0.pv.cell (i := 0) rfl
          clear hI0 hl1 hl2 hl3 hl4 hl5 hl6 hl7 hl8
          go_wp2_with fail
          clear p0
          have HKP := Lib.hid (fun n A B (h : ShpI w b g k bt gt kt w2.heap.size w7.heap.size (w7.heap.size + 1) L Lt mO ⟨#[]⟩ l 44 (shpS L.W (fun v => v) (samp L l)) n A) (hb : Below A.heap.size A B) => h.offZ (z0 := w9.heap.size) (z1 := w9.heap.size) (OffZ.of_below hb) H9.out.2.1 H9.out.2.2.1 H9.out.2.2.2.1 H9.out.2.2.2.2.1 H9.out.2.2.2.2.2.1 H9.out.2.2.2.2.2.2.1 H9.out.2.2.2.2.2.2.2.1 H9.out.2.2.2.2.2.2.2.2)
          have HNE := Lib.hid (show b < gt ∧ g < gt ∧ w2.heap.size < gt ∧ w7.heap.size ≠ gt ∧ w7.heap.size + 1 ≠ gt ∧ w.heap.size + 1 < gt ∧ b < bt ∧ g < bt ∧ w.heap.size + 1 < bt ∧ w.heap.size + 1 < w9.heap.size ∧ bt < w9.heap.size by
            have h1 := HY.out
            have h2 := HY.out.1.oct.lt
            have h4 := H9.out
            exact ⟨by omega, by omega, by omega, by omega, by omega, by omega, by omega, by omega, by omega, by omega, by omega⟩)
          have HBD := Lib.hid (show ∀ X Y c : Nat, 0 ≤ ((((fun v => v) (samp L l X Y c) : Nat)) : Int) ∧ ((((fun v => v) (samp L l X Y c) : Nat)) : Int) < 65536 by
            intro X Y c
            have h1 := samp_lt HL.out.1 l X Y c
            have h3 := HLT.out
            have h5 := HL.out.2.2.1
            dsimp only
            rcases HL.out.1.bits with e | e <;> rcases HY.out.2.2.2.1.bits with e2 | e2 <;> rw [e] at h1 h5 <;> rw [e2] at h5 <;> simp only [Nat.reduceMul, Nat.reducePow] at h1 <;> omega)
          have HCV := Lib.hid (show ∀ v, convS mB nb v = (fun v => v) v by
            intro v
            have h3 := HLT.out
            have h5 := HL.out.2.2.1
            unfold convS
            rcases HL.out.1.bits with e | e <;> rcases HY.out.2.2.2.1.bits with e2 | e2 <;> rw [e] at h5 <;> rw [e2] at h5 <;> (split <;> (try split) <;> first | rfl | omega))
          refine wp_frame ?_
          intro T hT
          have hit := pixels_iter HL.out.1 b mO (.slice (some ⟨g, 0, none⟩) l.length k) w9
          refine wp_rangeH (c := 0) (by rw [hT]; rfl) (fun _ _ => rfl) hit (Below.refl _ _) ?_
            (ShpI w b g k bt gt kt w2.heap.size w7.heap.size (w7.heap.size + 1) L Lt mO ⟨#[]⟩ l 44 (shpS L.W (fun v => v) (samp L l)))
            (fun n A B h hz => h.offZ hz H9.out.2.1 H9.out.2.2.1 H9.out.2.2.2.1 H9.out.2.2.2.2.1 H9.out.2.2.2.2.2.1 H9.out.2.2.2.2.2.2.1 H9.out.2.2.2.2.2.2.2.1 H9.out.2.2.2.2.2.2.2.2) (fun n A h => h.vw.blk) H9.out.1
            (fun n x a' AW => ∃ X Y : Nat, X = n % L.W ∧ Y = n / L.W ∧ X < L.W ∧ Y < L.H ∧ a' = { tmps := ((((T.setIfInBounds 74 (.int .i64 (X : Nat))).setIfInBounds 75 (.int .i64 (Y : Nat))).setIfInBounds 16 (.int .i64 (X : Nat))).setIfInBounds 17 (.int .i64 (Y : Nat))), defers := [] } ∧
              ShpI w b g k bt gt kt w2.heap.size w7.heap.size (w7.heap.size + 1) L Lt mO ⟨#[]⟩ l 44 (shpS L.W (fun v => v) (samp L l)) n AW) ?_ ?_ ?_ ?_
          · intro n x hx
            rw [(allXY_some hx).2.2.2]; rfl
          · rintro n x a' A B ⟨X, Y, e1, e2, e3, e4, rfl, hi⟩ hz
            exact ⟨X, Y, e1, e2, e3, e4, rfl, hi.offZ hz H9.out.2.1 H9.out.2.2.1 H9.out.2.2.2.1 H9.out.2.2.2.2.1 H9.out.2.2.2.2.2.1 H9.out.2.2.2.2.2.2.1 H9.out.2.2.2.2.2.2.2.1 H9.out.2.2.2.2.2.2.2.2⟩
          · intro q n x1 x2 A hx hI hsz K hK
            obtain ⟨hk, hX, hY, rfl⟩ := allXY_some hx
            have HK := Lib.hid (fun X Y e1 e2 e3 e4 => hK { tmps := ((((T.setIfInBounds 74 (.int .i64 (X : Nat))).setIfInBounds 75 (.int .i64 (Y : Nat))).setIfInBounds 16 (.int .i64 (X : Nat))).setIfInBounds 17 (.int .i64 (Y : Nat))), defers := [] } A (KeepZ.refl _ _ _) ⟨X, Y, e1, e2, e3, e4, rfl, hI⟩)
            clear hK hI hx
            obtain ⟨X, hXe⟩ : ∃ X, x1 % L.W = X := ⟨_, rfl⟩
            obtain ⟨Y, hYe⟩ : ∃ X, x1 / L.W = X := ⟨_, rfl⟩
            rw [hXe] at hX ⊢
            rw [hYe] at hY ⊢
            have HK2 := Lib.hid (HK.out X Y hXe.symm hYe.symm hX hY)
            clear HK hXe hYe hX hY hk hit
            rw [fold_two]
            subst hT
            simp only [List.setIfInBounds_toArray, List.set_cons_succ, List.set_cons_zero] at HK2 ⊢
            gi_wp2
            exact HK2.out
          · intro q n x1 x2 a' A hx hA hsz
            obtain ⟨X, Y, e1, e2, e3, e4, rfl, hi⟩ := hA
            clear hx hit
            subst hT
            simp only [List.setIfInBounds_toArray, List.set_cons_succ, List.set_cons_zero]
            have HI := Lib.hid (And.intro hi (And.intro e1 (And.intro e2 (And.intro e3 e4))))
            have p0 := hi.pv.cell (i := 0) rfl
            have HP := Lib.hid (pixel_calls HL.out.1 hi.vw X Y e3 e4)
            clear hi e1 e2 e3 e4
            gi_wp2_with fail
            refine ⟨trivial, fun hd => by simp [Fence.wide] at hd, CallsIn.inRound q (callsIn_wide.2 (Calls.mono HP.out ?_))⟩
            rintro r A2 ⟨qr, rfl, hq, hqs, hb2⟩
            have hi2 := HKP.out _ _ _ HI.out.1 hb2
            have HI2 := Lib.hid (And.intro hi2 (And.intro hq (And.intro hqs hb2)))
            clear hi2 hq hqs hb2 HP p0
            dsimp only
            gi_wp2_with fail
            refine wpIn_named ?_
            intro A3 hA3
            have hlb : Blk A3 A2.heap.size [.slice (some ⟨qr, 0, none⟩) L.C L.C] 29 := by rw [hA3]; exact Blk.new _ _ _
            have hb3 : Below A2.heap.size A2 A3 := by rw [hA3]; exact below_alloc _
            clear hA3
            have hi3 := HKP.out _ _ _ HI2.out.1 hb3
            have o0 := hi3.ob.cell (i := 0) rfl
            have l0 := hlb.cell (i := 0) rfl
            have hC4 : L.C ≤ 4 := HL.out.1.c2
            have HC4 := Lib.hid hC4
            have hqv : Blk A3 qr ((((List.range L.C).map (samp L l X Y)).map fun v : Nat => (v : Int)).map (Value.int .i64)) 3 := by rw [show ((List.range L.C).map (samp L l X Y)).map (fun v : Nat => (v : Int)) = (List.range L.C).map (fun c => (samp L l X Y c : Int)) by rw [List.map_map]; rfl]; exact HI2.out.2.1.kept hb3
            have HM3 := Lib.hid (fun W (hW : Below A3.heap.size A3 W) => made49_calls L.C (by omega) (w7.heap.size + 1) A2.heap.size (fun c => (((fun v => v) (samp L l X Y c) : Nat) : Int)) W (fun c W2 hc hW2 => by
              have hsm : samp L l X Y c < 65536 := by
                have := samp_lt HL.out.1 l X Y c
                have h2 : 2 ^ (8 * L.k) ≤ 65536 := by rcases HL.out.1.bits with e | e <;> rw [e] <;> decide
                omega
              have hcb := ((hi3.cb.kept hW).kept hW2).cell (i := 0) rfl
              have hlc := ((hlb.kept hW).kept hW2).cell (i := 0) rfl
              exact ch44_calls hcb hlc ((hqv.kept hW).kept hW2) c (samp L l X Y c) (by rw [List.getElem?_map, List.getElem?_range hc]; rfl) hc hsm hC4))
            have HI3 := Lib.hid (And.intro hi3 hb3)
            clear hi3 hlb hb3 hqv hC4
            refine wpIn_seq_tail 7 (fun k => k == 6) (fun _ x => .slice (some ⟨x.i, 0, none⟩) L.C L.C) (fun _ x W => Blk W x.i (((List.range L.C).map (fun c => (((fun v => v) (samp L l X Y c) : Nat) : Int))).map (Value.int .i64)) 3 ∧ A3.heap.size ≤ x.i) (by kernel_rfl) (by kernel_rfl) (by kernel_rfl) (by decide)
              (by rintro ⟨_, _, h⟩; exact absurd (And.left (a := Exit.outgrown = Exit.normal) h) (by simp)) (fun _ _ _ _ hb h => ⟨h.1.kept hb, h.2⟩) ?_
            repeat (first | (refine seq_skip (by rfl) ?_; simp only [Act.put, List.setIfInBounds_toArray, List.set_cons_zero, List.set_cons_succ, Nat.reduceAdd]) | (refine seq_pure (v := ?_) (by rfl) (by rfl) (fun W hW hC => ?_) ?_; rotate_left; (go_simp <;> with_reducible rfl); simp only [Act.put, List.setIfInBounds_toArray, List.set_cons_zero, List.set_cons_succ, Nat.reduceAdd]))
            refine seq_made (by rfl) (by rfl) (fun W hW hC hF R hR => ?_) (fun y6 => ?_)
            · unfold Gives; go_simp
              refine (HM3.out W hW).mono ?_
              rintro r W8 ⟨g8, rfl, hblk, hgs, hb8⟩
              refine ⟨_, rfl, ?_⟩
              exact hR { i := g8 } _ hb8 ⟨hblk, Nat.le_trans hW.size hgs⟩
            simp only [Act.put, List.setIfInBounds_toArray, List.set_cons_zero, List.set_cons_succ, Nat.reduceAdd]
            refine seq_nil ?_
            intro W4 hW4 hF
            obtain ⟨hr4, hrg⟩ := hF _ _ (List.mem_cons_self ..)
            clear hF o0 l0 HM3
            have hi4 := HKP.out _ _ _ HI3.out.1 hW4
            obtain ⟨l4, hvo, hpo⟩ := hi4.out
            have hrl : ((List.range L.C).map (fun c => (((fun v => v) (samp L l X Y c) : Nat) : Int))).length = L.C := by simp
            have hA0 : A.heap.size ≤ A3.heap.size := Nat.le_trans HI2.out.2.2.2.size HI3.out.2.size
            have hwA : w9.heap.size ≤ A.heap.size := by omega
            have HPut := Lib.hid (put_calls HY.out.2.2.2.1 hvo (Nat.ne_of_lt HY.out.2.2.1) hpo X Y (by rw [← HL.out.2.2.1.1]; exact HI.out.2.2.2.1) (by rw [← HL.out.2.2.1.2.1]; exact HI.out.2.2.2.2) (some ⟨y6.i, 0, none⟩) L.C ((List.range L.C).map (fun c => (((fun v => v) (samp L l X Y c) : Nat) : Int))) (blk_row hr4)
              (fun p e => by cases e; show y6.i ≠ gt; have := H9.out.2.2.2.2.1; omega) (by rw [hrl]; exact HL.out.2.2.1.2.2.1)
              (fun v hv => by
                obtain ⟨c, _, rfl⟩ := List.mem_map.1 hv
                exact HBD.out X Y c))
            rw [hrl] at HPut
            have HI4 := Lib.hid (And.intro hi4 (And.intro hW4 hwA))
            clear hi4 hW4 hr4 hrg hvo hpo hrl hA0 hwA
            go_wp2_with fail
            refine HPut.out.mono ?_
            rintro r W5 ⟨⟨u, rfl⟩, hz5, l5, hv5, hp5⟩
            clear HPut
            dsimp only
            go_wp2_with fail
            have hh := H9.out
            have hsA := HI2.out.2.2.2.size
            have hsA3 := HI3.out.2.size
            have hs34 := HI4.out.2.1.size
            have hge : w9.heap.size + 2 ≤ A.heap.size := hsz
            refine ⟨((KeepZ.of_below HI2.out.2.2.2 (by omega)).trans (KeepZ.of_below HI3.out.2 (by omega))).trans ((KeepZ.of_below HI4.out.2.1 (by omega)).trans (KeepZ.of_offZ hz5 (by omega) (by omega))), ?_⟩
            have hi5 := HI4.out.1
            have hbtl := HY.out.2.2.1
            refine ⟨hi5.vw.offZ hz5 (by have := HNE.out; omega) (by have := HNE.out; omega), ⟨l5, hv5, ?_⟩, hi5.pv.offZ hz5 (by have := HNE.out; omega), hi5.ob.offZ hz5 (by have := HNE.out; omega), hi5.cb.offZ hz5 (by have := HNE.out; omega), hi5.res.offZ hz5 (by have := HNE.out; omega), Below.offZ hi5.below (Nat.le_refl _) hz5 (by have := HNE.out; omega)⟩
            have he1 := HI.out.2.1
            have he2 := HI.out.2.2.1
            rw [he1, he2] at hp5
            exact shpS_step HL.out.2.2.1.1.symm HL.out.1.w1 (by rw [HL.out.2.2.1.2.2.1]) hp5
          · intro W9 hI hK9
            rw [allXY_length] at hI
            obtain ⟨l9, hv9, hp9⟩ := hI.out
            have o0 := hI.ob.cell (i := 0) rfl
            have HE := Lib.hid (And.intro hI (And.intro hK9 (And.intro hv9 hp9)))
            clear hI hK9 hv9 hp9 hit
            subst hT
            go_wp2_with fail
            refine (closed_img HY.out.2.2.2.1 HE.out.2.2.1 (Nat.ne_of_lt HY.out.2.2.1) HE.out.2.2.2).mono ?_
            rintro r W10 ⟨rfl, hz10⟩
            have hR : img Lt (shpS L.W (fun v => v) (samp L l) (L.H * L.W)) = img Lt (fun x y c => convS mB nb (samp L l x y c)) := by
              refine img_congr HY.out.2.2.2.1 fun x y c hx hy hc => ?_
              have hx' : x < L.W := by rw [HL.out.2.2.1.1]; exact hx
              have hy' : y < L.H := by rw [HL.out.2.2.1.2.1]; exact hy
              have hlt : y * L.W + x < L.H * L.W := by
                have : (y + 1) * L.W ≤ L.H * L.W := Nat.mul_le_mul_right _ hy'
                rw [Nat.succ_mul] at this
                omega
              unfold shpS
              rw [if_pos hlt]
              exact (HCV.out _).symm
            rw [hR]
            obtain ⟨R, hR⟩ : ∃ R, img Lt (fun x y c => convS mB nb (samp L l x y c)) = R := ⟨_, rfl⟩
            have hcut : shapeS m nb nP npd = (R, 0) := by rw [HL.out.2.2.2, ← hR]
            rw [hR, imgV_eq]
            have br := HE.out.1.res.offZ hz10 (by have := HNE.out; omega)
            have hbw := Below.offZ HE.out.1.below (Nat.le_refl _) hz10 (by have := HNE.out; omega)
            have hk10 : W10.heap[w9.heap.size]? = some (.deferred (some [])) := (hz10.block _ ((Array.getElem?_eq_some_iff.1 HE.out.2.1).1) (by have := H9.out; omega)).trans HE.out.2.1
            have HR := Lib.hid (And.intro hcut (And.intro br (And.intro hbw hk10)))
            have r0 := br.cell (i := 0) rfl
            have r1 := br.cell (i := 1) rfl
            have r2 := br.cell (i := 2) rfl
            have r3 := br.cell (i := 3) rfl
            have r4 := br.cell (i := 4) rfl
            have r5 := br.cell (i := 5) rfl
            have r6 := br.cell (i := 6) rfl
            have f0 := br.free 0
            have f1 := br.free 1
            have f2 := br.free 2
            have f3 := br.free 3
            have f4 := br.free 4
            have f5 := br.free 5
            have f6 := br.free 6
            clear br hbw hk10 hcut hz10 hR o0
            go_wp2_with fail
            rw [HR.out.1]
            have hr9 : w9.heap.size ≠ w.heap.size + 1 := by have := H9.out; omega
            refine leaves_mark (r := w9.heap.size) (by exact (heap_set7 (v0 := .int .i64 R.W) (v1 := .int .i64 R.H) (v2 := .int .i64 R.C) (v3 := .int .i64 R.B) (v4 := .bool R.P) (v5 := .int .i64 R.Pd) (v6 := .string R.O) hr9).trans HR.out.2.2.2) fun W11 hW11 => ?_
            have hz := (blk_set7 (v0 := .int .i64 R.W) (v1 := .int .i64 R.H) (v2 := .int .i64 R.C) (v3 := .int .i64 R.B) (v4 := .bool R.P) (v5 := .int .i64 R.Pd) (v6 := .string R.O) HR.out.2.1).offZ hW11 (by have := H9.out; omega)
            have d0 := hz.cell (i := 0) rfl
            have d1 := hz.cell (i := 1) rfl
            have d2 := hz.cell (i := 2) rfl
            have d3 := hz.cell (i := 3) rfl
            have d4 := hz.cell (i := 4) rfl
            have d5 := hz.cell (i := 5) rfl
            have d6 := hz.cell (i := 6) rfl
            refine ⟨.tuple #[R.v, .int .i64 0], by rw [imgV_eq]; simp [results, Try.results16, go_sem, d0, d1, d2, d3, d4, d5, d6], rfl, ?_⟩
            exact Below.offZ (below_set7 HR.out.2.2.1 (Nat.le_succ w.heap.size) _ _ _ _ _ _ _) (Nat.le_refl _) hW11 (by have := H9.out; omega)
        · have hgt' : nb < mB := hgt
          have hn1 : ¬ mB < nb := by omega
          have HLT := Lib.hid hgt
          clear hgt
          go_upto_region 17 with fail
          refine wp_named ?_
          intro w9 hw9
          have hz : OffZ (w7.heap.size + 1) (w7.heap.size + 1 + 1) w8 w9 := by rw [hw9]; exact OffZ.setCell w8 (p := ⟨w7.heap.size + 1, 0, none⟩) (Nat.le_refl (w7.heap.size + 1)) (Nat.lt_succ_self (w7.heap.size + 1)) _
          have hs9 : w9.heap.size = w8.heap.size := by rw [hw9]; simp
          have hv9 := (HY.out.2.2.2.2.1.kept H8.out.1).offZ hz (by have := HN7.out; omega) (by have := HN7.out; omega)
          have ht9 := (HY.out.1.kept H8.out.1).offZ hz (by have := HY.out.1.blk.lt; omega) (by have := HY.out.1.oct.lt; omega)
          have hpv9 := (HY.out.2.2.2.2.2.1.kept H8.out.1).offZ hz (by have := HY.out.2.2.2.2.2.1.lt; omega)
          have hob9 := H8.out.2.1.offZ hz (by omega)
          have br9 := (HY.out.2.2.2.2.2.2.1.kept H8.out.1).offZ hz (by have := HY.out.2.2.2.2.2.2.1.lt; omega)
          have hbw9 := Below.offZ (below_trans HY.out.2.2.2.2.2.2.2.1 H8.out.1) (Nat.le_refl _) hz (by have := HY.out.2.2.2.2.2.2.2.1.size; omega)
          have hcur : Blk w9 (w7.heap.size + 1) [.func (.func 46) #[] #[]] 89 := by rw [hw9]; exact H8.out.2.2.set 0 _
          have hI0 : ShpI w b g k bt gt kt w2.heap.size w7.heap.size (w7.heap.size + 1) L Lt mO ⟨#[]⟩ l 46 (shpS L.W (fun v => (v + 128) / 257) (samp L l)) 0 w9 :=
            ⟨hv9, ⟨_, ht9, (pix_zero HY.out.2.2.2.1).congr fun _ _ _ _ _ _ => by unfold shpS; rw [if_neg (by omega)]⟩, hpv9, hob9, hcur, br9, hbw9⟩
          clear hv9 ht9 hpv9 hob9 hcur br9 hbw9
          clear hw9 hz d3 u0 v0 hn1 hgt'
          rw [← hs9] at hl1 hl2 hl3 hl4 hl5 hl6 hl7 hl8
          clear hs9
          have H9 := Lib.hid (And.intro hI0 (And.intro hl1 (And.intro hl2 (And.intro hl3 (And.intro hl4 (And.intro hl5 (And.intro hl6 (And.intro hl7 hl8))))))))
          have p0 := hI0.pv.cell (i := 0) rfl
          clear hI0 hl1 hl2 hl3 hl4 hl5 hl6 hl7 hl8
          go_wp2_with fail
          clear p0
          have HKP := Lib.hid (fun n A B (h : ShpI w b g k bt gt kt w2.heap.size w7.heap.size (w7.heap.size + 1) L Lt mO ⟨#[]⟩ l 46 (shpS L.W (fun v => (v + 128) / 257) (samp L l)) n A) (hb : Below A.heap.size A B) => h.offZ (z0 := w9.heap.size) (z1 := w9.heap.size) (OffZ.of_below hb) H9.out.2.1 H9.out.2.2.1 H9.out.2.2.2.1 H9.out.2.2.2.2.1 H9.out.2.2.2.2.2.1 H9.out.2.2.2.2.2.2.1 H9.out.2.2.2.2.2.2.2.1 H9.out.2.2.2.2.2.2.2.2)
          have HNE := Lib.hid (show b < gt ∧ g < gt ∧ w2.heap.size < gt ∧ w7.heap.size ≠ gt ∧ w7.heap.size + 1 ≠ gt ∧ w.heap.size + 1 < gt ∧ b < bt ∧ g < bt ∧ w.heap.size + 1 < bt ∧ w.heap.size + 1 < w9.heap.size ∧ bt < w9.heap.size by
            have h1 := HY.out
            have h2 := HY.out.1.oct.lt
            have h4 := H9.out
            exact ⟨by omega, by omega, by omega, by omega, by omega, by omega, by omega, by omega, by omega, by omega, by omega⟩)
          have HBD := Lib.hid (show ∀ X Y c : Nat, 0 ≤ ((((fun v => (v + 128) / 257) (samp L l X Y c) : Nat)) : Int) ∧ ((((fun v => (v + 128) / 257) (samp L l X Y c) : Nat)) : Int) < 65536 by
            intro X Y c
            have h1 := samp_lt HL.out.1 l X Y c
            have h3 := HLT.out
            have h5 := HL.out.2.2.1
            dsimp only
            rcases HL.out.1.bits with e | e <;> rcases HY.out.2.2.2.1.bits with e2 | e2 <;> rw [e] at h1 h5 <;> rw [e2] at h5 <;> simp only [Nat.reduceMul, Nat.reducePow] at h1 <;> omega)
          have HCV := Lib.hid (show ∀ v, convS mB nb v = (fun v => (v + 128) / 257) v by
            intro v
            have h3 := HLT.out
            have h5 := HL.out.2.2.1
            unfold convS
            rcases HL.out.1.bits with e | e <;> rcases HY.out.2.2.2.1.bits with e2 | e2 <;> rw [e] at h5 <;> rw [e2] at h5 <;> (split <;> (try split) <;> first | rfl | omega))
          refine wp_frame ?_
          intro T hT
          have hit := pixels_iter HL.out.1 b mO (.slice (some ⟨g, 0, none⟩) l.length k) w9
          refine wp_rangeH (c := 0) (by rw [hT]; rfl) (fun _ _ => rfl) hit (Below.refl _ _) ?_
            (ShpI w b g k bt gt kt w2.heap.size w7.heap.size (w7.heap.size + 1) L Lt mO ⟨#[]⟩ l 46 (shpS L.W (fun v => (v + 128) / 257) (samp L l)))
            (fun n A B h hz => h.offZ hz H9.out.2.1 H9.out.2.2.1 H9.out.2.2.2.1 H9.out.2.2.2.2.1 H9.out.2.2.2.2.2.1 H9.out.2.2.2.2.2.2.1 H9.out.2.2.2.2.2.2.2.1 H9.out.2.2.2.2.2.2.2.2) (fun n A h => h.vw.blk) H9.out.1
            (fun n x a' AW => ∃ X Y : Nat, X = n % L.W ∧ Y = n / L.W ∧ X < L.W ∧ Y < L.H ∧ a' = { tmps := ((((T.setIfInBounds 74 (.int .i64 (X : Nat))).setIfInBounds 75 (.int .i64 (Y : Nat))).setIfInBounds 16 (.int .i64 (X : Nat))).setIfInBounds 17 (.int .i64 (Y : Nat))), defers := [] } ∧
              ShpI w b g k bt gt kt w2.heap.size w7.heap.size (w7.heap.size + 1) L Lt mO ⟨#[]⟩ l 46 (shpS L.W (fun v => (v + 128) / 257) (samp L l)) n AW) ?_ ?_ ?_ ?_
          · intro n x hx
            rw [(allXY_some hx).2.2.2]; rfl
          · rintro n x a' A B ⟨X, Y, e1, e2, e3, e4, rfl, hi⟩ hz
            exact ⟨X, Y, e1, e2, e3, e4, rfl, hi.offZ hz H9.out.2.1 H9.out.2.2.1 H9.out.2.2.2.1 H9.out.2.2.2.2.1 H9.out.2.2.2.2.2.1 H9.out.2.2.2.2.2.2.1 H9.out.2.2.2.2.2.2.2.1 H9.out.2.2.2.2.2.2.2.2⟩
          · intro q n x1 x2 A hx hI hsz K hK
            obtain ⟨hk, hX, hY, rfl⟩ := allXY_some hx
            have HK := Lib.hid (fun X Y e1 e2 e3 e4 => hK { tmps := ((((T.setIfInBounds 74 (.int .i64 (X : Nat))).setIfInBounds 75 (.int .i64 (Y : Nat))).setIfInBounds 16 (.int .i64 (X : Nat))).setIfInBounds 17 (.int .i64 (Y : Nat))), defers := [] } A (KeepZ.refl _ _ _) ⟨X, Y, e1, e2, e3, e4, rfl, hI⟩)
            clear hK hI hx
            obtain ⟨X, hXe⟩ : ∃ X, x1 % L.W = X := ⟨_, rfl⟩
            obtain ⟨Y, hYe⟩ : ∃ X, x1 / L.W = X := ⟨_, rfl⟩
            rw [hXe] at hX ⊢
            rw [hYe] at hY ⊢
            have HK2 := Lib.hid (HK.out X Y hXe.symm hYe.symm hX hY)
            clear HK hXe hYe hX hY hk hit
            rw [fold_two]
            subst hT
            simp only [List.setIfInBounds_toArray, List.set_cons_succ, List.set_cons_zero] at HK2 ⊢
            gi_wp2
            exact HK2.out
          · intro q n x1 x2 a' A hx hA hsz
            obtain ⟨X, Y, e1, e2, e3, e4, rfl, hi⟩ := hA
            clear hx hit
            subst hT
            simp only [List.setIfInBounds_toArray, List.set_cons_succ, List.set_cons_zero]
            have HI := Lib.hid (And.intro hi (And.intro e1 (And.intro e2 (And.intro e3 e4))))
            have p0 := hi.pv.cell (i := 0) rfl
            have HP := Lib.hid (pixel_calls HL.out.1 hi.vw X Y e3 e4)
            clear hi e1 e2 e3 e4
            gi_wp2_with fail
            refine ⟨trivial, fun hd => by simp [Fence.wide] at hd, CallsIn.inRound q (callsIn_wide.2 (Calls.mono HP.out ?_))⟩
            rintro r A2 ⟨qr, rfl, hq, hqs, hb2⟩
            have hi2 := HKP.out _ _ _ HI.out.1 hb2
            have HI2 := Lib.hid (And.intro hi2 (And.intro hq (And.intro hqs hb2)))
            clear hi2 hq hqs hb2 HP p0
            dsimp only
            gi_wp2_with fail
            refine wpIn_named ?_
            intro A3 hA3
            have hlb : Blk A3 A2.heap.size [.slice (some ⟨qr, 0, none⟩) L.C L.C] 29 := by rw [hA3]; exact Blk.new _ _ _
            have hb3 : Below A2.heap.size A2 A3 := by rw [hA3]; exact below_alloc _
            clear hA3
            have hi3 := HKP.out _ _ _ HI2.out.1 hb3
            have o0 := hi3.ob.cell (i := 0) rfl
            have l0 := hlb.cell (i := 0) rfl
            have hC4 : L.C ≤ 4 := HL.out.1.c2
            have HC4 := Lib.hid hC4
            have hqv : Blk A3 qr ((((List.range L.C).map (samp L l X Y)).map fun v : Nat => (v : Int)).map (Value.int .i64)) 3 := by rw [show ((List.range L.C).map (samp L l X Y)).map (fun v : Nat => (v : Int)) = (List.range L.C).map (fun c => (samp L l X Y c : Int)) by rw [List.map_map]; rfl]; exact HI2.out.2.1.kept hb3
            have HM3 := Lib.hid (fun W (hW : Below A3.heap.size A3 W) => made49_calls L.C (by omega) (w7.heap.size + 1) A2.heap.size (fun c => (((fun v => (v + 128) / 257) (samp L l X Y c) : Nat) : Int)) W (fun c W2 hc hW2 => by
              have hsm : samp L l X Y c < 65536 := by
                have := samp_lt HL.out.1 l X Y c
                have h2 : 2 ^ (8 * L.k) ≤ 65536 := by rcases HL.out.1.bits with e | e <;> rw [e] <;> decide
                omega
              have hcb := ((hi3.cb.kept hW).kept hW2).cell (i := 0) rfl
              have hlc := ((hlb.kept hW).kept hW2).cell (i := 0) rfl
              exact ch46_calls hcb hlc ((hqv.kept hW).kept hW2) c (samp L l X Y c) (by rw [List.getElem?_map, List.getElem?_range hc]; rfl) hc hsm hC4))
            have HI3 := Lib.hid (And.intro hi3 hb3)
            clear hi3 hlb hb3 hqv hC4
            refine wpIn_seq_tail 7 (fun k => k == 6) (fun _ x => .slice (some ⟨x.i, 0, none⟩) L.C L.C) (fun _ x W => Blk W x.i (((List.range L.C).map (fun c => (((fun v => (v + 128) / 257) (samp L l X Y c) : Nat) : Int))).map (Value.int .i64)) 3 ∧ A3.heap.size ≤ x.i) (by kernel_rfl) (by kernel_rfl) (by kernel_rfl) (by decide)
              (by rintro ⟨_, _, h⟩; exact absurd (And.left (a := Exit.outgrown = Exit.normal) h) (by simp)) (fun _ _ _ _ hb h => ⟨h.1.kept hb, h.2⟩) ?_
            repeat (first | (refine seq_skip (by rfl) ?_; simp only [Act.put, List.setIfInBounds_toArray, List.set_cons_zero, List.set_cons_succ, Nat.reduceAdd]) | (refine seq_pure (v := ?_) (by rfl) (by rfl) (fun W hW hC => ?_) ?_; rotate_left; (go_simp <;> with_reducible rfl); simp only [Act.put, List.setIfInBounds_toArray, List.set_cons_zero, List.set_cons_succ, Nat.reduceAdd]))
            refine seq_made (by rfl) (by rfl) (fun W hW hC hF R hR => ?_) (fun y6 => ?_)
            · unfold Gives; go_simp
              refine (HM3.out W hW).mono ?_
              rintro r W8 ⟨g8, rfl, hblk, hgs, hb8⟩
              refine ⟨_, rfl, ?_⟩
              exact hR { i := g8 } _ hb8 ⟨hblk, Nat.le_trans hW.size hgs⟩
            simp only [Act.put, List.setIfInBounds_toArray, List.set_cons_zero, List.set_cons_succ, Nat.reduceAdd]
            refine seq_nil ?_
            intro W4 hW4 hF
            obtain ⟨hr4, hrg⟩ := hF _ _ (List.mem_cons_self ..)
            clear hF o0 l0 HM3
            have hi4 := HKP.out _ _ _ HI3.out.1 hW4
            obtain ⟨l4, hvo, hpo⟩ := hi4.out
            have hrl : ((List.range L.C).map (fun c => (((fun v => (v + 128) / 257) (samp L l X Y c) : Nat) : Int))).length = L.C := by simp
            have hA0 : A.heap.size ≤ A3.heap.size := Nat.le_trans HI2.out.2.2.2.size HI3.out.2.size
            have hwA : w9.heap.size ≤ A.heap.size := by omega
            have HPut := Lib.hid (put_calls HY.out.2.2.2.1 hvo (Nat.ne_of_lt HY.out.2.2.1) hpo X Y (by rw [← HL.out.2.2.1.1]; exact HI.out.2.2.2.1) (by rw [← HL.out.2.2.1.2.1]; exact HI.out.2.2.2.2) (some ⟨y6.i, 0, none⟩) L.C ((List.range L.C).map (fun c => (((fun v => (v + 128) / 257) (samp L l X Y c) : Nat) : Int))) (blk_row hr4)
              (fun p e => by cases e; show y6.i ≠ gt; have := H9.out.2.2.2.2.1; omega) (by rw [hrl]; exact HL.out.2.2.1.2.2.1)
              (fun v hv => by
                obtain ⟨c, _, rfl⟩ := List.mem_map.1 hv
                exact HBD.out X Y c))
            rw [hrl] at HPut
            have HI4 := Lib.hid (And.intro hi4 (And.intro hW4 hwA))
            clear hi4 hW4 hr4 hrg hvo hpo hrl hA0 hwA
            go_wp2_with fail
            refine HPut.out.mono ?_
            rintro r W5 ⟨⟨u, rfl⟩, hz5, l5, hv5, hp5⟩
            clear HPut
            dsimp only
            go_wp2_with fail
            have hh := H9.out
            have hsA := HI2.out.2.2.2.size
            have hsA3 := HI3.out.2.size
            have hs34 := HI4.out.2.1.size
            have hge : w9.heap.size + 2 ≤ A.heap.size := hsz
            refine ⟨((KeepZ.of_below HI2.out.2.2.2 (by omega)).trans (KeepZ.of_below HI3.out.2 (by omega))).trans ((KeepZ.of_below HI4.out.2.1 (by omega)).trans (KeepZ.of_offZ hz5 (by omega) (by omega))), ?_⟩
            have hi5 := HI4.out.1
            have hbtl := HY.out.2.2.1
            refine ⟨hi5.vw.offZ hz5 (by have := HNE.out; omega) (by have := HNE.out; omega), ⟨l5, hv5, ?_⟩, hi5.pv.offZ hz5 (by have := HNE.out; omega), hi5.ob.offZ hz5 (by have := HNE.out; omega), hi5.cb.offZ hz5 (by have := HNE.out; omega), hi5.res.offZ hz5 (by have := HNE.out; omega), Below.offZ hi5.below (Nat.le_refl _) hz5 (by have := HNE.out; omega)⟩
            have he1 := HI.out.2.1
            have he2 := HI.out.2.2.1
            rw [he1, he2] at hp5
            exact shpS_step HL.out.2.2.1.1.symm HL.out.1.w1 (by rw [HL.out.2.2.1.2.2.1]) hp5
          · intro W9 hI hK9
            rw [allXY_length] at hI
            obtain ⟨l9, hv9, hp9⟩ := hI.out
            have o0 := hI.ob.cell (i := 0) rfl
            have HE := Lib.hid (And.intro hI (And.intro hK9 (And.intro hv9 hp9)))
            clear hI hK9 hv9 hp9 hit
            subst hT
            go_wp2_with fail
            refine (closed_img HY.out.2.2.2.1 HE.out.2.2.1 (Nat.ne_of_lt HY.out.2.2.1) HE.out.2.2.2).mono ?_
            rintro r W10 ⟨rfl, hz10⟩
            have hR : img Lt (shpS L.W (fun v => (v + 128) / 257) (samp L l) (L.H * L.W)) = img Lt (fun x y c => convS mB nb (samp L l x y c)) := by
              refine img_congr HY.out.2.2.2.1 fun x y c hx hy hc => ?_
              have hx' : x < L.W := by rw [HL.out.2.2.1.1]; exact hx
              have hy' : y < L.H := by rw [HL.out.2.2.1.2.1]; exact hy
              have hlt : y * L.W + x < L.H * L.W := by
                have : (y + 1) * L.W ≤ L.H * L.W := Nat.mul_le_mul_right _ hy'
                rw [Nat.succ_mul] at this
                omega
              unfold shpS
              rw [if_pos hlt]
              exact (HCV.out _).symm
            rw [hR]
            obtain ⟨R, hR⟩ : ∃ R, img Lt (fun x y c => convS mB nb (samp L l x y c)) = R := ⟨_, rfl⟩
            have hcut : shapeS m nb nP npd = (R, 0) := by rw [HL.out.2.2.2, ← hR]
            rw [hR, imgV_eq]
            have br := HE.out.1.res.offZ hz10 (by have := HNE.out; omega)
            have hbw := Below.offZ HE.out.1.below (Nat.le_refl _) hz10 (by have := HNE.out; omega)
            have hk10 : W10.heap[w9.heap.size]? = some (.deferred (some [])) := (hz10.block _ ((Array.getElem?_eq_some_iff.1 HE.out.2.1).1) (by have := H9.out; omega)).trans HE.out.2.1
            have HR := Lib.hid (And.intro hcut (And.intro br (And.intro hbw hk10)))
            have r0 := br.cell (i := 0) rfl
            have r1 := br.cell (i := 1) rfl
            have r2 := br.cell (i := 2) rfl
            have r3 := br.cell (i := 3) rfl
            have r4 := br.cell (i := 4) rfl
            have r5 := br.cell (i := 5) rfl
            have r6 := br.cell (i := 6) rfl
            have f0 := br.free 0
            have f1 := br.free 1
            have f2 := br.free 2
            have f3 := br.free 3
            have f4 := br.free 4
            have f5 := br.free 5
            have f6 := br.free 6
            clear br hbw hk10 hcut hz10 hR o0
            go_wp2_with fail
            rw [HR.out.1]
            have hr9 : w9.heap.size ≠ w.heap.size + 1 := by have := H9.out; omega
            refine leaves_mark (r := w9.heap.size) (by exact (heap_set7 (v0 := .int .i64 R.W) (v1 := .int .i64 R.H) (v2 := .int .i64 R.C) (v3 := .int .i64 R.B) (v4 := .bool R.P) (v5 := .int .i64 R.Pd) (v6 := .string R.O) hr9).trans HR.out.2.2.2) fun W11 hW11 => ?_
            have hz := (blk_set7 (v0 := .int .i64 R.W) (v1 := .int .i64 R.H) (v2 := .int .i64 R.C) (v3 := .int .i64 R.B) (v4 := .bool R.P) (v5 := .int .i64 R.Pd) (v6 := .string R.O) HR.out.2.1).offZ hW11 (by have := H9.out; omega)
            have d0 := hz.cell (i := 0) rfl
            have d1 := hz.cell (i := 1) rfl
            have d2 := hz.cell (i := 2) rfl
            have d3 := hz.cell (i := 3) rfl
            have d4 := hz.cell (i := 4) rfl
            have d5 := hz.cell (i := 5) rfl
            have d6 := hz.cell (i := 6) rfl
            refine ⟨.tuple #[R.v, .int .i64 0], by rw [imgV_eq]; simp [results, Try.results16, go_sem, d0, d1, d2, d3, d4, d5, d6], rfl, ?_⟩
            exact Below.offZ (below_set7 HR.out.2.2.1 (Nat.le_succ w.heap.size) _ _ _ _ _ _ _) (Nat.le_refl _) hW11 (by have := H9.out; omega)
end Go.Proofs.Ytpgkhhdobolfbaa
