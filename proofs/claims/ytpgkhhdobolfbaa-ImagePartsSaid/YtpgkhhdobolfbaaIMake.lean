/-
  image.Make.
-/
import Derived.Test.YtpgkhhdobolfbaaIGet
namespace Go.Proofs.Ytpgkhhdobolfbaa
set_option linter.unusedVariables false
set_option linter.unusedSimpArgs false
open Go Go.RowKit

theorem pix_zero {L : Lay} (h : L.Ok) : Pix L (List.replicate L.size 0) (fun _ _ _ => 0) := by
  refine ⟨by simp, fun i hi _ => by rw [List.getElem?_replicate, if_pos hi], fun x y c hx hy hc j hj => ?_⟩
  rw [List.getElem?_replicate, if_pos (h.place_row hx hy hc hj).2.2.2]
  congr 1
  unfold octN
  split <;> rfl

theorem blank_ok {m : Im} {w w' : World} {e : Ending} (h : BlankR m w e w') (hs : m.shp = true) : ∃ b g k, e = .returned (.tuple #[.pointer (some ⟨b, 0, none⟩), .int .i64 0]) ∧ View w' b g m.lay m.O k (List.replicate m.lay.size 0) ∧ w.heap.size ≤ b ∧ b < g ∧ m.lay.Ok := by
  obtain ⟨_, h⟩ := h
  rw [if_pos hs] at h
  obtain ⟨b, g, k, h1, h2, h3, h4⟩ := h
  exact ⟨b, g, k, h1, h2, h3, h4, (lay_nums (of_decide_eq_true hs) m.P).ok⟩

theorem blank_no {m : Im} {w w' : World} {e : Ending} (h : BlankR m w e w') (hs : m.shp = false) : e = .returned (.tuple #[.pointer none, .int .i64 2]) := by
  obtain ⟨_, h⟩ := h
  rw [if_neg (by rw [hs]; decide)] at h
  exact h

set_option maxRecDepth 100000 in
set_option maxHeartbeats 3200000 in
theorem make_calls (mW mH mC mB : Int) (mP : Bool) (mPd : Int) (w : World) :
    Calls Try.prog 20 #[.int .i64 mW, .int .i64 mH, .int .i64 mC, .int .i64 mB, .bool mP, .int .i64 mPd] w fun e w' => e = .returned (.tuple #[(makeS mW mH mC mB mP mPd).1.v, .int .i64 (makeS mW mH mC mB mP mPd).2]) ∧ Below w.heap.size w w' := by
  obtain ⟨m, hm⟩ : ∃ m : Im, m = ⟨mW, mH, mC, mB, mP, mPd, ⟨#[]⟩⟩ := ⟨_, rfl⟩
  have HF := Lib.hid (fun w => blank_calls m w)
  have hv : m.v = .agg #[.int .i64 mW, .int .i64 mH, .int .i64 mC, .int .i64 mB, .bool mP, .int .i64 mPd, .string ⟨#[]⟩] := by rw [hm]; rfl
  have hms : m.shp = shB mW mH mC mB mPd := by rw [hm]; rfl
  have hml : m.lay = ⟨mW.toNat, mH.toNat, mC.toNat, mB.toNat / 8, mP, mPd.toNat⟩ := by rw [hm]; rfl
  rw [hv] at HF
  clear hm hv
  go_enter Try.func20, Try.ntmps20
  go_upto_region 1 with fail
  refine wp_named ?_
  intro w1 hw1
  have br : Blk w1 w.heap.size zeroC 24 := by rw [hw1]; exact Blk.new _ _ _
  have hb1 : Below w.heap.size w w1 := by rw [hw1]; repeat (first | exact below_alloc _ | refine below_trans ?_ (below_alloc _))
  clear hw1
  have HB := Lib.hid (And.intro hb1 (And.intro br (And.intro hms hml)))
  clear hb1 br hms hml
  go_wp2_with fail
  refine (HF.out w1).mono ?_
  rintro r w2 hr
  have br := HB.out.2.1.kept hr.1
  have hbw := below_trans HB.out.1 hr.1
  cases hs : m.shp with
  | false =>
    have hr2 := blank_no hr hs
    have HG := Lib.hid (show makeS mW mH mC mB mP mPd = (Im.zero, 2) by unfold makeS; rw [← HB.out.2.2.1, hs]; rfl)
    have HW := Lib.hid (below_set7 hbw (Nat.le_refl w.heap.size))
    clear hr hs hbw
    have r0 := br.cell (i := 0) rfl
    have r1 := br.cell (i := 1) rfl
    have r2 := br.cell (i := 2) rfl
    have r3 := br.cell (i := 3) rfl
    have r4 := br.cell (i := 4) rfl
    have r5 := br.cell (i := 5) rfl
    have r6 := br.cell (i := 6) rfl
    have f0 := br.free 0
    have f1 := br.free 1
    have f2 := br.free 2
    have f3 := br.free 3
    have f4 := br.free 4
    have f5 := br.free 5
    have f6 := br.free 6
    clear br
    subst hr2
    go_wp2_with fail
    rw [HG.out]
    exact bodyPost_ret (v := .tuple #[Im.zero.v, .int .i64 2]) (by rw [zero_v]; simp [results, Try.results20, go_sem, *]) rfl ⟨rfl, HW.out _ _ _ _ _ _ _⟩
  | true =>
    obtain ⟨b, g, k, hr2, hvw, hgb, hbg, hok⟩ := blank_ok hr hs
    have hgw : w.heap.size < w1.heap.size := HB.out.2.1.lt
    have HV := Lib.hid (And.intro hok (And.intro hvw (And.intro hgb (And.intro hbg (And.intro br (And.intro hbw (And.intro hgw hs)))))))
    clear hr hs hbw br hvw hgb hbg hok hgw
    subst hr2
    go_wp2_with fail
    refine (closed_img HV.out.1 HV.out.2.1 (Nat.ne_of_lt HV.out.2.2.2.1) (pix_zero HV.out.1)).mono ?_
    rintro r w5 ⟨rfl, hz5⟩
    have hmk : makeS mW mH mC mB mP mPd = (img m.lay (fun _ _ _ => 0), 0) := by unfold makeS; rw [← HB.out.2.2.1, HV.out.2.2.2.2.2.2.2, ← HB.out.2.2.2]; rfl
    obtain ⟨R, hR⟩ : ∃ R, img m.lay (fun _ _ _ => 0) = R := ⟨_, rfl⟩
    have br := HV.out.2.2.2.2.1.offZ hz5 (by have := HV.out.2.2.1; have := HV.out.2.2.2.2.2.2.1; omega)
    have hbw := Below.offZ HV.out.2.2.2.2.2.1 (Nat.le_refl _) hz5 (by have := HV.out.2.2.1; have := HV.out.2.2.2.2.2.2.1; omega)
    rw [hR] at hmk ⊢
    rw [imgV_eq]
    have HW := Lib.hid (And.intro (below_set7 hbw (Nat.le_refl w.heap.size)) hmk)
    clear hz5 hbw hR hmk
    have r0 := br.cell (i := 0) rfl
    have r1 := br.cell (i := 1) rfl
    have r2 := br.cell (i := 2) rfl
    have r3 := br.cell (i := 3) rfl
    have r4 := br.cell (i := 4) rfl
    have r5 := br.cell (i := 5) rfl
    have r6 := br.cell (i := 6) rfl
    have f0 := br.free 0
    have f1 := br.free 1
    have f2 := br.free 2
    have f3 := br.free 3
    have f4 := br.free 4
    have f5 := br.free 5
    have f6 := br.free 6
    clear br
    go_wp2_with fail
    rw [HW.out.2]
    exact bodyPost_ret (v := .tuple #[R.v, .int .i64 0]) (by rw [imgV_eq]; simp [results, Try.results20, go_sem, *]) rfl ⟨rfl, HW.out.1 _ _ _ _ _ _ _⟩
end Go.Proofs.Ytpgkhhdobolfbaa
