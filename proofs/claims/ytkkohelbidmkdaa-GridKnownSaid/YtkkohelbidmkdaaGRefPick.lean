/-
  The reference's Pick.
-/
import Derived.Test.YtkkohelbidmkdaaGRefSwap
import Derived.Test.YtkkohelbidmkdaaGPick
namespace Go.Proofs.Ytkkohelbidmkdaa
set_option linter.unusedVariables false
set_option linter.unusedSimpArgs false
open Go Go.RowKit

theorem inI_col (o c : Int) : inI 0 (o - 1) c = (decide (0 ≤ c) && decide (c < o)) := by
  rw [inI_inB]; rfl

set_option maxRecDepth 100000 in
set_option maxHeartbeats 3200000 in
theorem refPick_calls (A B I : Option Addr) (c e ci : Nat) (s d cs : List Int) (o : Int) (w : World) (hs : Cs w .i64 A s) (hd : Cs w .i64 B d) (hi : Cs w .i64 I cs)
    (ls : s.length ≤ 9223372036854775807) (ld : d.length ≤ e) (le : e ≤ 9223372036854775807) (li : cs.length ≤ 9223372036854775807) :
    Calls Try.prog 22 #[.agg #[.slice A s.length c, .int .i64 o, .slice B d.length e], .slice I cs.length ci] w fun r w' => ∃ v1 v2, r = .returned (.tuple #[.agg #[v1, .int .i64 (pickR s o d cs).2.1, v2], .int .i64 (pickR s o d cs).2.2.2]) ∧
      Own w' w.heap.size v1 (pickR s o d cs).1 ∧ Own w' w.heap.size v2 (pickR s o d cs).2.2.1 ∧ Below w.heap.size w w' := by
  have HS := Lib.hid hs
  have HD := Lib.hid hd
  have HI := Lib.hid hi
  clear hs hd hi
  go_enter Try.func22, Try.ntmps22
  go_wp2_with fail
  refine calls_named ?_
  intro w1 hw1
  have p0 : Blk w1 w.heap.size [.slice A s.length c, .int .i64 o, .slice B d.length e] 24 := by rw [hw1]; exact (Blk.new _ _ _).alloc _
  have p1 : Blk w1 (w.heap.size + 1) [.slice none 0 0, .int .i64 0, .slice none 0 0] 24 := by rw [hw1]; exact Blk.at (by simp)
  have hb1 : Below w.heap.size w w1 := by rw [hw1]; repeat (first | exact below_alloc _ | refine below_trans ?_ (below_alloc _))
  clear hw1
  refine (right_calls A B c e s d o w1 (HS.out.kept hb1) (HD.out.kept hb1) ls (by omega)).mono ?_
  rintro r w2 ⟨rfl, hb2⟩
  replace p0 := p0.kept hb2
  replace p1 := p1.kept hb2
  have hb12 := below_trans hb1 hb2
  have c0 := p0.cell (i := 0) rfl
  have c1 := p0.cell (i := 1) rfl
  have c2 := p0.cell (i := 2) rfl
  have r0 := p1.cell (i := 0) rfl
  have r1 := p1.cell (i := 1) rfl
  have r2 := p1.cell (i := 2) rfl
  have f0 := p1.free 0
  have f1 := p1.free 1
  have f2 := p1.free 2
  have HB := Lib.hid (And.intro p0 (And.intro p1 hb12))
  clear p0 p1 hb1 hb2 hb12
  by_cases hc : checkN s o d = 0
  · have hv := (checkN_iff s o d).1 hc
    obtain ⟨sN, rfl, hsz⟩ := nat_sizes hv.sizes
    obtain ⟨on, rfl⟩ := Int.eq_ofNat_of_zero_le (show 0 ≤ o by have := hv.out1; omega)
    have HSN := Lib.hid (And.intro hv (And.intro hc hsz))
    rw [decide_eq_true hc]
    have l1 := hv.len1
    have l4 := hv.len4
    rw [ints_length] at l1 l4
    have ho1 : 1 ≤ on := by have := hv.out1; omega
    have ho4 : on ≤ 4 := by have := hv.out4; omega
    clear hc hv hsz
    go_wp2_with fail
    refine (within_calls _ _ _ _).mono ?_
    rintro r w3 ⟨rfl, rfl⟩
    by_cases hcl : 1 ≤ cs.length ∧ cs.length ≤ 4
    · have hin : inI 1 4 (cs.length : Int) = true := by unfold inI; simp; omega
      rw [hin]
      obtain ⟨hc1, hc4⟩ := hcl
      clear hin r0 r1 r2 f0 f1 f2
      go_wp2_with fail
      clear c0 c1 c2
      go_loopw [6] (fun i wr => ∃ k, k ≤ cs.length ∧ i = .int .i64 (k : Nat) ∧ (cs.take k).all (fun c => decide (0 ≤ c) && decide (c < (on : Int))) = true ∧ Blk wr w.heap.size [.slice A (ints sN).length c, .int .i64 on, .slice B d.length e] 24 ∧ Blk wr (w.heap.size + 1) [.slice none 0 0, .int .i64 0, .slice none 0 0] 24 ∧ Below w.heap.size w wr) (fun i _ => cs.length - (intOf i).toNat)
      case atStart => exact ⟨0, Nat.zero_le _, rfl, rfl, HB.out.1, HB.out.2.1, HB.out.2.2⟩
      case round =>
        clear HB
        obtain ⟨k, hk, rfl, hall, p0, p1, hbr⟩ := hrel
        have c0 := p0.cell (i := 0) rfl
        have c1 := p0.cell (i := 1) rfl
        have r0 := p1.cell (i := 0) rfl
        have r1 := p1.cell (i := 1) rfl
        have r2 := p1.cell (i := 2) rfl
        have f0 := p1.free 0
        have f1 := p1.free 1
        have f2 := p1.free 2
        have HB := Lib.hid (And.intro hall (And.intro p0 (And.intro p1 hbr)))
        by_cases hlt : k < cs.length
        · obtain ⟨x, bI, oI, hx, rfl, hcx⟩ := HI.out.at hlt
          replace hcx := Ytkkohelbidmkdaa.kept hbr hcx
          have HX := Lib.hid hx
          have hw1 : IntKind.i64.wrap ((on : Int) - 1) = (on : Int) - 1 := by rw [IntWalk.i64_left]; exact wrap64_id (by omega) (by omega)
          clear hall p0 p1 hbr hx
          cases hin : inI 0 ((on : Int) - 1) x with
          | true =>
            have HIN := Lib.hid hin
            clear hin r0 r1 r2 f0 f1 f2
            go_wp2_with fail
            refine wp_seq_all (fun k => k == 7) (fun _ _ => .bool true) (fun _ _ _ => True) (by kernel_rfl) (by kernel_rfl) (fun _ _ _ _ _ _ => trivial) ?_
            repeat (first | (refine seq_skip (by rfl) ?_; simp only [Act.put, List.setIfInBounds_toArray, List.set_cons_zero, List.set_cons_succ, Nat.reduceAdd]) | (refine seq_pure (v := ?_) (by rfl) (by rfl) (fun W hW hC => ?_) ?_; rotate_left; (go_simp <;> with_reducible rfl); simp only [Act.put, List.setIfInBounds_toArray, List.set_cons_zero, List.set_cons_succ, Nat.reduceAdd]))
            refine seq_made (by rfl) (by rfl) (fun W hW hC hF R hR => ?_) (fun _ => ?_)
            · unfold Gives; go_simp; refine (within_calls _ _ _ _).mono ?_; rintro r w5 ⟨rfl, rfl⟩; exact ⟨_, rfl, by rw [HIN.out]; exact hR {} _ (Below.refl _ _) trivial⟩
            simp only [Act.put, List.setIfInBounds_toArray, List.set_cons_zero, List.set_cons_succ, Nat.reduceAdd]
            repeat (first | (refine seq_skip (by rfl) ?_; simp only [Act.put, List.setIfInBounds_toArray, List.set_cons_zero, List.set_cons_succ, Nat.reduceAdd]) | (refine seq_pure (v := ?_) (by rfl) (by rfl) (fun W hW hC => ?_) ?_; rotate_left; (go_simp <;> with_reducible rfl); simp only [Act.put, List.setIfInBounds_toArray, List.set_cons_zero, List.set_cons_succ, Nat.reduceAdd]))
            refine seq_nil ?_; intro W hW hF
            clear hF
            have HB5 := Lib.hid (And.intro (HB.out.2.1.kept hW) (And.intro (HB.out.2.2.1.kept hW) (HB.out.2.2.2.trans (hW.mono HB.out.2.2.2.size))))
            clear hW c0 c1 hcx
            go_wp2
            go_roundw
            case rel =>
              refine ⟨k + 1, by omega, by go_num, ?_, HB5.out.1, HB5.out.2.1, HB5.out.2.2⟩
              have h := HIN.out
              rw [inI_col] at h
              rw [take_at HX.out, List.all_append, HB.out.1]
              simpa using h
            case measure => simp [intOf]; omega
          | false =>
            have HIN := Lib.hid hin
            clear hin
            go_wp2_with fail
            refine wp_seq_all (fun k => k == 7) (fun _ _ => .bool false) (fun _ _ _ => True) (by kernel_rfl) (by kernel_rfl) (fun _ _ _ _ _ _ => trivial) ?_
            repeat (first | (refine seq_skip (by rfl) ?_; simp only [Act.put, List.setIfInBounds_toArray, List.set_cons_zero, List.set_cons_succ, Nat.reduceAdd]) | (refine seq_pure (v := ?_) (by rfl) (by rfl) (fun W hW hC => ?_) ?_; rotate_left; (go_simp <;> with_reducible rfl); simp only [Act.put, List.setIfInBounds_toArray, List.set_cons_zero, List.set_cons_succ, Nat.reduceAdd]))
            refine seq_made (by rfl) (by rfl) (fun W hW hC hF R hR => ?_) (fun _ => ?_)
            · unfold Gives; go_simp; refine (within_calls _ _ _ _).mono ?_; rintro r w5 ⟨rfl, rfl⟩; exact ⟨_, rfl, by rw [HIN.out]; exact hR {} _ (Below.refl _ _) trivial⟩
            simp only [Act.put, List.setIfInBounds_toArray, List.set_cons_zero, List.set_cons_succ, Nat.reduceAdd]
            repeat (first | (refine seq_skip (by rfl) ?_; simp only [Act.put, List.setIfInBounds_toArray, List.set_cons_zero, List.set_cons_succ, Nat.reduceAdd]) | (refine seq_pure (v := ?_) (by rfl) (by rfl) (fun W hW hC => ?_) ?_; rotate_left; (go_simp <;> with_reducible rfl); simp only [Act.put, List.setIfInBounds_toArray, List.set_cons_zero, List.set_cons_succ, Nat.reduceAdd]))
            refine seq_nil ?_; intro W hW hF
            clear hF
            have HB5 := Lib.hid (And.intro (HB.out.2.1.kept hW) (And.intro (HB.out.2.2.1.kept hW) (HB.out.2.2.2.trans (hW.mono HB.out.2.2.2.size))))
            clear hW c0 c1 hcx r0 r1 r2 f0 f1 f2
            have r0 := HB5.out.2.1.cell (i := 0) rfl
            have r1 := HB5.out.2.1.cell (i := 1) rfl
            have r2 := HB5.out.2.1.cell (i := 2) rfl
            have f0 := HB5.out.2.1.free 0
            have f1 := HB5.out.2.1.free 1
            have f2 := HB5.out.2.1.free 2
            have hcol : colsB on cs = false := by
              have h := HIN.out
              rw [inI_col] at h
              unfold colsB
              rw [List.all_eq_false]
              exact ⟨x, List.mem_of_getElem? HX.out, by rw [h]; simp⟩
            have HR := Lib.hid (show pickR (ints sN) on d cs = ([], 0, [], 2) by
              unfold pickR; rw [if_neg (by rw [HSN.out.2.1]; simp), if_neg (by omega), if_pos hcol])
            clear hcol
            go_wp2_with fail
            refine bodyPost_ret (v := .tuple #[.agg #[.slice none 0 0, .int .i64 0, .slice none 0 0], .int .i64 2]) (by simp [results, Try.results22, go_sem, *]) rfl ⟨.slice none 0 0, .slice none 0 0, by rw [HR.out], by rw [HR.out]; exact Own.nil _ _, by rw [HR.out]; exact Own.nil _ _, below_set3 HB5.out.2.2 (by omega) _ _ _⟩
        · have hcol : colsB on cs = true := by
            have h := HB.out.1
            rw [List.take_of_length_le (by omega)] at h
            exact h
          have HCOL := Lib.hid hcol
          clear hall p0 p1 hbr hcol
          go_wp2_with fail
          refine (points_calls A c (ints sN) _ (HS.out.kept HB.out.2.2.2) ls).mono ?_
          rintro r w8 ⟨rfl, rfl⟩
          have hP : prodW (ints sN) = (pr sN : Int) := by rw [← prodI_ints]; exact (prodW_eq HSN.out.1.sizes HSN.out.1.len4).1
          have hpr2 : pr sN ≤ 6561 := by have h := (prodW_eq HSN.out.1.sizes HSN.out.1.len4).2.2; rw [prodI_ints] at h; omega
          have HP := Lib.hid hP
          rw [hP]
          have hml : pr sN * cs.length ≤ 6561 * 4 := Nat.mul_le_mul hpr2 hc4
          obtain ⟨M, hM⟩ : ∃ M, pr sN * cs.length = M := ⟨_, rfl⟩
          have hw1 : IntKind.i64.wrap ((pr sN : Int) * (cs.length : Int)) = (M : Int) := by
            rw [IntWalk.i64_left, ← Int.natCast_mul, hM]; exact wrap64_id (by omega) (by omega)
          have HM := Lib.hid hM
          rw [hM] at hml
          clear hP hM
          by_cases hbig : 4096 < M
          · have HR := Lib.hid (show pickR (ints sN) on d cs = ([], 0, [], 3) by
              unfold pickR
              rw [if_neg (by rw [HSN.out.2.1]; simp), if_neg (by omega), if_neg (by rw [HCOL.out]; simp), if_pos (by rw [prodI_ints, ← Int.natCast_mul, HM.out]; omega)])
            go_wp2_with fail
            refine bodyPost_ret (v := .tuple #[.agg #[.slice none 0 0, .int .i64 0, .slice none 0 0], .int .i64 3]) (by simp [results, Try.results22, go_sem, *]) rfl ⟨.slice none 0 0, .slice none 0 0, by rw [HR.out], by rw [HR.out]; exact Own.nil _ _, by rw [HR.out]; exact Own.nil _ _, below_set3 HB.out.2.2.2 (by omega) _ _ _⟩
          · have HR := Lib.hid (show pickR (ints sN) on d cs = (ints sN, (cs.length : Int), gathered (pickD d on cs) (pr sN), 0) by
              unfold pickR
              rw [if_neg (by rw [HSN.out.2.1]; simp), if_neg (by omega), if_neg (by rw [HCOL.out]; simp), if_neg (by rw [prodI_ints, ← Int.natCast_mul, HM.out]; omega), prodI_ints]; simp)
            obtain ⟨bD, oD, hBD⟩ : ∃ b off, B = some ⟨b, off, none⟩ := by
              have h1 := HSN.out.1.data
              have h2 := HSN.out.1.out1
              have h3 := (prodW_eq HSN.out.1.sizes HSN.out.1.len4).2.1
              have h4 : 1 * 1 ≤ prodI (ints sN) * on := Int.mul_le_mul h3 h2 (by omega) (by omega)
              obtain ⟨_, b, off, _, h, _⟩ := HD.out.at (i := 0) (by omega)
              exact ⟨b, off, h⟩
            subst hBD
            have hdat : d.length = pr sN * on := data_nat HSN.out.1
            have hdm := HSN.out.1.most
            obtain ⟨_, bA, oA, _, hAA, _⟩ := HS.out.at (i := 0) (by rw [ints_length]; omega)
            have hA0 : A = none → c = 0 := fun h => by rw [hAA] at h; cases h
            have HDAT := Lib.hid (And.intro hdat hAA)
            have hlt0 := HB.out.2.1.lt
            have hlt1 := HB.out.2.2.1.lt
            have HA := Lib.hid (And.intro ((Own.empty w8).lower (base' := w.heap.size) HB.out.2.2.2.size) (HS.out.kept (below_trans HB.out.2.2.2 (below_alloc (.cells #[] 3)))))
            have hpush : ∀ v' w2, Own w2 w.heap.size v' ([] ++ ints sN) → (w8.alloc (.cells #[] 3)).grownBy w2 (Value.slice (some ⟨w8.heap.size, 0, none⟩) 0 0).ownBlock →
                ∃ gs k1, v' = .slice (some ⟨gs, 0, none⟩) (ints sN).length k1 ∧ Hid (Blk w2 w.heap.size [.slice A (ints sN).length c, .int .i64 on, .slice (some ⟨bD, oD, none⟩) d.length e] 24 ∧ Blk w2 (w.heap.size + 1) [.slice none 0 0, .int .i64 0, .slice none 0 0] 24 ∧
                  Own w2 w.heap.size (.slice (some ⟨gs, 0, none⟩) (ints sN).length k1) (ints sN) ∧ Below w.heap.size w w2) := by
              intro v' w2 how hgr
              have g0 := Blk.grown HA.out.1 hgr (HB.out.2.1.alloc _) (by decide)
              have g1 := Blk.grown HA.out.1 hgr (HB.out.2.2.1.alloc _) (by decide)
              have hb4 := HA.out.1.below hgr (Nat.le_refl _) (below_trans HB.out.2.2.2 (below_alloc _))
              rw [List.nil_append] at how
              obtain ⟨A1, k1, hv', _, _, _, _⟩ := how.cs
              subst hv'
              obtain ⟨gs, rfl⟩ : ∃ g, A1 = some ⟨g, 0, none⟩ := by
                rcases how.2 with ⟨h, h2⟩ | ⟨g, _, _, h, _⟩
                · rw [ints_length] at h2; omega
                · injection h with h; exact ⟨g, h⟩
              exact ⟨gs, k1, rfl, Lib.hid ⟨g0, g1, how, hb4⟩⟩
            have HPU := Lib.hid hpush
            clear hpush hdat hAA c0 c1 r0 r1 r2 f0 f1 f2
            have c0 := HB.out.2.1.cell (i := 0) rfl
            go_upto_region 13 with (at_builtin; go_loud (refine append_ints2 rfl _ _ rfl w.heap.size (.slice (some ⟨w8.heap.size, 0, none⟩) 0 0) [] rfl HA.out.1 A c (ints sN) rfl HA.out.2 hA0 (by rw [ints_length]; simp; omega) (by have := HB.out.2.2.2.size; simp only [World.size_alloc]; omega) ?_); intro v1 w2 ho1 hg1 hf1; obtain ⟨gs, k1, rfl, HI2⟩ := HPU.out v1 w2 ho1 hg1; clear ho1 hg1 hf1)
            refine wp_named ?_
            intro w3 hw3
            obtain ⟨b8, hb8⟩ : ∃ g, w2.heap.size = g := ⟨_, rfl⟩
            have h80 : w.heap.size + 1 < b8 := by have := HI2.out.2.1.lt; omega
            have HJ := Lib.hid (show RSw w w.heap.size (w.heap.size + 1) b8 [.slice A (ints sN).length c, .int .i64 on, .slice (some ⟨bD, oD, none⟩) d.length e] gs k1 (ints sN).length cs.length (ints sN) none 0 0 [] w3 from by
              have hb : Below w2.heap.size w2 w3 := by rw [hw3]; exact below_alloc _
              have bb : Blk w3 b8 [.slice (some ⟨gs, 0, none⟩) (ints sN).length k1, .int .i64 cs.length, .slice none 0 0] 24 := by rw [hw3]; exact Blk.at hb8
              exact ⟨HI2.out.1.kept hb, HI2.out.2.1.kept hb, bb, HI2.out.2.2.1.kept hb, Own.nil _ _, (fun g hg => by cases hg), below_trans HI2.out.2.2.2 hb⟩)
            rw [hb8]
            have HB0 := Lib.hid HB.out.2.2.2
            clear hw3 hb8 HI2 HPU HA HB c0 hlt0 hlt1 hw1 hml hbig hlt hk
            go_wp2_with fail
            go_loopw [8] (fun i wr => ∃ n Ad kd, n ≤ pr sN ∧ i = .int .i64 (n : Nat) ∧ RSw w w.heap.size (w.heap.size + 1) b8 [.slice A (ints sN).length c, .int .i64 on, .slice (some ⟨bD, oD, none⟩) d.length e] gs k1 (ints sN).length cs.length (ints sN) Ad (n * cs.length) kd (gathered (pickD d on cs) n) wr) (fun i _ => pr sN - (intOf i).toNat)
            case atStart => exact ⟨0, none, 0, Nat.zero_le _, rfl, by rw [Nat.zero_mul]; exact HJ.out⟩
            case round =>
              clear HJ
              obtain ⟨n, Ad, kd, hn, rfl, hI⟩ := hrel
              have HK := Lib.hid hI
              have c0 := hI.grid.cell (i := 0) rfl
              clear hI
              go_wp2_with fail
              refine (points_calls A c (ints sN) _ (HS.out.kept HK.out.below) ls).mono ?_
              rintro r w9 ⟨rfl, rfl⟩
              rw [HP.out]
              by_cases hlt : n < pr sN
              · clear c0
                go_wp2_with fail
                go_loopw [9] (fun i wq => ∃ j Ad kd, j ≤ cs.length ∧ i = .int .i64 (j : Nat) ∧ RSw w w.heap.size (w.heap.size + 1) b8 [.slice A (ints sN).length c, .int .i64 on, .slice (some ⟨bD, oD, none⟩) d.length e] gs k1 (ints sN).length cs.length (ints sN) Ad (n * cs.length + j) kd (gathered (pickD d on cs) n ++ (cs.take j).map (fun c => (rowAt d on n).getD c.toNat 0)) wq) (fun i _ => cs.length - (intOf i).toNat)
                case atStart => exact ⟨0, Ad, kd, Nat.zero_le _, rfl, by simpa using HK.out⟩
                case round =>
                  clear HK
                  obtain ⟨j, Ad, kd, hj, rfl, hI⟩ := hrel
                  by_cases hlj : j < cs.length
                  · obtain ⟨x, bI, oI, hx, rfl, hcx⟩ := HI.out.at hlj
                    have hxin : 0 ≤ x ∧ x < on := by
                      have h := HCOL.out
                      unfold colsB at h
                      have := List.all_eq_true.1 h x (List.mem_of_getElem? hx)
                      simpa using this
                    obtain ⟨xn, rfl⟩ := Int.eq_ofNat_of_zero_le hxin.1
                    have hxn : xn < on := by omega
                    have hnm : (n + 1) * on ≤ pr sN * on := Nat.mul_le_mul_right _ hlt
                    rw [Nat.succ_mul] at hnm
                    have hdl : n * on + xn < d.length := by rw [HDAT.out.1]; omega
                    obtain ⟨y, bd', od', hy, hve, hcy⟩ := HD.out.at hdl
                    cases hve
                    have hrow : (rowAt d on n).getD xn 0 = y := by
                      unfold rowAt
                      rw [List.getD_eq_getElem?_getD, List.getElem?_take, if_pos hxn, List.getElem?_drop, hy]; rfl
                    replace hcx := Ytkkohelbidmkdaa.kept hI.below hcx
                    replace hcy := Ytkkohelbidmkdaa.kept hI.below hcy
                    obtain ⟨N1, hN1⟩ : ∃ N, n * on = N := ⟨_, rfl⟩
                    obtain ⟨N2, hN2⟩ : ∃ N, n * on + xn = N := ⟨_, rfl⟩
                    have hw1 : IntKind.i64.wrap ((n : Int) * (on : Int)) = (N1 : Int) := by rw [IntWalk.i64_left, ← Int.natCast_mul, hN1]; exact wrap64_id (by omega) (by omega)
                    have hw2 : IntKind.i64.wrap ((N1 : Int) + (xn : Int)) = (N2 : Int) := by rw [IntWalk.i64_left, ← hN2, hN1, Int.natCast_add]; exact wrap64_id (by omega) (by omega)
                    rw [hN2] at hdl hcy
                    have hnl : n * cs.length + j ≤ 26244 := by
                      have h1 : (n + 1) * cs.length ≤ 6561 * 4 := Nat.mul_le_mul (by omega) hc4
                      rw [Nat.succ_mul] at h1; omega
                    have c1 := hI.grid.cell (i := 1) rfl
                    have c2 := hI.grid.cell (i := 2) rfl
                    have k82 := hI.out.cell (i := 2) rfl
                    have HK := Lib.hid (And.intro hI (And.intro hx (And.intro hrow hnl)))
                    clear hI hx hrow hnl hy hN1 hN2 hnm hxin
                    go_wp2_with fail
                    refine wp_seq_tail 16 (fun k => k == 15) (fun _ q => .slice (some ⟨q.i, 0, none⟩) 1 1) (fun _ q W => Blk W q.i [.int .i64 y] 3) (by kernel_rfl) (by kernel_rfl) (by decide) (fun _ _ _ _ hb h => h.kept hb) ?_
                    repeat (first | (refine seq_skip (by rfl) ?_; simp only [Act.put, List.setIfInBounds_toArray, List.set_cons_zero, List.set_cons_succ, Nat.reduceAdd]) | (refine seq_pure (v := ?_) (by rfl) (by rfl) (fun W hW hC => ?_) ?_; rotate_left; (go_simp <;> with_reducible rfl); simp only [Act.put, List.setIfInBounds_toArray, List.set_cons_zero, List.set_cons_succ, Nat.reduceAdd]))
                    refine seq_made (by rfl) (by rfl) (fun W hW hC hF R hR => ?_) (fun q => ?_)
                    · unfold Gives; go_simp; exact hR {i := W.heap.size} _ (below_alloc _) (Blk.new _ _ _)
                    simp only [Act.put, List.setIfInBounds_toArray, List.set_cons_zero, List.set_cons_succ, Nat.reduceAdd]
                    refine seq_nil ?_; intro W hW hF
                    have hbl := hF _ _ (List.mem_cons_self ..)
                    clear hF
                    obtain ⟨gl, hgl⟩ : ∃ g, q.i = g := ⟨_, rfl⟩
                    rw [hgl] at hbl ⊢
                    clear hgl q
                    have hcs1 : Cs W .i64 (some ⟨gl, 0, none⟩) [y] := by
                      intro q z hz
                      cases q with
                      | zero => simp at hz; subst hz; exact ⟨gl, 0, rfl, hbl.cell (i := 0) rfl⟩
                      | succ q => simp at hz
                    have HK2 := Lib.hid (And.intro (HK.out.1.kept hW) HK.out.2)
                    clear hW HK c1 c2 k82 hcx hcy
                    refine append_ints2 (by rfl) (.tmp 64) (.tmp 78) rfl w.heap.size (.slice Ad (n * cs.length + j) kd) (gathered (pickD d on cs) n ++ (cs.take j).map (fun c => (rowAt d on n).getD c.toNat 0)) rfl HK2.out.1.data (some ⟨gl, 0, none⟩) 1 [y] rfl hcs1 (fun h => by cases h) (by rw [HK2.out.1.data.length.1]; have := HK2.out.2.2.2; simp only [List.length_singleton]; omega) HK2.out.1.below.size ?_
                    intro v' w13 how hgr hfr
                    obtain ⟨q0, q1, q2, q3, q4, q5, q6⟩ := HK2.out.1
                    have g0 := Blk.grown q4 hgr q0 (by decide)
                    have g1 := Blk.grown q4 hgr q1 (by decide)
                    have g2 := Blk.grown q4 hgr q2 (by decide)
                    have hb4 := q4.below hgr (Nat.le_refl _) q6
                    have hoo := q3.grown hgr (fun g hg he => q5 g he (by cases hg; rfl))
                    have hap : ∀ g, v'.ownBlock = some g → g ≠ gs := by
                      intro g hg
                      rcases hfr g hg with h | h
                      · exact q5 g h
                      · have := (q3.block_ge gs rfl).2; omega
                    have hlen := q4.length.1
                    obtain ⟨A'', k'', hv', _, _, _, _⟩ := how.cs
                    rw [List.length_append, hlen, List.length_singleton] at hv'
                    subst hv'
                    have k82 := g2.cell (i := 2) rfl
                    have f82 := g2.free 2
                    have HG := Lib.hid (And.intro g0 (And.intro g1 (And.intro g2 (And.intro how (And.intro hb4 (And.intro hoo hap))))))
                    clear q0 q1 q2 q3 q4 q5 q6 g0 g1 g2 how hb4 hoo hap hgr hfr hlen hcs1 hbl
                    simp only [Act.put, List.setIfInBounds_toArray, List.set_cons_zero, List.set_cons_succ, Nat.reduceAdd]
                    go_wp2
                    go_roundw
                    case rel =>
                      obtain ⟨g0, g1, g2, how, hb4, hoo, hap⟩ := HG.out
                      refine ⟨j + 1, A'', k'', by omega, by go_num, g0.other (by dsimp only; omega) _, g1.other (by dsimp only; omega) _, g2.set 2 _, hoo.other (fun g hg => hoo.ne_blk hg g2 (by decide)) _, ?_, hap, hb4.setCell (by dsimp only; omega) _⟩
                      rw [take_at HK2.out.2.1, List.map_append, ← List.append_assoc, List.map_cons, List.map_nil, Int.toNat_natCast, HK2.out.2.2.1]
                      exact how.other (fun g hg => how.ne_blk hg g2 (by decide)) _
                    case measure => simp [intOf]; omega
                  · have hje : j = cs.length := by omega
                    subst hje
                    rw [List.take_of_length_le (Nat.le_refl _), ← Nat.succ_mul] at hI
                    have HK := Lib.hid hI
                    clear hI
                    go_wp2
                    go_roundw
                    case rel => exact ⟨n + 1, Ad, kd, by omega, by go_num, HK.out⟩
                    case measure => simp [intOf]; omega
              · have hne : n = pr sN := by omega
                subst hne
                have k80 := HK.out.out.cell (i := 0) rfl
                have k81 := HK.out.out.cell (i := 1) rfl
                have k82 := HK.out.out.cell (i := 2) rfl
                have r0 := HK.out.res.cell (i := 0) rfl
                have r1 := HK.out.res.cell (i := 1) rfl
                have r2 := HK.out.res.cell (i := 2) rfl
                have f0 := HK.out.res.free 0
                have f1 := HK.out.res.free 1
                have f2 := HK.out.res.free 2
                go_wp2_with fail
                refine bodyPost_ret (v := .tuple #[.agg #[.slice (some ⟨gs, 0, none⟩) (ints sN).length k1, .int .i64 cs.length, .slice Ad (pr sN * cs.length) kd], .int .i64 0]) (by simp [results, Try.results22, go_sem, *]) rfl ⟨_, _, by rw [HR.out], ?_, ?_, below_set3 HK.out.below (by omega) _ _ _⟩
                · rw [HR.out]
                  exact HK.out.sizes.other3 (b := w.heap.size + 1) (fun g hg => HK.out.sizes.ne_blk hg HK.out.res (by decide)) (.slice (some ⟨gs, 0, none⟩) (ints sN).length k1) (.int .i64 cs.length) (.slice Ad (pr sN * cs.length) kd)
                · rw [HR.out]
                  exact HK.out.data.other3 (b := w.heap.size + 1) (fun g hg => HK.out.data.ne_blk hg HK.out.res (by decide)) (.slice (some ⟨gs, 0, none⟩) (ints sN).length k1) (.int .i64 cs.length) (.slice Ad (pr sN * cs.length) kd)
    · have hin : inI 1 4 (cs.length : Int) = false := by unfold inI; simp; omega
      rw [hin]
      have HR := Lib.hid (show pickR (ints sN) on d cs = ([], 0, [], 2) by
        unfold pickR; rw [if_neg (by rw [HSN.out.2.1]; simp), if_pos (by omega)])
      clear hcl hin
      go_wp2_with fail
      refine bodyPost_ret (v := .tuple #[.agg #[.slice none 0 0, .int .i64 0, .slice none 0 0], .int .i64 2]) (by simp [results, Try.results22, go_sem, *]) rfl ⟨.slice none 0 0, .slice none 0 0, by rw [HR.out], by rw [HR.out]; exact Own.nil _ _, by rw [HR.out]; exact Own.nil _ _, below_set3 HB.out.2.2 (by omega) _ _ _⟩
  · have hR : pickR s o d cs = ([], 0, [], 100) := by unfold pickR; rw [if_pos hc]
    have HR := Lib.hid hR
    rw [decide_eq_false hc]
    clear hc hR
    go_wp2_with fail
    refine bodyPost_ret (v := .tuple #[.agg #[.slice none 0 0, .int .i64 0, .slice none 0 0], .int .i64 100]) (by simp [results, Try.results22, go_sem, *]) rfl ⟨.slice none 0 0, .slice none 0 0, by rw [HR.out], by rw [HR.out]; exact Own.nil _ _, by rw [HR.out]; exact Own.nil _ _, below_set3 HB.out.2.2 (by omega) _ _ _⟩
end Go.Proofs.Ytkkohelbidmkdaa
