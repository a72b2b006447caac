/-
  The law GridPlaces, walked.
-/
import Derived.Test.YtkkohelbidmkdaaGFour
import Derived.Test.YtkkohelbidmkdaaGWakes
namespace Go.Proofs.Ytkkohelbidmkdaa
set_option linter.unusedVariables false
set_option linter.unusedSimpArgs false
open Go Go.RowKit

/-- One of four grids. -/
theorem index_four (a0 b0 a1 b1 a2 b2 a3 b3 : Value) (o0 o1 o2 o3 : Int) {W : World} (h0 : IsGrid W (.agg #[a0, .int .i64 o0, b0])) (h1 : IsGrid W (.agg #[a1, .int .i64 o1, b1])) (h2 : IsGrid W (.agg #[a2, .int .i64 o2, b2])) (h3 : IsGrid W (.agg #[a3, .int .i64 o3, b3])) {k : Nat} (hk : k < 4) :
    ∃ A c s o B e d, GridV W (.agg #[.slice A (s : List Int).length c, .int .i64 o, .slice B (d : List Int).length e]) A c s o B e d ∧
      ∀ w, (Instr.index 34 (.agg #[a0, .int .i64 o0, b0, a1, .int .i64 o1, b1, a2, .int .i64 o2, b2, a3, .int .i64 o3, b3]) (.int .i64 (k : Int))).run Try.prog w = .ok (.agg #[.slice A s.length c, .int .i64 o, .slice B d.length e]) w := by
  have hcase : k = 0 ∨ k = 1 ∨ k = 2 ∨ k = 3 := by omega
  rcases hcase with rfl | rfl | rfl | rfl
  · obtain ⟨A, c, s, o, B, e, d, h⟩ := h0
    exact ⟨A, c, s, o, B, e, d, by rw [← h.eq]; exact h, fun w => by rw [← h.eq]; kernel_rfl⟩
  · obtain ⟨A, c, s, o, B, e, d, h⟩ := h1
    exact ⟨A, c, s, o, B, e, d, by rw [← h.eq]; exact h, fun w => by rw [← h.eq]; kernel_rfl⟩
  · obtain ⟨A, c, s, o, B, e, d, h⟩ := h2
    exact ⟨A, c, s, o, B, e, d, by rw [← h.eq]; exact h, fun w => by rw [← h.eq]; kernel_rfl⟩
  · obtain ⟨A, c, s, o, B, e, d, h⟩ := h3
    exact ⟨A, c, s, o, B, e, d, by rw [← h.eq]; exact h, fun w => by rw [← h.eq]; kernel_rfl⟩

theorem index_three (l0 l1 l2 : Value) {k : Nat} (hk : k < 3) {p : Value → Prop} (h0 : p l0) (h1 : p l1) (h2 : p l2) :
    ∃ v, p v ∧ ∀ w, (Instr.index 37 (.agg #[l0, l1, l2]) (.int .i64 (k : Int))).run Try.prog w = .ok v w := by
  have hcase : k = 0 ∨ k = 1 ∨ k = 2 := by omega
  rcases hcase with rfl | rfl | rfl
  · exact ⟨l0, h0, fun w => by kernel_rfl⟩
  · exact ⟨l1, h1, fun w => by kernel_rfl⟩
  · exact ⟨l2, h2, fun w => by kernel_rfl⟩

set_option maxRecDepth 100000 in
set_option maxHeartbeats 3200000 in
theorem gridPlaces_calls (v1 v2 : Value) (ro : Int) (d : Value) (x a n x' a' n' : Int) (I : Option Addr) (ci : Nat) (ixs : List Int) (s0 s1 s2 s3 : Int) (w : World) (hr : IsGrid w (.agg #[v1, .int .i64 ro, v2])) (hd : DraftV w d) (hx0 : 0 ≤ x) (hx1 : x ≤ 255) (ha0 : 0 ≤ a) (ha1 : a ≤ 255) (hx0' : 0 ≤ x') (hx1' : x' ≤ 255) (ha0' : 0 ≤ a') (ha1' : a' ≤ 255)
    (hi : Cs w .i64 I ixs) (li : ixs.length ≤ ci) (lc : ci ≤ 9223372036854775807) (hI : I = none → ci = 0) (hs0 : 0 ≤ s0 ∧ s0 ≤ 255) (hs1 : 0 ≤ s1 ∧ s1 ≤ 255) (hs2 : 0 ≤ s2 ∧ s2 ≤ 255) (hs3 : 0 ≤ s3 ∧ s3 ≤ 255) :
    Calls Try.prog 3 #[.agg #[v1, .int .i64 ro, v2], d, .agg #[.int .u8 x, .int .u8 a, .int .i64 n, .int .u8 x', .int .u8 a', .int .i64 n'], .slice I ixs.length ci, .agg #[.int .u8 s0, .int .u8 s1, .int .u8 s2, .int .u8 s3]] w fun r w' => r = .returned (.bool true) ∧ Below w.heap.size w w' := by
  obtain ⟨RA, rn, rc, RB, rm, re, rfl, rfl⟩ := hr.shape
  have HD := Lib.hid hd
  obtain ⟨S, cs, ss, du, V, cv, vs, sm, rfl, _⟩ := hd.is
  have HR := Lib.hid hr
  have HI := Lib.hid hi
  clear hd hr hi
  obtain ⟨mi, hmi⟩ : ∃ m, min ixs.length 6 = m := ⟨_, rfl⟩
  have hmi1 : (if (6 : Int) < (ixs.length : Int) then (6 : Int) else (ixs.length : Int)) = (mi : Int) := by omega
  have hmc : mi ≤ ci := by omega
  have hm6 : mi ≤ 6 := by omega
  have HL := Lib.hid (show (ixs.take mi).length = mi by rw [List.length_take]; omega)
  clear hmi
  go_enter Try.func3, Try.ntmps3
  go_wp2_with fail
  refine calls_named ?_
  intro w1 hw1
  have p0 : Blk w1 w.heap.size [.slice RA rn rc, .int .i64 ro, .slice RB rm re] 24 := by rw [hw1]; exact (((Blk.new _ _ _).alloc _).alloc _).alloc _
  have p1 : Blk w1 (w.heap.size + 1) [.slice S ss.length cs, .int .u8 du, .slice V vs.length cv, .bool sm] 28 := by rw [hw1]; exact ((Blk.at (by simp)).alloc _).alloc _
  have p2 : Blk w1 (w.heap.size + 1 + 1) [.int .u8 x, .int .u8 a, .int .i64 n, .int .u8 x', .int .u8 a', .int .i64 n'] 31 := by rw [hw1]; exact (Blk.at (by simp)).alloc _
  have p3 : Blk w1 (w.heap.size + 1 + 1 + 1) [.int .u8 s0, .int .u8 s1, .int .u8 s2, .int .u8 s3] 32 := by rw [hw1]; exact Blk.at (by simp)
  have hb1 : Below w.heap.size w w1 := by rw [hw1]; repeat (first | exact below_alloc _ | refine below_trans ?_ (below_alloc _))
  clear hw1
  refine (wakes_calls w1).mono ?_
  rintro r w2 ⟨rfl, hb2⟩
  replace p0 := p0.kept hb2
  replace p1 := p1.kept hb2
  replace p2 := p2.kept hb2
  replace p3 := p3.kept hb2
  have hb12 := below_trans hb1 hb2
  have c0 := p0.cell (i := 0) rfl
  have c1 := p0.cell (i := 1) rfl
  have c2 := p0.cell (i := 2) rfl
  have c3 := p1.cell (i := 0) rfl
  have c4 := p1.cell (i := 1) rfl
  have c5 := p1.cell (i := 2) rfl
  have c6 := p1.cell (i := 3) rfl
  have c7 := p2.cell (i := 0) rfl
  have c8 := p2.cell (i := 1) rfl
  have c9 := p2.cell (i := 2) rfl
  have c10 := p2.cell (i := 3) rfl
  have c11 := p2.cell (i := 4) rfl
  have c12 := p2.cell (i := 5) rfl
  have HB := Lib.hid (And.intro hb12 p3)
  clear p0 p1 p2 p3 hb1 hb2 hb12
  go_wp2_with fail
  refine (four_calls _ _ _ _ _ _ _ _ _ _ _ (HR.out.kept HB.out.1) (HD.out.kept HB.out.1) hx0 hx1 ha0 ha1 hx0' hx1' ha0' ha1').mono ?_
  rintro r w3 ⟨a0, o0, b0, a1, o1, b1, a2, o2, b2, a3, o3, b3, rfl, g0, g1, g2, g3, hb3⟩
  have HG := Lib.hid (And.intro g0 (And.intro g1 (And.intro g2 (And.intro g3 (And.intro (HB.out.2.kept hb3) (below_trans HB.out.1 hb3))))))
  clear c0 c1 c2 c3 c4 c5 c6 c7 c8 c9 c10 c11 c12 g0 g1 g2 g3 hb3 HB
  go_wp2_with fail
  go_loopw [37] (fun i wr => ∃ k, k ≤ 4 ∧ i = .int .i64 (k : Nat) ∧ Below w3.heap.size w3 wr) (fun i _ => 4 - (intOf i).toNat)
  case atStart => exact ⟨0, Nat.zero_le _, rfl, Below.refl _ _⟩
  case round =>
    obtain ⟨k, hk, rfl, hbr⟩ := hrel
    by_cases hlt : k < 4
    · have hkb : decide ((k : Int) < 4) = true := decide_eq_true (by omega)
      obtain ⟨A, c, s, o, B, e, dd, hgv, hix⟩ := index_four a0 b0 a1 b1 a2 b2 a3 b3 o0 o1 o2 o3 (HG.out.1.kept hbr) (HG.out.2.1.kept hbr) (HG.out.2.2.1.kept hbr) (HG.out.2.2.2.1.kept hbr) hlt
      have HV := Lib.hid hgv
      have HBR := Lib.hid hbr
      obtain ⟨ms, hms⟩ : ∃ m, min s.length 4 = m := ⟨_, rfl⟩
      have hms1 : (if (4 : Int) < (s.length : Int) then (4 : Int) else (s.length : Int)) = (ms : Int) := by omega
      have hmsc : ms ≤ c := by have := hgv.ls; omega
      have hms4 : ms ≤ 4 := by omega
      have hmss : ms ≤ s.length := by omega
      clear hms hgv hbr
      go_wp2_with fail
      refine wp_named ?_
      intro w4 hw4
      have b12 : Blk w4 wr.heap.size [.slice A s.length c, .int .i64 o, .slice B dd.length e] 24 := by rw [hw4]; exact Blk.at rfl
      have hb4 : Below wr.heap.size wr w4 := by rw [hw4]; repeat (first | exact below_alloc _ | refine below_trans ?_ (below_alloc _))
      clear hw4 hix hkb
      have HC := Lib.hid (And.intro b12 (And.intro (HV.out.kept hb4) (And.intro (HG.out.2.2.2.2.1.kept (below_trans HBR.out hb4)) (below_trans HBR.out hb4))))
      clear b12 hb4 HV
      go_loopw [13, 48] (fun v j wq => ∃ jn A' ka ins, jn ≤ ms ∧ j = .int .i64 (jn : Nat) ∧ v = .slice A' jn ka ∧ (ins : List Int).length = jn ∧ Own wq w4.heap.size (.slice A' jn ka) ins ∧ Below w4.heap.size w4 wq) (fun _ j _ => ms - (intOf j).toNat)
      case atStart => exact ⟨0, none, 0, [], Nat.zero_le _, rfl, rfl, rfl, Own.nil _ _, Below.refl _ _⟩
      case round =>
        obtain ⟨j, A', ka, ins, hj, rfl, rfl, hil, how, hbq⟩ := hrel
        by_cases hlj : j < ms
        · obtain ⟨y, bs, os, hy, rfl, hcy⟩ := HC.out.2.1.cs.at (i := j) (by omega)
          replace hcy := Ytkkohelbidmkdaa.kept hbq hcy
          obtain ⟨sj, hsj0, hsj1, hsc⟩ : ∃ sj : Int, 0 ≤ sj ∧ sj ≤ 255 ∧ w4.cell? ⟨w.heap.size + 1 + 1 + 1, j, none⟩ = some (.int .u8 sj) := by
            have hcase : j = 0 ∨ j = 1 ∨ j = 2 ∨ j = 3 := by omega
            rcases hcase with rfl | rfl | rfl | rfl
            · exact ⟨s0, hs0.1, hs0.2, HC.out.2.2.1.cell rfl⟩
            · exact ⟨s1, hs1.1, hs1.2, HC.out.2.2.1.cell rfl⟩
            · exact ⟨s2, hs2.1, hs2.2, HC.out.2.2.1.cell rfl⟩
            · exact ⟨s3, hs3.1, hs3.2, HC.out.2.2.1.cell rfl⟩
          replace hsc := Ytkkohelbidmkdaa.kept hbq hsc
          have hj4 : j < 4 := by omega
          obtain ⟨q, hq⟩ : ∃ q : Int, (if (300 : Int) < y then (300 : Int) else y) = q := ⟨_, rfl⟩
          obtain ⟨r, hr⟩ : ∃ r : Int, IntKind.i64.wrap (q + 1) = r := ⟨_, rfl⟩
          obtain ⟨mm, hmm⟩ : ∃ m : Int, (if 1 < r then r else 1) = m := ⟨_, rfl⟩
          have hmm1 : 1 ≤ mm := by omega
          obtain ⟨z, hz⟩ : ∃ z : Int, sj % mm = z := ⟨_, rfl⟩
          have hmm0 : ¬ mm = 0 := by omega
          clear hy
          have HA := Lib.hid (And.intro (how.kept (below_alloc (.cells #[.int .i64 z] 3))) (one_cs wr z))
          have hpush : ∀ v' w5, Own w5 w4.heap.size v' (ins ++ [z]) → (wr.alloc (.cells #[.int .i64 z] 3)).grownBy w5 (Value.slice A' j ka).ownBlock →
              ∃ A' ka', v' = .slice A' (j + 1) ka' ∧ (Own w5 w4.heap.size (.slice A' (j + 1) ka') (ins ++ [z]) ∧ Below w4.heap.size w4 w5) := by
            intro v' w5 ho hg
            obtain ⟨A', ka', hv', _, _, _, _⟩ := ho.cs
            rw [List.length_append, hil, List.length_singleton] at hv'
            subst hv'
            exact ⟨A', ka', rfl, ho, HA.out.1.below hg (Nat.le_refl _) (below_trans hbq (below_alloc _))⟩
          have HPU := Lib.hid (And.intro hpush (And.intro hil hbq.size))
          clear how hil hpush hbq
          go_upto_region 12 with (at_builtin; (refine append_ints rfl _ _ rfl w4.heap.size (.slice A' j ka) ins rfl HA.out.1 (some ⟨wr.heap.size, 0, none⟩) 1 [z] rfl HA.out.2 (fun h => by cases h) (by rw [HPU.out.2.1]; simp only [List.length_singleton]; omega) (by have := HPU.out.2.2; simp only [World.size_alloc]; omega) ?_); intro v' w5 ho hg; obtain ⟨A'', ka', rfl, hI⟩ := HPU.out.1 v' w5 ho hg; have HI5 := Lib.hid hI; clear ho hg hI)
          go_wp2
          go_roundw
          case rel => exact ⟨j + 1, A'', ka', ins ++ [z], by omega, by go_num, rfl, by simp [HPU.out.2.1], HI5.out.1, HI5.out.2⟩
          case measure => simp [intOf]; omega
        · have hjm : j = ms := by omega
          subst hjm
          subst hil
          obtain ⟨_, hc1, hc2, hc3, hcs⟩ := how.length
          have HW := Lib.hid (And.intro how (And.intro hcs hbq))
          clear how hcs hbq hlj hj
          go_wp2_with fail
          refine (clone_calls A' ka ins _ HW.out.2.1 hc3 (by omega)).mono ?_
          rintro r w6 ⟨vc, rfl, hoc, hb6⟩
          obtain ⟨Ac, kc, rfl, hk1, hk2, hk3, _⟩ := hoc.cs
          have HA := Lib.hid (And.intro hoc ((HI.out.kept (below_trans HC.out.2.2.2 (below_trans HW.out.2.2 hb6) |> below_trans HG.out.2.2.2.2.2)).head mi))
          have HB6 := Lib.hid (And.intro (below_trans HW.out.2.2 hb6) (And.intro hb6.size hb6))
          clear hoc hb6
          have hpush : ∀ v' w7, Own w7 wr.heap.size v' (ins ++ ixs.take mi) → w6.grownBy w7 (Value.slice Ac ins.length kc).ownBlock →
              ∃ A7 k7, v' = .slice A7 (ins.length + mi) k7 ∧ Hid (Cs w7 .i64 A7 (ins ++ ixs.take mi) ∧ Below w4.heap.size w4 w7 ∧ Cs w7 .i64 A' ins) := by
            intro v' w7 ho hg
            obtain ⟨A7, k7, hv', _, _, _, hcs7⟩ := ho.cs
            exact ⟨A7, k7, by rw [hv', List.length_append, HL.out], Lib.hid ⟨hcs7, (HA.out.1.lower (base' := w4.heap.size) HW.out.2.2.size).below hg (Nat.le_refl _) HB6.out.1, ((HW.out.1.kept HB6.out.2.2).grown hg (fun g hg1 hg2 => by have := (HW.out.1.block_ge g hg1).2; have := (HA.out.1.block_ge g hg2).1; omega)).length.2.2.2.2⟩⟩
          have HPU := Lib.hid hpush
          clear hpush hk1 hk2 hk3
          go_upto_region 15 with (at_builtin; go_loud (refine append_ints rfl _ _ rfl _ (.slice Ac ins.length kc) ins rfl HA.out.1 I ci (ixs.take mi) (by rw [HL.out]; rfl) HA.out.2 hI (by rw [HL.out]; omega) HB6.out.2.1 ?_); intro v' w7 ho7 hg7; obtain ⟨A7, k7, rfl, HI7⟩ := HPU.out v' w7 ho7 hg7; clear ho7 hg7)
          have HP3 := Lib.hid (show (∃ A c xs, (Value.slice I mi ci) = .slice A (xs : List Int).length c ∧ Cs w7 .i64 A xs ∧ xs.length ≤ 16) ∧ (∃ A c xs, (Value.slice A' ins.length ka) = .slice A (xs : List Int).length c ∧ Cs w7 .i64 A xs ∧ xs.length ≤ 16) ∧
              (∃ A c xs, (Value.slice A7 (ins.length + mi) k7) = .slice A (xs : List Int).length c ∧ Cs w7 .i64 A xs ∧ xs.length ≤ 16) from by
            refine ⟨⟨I, ci, ixs.take mi, by rw [HL.out], (HI.out.kept (below_trans HG.out.2.2.2.2.2 (below_trans HC.out.2.2.2 HI7.out.2.1))).head mi, by rw [HL.out]; omega⟩, ⟨A', ka, ins, rfl, HI7.out.2.2, by omega⟩, ⟨A7, k7, ins ++ ixs.take mi, by rw [List.length_append, HL.out], HI7.out.1, by rw [List.length_append, HL.out]; omega⟩⟩)
          have HB7 := Lib.hid (And.intro HC.out.1 (And.intro HC.out.2.1 (And.intro (below_trans HC.out.2.2.2 HI7.out.2.1) HI7.out.2.1)))
          clear HC HW HI7 HA HB6 HPU hms1
          go_loopw [73] (fun i wq => ∃ q, q ≤ 3 ∧ i = .int .i64 (q : Nat) ∧ Below w7.heap.size w7 wq) (fun i _ => 3 - (intOf i).toNat)
          case atStart => exact ⟨0, Nat.zero_le _, rfl, Below.refl _ _⟩
          case round =>
            obtain ⟨q, hq, rfl, hbq⟩ := hrel
            by_cases hlq : q < 3
            · have hqb : decide ((q : Int) < 3) = true := decide_eq_true (by omega)
              obtain ⟨vl, ⟨AL, cL, xs, rfl, hxs, hlx⟩, hix⟩ := index_three (.slice I mi ci) (.slice A' ins.length ka) (.slice A7 (ins.length + mi) k7) hlq (p := fun v => ∃ A c xs, v = .slice A (xs : List Int).length c ∧ Cs w7 .i64 A xs ∧ xs.length ≤ 16) HP3.out.1 HP3.out.2.1 HP3.out.2.2
              have b12 := HB7.out.1.kept (below_trans HB7.out.2.2.2 hbq)
              have hgv := HB7.out.2.1.kept (below_trans HB7.out.2.2.2 hbq)
              have HX := Lib.hid (And.intro (hxs.kept hbq) (And.intro hgv hbq))
              have c0 := b12.cell (i := 0) rfl
              have c1 := b12.cell (i := 1) rfl
              have c2 := b12.cell (i := 2) rfl
              have HQ := Lib.hid b12
              clear b12 hgv hxs hbq
              go_wp2_with fail
              refine (gridPlace_calls A B AL c e cL s dd xs o _ HX.out.2.1.cs HX.out.2.1.cd HX.out.1 (by have := HX.out.2.1.ls; have := HX.out.2.1.lc; omega) (by have := HX.out.2.1.ld; have := HX.out.2.1.le; omega) (by omega)).mono ?_
              rintro r w8 ⟨rfl, hb8⟩
              obtain ⟨⟨pp1, pp2⟩, hpr⟩ : ∃ p, placeR s o dd xs = p := ⟨_, rfl⟩
              rw [hpr]
              have b12 := HQ.out.kept hb8
              have HX8 := Lib.hid (And.intro (HX.out.1.kept hb8) (And.intro (HX.out.2.1.kept hb8) (below_trans HX.out.2.2 hb8)))
              clear c0 c1 c2 HX HQ hb8 hix
              have c0 := b12.cell (i := 0) rfl
              have c1 := b12.cell (i := 1) rfl
              have c2 := b12.cell (i := 2) rfl
              have HQ := Lib.hid b12
              have HPR := Lib.hid hpr
              clear b12 hpr
              dsimp only
              go_wp2_with fail
              refine (refPlaceFn_calls A B AL c e cL s dd xs o _ HX8.out.2.1.cs HX8.out.2.1.cd HX8.out.1 (by have := HX8.out.2.1.ls; have := HX8.out.2.1.lc; omega) (by have := HX8.out.2.1.ld; have := HX8.out.2.1.le; omega) (by omega)).mono ?_
              rintro r w9 ⟨rfl, hb9⟩
              rw [HPR.out]
              have b12 := HQ.out.kept hb9
              have HX9 := Lib.hid (And.intro (HX8.out.1.kept hb9) (And.intro (HX8.out.2.1.kept hb9) (below_trans HX8.out.2.2 hb9)))
              clear c0 c1 c2 HX8 HQ hb9
              have c0 := b12.cell (i := 0) rfl
              have c1 := b12.cell (i := 1) rfl
              have c2 := b12.cell (i := 2) rfl
              have HQ := Lib.hid b12
              clear b12
              dsimp only
              go_wp2_with fail
              refine (gridAt_calls A B AL c e cL s dd xs o _ HX9.out.2.1.cs HX9.out.2.1.cd HX9.out.1 (by have := HX9.out.2.1.ls; have := HX9.out.2.1.lc; omega) HX9.out.2.1.ld HX9.out.2.1.le (by omega)).mono ?_
              rintro r w10 ⟨va, rfl, hoa, hb10⟩
              obtain ⟨⟨ar1, ar2⟩, har⟩ : ∃ p, atR s o dd xs = p := ⟨_, rfl⟩
              rw [har] at hoa ⊢
              obtain ⟨Aa, ka', rfl, ha1', ha2', _, hcsa⟩ := hoa.cs
              have b12 := HQ.out.kept hb10
              have HX10 := Lib.hid (And.intro (HX9.out.1.kept hb10) (And.intro (HX9.out.2.1.kept hb10) (And.intro (below_trans HX9.out.2.2 hb10) (And.intro hcsa (Nat.le_trans ha1' ha2')))))
              clear c0 c1 c2 HX9 HQ hb10 hoa hcsa ha1' ha2'
              have c0 := b12.cell (i := 0) rfl
              have c1 := b12.cell (i := 1) rfl
              have c2 := b12.cell (i := 2) rfl
              have HQ := Lib.hid b12
              have HAR := Lib.hid har
              clear b12 har
              dsimp only
              go_wp2_with fail
              refine (refAt_calls A B AL c e cL s dd xs o _ HX10.out.2.1.cs HX10.out.2.1.cd HX10.out.1 (by have := HX10.out.2.1.ls; have := HX10.out.2.1.lc; omega) HX10.out.2.1.ld HX10.out.2.1.le (by omega)).mono ?_
              rintro r w11 ⟨vb, rfl, hob, hb11⟩
              rw [HAR.out] at hob ⊢
              obtain ⟨Ab, kb', rfl, hb1', hb2', _, hcsb⟩ := hob.cs
              have HX11 := Lib.hid (And.intro (below_trans HX10.out.2.2.1 hb11) (And.intro (HX10.out.2.2.2.1.kept hb11) (And.intro hcsb HX10.out.2.2.2.2)))
              clear c0 c1 c2 HX10 HQ hb11 hob hcsb hb1' hb2'
              dsimp only
              have hn1 : (pp1 != pp1) = false := by simp
              have hn2 : (pp2 != pp2) = false := by simp
              have hn3 : (ar2 != ar2) = false := by simp
              go_wp2_with fail
              have hm63 : ar1.length ≤ 9223372036854775807 := by have := HX11.out.2.2.2; simp only [maxLen] at this; omega
              refine (equal_calls Aa Ab _ _ ar1 ar1 _ HX11.out.2.1 HX11.out.2.2.1 hm63 hm63).mono ?_
              rintro r w12 ⟨rfl, hb12⟩
              rw [decide_eq_true (rfl : ar1 = ar1)]
              have HX12 := Lib.hid (below_trans HX11.out.1 hb12)
              clear HX11 hb12
              go_wp2
              go_roundw
              case rel => exact ⟨q + 1, by omega, by go_num, HX12.out⟩
              case measure => simp [intOf]; omega
            · have hqb : decide ((q : Int) < 3) = false := decide_eq_false (by omega)
              have HBQ := Lib.hid (And.intro HB7.out.2.2.1 hbq)
              clear hbq
              go_wp2
              go_roundw
              case rel => exact ⟨k + 1, by omega, by go_num, below_trans HBQ.out.1 HBQ.out.2⟩
              case measure => simp [intOf]; omega
    · have hke : decide ((k : Int) < 4) = false := decide_eq_false (by omega)
      have HBR := Lib.hid (below_trans HG.out.2.2.2.2.2 hbr)
      clear hbr
      go_wp2
      go_ret
      exact ⟨rfl, HBR.out⟩
end Go.Proofs.Ytkkohelbidmkdaa
