/-
  The reference's Draft.made and Draft.Grid: a drafted grid is valid.
-/
import Derived.Test.YtkkohelbidmkdaaGApp
import Derived.Deep.DeepCutAuto
namespace Go.Proofs.Ytkkohelbidmkdaa
set_option linter.unusedVariables false
set_option linter.unusedSimpArgs false
open Go Go.RowKit

/-- What a draft's grid holds. -/
def Full (d : List Int) : Prop := ∀ x ∈ d, 0 ≤ x ∧ x ≤ 65535

theorem Own.ne_blk {w : World} {base : Nat} {v : Value} {xs : List Int} (h : Own w base v xs) {g b : Nat} (hg : v.ownBlock = some g) {cs : List Value} {t : TypeId} (hb : Blk w b cs t) (ht : t ≠ 3) : g ≠ b := by
  rintro rfl
  rcases h.2 with ⟨rfl, _⟩ | ⟨g', cap, cur, rfl, _, hh, _⟩
  · simp [Value.ownBlock] at hg
  · simp only [Value.ownBlock, Option.some.injEq] at hg
    subst hg
    unfold Blk at hb
    rw [hb] at hh
    simp at hh
    exact ht hh.2

/-- What stands at the head of a round of made. -/
structure MadeI (w0 : World) (b0 b1 b2 : Nat) (DV SV : Value) (on : Nat) (DC : List Value) (m : Nat) (Ad : Option Addr) (kd : Nat) (data : List Int) (W : World) : Prop where
  draft : Blk W b0 DC 28
  res : Blk W b1 [.slice none 0 0, .int .i64 0, .slice none 0 0] 24
  grid : Blk W b2 [SV, .int .i64 on, .slice Ad m kd] 24
  own : Own W w0.heap.size (.slice Ad m kd) data
  len : data.length = m
  full : Full data
  below : Below w0.heap.size w0 W

theorem MadeI.kept {w0 : World} {b0 b1 b2 : Nat} {DV SV : Value} {on : Nat} {DC : List Value} {m : Nat} {Ad : Option Addr} {kd : Nat} {data : List Int} {A B : World} (h : MadeI w0 b0 b1 b2 DV SV on DC m Ad kd data A) (hb : Below A.heap.size A B) : MadeI w0 b0 b1 b2 DV SV on DC m Ad kd data B :=
  ⟨h.draft.kept hb, h.res.kept hb, h.grid.kept hb, h.own.kept hb, h.len, h.full, below_trans h.below hb⟩

set_option maxHeartbeats 1600000 in
theorem made_calls (S A V : Option Addr) (ls cs c cv : Nat) (du : Int) (sm : Bool) (sN : List Nat) (vs : List Int) (on : Nat) (w : World) (hs : Cs w .i64 A (ints sN)) (hv : Cs w .u16 V vs) (h1 : 1 ≤ sN.length) (h4 : sN.length ≤ 4)
    (hz : ∀ x ∈ sN, 2 ≤ x ∧ x ≤ 9) (ho1 : 1 ≤ on) (ho4 : on ≤ 4) (hvs : Full vs) (lv : vs.length ≤ 9223372036854775807) :
    Calls Try.prog 46 #[.agg #[.slice S ls cs, .int .u8 du, .slice V vs.length cv, .bool sm], .slice A (ints sN).length c, .int .i64 on] w fun r w' => ∃ Ad kd data, r = .returned (.agg #[.slice A (ints sN).length c, .int .i64 on, .slice Ad (pr sN * on) kd]) ∧
      Own w' w.heap.size (.slice Ad (pr sN * on) kd) data ∧ data.length = pr sN * on ∧ Full data ∧ Below w.heap.size w w' := by
  have HS := Lib.hid hs
  have HV := Lib.hid hv
  have HZ := Lib.hid hz
  have HF := Lib.hid hvs
  clear hs hv hz hvs
  go_enter Try.func46, Try.ntmps46
  go_wp2_with fail
  refine wp_named ?_
  intro w1 hw1
  have b0 : Blk w1 w.heap.size [.slice S ls cs, .int .u8 du, .slice V vs.length cv, .bool sm] 28 := by rw [hw1]; exact ((Blk.new _ _ _).alloc _).alloc _
  have b1 : Blk w1 (w.heap.size + 1) [.slice none 0 0, .int .i64 0, .slice none 0 0] 24 := by rw [hw1]; exact (Blk.at (by simp)).alloc _
  have b2 : Blk w1 (w.heap.size + 1 + 1) [.slice A (ints sN).length c, .int .i64 on, .slice none 0 0] 24 := by rw [hw1]; exact Blk.at (by simp)
  have hb1 : Below w.heap.size w w1 := by rw [hw1]; repeat (first | exact below_alloc _ | refine below_trans ?_ (below_alloc _))
  have hP : prodW (ints sN) = (pr sN : Int) := by
    rw [← prodI_ints]
    refine (prodW_eq ?_ (by rw [ints_length]; exact h4)).1
    intro x hx
    obtain ⟨i, hi⟩ := List.mem_iff_getElem?.1 hx
    obtain ⟨m, hm, rfl⟩ := ints_at hi
    have := HZ.out m (List.mem_of_getElem? hm)
    omega
  have hpr : pr sN ≤ 6561 := by
    have h := (prodW_eq (s := ints sN) (fun x hx => by
      obtain ⟨i, hi⟩ := List.mem_iff_getElem?.1 hx
      obtain ⟨m, hm, rfl⟩ := ints_at hi
      have := HZ.out m (List.mem_of_getElem? hm)
      omega) (by rw [ints_length]; exact h4)).2.2
    rw [prodI_ints] at h; omega
  have HP := Lib.hid hP
  have HX := Lib.hid (show MadeI w w.heap.size (w.heap.size + 1) (w.heap.size + 1 + 1) undef (.slice A (ints sN).length c) on [.slice S ls cs, .int .u8 du, .slice V vs.length cv, .bool sm] 0 none 0 [] w1 from
    ⟨b0, b1, b2, Own.nil _ _, rfl, (fun x hx => by cases hx), hb1⟩)
  clear b0 b1 b2 hb1 hw1 hP
  go_loopw [8] (fun i wr => ∃ n Ad kd data, n ≤ pr sN ∧ i = .int .i64 (n : Nat) ∧ MadeI w w.heap.size (w.heap.size + 1) (w.heap.size + 1 + 1) undef (.slice A (ints sN).length c) on [.slice S ls cs, .int .u8 du, .slice V vs.length cv, .bool sm] (n * on) Ad kd data wr) (fun i _ => pr sN - (intOf i).toNat)
  case atStart => exact ⟨0, none, 0, [], Nat.zero_le _, rfl, by rw [Nat.zero_mul]; exact HX.out⟩
  case round =>
    clear HX
    obtain ⟨n, Ad, kd, data, hn, rfl, hI⟩ := hrel
    have HI := Lib.hid hI
    clear hI
    go_wp2_with fail
    refine (points_calls A c (ints sN) _ (HS.out.kept HI.out.below) (by rw [ints_length]; omega)).mono ?_
    rintro r w2 ⟨rfl, rfl⟩
    rw [HP.out]
    by_cases hlt : n < pr sN
    · go_wp2_with fail
      refine (refIndex_calls A c sN n _ (HS.out.kept HI.out.below) h1 (by omega) HZ.out hlt (by omega)).mono ?_
      rintro r w3 ⟨gi, ki, rfl, hoi, hb3⟩
      have HJ := Lib.hid (show MadeI w w.heap.size (w.heap.size + 1) (w.heap.size + 1 + 1) undef (.slice A (ints sN).length c) on [.slice S ls cs, .int .u8 du, .slice V vs.length cv, .bool sm] (n * on) Ad kd data w3 from
        ⟨HI.out.draft.kept hb3, HI.out.res.kept hb3, HI.out.grid.kept hb3, HI.out.own.kept hb3, HI.out.len, HI.out.full, below_trans HI.out.below hb3⟩)
      have hne : ∀ g, (Value.slice Ad (n * on) kd).ownBlock = some g → g ≠ gi := by
        intro g hg
        have := (HI.out.own.block_ge g hg).2
        have := (hoi.block_ge gi rfl).1
        omega
      have HO := Lib.hid (And.intro (hoi.lower (base' := w.heap.size) HI.out.below.size) hne)
      clear HI hoi hb3 hne
      go_wp2_with fail
      go_loopw [10] (fun j wq => ∃ k Ad kd data, k ≤ on ∧ j = .int .i64 (k : Nat) ∧ MadeI w w.heap.size (w.heap.size + 1) (w.heap.size + 1 + 1) undef (.slice A (ints sN).length c) on [.slice S ls cs, .int .u8 du, .slice V vs.length cv, .bool sm] (n * on + k) Ad kd data wq ∧
        Own wq w.heap.size (.slice (some ⟨gi, 0, none⟩) sN.length ki) (ints (dg sN n)) ∧ ∀ g, (Value.slice Ad (n * on + k) kd).ownBlock = some g → g ≠ gi) (fun j _ => on - (intOf j).toNat)
      case atStart => exact ⟨0, Ad, kd, data, Nat.zero_le _, rfl, HJ.out, HO.out.1, HO.out.2⟩
      case round =>
        clear HJ HO
        obtain ⟨k, Ad, kd, data, hk, rfl, hI, hoi, hne⟩ := hrel
        by_cases hlk : k < on
        · have c02 := hI.draft.cell (i := 2) rfl
          have c03 := hI.draft.cell (i := 3) rfl
          have HI := Lib.hid (And.intro hI (And.intro hoi hne))
          clear hI hoi hne
          go_upto_if 33 with fail
          go_cut [11] from 28 to 73 (fun v wq => ∃ x : Int, v = .int .i64 x ∧ 0 ≤ x ∧ x ≤ 65535 ∧ MadeI w w.heap.size (w.heap.size + 1) (w.heap.size + 1 + 1) undef (.slice A (ints sN).length c) on [.slice S ls cs, .int .u8 du, .slice V vs.length cv, .bool sm] (n * on + k) Ad kd data wq ∧
            Own wq w.heap.size (.slice (some ⟨gi, 0, none⟩) sN.length ki) (ints (dg sN n)))
          case first =>
            by_cases hv0 : 0 < vs.length
            · have hno : n * on ≤ 26244 := by
                have h1 : n * on ≤ 6561 * 4 := Nat.mul_le_mul (by omega) ho4
                omega
              have hm1 : IntKind.i64.wrap ((n : Int) * (on : Int)) = ((n * on : Nat) : Int) := by
                rw [IntWalk.i64_left, ← Int.natCast_mul]; exact wrap64_id (by omega) (by omega)
              have hm2 : IntKind.i64.wrap (((n * on : Nat) : Int) + (k : Int)) = ((n * on + k : Nat) : Int) := by
                rw [IntWalk.i64_left, ← Int.natCast_add]; exact wrap64_id (by omega) (by omega)
              have hjl : (n * on + k) % vs.length < vs.length := Nat.mod_lt _ hv0
              have htm : Int.tmod ((n * on + k : Nat) : Int) (vs.length : Int) = (((n * on + k) % vs.length : Nat) : Int) := by
                rw [Int.tmod_eq_emod_of_nonneg (by omega)]; simp
              obtain ⟨jj, hjj⟩ : ∃ q, (n * on + k) % vs.length = q := ⟨_, rfl⟩
              obtain ⟨mk, hmk⟩ : ∃ q, n * on + k = q := ⟨_, rfl⟩
              rw [hjj] at hjl htm
              rw [hmk] at hm2 htm
              obtain ⟨mn, hmn⟩ : ∃ q, n * on = q := ⟨_, rfl⟩
              rw [hmn] at hm1 hm2
              clear hmn hmk
              obtain ⟨x, bv, ov, hx, rfl, hcx⟩ := HV.out.at hjl
              have hxf := HF.out x (List.mem_of_getElem? hx)
              obtain ⟨hx0, hx1⟩ := hxf
              replace hcx := Ytkkohelbidmkdaa.kept HI.out.1.below hcx
              have hvz : ¬ vs.length = 0 := by omega
              have hwx : IntKind.i64.wrap x = x := by rw [IntWalk.i64_left]; exact wrap64_id (by omega) (by omega)
              clear hx hjj hno
              go_wp2_with fail
              refine wp_seq_all (fun _ => false) (fun _ _ => undef) (fun _ _ _ => True) (by kernel_rfl) (by kernel_rfl) (fun _ _ _ _ _ _ => trivial) ?_
              repeat (first | (refine seq_skip (by rfl) ?_; simp only [Act.put, List.setIfInBounds_toArray, List.set_cons_zero, List.set_cons_succ, Nat.reduceAdd]) | (refine seq_pure (v := ?_) (by rfl) (by rfl) (fun W hW hC => ?_) ?_; rotate_left; (go_simp <;> with_reducible rfl); simp only [Act.put, List.setIfInBounds_toArray, List.set_cons_zero, List.set_cons_succ, Nat.reduceAdd]))
              refine seq_nil ?_; intro W hW hF
              clear hF
              obtain ⟨hI, hoi, hne⟩ := HI.out
              have HM := Lib.hid (And.intro (hI.kept hW) (hoi.kept hW))
              clear hI hoi hne hW
              go_wp2_with fail
              go_meet
              case rel => exact ⟨x, rfl, hx0, hx1, HM.out.1, HM.out.2⟩
            · go_wp2_with fail
              go_meet
              case rel => exact ⟨0, rfl, by omega, by omega, HI.out.1, HI.out.2.1⟩
          case rest =>
            obtain ⟨v, rfl, hv0, hv1, hI, hoi⟩ := hcut
            have c03 := hI.draft.cell (i := 3) rfl
            have HK := Lib.hid (And.intro hI (And.intro hoi HI.out.2.2))
            clear hI hoi HI
            go_upto_if 49 with fail
            go_cut [11, 12] from 50 to 73 (fun v s12 wq => ∃ x : Int, v = .int .i64 x ∧ 0 ≤ x ∧ x ≤ 65535 ∧ MadeI w w.heap.size (w.heap.size + 1) (w.heap.size + 1 + 1) undef (.slice A (ints sN).length c) on [.slice S ls cs, .int .u8 du, .slice V vs.length cv, .bool sm] (n * on + k) Ad kd data wq ∧
              Own wq w.heap.size (.slice (some ⟨gi, 0, none⟩) sN.length ki) (ints (dg sN n)))
            case first =>
              cases sm with
              | true =>
                have hll : (ints sN).length = sN.length := ints_length sN
                have hl0 : ¬ (ints sN).length = 0 := by omega
                have hl1 : 0 < (ints sN).length := by omega
                have hll4 : (ints sN).length ≤ 4 := by omega
                have hjl : k % (ints sN).length < (ints sN).length := Nat.mod_lt _ hl1
                have htk : (k : Int) % ((ints sN).length : Int) = ((k % (ints sN).length : Nat) : Int) := by simp
                obtain ⟨jj, hjj⟩ : ∃ q, k % (ints sN).length = q := ⟨_, rfl⟩
                rw [hjj] at hjl htk
                obtain ⟨mI, bA, oA, hm, rfl, hcm⟩ := HS.out.at hjl
                obtain ⟨m, hm', rfl⟩ := ints_at hm
                have hm2 := HZ.out m (List.mem_of_getElem? hm')
                obtain ⟨xd, hxd⟩ : ∃ x, (dg sN n)[jj]? = some x := ⟨_, List.getElem?_eq_getElem (by rw [dg_length]; omega)⟩
                have hxm := dg_lt (fun y hy => by have := HZ.out y hy; omega) hlt jj xd m hxd hm'
                obtain ⟨hcx, _⟩ := HK.out.2.1.cell (ints_get hxd)
                replace hcm := Ytkkohelbidmkdaa.kept HK.out.1.below hcm
                have hjs : jj < sN.length := by omega
                obtain ⟨P, hP⟩ : ∃ P : Int, 60000 * (xd : Int) = P := ⟨_, rfl⟩
                obtain ⟨Q, hQ⟩ : ∃ Q : Int, (m : Int) - 1 = Q := ⟨_, rfl⟩
                have hw1 : IntKind.i64.wrap (60000 * (xd : Int)) = P := by rw [IntWalk.i64_left, ← hP]; exact wrap64_id (by omega) (by omega)
                have hw2 : IntKind.i64.wrap ((m : Int) - 1) = Q := by rw [IntWalk.i64_left, ← hQ]; exact wrap64_id (by omega) (by omega)
                obtain ⟨R, hR⟩ : ∃ R : Int, P / Q = R := ⟨_, rfl⟩
                have htd : Int.tdiv P Q = R := by rw [Int.tdiv_eq_ediv_of_nonneg (by omega)]; exact hR
                have hR0 : 0 ≤ R := by rw [← hR]; exact Int.ediv_nonneg (by omega) (by omega)
                have hR1 : R ≤ 60000 := by
                  rw [← hR]
                  have h1 : P ≤ 60000 * Q := by omega
                  have h2 := Int.ediv_le_ediv (show 0 < Q by omega) h1
                  rwa [Int.mul_ediv_cancel _ (by omega)] at h2
                have hwR : IntKind.i64.wrap R = R := by rw [IntWalk.i64_left]; exact wrap64_id (by omega) (by omega)
                obtain ⟨T, hT⟩ : ∃ T : Int, v % 5000 = T := ⟨_, rfl⟩
                have htv : Int.tmod v 5000 = T := by rw [Int.tmod_eq_emod_of_nonneg (by omega)]; exact hT
                have hT0 : 0 ≤ T ∧ T < 5000 := by omega
                obtain ⟨Z, hZ⟩ : ∃ Z : Int, R + T = Z := ⟨_, rfl⟩
                have hw3 : IntKind.i64.wrap (R + T) = Z := by rw [IntWalk.i64_left, ← hZ]; exact wrap64_id (by omega) (by omega)
                have hZ0 : 0 ≤ Z := by omega
                have hZ1 : Z ≤ 65535 := by omega
                have hQ0 : ¬ Q = 0 := by omega
                clear hll hjj hm hm' hxd hxm hP hQ hR hT hZ hm2 hT0 hR0 hR1
                go_wp2_with fail
                refine wp_seq_all (fun _ => false) (fun _ _ => undef) (fun _ _ _ => True) (by kernel_rfl) (by kernel_rfl) (fun _ _ _ _ _ _ => trivial) ?_
                repeat (first | (refine seq_skip (by rfl) ?_; simp only [Act.put, List.setIfInBounds_toArray, List.set_cons_zero, List.set_cons_succ, Nat.reduceAdd]) | (refine seq_pure (v := ?_) (by rfl) (by rfl) (fun W hW hC => ?_) ?_; rotate_left; (go_simp <;> with_reducible rfl); simp only [Act.put, List.setIfInBounds_toArray, List.set_cons_zero, List.set_cons_succ, Nat.reduceAdd]))
                refine seq_nil ?_; intro W hW hF
                clear hF
                have HM := Lib.hid (And.intro (HK.out.1.kept hW) (HK.out.2.1.kept hW))
                clear hW
                go_wp2_with fail
                go_meet
                case rel => exact ⟨Z, rfl, hZ0, hZ1, HM.out.1, HM.out.2⟩
              | false =>
                go_wp2_with fail
                go_meet
                case rel => exact ⟨v, rfl, hv0, hv1, HK.out.1, HK.out.2.1⟩
            case rest =>
              obtain ⟨v2, rfl, hx0, hx1, hI, hoi⟩ := hcut
              have hne := HK.out.2.2
              clear c03 HK
              obtain ⟨q0, q1, q2, q3, q4, q5, q6⟩ := hI
              have hdl : data.length ≤ 32768 := by
                rw [q4]
                have h1 : n * on ≤ 6561 * 4 := Nat.mul_le_mul (by omega) ho4
                omega
              have k2 := q2.cell (i := 2) rfl
              have kf := q2.free 2
              have hlt2 := q2.lt
              have hcs1 : Cs (wc.alloc (.cells #[.int .i64 v2] 3)) .i64 (some ⟨wc.heap.size, 0, none⟩) [v2] := by
                intro q z hz
                cases q with
                | zero => simp at hz; subst hz; exact ⟨wc.heap.size, 0, rfl, by simp⟩
                | succ q => simp at hz
              have hA := Lib.hid (And.intro (q3.kept (below_alloc (.cells #[.int .i64 v2] 3))) hcs1)
              have HD := Lib.hid hdl
              have hsz := Lib.hid q6.size
              have hpush : ∀ v' w4, Own w4 w.heap.size v' (data ++ [v2]) → (wc.alloc (.cells #[.int .i64 v2] 3)).grownBy w4 (Value.slice Ad (n * on + k) kd).ownBlock →
                  (∀ g, v'.ownBlock = some g → (Value.slice Ad (n * on + k) kd).ownBlock = some g ∨ (wc.alloc (.cells #[.int .i64 v2] 3)).heap.size ≤ g) →
                  ∃ Ad' kd', v' = .slice Ad' (n * on + k + 1) kd' ∧ w4.cell? ⟨w.heap.size + 1 + 1, 2, none⟩ = some (.slice Ad (n * on + k) kd) ∧ w4.frozen? ⟨w.heap.size + 1 + 1, 2, none⟩ = false ∧
                    ∀ W, W = w4.setCell ⟨w.heap.size + 1 + 1, 2, none⟩ (.slice Ad' (n * on + k + 1) kd') → MadeI w w.heap.size (w.heap.size + 1) (w.heap.size + 1 + 1) undef (.slice A (ints sN).length c) on [.slice S ls cs, .int .u8 du, .slice V vs.length cv, .bool sm] (n * on + k + 1) Ad' kd' (data ++ [v2]) W ∧
                      Own W w.heap.size (.slice (some ⟨gi, 0, none⟩) sN.length ki) (ints (dg sN n)) ∧ ∀ g, (Value.slice Ad' (n * on + k + 1) kd').ownBlock = some g → g ≠ gi := by
                intro v' w4 how hgr hfr
                have g0 := Blk.grown hA.out.1 hgr (q0.alloc _) (by decide)
                have g1 := Blk.grown hA.out.1 hgr (q1.alloc _) (by decide)
                have g2 := Blk.grown hA.out.1 hgr (q2.alloc _) (by decide)
                have hb4 := hA.out.1.below hgr (Nat.le_refl _) (below_trans q6 (below_alloc _))
                have hoi4 := (hoi.kept (below_alloc (.cells #[.int .i64 v2] 3))).grown hgr (fun g hg he => by cases hg; exact hne gi he rfl)
                have hne4 : ∀ g, v'.ownBlock = some g → g ≠ gi := by
                  intro g hg
                  rcases hfr g hg with h | h
                  · exact hne g h
                  · have h5 := (hoi.block_ge gi rfl).2
                    simp only [World.size_alloc] at h
                    omega
                obtain ⟨Ad', kd', hv', _, _, _, _⟩ := how.cs
                rw [List.length_append, q4, List.length_singleton] at hv'
                subst hv'
                refine ⟨Ad', kd', rfl, g2.cell (i := 2) rfl, g2.free 2, ?_⟩
                rintro W rfl
                refine ⟨⟨g0.other (by dsimp only; omega) _, g1.other (by dsimp only; omega) _, g2.set 2 _, how.other (fun g hg => ?_) _, by simp [q4], ?_, hb4.setCell (by dsimp only; omega) _⟩, hoi4.other (fun g hg => ?_) _, hne4⟩
                · exact how.ne_blk hg g2 (by decide)
                · intro y hy
                  rcases List.mem_append.1 hy with h | h
                  · exact q5 y h
                  · rw [List.mem_singleton] at h; subst h; exact ⟨hx0, hx1⟩
                · exact hoi4.ne_blk hg g2 (by decide)
              have HPU := Lib.hid hpush
              clear q0 q1 q2 q3 q4 q5 q6 hoi hne hdl hcs1 hpush
              go_upto_region 8 with (at_builtin; refine append_ints2 rfl _ _ rfl w.heap.size (.slice Ad (n * on + k) kd) data rfl hA.out.1 (some ⟨wc.heap.size, 0, none⟩) 1 [v2] rfl hA.out.2 (fun h => by cases h) (by have := HD.out; simp only [List.length_singleton]; omega) (by have := hsz.out; simp only [World.size_alloc]; omega) ?_; intro v' w4 how hgr hfr; obtain ⟨Ad', kd', rfl, k2', kf', hI⟩ := HPU.out v' w4 how hgr hfr; have HI2 := Lib.hid hI; clear how hgr hfr hI k2 kf)
              have HI3 := Lib.hid (HI2.out _ rfl)
              clear HI2 k2' kf'
              go_wp2
              go_roundw
              case rel => exact ⟨k + 1, Ad', kd', data ++ [v2], by omega, by go_num, HI3.out.1, HI3.out.2.1, HI3.out.2.2⟩
              case measure => simp [intOf]; omega
        · have hke : k = on := by omega
          subst hke
          rw [← Nat.succ_mul] at hI
          have HI := Lib.hid hI
          clear hI hoi hne
          go_wp2
          go_roundw
          case rel => exact ⟨n + 1, Ad, kd, data, by omega, by go_num, HI.out⟩
          case measure => simp [intOf]; omega
    · have hne : n = pr sN := by omega
      subst hne
      have k0 := HI.out.grid.cell (i := 0) rfl
      have k1 := HI.out.grid.cell (i := 1) rfl
      have k2 := HI.out.grid.cell (i := 2) rfl
      have r0 := HI.out.res.cell (i := 0) rfl
      have r1 := HI.out.res.cell (i := 1) rfl
      have r2 := HI.out.res.cell (i := 2) rfl
      have f0 := HI.out.res.free 0
      have f1 := HI.out.res.free 1
      have f2 := HI.out.res.free 2
      go_wp2_with fail
      refine bodyPost_ret (v := .agg #[.slice A (ints sN).length c, .int .i64 on, .slice Ad (pr sN * on) kd]) (by simp [results, Try.results46, go_sem, *]) rfl ⟨Ad, kd, data, rfl, ?_, HI.out.len, HI.out.full, ?_⟩
      · exact HI.out.own.other3 (fun g hg => HI.out.own.ne_blk hg HI.out.res (by decide)) _ _ _
      · exact ((HI.out.below.setCell (p := ⟨w.heap.size + 1, 0, none⟩) (by dsimp only; omega) _).setCell (p := ⟨w.heap.size + 1, 1, none⟩) (by dsimp only; omega) _).setCell (p := ⟨w.heap.size + 1, 2, none⟩) (by dsimp only; omega) _
end Go.Proofs.Ytkkohelbidmkdaa
