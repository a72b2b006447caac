/-
  image.open, image.blank, view.closed: what each call returns.
-/
import Derived.Test.YtpgkhhdobolfbaaIMk
import Derived.Test.YtpgkhhdobolfbaaIOct
import Derived.WalkMore
namespace Go.Proofs.Ytpgkhhdobolfbaa
set_option linter.unusedVariables false
set_option linter.unusedSimpArgs false
open Go Go.RowKit

/-- A view: its numbers' block, its octets' block. -/
structure View (w : World) (b g : Nat) (L : Lay) (O : ByteArray) (k : Nat) (l : List UInt8) : Prop where
  blk : Blk w b (viewC L O (.slice (some ⟨g, 0, none⟩) l.length k)) 86
  oct : Oct w g l
  len : l.length = L.size

theorem View.kept {w w' : World} {b g : Nat} {L : Lay} {O : ByteArray} {k : Nat} {l : List UInt8} (h : View w b g L O k l) (hb : Below w.heap.size w w') : View w' b g L O k l :=
  ⟨h.blk.kept hb, h.oct.kept hb, h.len⟩

/-- An image's cells. -/
def imC (m : Im) : List Value := [.int .i64 m.W, .int .i64 m.H, .int .i64 m.C, .int .i64 m.B, .bool m.P, .int .i64 m.Pd, .string m.O]

/-- The answer of open. -/
def OpenR (m : Im) (w : World) (e : Ending) (w' : World) : Prop :=
  Below w.heap.size w w' ∧ if m.good then ∃ b g k, e = .returned (.tuple #[.pointer (some ⟨b, 0, none⟩), .int .i64 0]) ∧ View w' b g m.lay m.O k m.l ∧ w.heap.size ≤ b ∧ w.heap.size ≤ g else e = .returned (.tuple #[.pointer none, .int .i64 420])

theorem openR_bad {m : Im} {w w' : World} (hg : m.good = false) (hb : Below w.heap.size w w') : OpenR m w (.returned (.tuple #[.pointer none, .int .i64 420])) w' := by
  refine ⟨hb, ?_⟩
  rw [hg]
  exact rfl

theorem Oct.other {W : World} {g : Nat} {l : List UInt8} (h : Oct W g l) {p : Addr} (hp : p.block ≠ g) (v : Value) : Oct (W.setCell p v) g l :=
  ⟨fun i o hi => (World.cell?_setCell_other _ _ _ _ (by intro e; exact hp (by rw [e]))).trans (h.cell i o hi), fun i hi => by have := h.free i hi; simpa using this, by simpa [World.setCell] using h.lt⟩

theorem meas {N k : Nat} {v v' : Value} (h : v = .int .i64 (k : Nat)) (h' : v' = .int .i64 ((k + 1 : Nat) : Int)) (hk : k < N) : N - (intOf v').toNat < N - (intOf v).toNat := by
  subst h h'
  show N - (((k + 1 : Nat) : Int)).toNat < N - ((k : Nat) : Int).toNat
  rw [Int.toNat_natCast, Int.toNat_natCast]
  omega

theorem shaped_img (m : Im) (w : World) : Calls Try.prog 63 #[m.v] w fun e w' => e = .returned (.bool m.shp) ∧ Below w.heap.size w w' := shaped_calls m.W m.H m.C m.B m.P m.Pd m.O w

set_option maxHeartbeats 1600000 in
theorem open_calls (m : Im) (w : World) : Calls Try.prog 36 #[m.v] w fun e w' => OpenR m w e w' := by
  obtain ⟨mW, mH, mC, mB, mP, mPd, mO, hm⟩ : ∃ a b c d e f g, m = ⟨a, b, c, d, e, f, g⟩ := ⟨_, _, _, _, _, _, _, rfl⟩
  have HF := Lib.hid (fun w => shaped_img m w)
  have hv : m.v = .agg #[.int .i64 mW, .int .i64 mH, .int .i64 mC, .int .i64 mB, .bool mP, .int .i64 mPd, .string mO] := by rw [hm]; rfl
  rw [hv] at HF ⊢
  have HM := Lib.hid hm
  clear hm hv
  go_enter Try.func36, Try.ntmps36
  go_wp2_with fail
  refine wp_named ?_
  intro w1 hw1
  have b0 : Blk w1 w.heap.size [.int .i64 mW, .int .i64 mH, .int .i64 mC, .int .i64 mB, .bool mP, .int .i64 mPd, .string mO] 24 := by rw [hw1]; exact Blk.new _ _ _
  have hb1 : Below w.heap.size w w1 := by rw [hw1]; repeat (first | exact below_alloc _ | refine below_trans ?_ (below_alloc _))
  clear hw1
  have c0 := b0.cell (i := 0) rfl
  have c1 := b0.cell (i := 1) rfl
  have c2 := b0.cell (i := 2) rfl
  have c3 := b0.cell (i := 3) rfl
  have c4 := b0.cell (i := 4) rfl
  have c5 := b0.cell (i := 5) rfl
  have c6 := b0.cell (i := 6) rfl
  have HB := Lib.hid (And.intro b0 hb1)
  clear b0 hb1
  refine wp_scope_straight ?_
  go_wp2_with fail
  clear c0 c1 c2 c3 c4 c5 c6
  refine wp_named ?_
  intro w2 hw2
  have b0 : Blk w2 w.heap.size [.int .i64 mW, .int .i64 mH, .int .i64 mC, .int .i64 mB, .bool mP, .int .i64 mPd, .string mO] 24 := by rw [hw2]; exact HB.out.1.alloc _
  have bv : Blk w2 w1.heap.size [.int .i64 mW, .int .i64 mH, .int .i64 mC, .int .i64 mB, .bool mP, .int .i64 mPd, .string mO, .slice none 0 0] 86 := by rw [hw2]; exact Blk.new _ _ _
  have hb2 : Below w.heap.size w w2 := by rw [hw2]; exact below_trans HB.out.2 (below_alloc _)
  have hsz : w.heap.size ≤ w1.heap.size := HB.out.2.size
  clear hw2 HB
  have c0 := b0.cell (i := 0) rfl
  have c1 := b0.cell (i := 1) rfl
  have c2 := b0.cell (i := 2) rfl
  have c3 := b0.cell (i := 3) rfl
  have c4 := b0.cell (i := 4) rfl
  have c5 := b0.cell (i := 5) rfl
  have c6 := b0.cell (i := 6) rfl
  by_cases hS : m.shp = true
  · obtain ⟨L, hL⟩ : ∃ L, m.lay = L := ⟨_, rfl⟩
    have n : Nums L mW mH mC mB mP mPd := by
      rw [← hL]
      have := lay_nums (of_decide_eq_true hS) m.P
      rw [HM.out] at this ⊢
      exact this
    rw [hS] at HF
    obtain ⟨hok, rfl, rfl, rfl, rfl, rfl, rfl⟩ := n
    replace bv : Blk w2 w1.heap.size (viewC L mO (.slice none 0 0)) 86 := bv
    obtain ⟨N1, hN1⟩ : ∃ x, L.rows = x := ⟨_, rfl⟩
    obtain ⟨N2, hN2⟩ : ∃ x, L.stride = x := ⟨_, rfl⟩
    obtain ⟨N, hN⟩ : ∃ x, N1 * N2 = x := ⟨_, rfl⟩
    have hsize : L.size = N := by unfold Lay.size; rw [hN1, hN2, hN]
    have hNb : N ≤ 140000 := by
      have h1 := hok.h2
      have h2 := hok.c2
      have h3 : L.H * L.C ≤ 64 * 4 := Nat.mul_le_mul h1 h2
      have h4 : N1 ≤ 256 := by rw [← hN1]; unfold Lay.rows; split <;> omega
      have h5 := hok.stride_row.2.1
      have h6 := hok.row_pos.2
      have h7 : L.pd ≤ 8 := by rcases hok.pad with e | e | e | e <;> omega
      have h8 : N1 * N2 ≤ 256 * 520 := Nat.mul_le_mul h4 (by omega)
      omega
    have hw1 : IntKind.i64.wrap ((N1 : Int) * (N2 : Int)) = (N : Int) := by rw [← Int.natCast_mul, hN]; exact wrap_id (by omega)
    have HV := Lib.hid (And.intro hok (And.intro bv (And.intro hL (And.intro hN1 (And.intro hN2 (And.intro hsize (And.intro hb2 (And.intro hsz (And.intro hS hNb)))))))))
    clear b0 bv hL hN1 hN2 hN hsize hb2 hsz hS hok hNb
    have HR := Lib.hid (fun W (h : Below w2.heap.size w2 W) => rows_calls HV.out.1 (HV.out.2.1.kept h))
    have HT := Lib.hid (fun W (h : Below w2.heap.size w2 W) => stride_calls HV.out.1 (HV.out.2.1.kept h))
    by_cases hlen : mO.size = N
    · have HLen := Lib.hid hlen
      have hlenB : (mO.size == N) = true := by simpa using hlen
      refine wp_seq_all (fun k => k == 1 || k == 8 || k == 10) (fun k _ => if k = 1 then .bool true else if k = 8 then .int .i64 (N1 : Nat) else .int .i64 (N2 : Nat)) (fun _ _ _ => True) (by kernel_rfl) (by kernel_rfl) (fun _ _ _ _ _ h => h) ?_
      repeat (first | (refine seq_skip (by rfl) ?_; simp only [Act.put, List.setIfInBounds_toArray, List.set_cons_zero, List.set_cons_succ, Nat.reduceAdd]) | (refine seq_pure (v := ?_) (by rfl) (by rfl) (fun W hW hC => ?_) ?_; rotate_left; (go_simp <;> with_reducible rfl); simp only [Act.put, List.setIfInBounds_toArray, List.set_cons_zero, List.set_cons_succ, Nat.reduceAdd]))
      refine seq_made (by rfl) (by rfl) (fun W hW hC hF R hR => ?_) (fun _ => ?_)
      · unfold Gives; go_simp
        refine (HF.out W).mono ?_
        rintro r w8 ⟨rfl, hb8⟩
        refine ⟨_, rfl, ?_⟩
        exact hR {} _ hb8 trivial
      simp only [Act.put, List.setIfInBounds_toArray, List.set_cons_zero, List.set_cons_succ, Nat.reduceAdd]
      repeat (first | (refine seq_skip (by rfl) ?_; simp only [Act.put, List.setIfInBounds_toArray, List.set_cons_zero, List.set_cons_succ, Nat.reduceAdd]) | (refine seq_pure (v := ?_) (by rfl) (by rfl) (fun W hW hC => ?_) ?_; rotate_left; (go_simp <;> with_reducible rfl); simp only [Act.put, List.setIfInBounds_toArray, List.set_cons_zero, List.set_cons_succ, Nat.reduceAdd]))
      refine seq_made (by rfl) (by rfl) (fun W hW hC hF R hR => ?_) (fun _ => ?_)
      · unfold Gives; go_simp
        refine (HR.out W hW).mono ?_
        rintro r w8 ⟨rfl, hb8⟩
        refine ⟨_, rfl, ?_⟩
        rw [HV.out.2.2.2.1]
        exact hR {} _ hb8 trivial
      simp only [Act.put, List.setIfInBounds_toArray, List.set_cons_zero, List.set_cons_succ, Nat.reduceAdd]
      repeat (first | (refine seq_skip (by rfl) ?_; simp only [Act.put, List.setIfInBounds_toArray, List.set_cons_zero, List.set_cons_succ, Nat.reduceAdd]) | (refine seq_pure (v := ?_) (by rfl) (by rfl) (fun W hW hC => ?_) ?_; rotate_left; (go_simp <;> with_reducible rfl); simp only [Act.put, List.setIfInBounds_toArray, List.set_cons_zero, List.set_cons_succ, Nat.reduceAdd]))
      refine seq_made (by rfl) (by rfl) (fun W hW hC hF R hR => ?_) (fun _ => ?_)
      · unfold Gives; go_simp
        refine (HT.out W hW).mono ?_
        rintro r w8 ⟨rfl, hb8⟩
        refine ⟨_, rfl, ?_⟩
        rw [HV.out.2.2.2.2.1]
        exact hR {} _ hb8 trivial
      simp only [Act.put, List.setIfInBounds_toArray, List.set_cons_zero, List.set_cons_succ, Nat.reduceAdd]
      repeat (first | (refine seq_skip (by rfl) ?_; simp only [Act.put, List.setIfInBounds_toArray, List.set_cons_zero, List.set_cons_succ, Nat.reduceAdd]) | (refine seq_pure (v := ?_) (by rfl) (by rfl) (fun W hW hC => ?_) ?_; rotate_left; (go_simp <;> with_reducible rfl); simp only [Act.put, List.setIfInBounds_toArray, List.set_cons_zero, List.set_cons_succ, Nat.reduceAdd]))
      refine seq_nil ?_; intro W hW hF
      clear hF
      obtain ⟨W3, kc, hcv, hoct, hb3⟩ := bytes_made W mO
      have bv := (HV.out.2.1.kept hW).kept hb3
      have hbW := below_trans (below_trans HV.out.2.2.2.2.2.2.1 hW) hb3
      have hgW : w.heap.size ≤ W.heap.size := Nat.le_trans HV.out.2.2.2.2.2.2.1.size hW.size
      have hvg : w1.heap.size < W.heap.size := Nat.lt_of_lt_of_le HV.out.2.1.lt hW.size
      have v7 := bv.cell (i := 7) rfl
      have f7 := bv.free 7
      have d6 := Ytpgkhhdobolfbaa.kept hW c6
      have HB := Lib.hid (And.intro bv (And.intro hoct (And.intro hbW (And.intro hgW hvg))))
      clear hW c0 c1 c2 c3 c4 c5 c6 bv hoct hbW hb3 hw1 hgW hvg
      clear hlen
      go_wp2_with fail
      refine calls_named ?_
      intro W4 hW4
      have hv7 : Blk W4 w1.heap.size (viewC L mO (.slice (some ⟨W.heap.size, 0, none⟩) N kc)) 86 := by rw [hW4, HLen.out]; exact HB.out.1.set 7 _
      have hoct : Oct W4 W.heap.size mO.data.toList := by rw [hW4]; exact HB.out.2.1.other (by show w1.heap.size ≠ W.heap.size; have := HB.out.2.2.2.2; omega) _
      have hbw : Below w.heap.size w W4 := by rw [hW4]; exact HB.out.2.2.1.setCell (by have := HV.out.2.2.2.2.2.2.2.1; exact this) _
      have hgl : w.heap.size ≤ W.heap.size := HB.out.2.2.2.1
      clear hW4 HB hcv v7 f7 d6
      refine (row_calls HV.out.1 hv7).mono ?_
      rintro r W5 ⟨rfl, hb5⟩
      replace hoct := hoct.kept hb5
      replace hbw := below_trans hbw hb5
      replace hv7 := hv7.kept hb5
      clear hb5
      have HB := Lib.hid (And.intro hv7 (And.intro hoct (And.intro hbw hgl)))
      clear hv7 hoct hbw hgl
      go_wp2_with fail
      refine (stride_calls HV.out.1 HB.out.1).mono ?_
      rintro r W6 ⟨rfl, hb6⟩
      rw [HV.out.2.2.2.2.1]
      obtain ⟨hv7, hoct, hbw, hgl⟩ := HB.out
      replace hoct := hoct.kept hb6
      replace hbw := below_trans hbw hb6
      replace hv7 := hv7.kept hb6
      have v7 := hv7.cell (i := 7) rfl
      clear HB hb6
      have HB := Lib.hid (And.intro hv7 (And.intro hoct (And.intro hbw hgl)))
      clear hv7 hoct hbw hgl
      go_wp2_with fail
      refine wp_label ?_
      go_wp2_with fail
      go_loop [7, 8, 41] (fun _ _ i => ∃ k : Nat, k ≤ N ∧ i = .int .i64 k ∧ ∀ j, j < k → L.row ≤ j % N2 → mO.data.toList[j]? = some 0) (fun _ _ i => N - (intOf i).toNat)
      case atStart => exact ⟨0, Nat.zero_le _, rfl, fun j hj => absurd hj (Nat.not_lt_zero _)⟩
      case round =>
        obtain ⟨k, hk, rfl, hn⟩ := hrel
        have HN := Lib.hid hn
        clear hn
        by_cases hlt : k < N
        · obtain ⟨o, ho⟩ : ∃ o, mO.data.toList[k]? = some o := ⟨_, List.getElem?_eq_getElem (by rw [show mO.data.toList.length = N by rw [← HLen.out]; simp]; exact hlt)⟩
          have hc := HB.out.2.1.cell k o ho
          obtain ⟨z, hz⟩ : ∃ z : Int, (o.toNat : Int) = z := ⟨_, rfl⟩
          rw [hz] at hc
          have hmd : Int.tmod (k : Int) (N2 : Int) = ((k % N2 : Nat) : Int) := by rw [Int.tmod_eq_emod_of_nonneg (by omega)]; rfl
          obtain ⟨q, hq⟩ : ∃ q, k % N2 = q := ⟨_, rfl⟩
          rw [hq] at hmd
          have hs0 : ¬ N2 = 0 := by
            have h1 := HV.out.1.stride_row.1
            have h2 := HV.out.1.row_pos.1
            have h3 := HV.out.2.2.2.2.1
            omega
          have hwk : wrap64 ((k : Int) + 1) = ((k + 1 : Nat) : Int) := by have hNb := HV.out.2.2.2.2.2.2.2.2.2; unfold wrap64; omega
          have HK := Lib.hid (And.intro ho (And.intro hz hq))
          clear ho hz hq
          by_cases hqr : q < L.row
          · go_wp2_with fail
            go_round
            case rel =>
              refine ⟨k + 1, by omega, by go_num, fun j hj hr => ?_⟩
              by_cases hjk : j = k
              · subst hjk
                have := HK.out.2.2
                omega
              · exact HN.out j (by omega) hr
            case measure => exact meas rfl (by go_num) hlt
          · by_cases hz0 : z = 0
            · subst hz0
              go_wp2_with fail
              go_round
              case rel =>
                refine ⟨k + 1, by omega, by go_num, fun j hj hr => ?_⟩
                by_cases hjk : j = k
                · subst hjk
                  rw [HK.out.1]
                  have h1 := HK.out.2.1
                  congr 1
                  exact UInt8.toNat_inj.1 (by simpa using h1)
                · exact HN.out j (by omega) hr
              case measure => exact meas rfl (by go_num) hlt
            · have hzb : (z == 0) = false := by simpa using hz0
              have HZ := Lib.hid hz0
              clear hz0
              go_wp2_with fail
              go_ret2
              refine openR_bad ?_ HB.out.2.2.1
              cases hg : m.good with
              | false => rfl
              | true =>
                have hv := Im.good_val hg
                have h1 := hv.pad k
                rw [HV.out.2.2.1, HV.out.2.2.2.2.2.1, HV.out.2.2.2.2.1, HK.out.2.2] at h1
                have h2 := h1 hlt (by omega)
                rw [HM.out] at h2
                dsimp only at h2
                rw [HK.out.1] at h2
                cases h2
                exact absurd HK.out.2.1.symm (by simpa using HZ.out)
        · go_wp2_with fail
          have hkN : k = N := by omega
          subst hkN
          go_ret2
          have hval : Val L m.W m.H m.C m.B m.P m.Pd m.O := by
            refine ⟨?_, ?_, ?_⟩
            · rw [HM.out]; exact ⟨HV.out.1, rfl, rfl, rfl, rfl, rfl, rfl⟩
            · rw [HM.out, HV.out.2.2.2.2.2.1, ← HLen.out]; simp
            · rw [HM.out, HV.out.2.2.2.2.2.1, HV.out.2.2.2.2.1]; exact HN.out
          refine ⟨HB.out.2.2.1, ?_⟩
          rw [if_pos (Im.val_good hval)]
          refine ⟨w1.heap.size, W.heap.size, kc, rfl, ?_, HV.out.2.2.2.2.2.2.2.1, HB.out.2.2.2⟩
          rw [HV.out.2.2.1]
          have hml : m.l = mO.data.toList := by rw [HM.out]; rfl
          have hmo : m.O = mO := by rw [HM.out]
          have hll : mO.data.toList.length = k := by rw [← HLen.out]; simp
          rw [hml, hmo]
          exact ⟨by rw [hll]; exact HB.out.1, HB.out.2.1, by rw [hll, HV.out.2.2.2.2.2.1]⟩
    · have HLen := Lib.hid hlen
      refine wp_seq_all (fun k => k == 1 || k == 8 || k == 10) (fun k _ => if k = 1 then .bool true else if k = 8 then .int .i64 (N1 : Nat) else .int .i64 (N2 : Nat)) (fun _ _ _ => True) (by kernel_rfl) (by kernel_rfl) (fun _ _ _ _ _ h => h) ?_
      repeat (first | (refine seq_skip (by rfl) ?_; simp only [Act.put, List.setIfInBounds_toArray, List.set_cons_zero, List.set_cons_succ, Nat.reduceAdd]) | (refine seq_pure (v := ?_) (by rfl) (by rfl) (fun W hW hC => ?_) ?_; rotate_left; (go_simp <;> with_reducible rfl); simp only [Act.put, List.setIfInBounds_toArray, List.set_cons_zero, List.set_cons_succ, Nat.reduceAdd]))
      refine seq_made (by rfl) (by rfl) (fun W hW hC hF R hR => ?_) (fun _ => ?_)
      · unfold Gives; go_simp
        refine (HF.out W).mono ?_
        rintro r w8 ⟨rfl, hb8⟩
        refine ⟨_, rfl, ?_⟩
        exact hR {} _ hb8 trivial
      simp only [Act.put, List.setIfInBounds_toArray, List.set_cons_zero, List.set_cons_succ, Nat.reduceAdd]
      repeat (first | (refine seq_skip (by rfl) ?_; simp only [Act.put, List.setIfInBounds_toArray, List.set_cons_zero, List.set_cons_succ, Nat.reduceAdd]) | (refine seq_pure (v := ?_) (by rfl) (by rfl) (fun W hW hC => ?_) ?_; rotate_left; (go_simp <;> with_reducible rfl); simp only [Act.put, List.setIfInBounds_toArray, List.set_cons_zero, List.set_cons_succ, Nat.reduceAdd]))
      refine seq_made (by rfl) (by rfl) (fun W hW hC hF R hR => ?_) (fun _ => ?_)
      · unfold Gives; go_simp
        refine (HR.out W hW).mono ?_
        rintro r w8 ⟨rfl, hb8⟩
        refine ⟨_, rfl, ?_⟩
        rw [HV.out.2.2.2.1]
        exact hR {} _ hb8 trivial
      simp only [Act.put, List.setIfInBounds_toArray, List.set_cons_zero, List.set_cons_succ, Nat.reduceAdd]
      repeat (first | (refine seq_skip (by rfl) ?_; simp only [Act.put, List.setIfInBounds_toArray, List.set_cons_zero, List.set_cons_succ, Nat.reduceAdd]) | (refine seq_pure (v := ?_) (by rfl) (by rfl) (fun W hW hC => ?_) ?_; rotate_left; (go_simp <;> with_reducible rfl); simp only [Act.put, List.setIfInBounds_toArray, List.set_cons_zero, List.set_cons_succ, Nat.reduceAdd]))
      refine seq_made (by rfl) (by rfl) (fun W hW hC hF R hR => ?_) (fun _ => ?_)
      · unfold Gives; go_simp
        refine (HT.out W hW).mono ?_
        rintro r w8 ⟨rfl, hb8⟩
        refine ⟨_, rfl, ?_⟩
        rw [HV.out.2.2.2.2.1]
        exact hR {} _ hb8 trivial
      simp only [Act.put, List.setIfInBounds_toArray, List.set_cons_zero, List.set_cons_succ, Nat.reduceAdd]
      repeat (first | (refine seq_skip (by rfl) ?_; simp only [Act.put, List.setIfInBounds_toArray, List.set_cons_zero, List.set_cons_succ, Nat.reduceAdd]) | (refine seq_pure (v := ?_) (by rfl) (by rfl) (fun W hW hC => ?_) ?_; rotate_left; (go_simp <;> with_reducible rfl); simp only [Act.put, List.setIfInBounds_toArray, List.set_cons_zero, List.set_cons_succ, Nat.reduceAdd]))
      refine seq_nil ?_; intro W hW hF
      clear hF
      have HW := Lib.hid hW
      clear hW c0 c1 c2 c3 c4 c5 c6
      go_wp2
      go_ret2
      refine openR_bad ?_ (below_trans HV.out.2.2.2.2.2.2.1 HW.out)
      unfold Im.good
      rw [HV.out.2.2.1, HV.out.2.2.2.2.2.1, decide_eq_false, Bool.and_false, Bool.false_and]
      rw [HM.out]
      exact HLen.out
  · have hS' : m.shp = false := by simpa using hS
    have hg : m.good = false := by unfold Im.good; rw [hS']; rfl
    rw [hS'] at HF
    have HG := Lib.hid hg
    have HB := Lib.hid (And.intro b0 (And.intro bv (And.intro hb2 hsz)))
    clear hg hS' hS b0 bv hb2 hsz
    refine wp_seq_all (fun k => k == 1) (fun _ _ => .bool false) (fun _ _ _ => True) (by kernel_rfl) (by kernel_rfl) (fun _ _ _ _ _ h => h) ?_
    repeat (first | (refine seq_skip (by rfl) ?_; simp only [Act.put, List.setIfInBounds_toArray, List.set_cons_zero, List.set_cons_succ, Nat.reduceAdd]) | (refine seq_pure (v := ?_) (by rfl) (by rfl) (fun W hW hC => ?_) ?_; rotate_left; (go_simp <;> with_reducible rfl); simp only [Act.put, List.setIfInBounds_toArray, List.set_cons_zero, List.set_cons_succ, Nat.reduceAdd]))
    refine seq_made (by rfl) (by rfl) (fun W hW hC hF R hR => ?_) (fun _ => ?_)
    · unfold Gives; go_simp
      refine (HF.out W).mono ?_
      rintro r w8 ⟨rfl, hb8⟩
      refine ⟨_, rfl, ?_⟩
      exact hR {} _ hb8 trivial
    simp only [Act.put, List.setIfInBounds_toArray, List.set_cons_zero, List.set_cons_succ, Nat.reduceAdd]
    repeat (first | (refine seq_skip (by rfl) ?_; simp only [Act.put, List.setIfInBounds_toArray, List.set_cons_zero, List.set_cons_succ, Nat.reduceAdd]) | (refine seq_pure (v := ?_) (by rfl) (by rfl) (fun W hW hC => ?_) ?_; rotate_left; (go_simp <;> with_reducible rfl); simp only [Act.put, List.setIfInBounds_toArray, List.set_cons_zero, List.set_cons_succ, Nat.reduceAdd]))
    refine seq_nil ?_; intro W hW hF
    clear hF
    have HW := Lib.hid hW
    clear hW c0 c1 c2 c3 c4 c5 c6
    go_wp2
    go_ret2
    exact openR_bad HG.out (below_trans HB.out.2.2.1 HW.out)
end Go.Proofs.Ytpgkhhdobolfbaa
