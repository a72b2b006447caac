/-
  The reference's put.
-/
import Derived.Test.YtpgkhhdobolfbaaIRefD
namespace Go.Proofs.Ytpgkhhdobolfbaa
set_option linter.unusedVariables false
set_option linter.unusedSimpArgs false
open Go Go.RowKit

theorem u8_mod (n : Nat) : ((UInt8.ofNat (n % 256)).toNat : Int) = ((UInt8.ofNat n).toNat : Int) := by
  rw [UInt8.toNat_ofNat', UInt8.toNat_ofNat']; omega


set_option maxRecDepth 100000 in
set_option maxHeartbeats 3200000 in
theorem refput1_calls {L : Lay} (hok : L.Ok) (hk : L.k = 1) (O : ByteArray) {f : Nat → Nat → Nat → Nat} (hp : Pix L O.data.toList f) (x y : Nat) (hx : x < L.W) (hy : y < L.H)
    (A : Option Addr) (ca : Nat) (vs : List Int) (w : World) (hvs : Cs w .i64 A vs) (hA : ∀ p, A = some p → p.block < w.heap.size) (hlen : vs.length = L.C) (hr : ∀ v ∈ vs, 0 ≤ v ∧ v < 65536) :
    Calls Try.prog 61 #[imV L O, .int .i64 (x : Nat), .int .i64 (y : Nat), .slice A vs.length ca] w fun e w' => e = .returned (img L (updS f x y vs)).v ∧ Below w.heap.size w w' := by
  have HP := Lib.hid (fun W c (hc : c < L.C) => refplace_calls hok O hx hy hc W)
  have HV := Lib.hid (And.intro hok (And.intro hp (And.intro hx (And.intro hy (And.intro hvs (And.intro hA (And.intro hlen (And.intro hr hk))))))))
  obtain ⟨nv, hnv⟩ : ∃ n, vs.length = n := ⟨_, rfl⟩
  obtain ⟨nC, hnC⟩ : ∃ n, L.C = n := ⟨_, rfl⟩
  unfold imV at HP ⊢
  rw [hnv]
  rw [hnC] at HP ⊢
  rw [hk, show ((8 * 1 : Nat) : Int) = 8 by rfl] at HP ⊢
  have HN := Lib.hid (And.intro hnv (And.intro hnC (show nC = nv by omega)))
  clear hok hp hx hy hvs hA hlen hr hnv hnC hk
  go_enter Try.func61, Try.ntmps61
  go_upto_region 1 with fail
  refine wp_named ?_
  intro w1 hw1
  have b0 : Blk w1 w.heap.size [.int .i64 (L.W : Nat), .int .i64 (L.H : Nat), .int .i64 (nC : Nat), .int .i64 8, .bool L.P, .int .i64 (L.pd : Nat), .string O] 24 := by rw [hw1]; exact (Blk.new _ _ _).alloc _
  have br : Blk w1 (w.heap.size + 1) zeroC 24 := by rw [hw1]; exact Blk.at (by simp)
  have hb1 : Below w.heap.size w w1 := by rw [hw1]; repeat (first | exact below_alloc _ | refine below_trans ?_ (below_alloc _))
  clear hw1
  obtain ⟨w2, kc, hcv, hoct, hb2⟩ := bytes_made w1 O
  have c6 := b0.cell (i := 6) rfl
  have HB := Lib.hid (And.intro (b0.kept hb2) (And.intro (br.kept hb2) (And.intro (below_trans hb1 hb2) (And.intro hoct ((HV.out.2.2.2.2.1.kept hb1).kept hb2)))))
  have hsz : w.heap.size + 1 < w1.heap.size := br.lt
  have HSz := Lib.hid hsz
  have HLenO := Lib.hid (show O.size = L.size by have := HV.out.2.1.len; simpa using this)
  obtain ⟨no, hno⟩ : ∃ n, O.size = n := ⟨_, rfl⟩
  rw [hno] at hcv
  have HNo := Lib.hid hno
  clear b0 br hb1 hoct hb2 hsz hno
  go_wp2_with fail
  clear hcv c6
  have hnm : (nC : Int) ≤ 9223372036854775807 := by have := HV.out.1.c2; have := HN.out; omega
  go_loopw [10] (fun s wr => ∃ c : Nat, c ≤ nC ∧ s = .int .i64 c ∧ OffZ w1.heap.size (w1.heap.size + 1) w2 wr ∧ ∃ l', Oct wr w1.heap.size l' ∧ Pix L l' (updC f x y vs c)) (fun s _ => nC - (intOf s).toNat)
  case atStart => exact ⟨0, Nat.zero_le _, rfl, OffZ.refl _ _ _, _, HB.out.2.2.2.1, HV.out.2.1.congr fun _ _ _ _ _ _ => by unfold updC; rw [if_neg (by omega)]⟩
  case round =>
    obtain ⟨c, hc0, rfl, hz, l2, ho2, hp2⟩ := hrel
    have b0 := HB.out.1.offZ hz (by have := HSz.out; omega)
    have c0 := b0.cell (i := 0) rfl
    have c1 := b0.cell (i := 1) rfl
    have c2 := b0.cell (i := 2) rfl
    have c3 := b0.cell (i := 3) rfl
    have c4 := b0.cell (i := 4) rfl
    have c5 := b0.cell (i := 5) rfl
    have c6 := b0.cell (i := 6) rfl
    have HR := Lib.hid (And.intro hz (And.intro ho2 (And.intro hp2 b0)))
    clear hz ho2 hp2 b0
    by_cases hlt : c < nC
    · have hwk : wrap64 ((c : Int) + 1) = ((c + 1 : Nat) : Int) := by unfold wrap64; omega
      go_wp2_with fail
      refine (HP.out wr c hlt).mono ?_
      rintro r w5 ⟨rfl, hb5⟩
      clear c0 c1 c2 c3 c4 c5 c6
      have hcC : c < L.C := by have := HN.out; omega
      have hl2 := HR.out.2.2.1.len
      have hpr := (HV.out.1.place_row HV.out.2.2.1 HV.out.2.2.2.1 hcC (j := 0) (by rw [HV.out.2.2.2.2.2.2.2.2]; omega)).2.2.2
      obtain ⟨p, hpe⟩ : ∃ p, L.place x y c = p := ⟨_, rfl⟩
      rw [hpe] at hpr ⊢
      have hcs := (Cs.offZ HB.out.2.2.2.2 HR.out.1 (fun q e => by have := HV.out.2.2.2.2.2.1 q e; have := HSz.out; omega)).kept hb5
      obtain ⟨v, vb, vo, hv, hAe, hvc⟩ := hcs.at (i := c) (by have := HN.out; omega)
      obtain ⟨hv0, hv1⟩ := HV.out.2.2.2.2.2.2.2.1 v (List.mem_of_getElem? hv)
      obtain ⟨n, rfl⟩ := Int.eq_ofNat_of_zero_le hv0
      have ho5 := HR.out.2.1.kept hb5
      have b5 := HR.out.2.2.2.kept hb5
      have c3 := b5.cell (i := 3) rfl
      have hlc : c < nv := by have := HN.out; omega
      have hpn : p < no := by have := HNo.out; have := HLenO.out; omega
      have hpn1 : p + 0 < no := by have := HNo.out; have := HLenO.out; omega
      have hno2 : no ≤ 140000 := by
        have h1 := HNo.out
        have h2 := HLenO.out
        have h3 := View.size (w := w5) (b := 0) (g := 0) (O := O) (k := 0) (l := l2) HV.out.1
        have g1 := HV.out.1.h2
        have g2 := HV.out.1.c2
        have g3 : L.H * L.C ≤ 64 * 4 := Nat.mul_le_mul g1 g2
        have g4 : L.rows ≤ 256 := by unfold Lay.rows; split <;> omega
        have g5 := HV.out.1.stride_row.2.1
        have g6 := HV.out.1.row_pos.2
        have g7 : L.pd ≤ 8 := by rcases HV.out.1.pad with e | e | e | e <;> omega
        have g8 : L.rows * L.stride ≤ 256 * 520 := Nat.mul_le_mul g4 (by omega)
        unfold Lay.size at h2
        omega
      have hmd : Int.tmod (n : Int) 256 = ((n % 256 : Nat) : Int) := by rw [Int.tmod_eq_emod_of_nonneg (by omega)]; rfl
      obtain ⟨md, hmde⟩ : ∃ q, n % 256 = q := ⟨_, rfl⟩
      rw [hmde] at hmd
      obtain ⟨z, hz⟩ : ∃ z : Int, ((UInt8.ofNat n).toNat : Int) = z := ⟨_, rfl⟩
      have hw0 : IntKind.u8.wrap (md : Int) = z := by rw [u8_ofNat, ← hz, ← hmde, u8_mod]
      obtain ⟨o1, ho1⟩ : ∃ o, l2[p]? = some o := ⟨_, List.getElem?_eq_getElem (by omega)⟩
      have q1 := ho5.cell p o1 ho1
      have q2 := ho5.free p (by omega)
      obtain ⟨t1, ht1⟩ : ∃ t : Int, (o1.toNat : Int) = t := ⟨_, rfl⟩
      rw [ht1] at q1
      have HX := Lib.hid (And.intro ho5 (And.intro b5 (And.intro hb5 (And.intro hv (And.intro hv1 (And.intro hcC (And.intro hpr (And.intro hpe (And.intro hz (And.intro hmde (And.intro hl2 hcs)))))))))))
      clear hv hv0 hv1 hcC hpr hpe hz hmde hl2 hcs ho5 b5 hb5 ho1 ht1
      subst hAe
      go_wp2_with fail
      clear q1 q2 c3 hvc hmd hw0 hpn hpn1 hno2 hlc
      go_roundw
      case rel =>
        obtain ⟨ho5, b5, hb5, hv, hv1, hcC, hpr, hpe, hz, hmde, hl2, hcs⟩ := HX.out
        have e : putS L l2 x y c n = l2.set p (UInt8.ofNat n) := by unfold putS; rw [if_neg (by have := HV.out.2.2.2.2.2.2.2.2; omega), hpe]
        refine ⟨c + 1, by omega, by go_num, ?_, putS L l2 x y c n, ?_, HR.out.2.2.1.put_at HV.out.1 HV.out.2.2.1 HV.out.2.2.2.1 hcC hv⟩
        · exact (HR.out.1.trans (OffZ.of_below hb5)).trans (OffZ.setCell _ (Nat.le_refl w1.heap.size) (Nat.lt_succ_self w1.heap.size) _)
        · rw [e, ← hz]; exact ho5.setO (by omega) n
      case measure => exact meas rfl (by go_num) hlt
    · have hcn : c = nC := by omega
      have hlen2 : l2.length = no := by have := HR.out.2.2.1.len; have := HNo.out; have := HLenO.out; omega
      have hcs := string_of_oct HR.out.2.1 kc
      rw [hlen2] at hcs
      obtain ⟨S, hS⟩ : ∃ S : ByteArray, ⟨l2.toArray⟩ = S := ⟨_, rfl⟩
      rw [hS] at hcs
      have f6 := HR.out.2.2.2.free 6
      have HS := Lib.hid (And.intro hcn hS)
      clear hcn hlen2 hS c0 c1 c3 c4 c5
      go_upto_region 11 with fail
      refine wp_named ?_
      intro w6 hw6
      have b6 : Blk w6 w.heap.size [.int .i64 (L.W : Nat), .int .i64 (L.H : Nat), .int .i64 (nC : Nat), .int .i64 8, .bool L.P, .int .i64 (L.pd : Nat), .string S] 24 := by rw [hw6]; exact HR.out.2.2.2.set 6 _
      have br : Blk w6 (w.heap.size + 1) zeroC 24 := by rw [hw6]; exact (HB.out.2.1.offZ HR.out.1 (by have := HSz.out; omega)).other (by show w.heap.size + 1 ≠ w.heap.size; omega) _
      have hbw : Below w.heap.size w w6 := by rw [hw6]; exact (Below.offZ HB.out.2.2.1 (Nat.le_refl _) HR.out.1 (by have := HSz.out; omega)).setCell (p := ⟨w.heap.size, 6, none⟩) (Nat.le_refl w.heap.size) _
      clear hw6 hcs c2 c6 f6
      have himg : img L (updS f x y vs) = ⟨(L.W : Nat), (L.H : Nat), (nC : Nat), 8, L.P, (L.pd : Nat), S⟩ := by
        refine (eq_mk (m := ⟨(L.W : Nat), (L.H : Nat), (nC : Nat), 8, L.P, (L.pd : Nat), S⟩) ⟨HV.out.1, rfl, rfl, by have := HN.out; show (nC : Int) = _; omega, by show (8 : Int) = _; rw [HV.out.2.2.2.2.2.2.2.2]; rfl, rfl, rfl⟩ ?_).symm
        show Pix L S.data.toList _
        rw [← HS.out.2]
        refine (show Pix L l2 _ from HR.out.2.2.1.congr fun x' y' c' _ _ hc' => ?_)
        unfold updC updS
        have hcc : c' < c := by have := HN.out; have := HS.out.1; omega
        by_cases e : x' = x ∧ y' = y
        · rw [if_pos e, if_pos ⟨e.1, e.2, hcc⟩]
        · rw [if_neg e, if_neg (fun e2 => e ⟨e2.1, e2.2.1⟩)]
      obtain ⟨R, hR⟩ : ∃ R : Im, R = img L (updS f x y vs) := ⟨_, rfl⟩
      have hRl : [Value.int .i64 (L.W : Nat), .int .i64 (L.H : Nat), .int .i64 (nC : Nat), .int .i64 8, .bool L.P, .int .i64 (L.pd : Nat), .string S] = [.int .i64 R.W, .int .i64 R.H, .int .i64 R.C, .int .i64 R.B, .bool R.P, .int .i64 R.Pd, .string R.O] := by rw [hR, himg]
      rw [hRl] at b6
      have HRR := Lib.hid hR
      clear hR hRl himg
      have c0 := b6.cell (i := 0) rfl
      have c1 := b6.cell (i := 1) rfl
      have c2 := b6.cell (i := 2) rfl
      have c3 := b6.cell (i := 3) rfl
      have c4 := b6.cell (i := 4) rfl
      have c5 := b6.cell (i := 5) rfl
      have c6 := b6.cell (i := 6) rfl
      clear b6
      have HWz := Lib.hid (below_set7 hbw (Nat.le_succ w.heap.size))
      have r0 := br.cell (i := 0) rfl
      have r1 := br.cell (i := 1) rfl
      have r2 := br.cell (i := 2) rfl
      have r3 := br.cell (i := 3) rfl
      have r4 := br.cell (i := 4) rfl
      have r5 := br.cell (i := 5) rfl
      have r6 := br.cell (i := 6) rfl
      have f0 := br.free 0
      have f1 := br.free 1
      have f2 := br.free 2
      have f3 := br.free 3
      have f4 := br.free 4
      have f5 := br.free 5
      have f6 := br.free 6
      clear br hbw
      go_wp2_with fail
      rw [← HRR.out]
      exact bodyPost_ret (v := R.v) (by rw [imgV_eq]; simp [results, Try.results61, go_sem, *]) rfl ⟨rfl, HWz.out _ _ _ _ _ _ _⟩

set_option maxRecDepth 100000 in
set_option maxHeartbeats 3200000 in
theorem refput2_calls {L : Lay} (hok : L.Ok) (hk : L.k = 2) (O : ByteArray) {f : Nat → Nat → Nat → Nat} (hp : Pix L O.data.toList f) (x y : Nat) (hx : x < L.W) (hy : y < L.H)
    (A : Option Addr) (ca : Nat) (vs : List Int) (w : World) (hvs : Cs w .i64 A vs) (hA : ∀ p, A = some p → p.block < w.heap.size) (hlen : vs.length = L.C) (hr : ∀ v ∈ vs, 0 ≤ v ∧ v < 65536) :
    Calls Try.prog 61 #[imV L O, .int .i64 (x : Nat), .int .i64 (y : Nat), .slice A vs.length ca] w fun e w' => e = .returned (img L (updS f x y vs)).v ∧ Below w.heap.size w w' := by
  have HP := Lib.hid (fun W c (hc : c < L.C) => refplace_calls hok O hx hy hc W)
  have HV := Lib.hid (And.intro hok (And.intro hp (And.intro hx (And.intro hy (And.intro hvs (And.intro hA (And.intro hlen (And.intro hr hk))))))))
  obtain ⟨nv, hnv⟩ : ∃ n, vs.length = n := ⟨_, rfl⟩
  obtain ⟨nC, hnC⟩ : ∃ n, L.C = n := ⟨_, rfl⟩
  unfold imV at HP ⊢
  rw [hnv]
  rw [hnC] at HP ⊢
  rw [hk, show ((8 * 2 : Nat) : Int) = 16 by rfl] at HP ⊢
  have HN := Lib.hid (And.intro hnv (And.intro hnC (show nC = nv by omega)))
  clear hok hp hx hy hvs hA hlen hr hnv hnC hk
  go_enter Try.func61, Try.ntmps61
  go_upto_region 1 with fail
  refine wp_named ?_
  intro w1 hw1
  have b0 : Blk w1 w.heap.size [.int .i64 (L.W : Nat), .int .i64 (L.H : Nat), .int .i64 (nC : Nat), .int .i64 16, .bool L.P, .int .i64 (L.pd : Nat), .string O] 24 := by rw [hw1]; exact (Blk.new _ _ _).alloc _
  have br : Blk w1 (w.heap.size + 1) zeroC 24 := by rw [hw1]; exact Blk.at (by simp)
  have hb1 : Below w.heap.size w w1 := by rw [hw1]; repeat (first | exact below_alloc _ | refine below_trans ?_ (below_alloc _))
  clear hw1
  obtain ⟨w2, kc, hcv, hoct, hb2⟩ := bytes_made w1 O
  have c6 := b0.cell (i := 6) rfl
  have HB := Lib.hid (And.intro (b0.kept hb2) (And.intro (br.kept hb2) (And.intro (below_trans hb1 hb2) (And.intro hoct ((HV.out.2.2.2.2.1.kept hb1).kept hb2)))))
  have hsz : w.heap.size + 1 < w1.heap.size := br.lt
  have HSz := Lib.hid hsz
  have HLenO := Lib.hid (show O.size = L.size by have := HV.out.2.1.len; simpa using this)
  obtain ⟨no, hno⟩ : ∃ n, O.size = n := ⟨_, rfl⟩
  rw [hno] at hcv
  have HNo := Lib.hid hno
  clear b0 br hb1 hoct hb2 hsz hno
  go_wp2_with fail
  clear hcv c6
  have hnm : (nC : Int) ≤ 9223372036854775807 := by have := HV.out.1.c2; have := HN.out; omega
  go_loopw [10] (fun s wr => ∃ c : Nat, c ≤ nC ∧ s = .int .i64 c ∧ OffZ w1.heap.size (w1.heap.size + 1) w2 wr ∧ ∃ l', Oct wr w1.heap.size l' ∧ Pix L l' (updC f x y vs c)) (fun s _ => nC - (intOf s).toNat)
  case atStart => exact ⟨0, Nat.zero_le _, rfl, OffZ.refl _ _ _, _, HB.out.2.2.2.1, HV.out.2.1.congr fun _ _ _ _ _ _ => by unfold updC; rw [if_neg (by omega)]⟩
  case round =>
    obtain ⟨c, hc0, rfl, hz, l2, ho2, hp2⟩ := hrel
    have b0 := HB.out.1.offZ hz (by have := HSz.out; omega)
    have c0 := b0.cell (i := 0) rfl
    have c1 := b0.cell (i := 1) rfl
    have c2 := b0.cell (i := 2) rfl
    have c3 := b0.cell (i := 3) rfl
    have c4 := b0.cell (i := 4) rfl
    have c5 := b0.cell (i := 5) rfl
    have c6 := b0.cell (i := 6) rfl
    have HR := Lib.hid (And.intro hz (And.intro ho2 (And.intro hp2 b0)))
    clear hz ho2 hp2 b0
    by_cases hlt : c < nC
    · have hwk : wrap64 ((c : Int) + 1) = ((c + 1 : Nat) : Int) := by unfold wrap64; omega
      go_wp2_with fail
      refine (HP.out wr c hlt).mono ?_
      rintro r w5 ⟨rfl, hb5⟩
      clear c0 c1 c2 c3 c4 c5 c6
      have hcC : c < L.C := by have := HN.out; omega
      have hl2 := HR.out.2.2.1.len
      have hpr := (HV.out.1.place_row HV.out.2.2.1 HV.out.2.2.2.1 hcC (j := 1) (by rw [HV.out.2.2.2.2.2.2.2.2]; omega)).2.2.2
      obtain ⟨p, hpe⟩ : ∃ p, L.place x y c = p := ⟨_, rfl⟩
      rw [hpe] at hpr ⊢
      have hcs := (Cs.offZ HB.out.2.2.2.2 HR.out.1 (fun q e => by have := HV.out.2.2.2.2.2.1 q e; have := HSz.out; omega)).kept hb5
      obtain ⟨v, vb, vo, hv, hAe, hvc⟩ := hcs.at (i := c) (by have := HN.out; omega)
      obtain ⟨hv0, hv1⟩ := HV.out.2.2.2.2.2.2.2.1 v (List.mem_of_getElem? hv)
      obtain ⟨n, rfl⟩ := Int.eq_ofNat_of_zero_le hv0
      have ho5 := HR.out.2.1.kept hb5
      have b5 := HR.out.2.2.2.kept hb5
      have c3 := b5.cell (i := 3) rfl
      have hlc : c < nv := by have := HN.out; omega
      have hpn : p < no := by have := HNo.out; have := HLenO.out; omega
      have hpn1 : p + 1 < no := by have := HNo.out; have := HLenO.out; omega
      have hno2 : no ≤ 140000 := by
        have h1 := HNo.out
        have h2 := HLenO.out
        have h3 := View.size (w := w5) (b := 0) (g := 0) (O := O) (k := 0) (l := l2) HV.out.1
        have g1 := HV.out.1.h2
        have g2 := HV.out.1.c2
        have g3 : L.H * L.C ≤ 64 * 4 := Nat.mul_le_mul g1 g2
        have g4 : L.rows ≤ 256 := by unfold Lay.rows; split <;> omega
        have g5 := HV.out.1.stride_row.2.1
        have g6 := HV.out.1.row_pos.2
        have g7 : L.pd ≤ 8 := by rcases HV.out.1.pad with e | e | e | e <;> omega
        have g8 : L.rows * L.stride ≤ 256 * 520 := Nat.mul_le_mul g4 (by omega)
        unfold Lay.size at h2
        omega
      have hmd : Int.tmod (n : Int) 256 = ((n % 256 : Nat) : Int) := by rw [Int.tmod_eq_emod_of_nonneg (by omega)]; rfl
      obtain ⟨md, hmde⟩ : ∃ q, n % 256 = q := ⟨_, rfl⟩
      rw [hmde] at hmd
      obtain ⟨z, hz⟩ : ∃ z : Int, ((UInt8.ofNat n).toNat : Int) = z := ⟨_, rfl⟩
      have hw0 : IntKind.u8.wrap (md : Int) = z := by rw [u8_ofNat, ← hz, ← hmde, u8_mod]
      obtain ⟨o1, ho1⟩ : ∃ o, l2[p]? = some o := ⟨_, List.getElem?_eq_getElem (by omega)⟩
      have q1 := ho5.cell p o1 ho1
      have q2 := ho5.free p (by omega)
      obtain ⟨t1, ht1⟩ : ∃ t : Int, (o1.toNat : Int) = t := ⟨_, rfl⟩
      rw [ht1] at q1
      have HX := Lib.hid (And.intro ho5 (And.intro b5 (And.intro hb5 (And.intro hv (And.intro hv1 (And.intro hcC (And.intro hpr (And.intro hpe (And.intro hz (And.intro hmde (And.intro hl2 hcs)))))))))))
      clear hv hv0 hv1 hcC hpr hpe hz hmde hl2 hcs ho5 b5 hb5 ho1 ht1
      subst hAe
      have hdv : Int.tdiv (n : Int) 256 = ((n / 256 : Nat) : Int) := by rw [Int.tdiv_eq_ediv_of_nonneg (by omega)]; rfl
      obtain ⟨dv, hdve⟩ : ∃ q, n / 256 = q := ⟨_, rfl⟩
      rw [hdve] at hdv
      have hdw : IntKind.i64.wrap (dv : Int) = (dv : Int) := wrap_id (by have := HX.out.2.2.2.2.1; omega)
      obtain ⟨z2, hz2⟩ : ∃ z : Int, ((UInt8.ofNat dv).toNat : Int) = z := ⟨_, rfl⟩
      have hw2 : IntKind.u8.wrap (dv : Int) = z2 := by rw [u8_ofNat, hz2]
      have hp1 : IntKind.i64.wrap ((p : Int) + 1) = ((p + 1 : Nat) : Int) := by rw [show (p : Int) + 1 = ((p + 1 : Nat) : Int) by omega]; exact wrap_id (by omega)
      obtain ⟨p2, hp2⟩ : ∃ q, p + 1 = q := ⟨_, rfl⟩
      rw [hp2] at hp1 hpn1
      have HD := Lib.hid (And.intro hdve (And.intro hz2 hp2))
      clear hdve hz2 hp2
      go_upto_region 8 with fail
      refine wp_named ?_
      intro w6 hw6
      have hz6 : OffZ w1.heap.size (w1.heap.size + 1) w5 w6 := by rw [hw6]; exact OffZ.setCell w5 (p := ⟨w1.heap.size, p, none⟩) (Nat.le_refl w1.heap.size) (Nat.lt_succ_self w1.heap.size) _
      have ho6 : Oct w6 w1.heap.size (l2.set p (UInt8.ofNat dv)) := by rw [hw6, ← HD.out.2.1]; exact HX.out.1.setO (by have := HX.out; omega) dv
      have hvc6 : w6.cell? ⟨vb, vo + c, none⟩ = some (.int .i64 (n : Nat)) := by
        rw [hw6]
        refine (World.cell?_setCell_other _ _ _ _ ?_).trans hvc
        intro e
        have h1 := HV.out.2.2.2.2.2.1 _ rfl
        have h2 := HSz.out
        have h3 : vb = w1.heap.size := (congrArg Addr.block e).symm
        have h4 : vb < w.heap.size := h1
        omega
      obtain ⟨o2, ho2⟩ : ∃ o, (l2.set p (UInt8.ofNat dv))[p2]? = some o := ⟨_, List.getElem?_eq_getElem (by rw [List.length_set]; have := HX.out; have := HD.out; omega)⟩
      have r1 := ho6.cell p2 o2 ho2
      have r2 := ho6.free p2 (by rw [List.length_set]; have := HX.out; have := HD.out; omega)
      obtain ⟨t2, ht2⟩ : ∃ t : Int, (o2.toNat : Int) = t := ⟨_, rfl⟩
      rw [ht2] at r1
      have HO6 := Lib.hid (And.intro hz6 ho6)
      clear hw6 hz6 ho6 ho2 ht2 q1 q2 hvc c3 hdv hdw hw2 hpn
      go_wp2_with fail
      clear r1 r2 hvc6 hmd hw0 hpn1 hno2 hlc hp1
      go_roundw
      case rel =>
        obtain ⟨ho5, b5, hb5, hv, hv1, hcC, hpr, hpe, hz, hmde, hl2, hcs⟩ := HX.out
        have e : putS L l2 x y c n = (l2.set p (UInt8.ofNat dv)).set p2 (UInt8.ofNat n) := by unfold putS; rw [if_pos HV.out.2.2.2.2.2.2.2.2, hpe, HD.out.1, HD.out.2.2]
        refine ⟨c + 1, by omega, by go_num, ?_, putS L l2 x y c n, ?_, HR.out.2.2.1.put_at HV.out.1 HV.out.2.2.1 HV.out.2.2.2.1 hcC hv⟩
        · exact ((HR.out.1.trans (OffZ.of_below hb5)).trans HO6.out.1).trans (OffZ.setCell _ (Nat.le_refl w1.heap.size) (Nat.lt_succ_self w1.heap.size) _)
        · rw [e, ← hz]; exact HO6.out.2.setO (by rw [List.length_set]; have := HD.out; omega) n
      case measure => exact meas rfl (by go_num) hlt
    · have hcn : c = nC := by omega
      have hlen2 : l2.length = no := by have := HR.out.2.2.1.len; have := HNo.out; have := HLenO.out; omega
      have hcs := string_of_oct HR.out.2.1 kc
      rw [hlen2] at hcs
      obtain ⟨S, hS⟩ : ∃ S : ByteArray, ⟨l2.toArray⟩ = S := ⟨_, rfl⟩
      rw [hS] at hcs
      have f6 := HR.out.2.2.2.free 6
      have HS := Lib.hid (And.intro hcn hS)
      clear hcn hlen2 hS c0 c1 c3 c4 c5
      go_upto_region 11 with fail
      refine wp_named ?_
      intro w6 hw6
      have b6 : Blk w6 w.heap.size [.int .i64 (L.W : Nat), .int .i64 (L.H : Nat), .int .i64 (nC : Nat), .int .i64 16, .bool L.P, .int .i64 (L.pd : Nat), .string S] 24 := by rw [hw6]; exact HR.out.2.2.2.set 6 _
      have br : Blk w6 (w.heap.size + 1) zeroC 24 := by rw [hw6]; exact (HB.out.2.1.offZ HR.out.1 (by have := HSz.out; omega)).other (by show w.heap.size + 1 ≠ w.heap.size; omega) _
      have hbw : Below w.heap.size w w6 := by rw [hw6]; exact (Below.offZ HB.out.2.2.1 (Nat.le_refl _) HR.out.1 (by have := HSz.out; omega)).setCell (p := ⟨w.heap.size, 6, none⟩) (Nat.le_refl w.heap.size) _
      clear hw6 hcs c2 c6 f6
      have himg : img L (updS f x y vs) = ⟨(L.W : Nat), (L.H : Nat), (nC : Nat), 16, L.P, (L.pd : Nat), S⟩ := by
        refine (eq_mk (m := ⟨(L.W : Nat), (L.H : Nat), (nC : Nat), 16, L.P, (L.pd : Nat), S⟩) ⟨HV.out.1, rfl, rfl, by have := HN.out; show (nC : Int) = _; omega, by show (16 : Int) = _; rw [HV.out.2.2.2.2.2.2.2.2]; rfl, rfl, rfl⟩ ?_).symm
        show Pix L S.data.toList _
        rw [← HS.out.2]
        refine (show Pix L l2 _ from HR.out.2.2.1.congr fun x' y' c' _ _ hc' => ?_)
        unfold updC updS
        have hcc : c' < c := by have := HN.out; have := HS.out.1; omega
        by_cases e : x' = x ∧ y' = y
        · rw [if_pos e, if_pos ⟨e.1, e.2, hcc⟩]
        · rw [if_neg e, if_neg (fun e2 => e ⟨e2.1, e2.2.1⟩)]
      obtain ⟨R, hR⟩ : ∃ R : Im, R = img L (updS f x y vs) := ⟨_, rfl⟩
      have hRl : [Value.int .i64 (L.W : Nat), .int .i64 (L.H : Nat), .int .i64 (nC : Nat), .int .i64 16, .bool L.P, .int .i64 (L.pd : Nat), .string S] = [.int .i64 R.W, .int .i64 R.H, .int .i64 R.C, .int .i64 R.B, .bool R.P, .int .i64 R.Pd, .string R.O] := by rw [hR, himg]
      rw [hRl] at b6
      have HRR := Lib.hid hR
      clear hR hRl himg
      have c0 := b6.cell (i := 0) rfl
      have c1 := b6.cell (i := 1) rfl
      have c2 := b6.cell (i := 2) rfl
      have c3 := b6.cell (i := 3) rfl
      have c4 := b6.cell (i := 4) rfl
      have c5 := b6.cell (i := 5) rfl
      have c6 := b6.cell (i := 6) rfl
      clear b6
      have HWz := Lib.hid (below_set7 hbw (Nat.le_succ w.heap.size))
      have r0 := br.cell (i := 0) rfl
      have r1 := br.cell (i := 1) rfl
      have r2 := br.cell (i := 2) rfl
      have r3 := br.cell (i := 3) rfl
      have r4 := br.cell (i := 4) rfl
      have r5 := br.cell (i := 5) rfl
      have r6 := br.cell (i := 6) rfl
      have f0 := br.free 0
      have f1 := br.free 1
      have f2 := br.free 2
      have f3 := br.free 3
      have f4 := br.free 4
      have f5 := br.free 5
      have f6 := br.free 6
      clear br hbw
      go_wp2_with fail
      rw [← HRR.out]
      exact bodyPost_ret (v := R.v) (by rw [imgV_eq]; simp [results, Try.results61, go_sem, *]) rfl ⟨rfl, HWz.out _ _ _ _ _ _ _⟩

theorem refput_calls {L : Lay} (hok : L.Ok) (O : ByteArray) {f : Nat → Nat → Nat → Nat} (hp : Pix L O.data.toList f) (x y : Nat) (hx : x < L.W) (hy : y < L.H)
    (A : Option Addr) (ca : Nat) (vs : List Int) (w : World) (hvs : Cs w .i64 A vs) (hA : ∀ p, A = some p → p.block < w.heap.size) (hlen : vs.length = L.C) (hr : ∀ v ∈ vs, 0 ≤ v ∧ v < 65536) :
    Calls Try.prog 61 #[imV L O, .int .i64 (x : Nat), .int .i64 (y : Nat), .slice A vs.length ca] w fun e w' => e = .returned (img L (updS f x y vs)).v ∧ Below w.heap.size w w' := by
  rcases hok.bits with e | e
  · exact refput1_calls hok e O hp x y hx hy A ca vs w hvs hA hlen hr
  · exact refput2_calls hok e O hp x y hx hy A ca vs w hvs hA hlen hr
end Go.Proofs.Ytpgkhhdobolfbaa
