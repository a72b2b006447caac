/-
  alike: two images of the same samples; the plain laws of Shape.
-/
import Derived.Test.YtpgkhhdobolfbaaISets
namespace Go.Proofs.Ytpgkhhdobolfbaa
set_option linter.unusedVariables false
set_option linter.unusedSimpArgs false
open Go Go.RowKit

/-- A sample in another depth (k octets). -/
def cv (a b v : Nat) : Nat := if a = 1 ∧ b = 2 then 257 * v else if a = 2 ∧ b = 1 then (v + 128) / 257 else v
theorem img_shape {L : Lay} (h : L.Ok) {f : Nat → Nat → Nat → Nat} (hb : Bd L f) {b : Nat} (hb2 : b = 1 ∨ b = 2) (P : Bool) {pd : Nat} (hpd : pd = 1 ∨ pd = 2 ∨ pd = 4 ∨ pd = 8) :
    shapeS (img L f) ((8 * b : Nat) : Int) P (pd : Nat) = (img ⟨L.W, L.H, L.C, b, P, pd⟩ (fun x y c => cv L.k b (f x y c)), 0) := by
  have ok2 : Lay.Ok ⟨L.W, L.H, L.C, b, P, pd⟩ := ⟨h.w1, h.w2, h.h1, h.h2, h.c1, h.c2, h.most, hb2, hpd⟩
  have n : Nums ⟨L.W, L.H, L.C, b, P, pd⟩ (img L f).W (img L f).H (img L f).C ((8 * b : Nat) : Int) P (pd : Nat) := ⟨ok2, rfl, rfl, rfl, rfl, rfl, rfl⟩
  unfold shapeS
  rw [if_pos (img_good h f), if_pos (show shB _ _ _ _ _ = true from decide_eq_true (nums_shp n))]
  have e : (⟨(img L f).W.toNat, (img L f).H.toNat, (img L f).C.toNat, ((8 * b : Nat) : Int).toNat / 8, P, ((pd : Nat) : Int).toNat⟩ : Lay) = ⟨L.W, L.H, L.C, b, P, pd⟩ := by
    have : ((8 * b : Nat) : Int).toNat / 8 = b := by omega
    rw [this]
    rfl
  rw [e]
  refine congrArg (fun m => (m, (0 : Int))) (img_congr ok2 fun x y c hx hy hc => ?_)
  rw [img_smp h hb hx hy hc]
  show convS ((8 * L.k : Nat) : Int) ((8 * b : Nat) : Int) (f x y c) = _
  unfold convS cv
  rcases h.bits with e1 | e1 <;> rcases hb2 with e2 | e2 <;> rw [e1, e2] <;> simp
theorem cv_bd {L : Lay} (h : L.Ok) {f : Nat → Nat → Nat → Nat} (hb : Bd L f) {b : Nat} (hb2 : b = 1 ∨ b = 2) (P : Bool) (pd : Nat) : Bd ⟨L.W, L.H, L.C, b, P, pd⟩ (fun x y c => cv L.k b (f x y c)) := by
  intro x y c hx hy hc
  have := hb x y c hx hy hc
  show cv L.k b (f x y c) < 2 ^ (8 * b)
  unfold cv
  rcases h.bits with e1 | e1 <;> rcases hb2 with e2 | e2 <;> rw [e1] at this <;> rw [e1, e2] <;> simp at this ⊢ <;> omega

set_option maxRecDepth 100000 in
set_option maxHeartbeats 3200000 in
theorem alike_calls {L M : Lay} (hL : L.Ok) (hM : M.Ok) {f g : Nat → Nat → Nat → Nat} (bf : Bd L f) (bg : Bd M g) (hW : M.W = L.W) (hH : M.H = L.H) (hC : M.C = L.C) (hfg : ∀ x y c, x < L.W → y < L.H → c < L.C → f x y c = g x y c) (w : World) :
    Calls Try.prog 31 #[(img L f).v, (img M g).v] w fun e w' => e = .returned (.bool true) ∧ Below w.heap.size w w' := by
  obtain ⟨LW, hLW⟩ : ∃ q, L.W = q := ⟨_, rfl⟩
  obtain ⟨LH, hLH⟩ : ∃ q, L.H = q := ⟨_, rfl⟩
  obtain ⟨LC, hLC⟩ : ∃ q, L.C = q := ⟨_, rfl⟩
  rw [hLW] at hW; rw [hLH] at hH; rw [hLC] at hC
  obtain ⟨B1, hB1⟩ : ∃ q : Int, ((8 * L.k : Nat) : Int) = q := ⟨_, rfl⟩
  obtain ⟨P1, hP1⟩ : ∃ q, L.P = q := ⟨_, rfl⟩
  obtain ⟨d1, hd1⟩ : ∃ q, L.pd = q := ⟨_, rfl⟩
  obtain ⟨O1, hO1⟩ : ∃ O : ByteArray, (⟨(octs L f).toArray⟩ : ByteArray) = O := ⟨_, rfl⟩
  obtain ⟨B2, hB2⟩ : ∃ q : Int, ((8 * M.k : Nat) : Int) = q := ⟨_, rfl⟩
  obtain ⟨P2, hP2⟩ : ∃ q, M.P = q := ⟨_, rfl⟩
  obtain ⟨d2, hd2⟩ : ∃ q, M.pd = q := ⟨_, rfl⟩
  obtain ⟨O2, hO2⟩ : ∃ O : ByteArray, (⟨(octs M g).toArray⟩ : ByteArray) = O := ⟨_, rfl⟩
  have hv1 : (img L f).v = .agg #[.int .i64 (LW : Nat), .int .i64 (LH : Nat), .int .i64 (LC : Nat), .int .i64 B1, .bool P1, .int .i64 (d1 : Nat), .string O1] := by rw [← hLW, ← hLH, ← hLC, ← hB1, ← hP1, ← hd1, ← hO1]; rfl
  have hv2 : (img M g).v = .agg #[.int .i64 (LW : Nat), .int .i64 (LH : Nat), .int .i64 (LC : Nat), .int .i64 B2, .bool P2, .int .i64 (d2 : Nat), .string O2] := by rw [← hW, ← hH, ← hC, ← hB2, ← hP2, ← hd2, ← hO2]; rfl
  have hw2 := hL.w2; have hh2 := hL.h2; have hc2 := hL.c2
  have HGet1 := Lib.hid (show (∀ (x y : Nat) (W : World), x < LW → y < LH → Calls Try.prog 14 #[.agg #[.int .i64 (LW : Nat), .int .i64 (LH : Nat), .int .i64 (LC : Nat), .int .i64 B1, .bool P1, .int .i64 (d1 : Nat), .string O1], .int .i64 (x : Nat), .int .i64 (y : Nat)] W fun e w' => ∃ V k, e = .returned (.tuple #[.slice V LC k, .int .i64 0]) ∧ Cs w' .i64 V ((List.range LC).map fun c => (f x y c : Int)) ∧ Below W.heap.size W w') from fun x y W hx hy => by
    have h := get_calls (img L f) (x : Nat) (y : Nat) W
    rw [img_get hL bf (by omega) (by omega), hv1, hLC] at h
    refine h.mono ?_
    rintro e w' ⟨v, rfl, ⟨V, k, rfl, hc, _, _⟩, hb⟩
    rw [List.length_map, List.length_range]
    exact ⟨V, k, rfl, hc, hb⟩)
  have HGet2 := Lib.hid (show (∀ (x y : Nat) (W : World), x < LW → y < LH → Calls Try.prog 14 #[.agg #[.int .i64 (LW : Nat), .int .i64 (LH : Nat), .int .i64 (LC : Nat), .int .i64 B2, .bool P2, .int .i64 (d2 : Nat), .string O2], .int .i64 (x : Nat), .int .i64 (y : Nat)] W fun e w' => ∃ V k, e = .returned (.tuple #[.slice V LC k, .int .i64 0]) ∧ Cs w' .i64 V ((List.range LC).map fun c => (g x y c : Int)) ∧ Below W.heap.size W w') from fun x y W hx hy => by
    have h := get_calls (img M g) (x : Nat) (y : Nat) W
    rw [img_get hM bg (by omega) (by omega), hv2, hC] at h
    refine h.mono ?_
    rintro e w' ⟨v, rfl, ⟨V, k, rfl, hc, _, _⟩, hb⟩
    rw [List.length_map, List.length_range]
    exact ⟨V, k, rfl, hc, hb⟩)
  have HNum := Lib.hid (show LW ≤ 64 ∧ LH ≤ 64 ∧ LC ≤ 9223372036854775807 by omega)
  have HFG := Lib.hid (show ∀ x y, x < LW → y < LH → ((List.range LC).map fun c => (f x y c : Int)) = ((List.range LC).map fun c => (g x y c : Int)) from fun x y hx hy => List.map_congr_left fun c hc => by rw [hfg x y c (by omega) (by omega) (by have := List.mem_range.1 hc; omega)])
  rw [hv1, hv2]
  clear hv1 hv2 hw2 hh2 hc2 hfg hLW hLH hLC hW hH hC hB1 hP1 hd1 hO1 hB2 hP2 hd2 hO2 hL hM bf bg
  go_enter Try.func31, Try.ntmps31
  go_upto_region 1 with fail
  refine wp_named ?_
  intro w1 hw1
  have b1 : Blk w1 w.heap.size [.int .i64 (LW : Nat), .int .i64 (LH : Nat), .int .i64 (LC : Nat), .int .i64 B1, .bool P1, .int .i64 (d1 : Nat), .string O1] 24 := by rw [hw1]; exact (Blk.new _ _ _).alloc _
  have b2 : Blk w1 (w.heap.size + 1) [.int .i64 (LW : Nat), .int .i64 (LH : Nat), .int .i64 (LC : Nat), .int .i64 B2, .bool P2, .int .i64 (d2 : Nat), .string O2] 24 := by rw [hw1]; exact Blk.at (by simp)
  have hb1 : Below w.heap.size w w1 := by rw [hw1]; repeat (first | exact below_alloc _ | refine below_trans ?_ (below_alloc _))
  have HJ7 := Lib.hid (SetJ.mk (w := w) (V := none) (vs := []) b1 b2 Cs.nil hb1)
  have c0 := b1.cell (i := 0) rfl
  have c1 := b1.cell (i := 1) rfl
  have c2 := b1.cell (i := 2) rfl
  have c3 := b1.cell (i := 3) rfl
  have c4 := b1.cell (i := 4) rfl
  have c5 := b1.cell (i := 5) rfl
  have c6 := b1.cell (i := 6) rfl
  have d0 := b2.cell (i := 0) rfl
  have d1 := b2.cell (i := 1) rfl
  have d2 := b2.cell (i := 2) rfl
  have d3 := b2.cell (i := 3) rfl
  have d4 := b2.cell (i := 4) rfl
  have d5 := b2.cell (i := 5) rfl
  have d6 := b2.cell (i := 6) rfl
  clear hw1 b1 b2 hb1
  go_wp2_with fail
  clear c0 c1 c2 c3 c4 c5 c6 d0 d1 d2 d3 d4 d5 d6
  go_loopw [32] (fun yy wr => ∃ y : Nat, y ≤ LH ∧ yy = .int .i64 y ∧ SetJ w [.int .i64 (LW : Nat), .int .i64 (LH : Nat), .int .i64 (LC : Nat), .int .i64 B1, .bool P1, .int .i64 (d1 : Nat), .string O1] [.int .i64 (LW : Nat), .int .i64 (LH : Nat), .int .i64 (LC : Nat), .int .i64 B2, .bool P2, .int .i64 (d2 : Nat), .string O2] w.heap.size (w.heap.size + 1) none [] wr) (fun yy _ => LH - (intOf yy).toNat)
  case atStart => exact ⟨0, Nat.zero_le _, rfl, HJ7.out⟩
  case round =>
    obtain ⟨y, hy0, rfl, hJ⟩ := hrel
    by_cases hyt : y < LH
    · have hwy : wrap64 ((y : Int) + 1) = ((y + 1 : Nat) : Int) := by have := HNum.out; unfold wrap64; omega
      have bs := hJ.m
      have HJ8 := Lib.hid hJ
      have c0 := bs.cell (i := 0) rfl
      clear bs hJ HJ7
      go_wp2_with fail
      clear c0
      go_loopw [37] (fun xx wr => ∃ x : Nat, x ≤ LW ∧ xx = .int .i64 x ∧ SetJ w [.int .i64 (LW : Nat), .int .i64 (LH : Nat), .int .i64 (LC : Nat), .int .i64 B1, .bool P1, .int .i64 (d1 : Nat), .string O1] [.int .i64 (LW : Nat), .int .i64 (LH : Nat), .int .i64 (LC : Nat), .int .i64 B2, .bool P2, .int .i64 (d2 : Nat), .string O2] w.heap.size (w.heap.size + 1) none [] wr) (fun xx _ => LW - (intOf xx).toNat)
      case atStart => exact ⟨0, Nat.zero_le _, rfl, HJ8.out⟩
      case round =>
        obtain ⟨x, hx0, rfl, hJ⟩ := hrel
        by_cases hxt : x < LW
        · have hwx : wrap64 ((x : Int) + 1) = ((x + 1 : Nat) : Int) := by have := HNum.out; unfold wrap64; omega
          have bs := hJ.m
          have c0 := bs.cell (i := 0) rfl
          have c1 := bs.cell (i := 1) rfl
          have c2 := bs.cell (i := 2) rfl
          have c3 := bs.cell (i := 3) rfl
          have c4 := bs.cell (i := 4) rfl
          have c5 := bs.cell (i := 5) rfl
          have c6 := bs.cell (i := 6) rfl
          have HJ9 := Lib.hid hJ
          clear bs hJ HJ8
          go_wp2_with fail
          refine (HGet1.out x y wr hxt hyt).mono ?_
          rintro r w7 ⟨A7, k7, rfl, hc7, hb7⟩
          have HJ10 := Lib.hid (And.intro hc7 (HJ9.out.kept hb7))
          have bm := HJ10.out.2.s
          clear c0 c1 c2 c3 c4 c5 c6 hc7 hb7 HJ9
          have c0 := bm.cell (i := 0) rfl
          have c1 := bm.cell (i := 1) rfl
          have c2 := bm.cell (i := 2) rfl
          have c3 := bm.cell (i := 3) rfl
          have c4 := bm.cell (i := 4) rfl
          have c5 := bm.cell (i := 5) rfl
          have c6 := bm.cell (i := 6) rfl
          clear bm
          go_wp2_with fail
          refine (HGet2.out x y w7 hxt hyt).mono ?_
          rintro r w8 ⟨A8, k8, rfl, hc8, hb8⟩
          have HR := Lib.hid (And.intro (HJ10.out.1.kept hb8) (And.intro hc8 (HJ10.out.2.kept hb8)))
          clear c0 c1 c2 c3 c4 c5 c6 hc8 hb8 HJ10
          have HEq := Lib.hid (equal_calls A7 A8 k7 k8 ((List.range LC).map fun c => (f x y c : Int)) ((List.range LC).map fun c => (g x y c : Int)) w8 HR.out.1 HR.out.2.1 (by rw [List.length_map, List.length_range]; exact HNum.out.2.2) (by rw [List.length_map, List.length_range]; exact HNum.out.2.2))
          rw [decide_eq_true (HFG.out x y hxt hyt), List.length_map, List.length_map, List.length_range] at HEq
          go_wp2_with fail
          refine HEq.out.mono ?_
          rintro r w9 ⟨rfl, hb9⟩
          have HJ9 := Lib.hid (HR.out.2.2.kept hb9)
          clear hb9 HEq HR
          go_wp2_with fail
          go_roundw
          case rel => exact ⟨x + 1, by omega, by go_num, HJ9.out⟩
          case measure => exact meas rfl (by go_num) hxt
        · have hxc : x = LW := by omega
          have HJ9 := Lib.hid hJ
          clear hJ HJ8
          go_wp2_with fail
          go_roundw
          case rel => exact ⟨y + 1, by omega, by go_num, HJ9.out⟩
          case measure => exact meas rfl (by go_num) hyt
    · have HJ8 := Lib.hid hJ
      clear hJ HJ7
      go_wp2_with fail
      go_ret
      exact ⟨rfl, HJ8.out.below⟩
end Go.Proofs.Ytpgkhhdobolfbaa
