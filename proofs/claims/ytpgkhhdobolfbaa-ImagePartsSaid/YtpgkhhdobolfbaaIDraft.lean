/-
  Draft.Image: the image of a draft.
-/
import Derived.Test.YtpgkhhdobolfbaaISome
namespace Go.Proofs.Ytpgkhhdobolfbaa
set_option linter.unusedVariables false
set_option linter.unusedSimpArgs false
open Go Go.RowKit

/-- The channels of a draft. -/
def Dr.ch (d : Dr) : Nat := 1 + d.C.toNat % 4
theorem Dr.ch1 (d : Dr) : 1 ≤ d.ch := by unfold Dr.ch; omega
theorem Dr.ch4 (d : Dr) : d.ch ≤ 4 := by unfold Dr.ch; have := Nat.mod_lt d.C.toNat (show 0 < 4 by decide); omega
/-- The image of a draft. -/
def Dr.image (d : Dr) : Im := d.some d.ch

set_option maxRecDepth 100000 in
set_option maxHeartbeats 3200000 in
theorem image_calls (d : Dr) (hd : d.Ok) (A : Option Addr) (cA : Nat) (w : World) (hvs : Cs w .u16 A d.vs) :
    Calls Try.prog 30 #[d.v A cA] w fun e w' => e = .returned d.image.v ∧ Below w.heap.size w w' := by
  have HS := Lib.hid (fun W (h : Cs W .u16 A d.vs) => some_calls d hd A cA d.ch d.ch1 d.ch4 W h)
  obtain ⟨R, hR⟩ : ∃ R, d.some d.ch = R := ⟨_, rfl⟩
  have hi : d.image = R := hR
  rw [hi]
  rw [hR] at HS
  obtain ⟨ch, hch⟩ : ∃ q, d.ch = q := ⟨_, rfl⟩
  rw [hch] at HS
  have hch2 : 1 + d.C.toNat % 4 = ch := hch
  obtain ⟨dW, dH, dC, dP, deep, pl, vs, hdd⟩ : ∃ a b c e f g h, d = ⟨a, b, c, e, f, g, h⟩ := ⟨_, _, _, _, _, _, _, rfl⟩
  have hdv : d.v A cA = .agg #[.int .u8 dW, .int .u8 dH, .int .u8 dC, .int .u8 dP, .bool deep, .bool pl, .slice A vs.length cA] := by rw [hdd]; rfl
  rw [hdv] at HS ⊢
  have hcA := hd.c.2
  obtain ⟨nC, hnC⟩ := Int.eq_ofNat_of_zero_le hd.c.1
  have hvv : d.vs = vs := by rw [hdd]
  have hCC : d.C = dC := by rw [hdd]
  rw [hCC] at hnC hcA hch2
  rw [hvv] at HS hvs
  subst hnC
  obtain ⟨rC, hrC⟩ : ∃ q, nC % 4 = q := ⟨_, rfl⟩
  rw [Int.toNat_natCast, hrC] at hch2
  have m1 : Int.tmod (nC : Int) 4 = (rC : Int) := by rw [Int.tmod_eq_emod_of_nonneg (by omega), ← hrC]; rfl
  have hr4 : rC < 4 := by omega
  have k1 : IntKind.u8.wrap (rC : Int) = (rC : Int) := by simp [IntKind.wrap, IntKind.bits, IntKind.signed]; omega
  have k2 : IntKind.i64.wrap (rC : Int) = (rC : Int) := wrap_id (by omega)
  have HVS := Lib.hid hvs
  have HK4 := Lib.hid (show (1 : Int) + (rC : Int) = (ch : Int) by omega)
  clear hvv hCC hdv hdd hch2 hch hR hi hrC hvs hd
  rw [imgV_eq] at HS
  go_enter Try.func30, Try.ntmps30
  go_upto_region 1 with fail
  refine wp_named ?_
  intro w1 hw1
  have b0 : Blk w1 w.heap.size [.int .u8 dW, .int .u8 dH, .int .u8 (nC : Nat), .int .u8 dP, .bool deep, .bool pl, .slice A vs.length cA] 52 := by rw [hw1]; exact (Blk.new _ _ _).alloc _
  have br : Blk w1 (w.heap.size + 1) zeroC 24 := by rw [hw1]; exact Blk.at (by simp)
  have hb1 : Below w.heap.size w w1 := by rw [hw1]; repeat (first | exact below_alloc _ | refine below_trans ?_ (below_alloc _))
  clear hw1
  have c0 := b0.cell (i := 0) rfl
  have c1 := b0.cell (i := 1) rfl
  have c2 := b0.cell (i := 2) rfl
  have c3 := b0.cell (i := 3) rfl
  have c4 := b0.cell (i := 4) rfl
  have c5 := b0.cell (i := 5) rfl
  have c6 := b0.cell (i := 6) rfl
  have HB := Lib.hid (And.intro br hb1)
  clear br hb1 b0
  go_wp2_with fail
  rw [HK4.out]
  refine (HS.out w1 (HVS.out.kept HB.out.2)).mono ?_
  rintro r w2 ⟨rfl, hb2⟩
  have br := HB.out.1.kept hb2
  have hbw := below_trans HB.out.2 hb2
  have HWz := Lib.hid (below_set7 hbw (Nat.le_succ w.heap.size))
  clear hb2 hbw HB c0 c1 c2 c3 c4 c5 c6
  have r0 := br.cell (i := 0) rfl
  have r1 := br.cell (i := 1) rfl
  have r2 := br.cell (i := 2) rfl
  have r3 := br.cell (i := 3) rfl
  have r4 := br.cell (i := 4) rfl
  have r5 := br.cell (i := 5) rfl
  have r6 := br.cell (i := 6) rfl
  have f0 := br.free 0
  have f1 := br.free 1
  have f2 := br.free 2
  have f3 := br.free 3
  have f4 := br.free 4
  have f5 := br.free 5
  have f6 := br.free 6
  clear br
  go_wp2_with fail
  exact bodyPost_ret (v := .agg #[.int .i64 R.W, .int .i64 R.H, .int .i64 R.C, .int .i64 R.B, .bool R.P, .int .i64 R.Pd, .string R.O]) (by simp [results, Try.results30, go_sem, *]) rfl ⟨rfl, HWz.out _ _ _ _ _ _ _⟩
end Go.Proofs.Ytpgkhhdobolfbaa
