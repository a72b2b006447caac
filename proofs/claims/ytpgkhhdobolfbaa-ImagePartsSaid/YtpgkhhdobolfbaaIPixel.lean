/-
  view.pixel: the values of a pixel.
-/
import Derived.Test.YtpgkhhdobolfbaaIMap
namespace Go.Proofs.Ytpgkhhdobolfbaa
set_option linter.unusedVariables false
set_option linter.unusedSimpArgs false
open Go Go.RowKit

theorem run_store_func {P : Program} (w : World) (a : Addr) (m : Mode) (f : Fn) (b c : Array Value) : (store a (.func f b c) m).run P w = stored P w a (.func f b c) m := run_store P w a _ m rfl
attribute [local go_sem] Oper.semAt_some run_store_func

set_option maxRecDepth 100000 in
set_option maxHeartbeats 1600000 in
theorem pixel_calls {w : World} {b g : Nat} {L : Lay} {O : ByteArray} {k : Nat} {l : List UInt8} (hok : L.Ok) (h : View w b g L O k l) (x y : Nat) (hx : x < L.W) (hy : y < L.H) :
    Calls Try.prog 39 #[.pointer (some ⟨b, 0, none⟩), .int .i64 (x : Nat), .int .i64 (y : Nat)] w fun e w' => ∃ r, e = .returned (.slice (some ⟨r, 0, none⟩) L.C L.C) ∧
      Blk w' r (((List.range L.C).map fun c => (samp L l x y c : Int)).map (Value.int .i64)) 3 ∧ w.heap.size ≤ r ∧ Below w.heap.size w w' := by
  have HV := Lib.hid (And.intro hok (And.intro h (And.intro hx hy)))
  clear hok h hx hy
  go_enter Try.func39, Try.ntmps39
  go_upto_region 1 with fail
  refine wp_named ?_
  intro w1 hw1
  have b3 : Blk w1 w.heap.size [.pointer (some ⟨b, 0, none⟩)] 79 := by rw [hw1]; exact ((Blk.new _ _ _).alloc _).alloc _
  have b4 : Blk w1 (w.heap.size + 1) [.int .i64 (x : Nat)] 3 := by rw [hw1]; exact (Blk.at (by simp)).alloc _
  have b5 : Blk w1 (w.heap.size + 1 + 1) [.int .i64 (y : Nat)] 3 := by rw [hw1]; exact Blk.at (by simp)
  have hb1 : Below w.heap.size w w1 := by rw [hw1]; repeat (first | exact below_alloc _ | refine below_trans ?_ (below_alloc _))
  clear hw1
  obtain ⟨w2, w3, w4, hm⟩ := map_made w1 103 89 Try.underlying103 (.func (.func 66) #[] #[.pointer (some ⟨w.heap.size, 0, none⟩)]) (.func (.func 67) #[] #[.pointer (some ⟨w.heap.size, 0, none⟩)])
  obtain ⟨m1, m2, m3, m4, m5, hb4⟩ := hm
  have hv4 := (HV.out.2.1.kept hb1).kept hb4
  have d3 := (b3.kept hb4).cell (i := 0) rfl
  have v3 := hv4.blk.cell (i := 3) rfl
  have HB := Lib.hid (And.intro (b3.kept hb4) (And.intro (b4.kept hb4) (And.intro (b5.kept hb4) (And.intro hv4 (below_trans hb1 hb4)))))
  clear b3 b4 b5 hb1 hb4 hv4
  obtain ⟨B, hB⟩ : ∃ B : Int, ((8 * L.k : Nat) : Int) = B := ⟨_, rfl⟩
  obtain ⟨ri, hri⟩ : ∃ v : FuncId, (if L.k = 2 then 67 else 66) = v := ⟨_, rfl⟩
  have hrv : readV L w.heap.size = .func (.func ri) #[] #[.pointer (some ⟨w.heap.size, 0, none⟩)] := by unfold readV; rw [hri]
  have HRv := Lib.hid hrv
  have hlk : (Instr.lookup 103 (.map (some w1.heap.size)) (.int .i64 B) false).run Try.prog w4 = .ok (.func (.func ri) #[] #[.pointer (some ⟨w.heap.size, 0, none⟩)]) w4 := by
    rw [← hB, ← hrv]
    unfold readV
    rcases HV.out.1.bits with e | e
    · rw [e, if_neg (by decide)]; exact m4
    · rw [e, if_pos rfl]; exact m5
  rw [hB] at v3
  clear m4 m5 hB hri hrv
  go_upto_region 2 with fail
  refine wp_named ?_
  intro w5 hw5
  clear m1 m2 m3 hlk d3 v3
  have bs : Blk w5 w4.heap.size [readV L w.heap.size] 89 := by rw [hw5, HRv.out]; exact Blk.new _ _ _
  have hb5 : Below w4.heap.size w4 w5 := by rw [hw5]; exact below_alloc _
  clear hw5
  have hv5 := HB.out.2.2.2.1.kept hb5
  have HC := Lib.hid (And.intro bs (And.intro (HB.out.1.kept hb5) (And.intro (HB.out.2.1.kept hb5) (And.intro (HB.out.2.2.1.kept hb5) (And.intro hv5 (below_trans HB.out.2.2.2.2 hb5))))))
  have d3 := (HB.out.1.kept hb5).cell (i := 0) rfl
  have v2 := hv5.blk.cell (i := 2) rfl
  have hC : L.C ≤ 4096 := by have := HV.out.1.c2; omega
  have HM := Lib.hid (made68_calls L.C hC w4.heap.size w.heap.size (w.heap.size + 1) (w.heap.size + 1 + 1) (fun c => (samp L l x y c : Int)) w5 (fun c W hc hW => by
    obtain ⟨bs, c3, c4, c5, hv, _⟩ := HC.out
    refine (rd_calls HV.out.1 (hv.kept hW) w4.heap.size w.heap.size (w.heap.size + 1) (w.heap.size + 1 + 1) x y c ((bs.kept hW).cell rfl) ((c3.kept hW).cell rfl) ((c4.kept hW).cell rfl) ((c5.kept hW).cell rfl) HV.out.2.2.1 HV.out.2.2.2 hc).mono ?_
    rintro r W2 ⟨rfl, h2⟩
    exact ⟨rfl, h2⟩))
  clear bs hb5 hv5 HB hC
  go_wp2_with fail
  refine HM.out.mono ?_
  rintro r w6 ⟨q, rfl, hq, hqs, hb6⟩
  have HF := Lib.hid (And.intro hq (And.intro (Nat.le_trans HC.out.2.2.2.2.2.size hqs) (below_trans HC.out.2.2.2.2.2 hb6)))
  clear hq hqs hb6 HC HM d3 v2
  go_wp2
  go_ret
  exact ⟨q, rfl, HF.out.1, HF.out.2.1, HF.out.2.2⟩
end Go.Proofs.Ytpgkhhdobolfbaa
