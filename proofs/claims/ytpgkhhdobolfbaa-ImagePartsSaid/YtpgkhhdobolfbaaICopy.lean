/-
  view.inside, view.copied.
-/
import Derived.Test.YtpgkhhdobolfbaaIMake
namespace Go.Proofs.Ytpgkhhdobolfbaa
set_option linter.unusedVariables false
set_option linter.unusedSimpArgs false
open Go Go.RowKit

set_option maxHeartbeats 1600000 in
theorem inside_calls {L : Lay} (hok : L.Ok) {w : World} {b g k : Nat} {O : ByteArray} {l : List UInt8} (h : View w b g L O k l) (x y wd hi : Int) (hw : 1 ≤ wd ∧ wd ≤ 64) (hh : 1 ≤ hi ∧ hi ≤ 64) :
    Calls Try.prog 50 #[.pointer (some ⟨b, 0, none⟩), .int .i64 x, .int .i64 y, .int .i64 wd, .int .i64 hi] w fun e w' => e = .returned (.bool (betw 0 ((L.W : Int) - wd) [x] && betw 0 ((L.H : Int) - hi) [y])) ∧ Below w.heap.size w w' := by
  have v0 := h.blk.cell (i := 0) rfl
  have v1 := h.blk.cell (i := 1) rfl
  have hW := hok.w2
  have hH := hok.h2
  obtain ⟨lW, hlW⟩ : ∃ q, L.W = q := ⟨_, rfl⟩
  obtain ⟨lH, hlH⟩ : ∃ q, L.H = q := ⟨_, rfl⟩
  rw [hlW] at v0 hW ⊢
  rw [hlH] at v1 hH ⊢
  have hwW : IntKind.i64.wrap ((lW : Int) - wd) = (lW : Int) - wd := by rw [IntWalk.i64_left]; unfold wrap64; omega
  have hwH : IntKind.i64.wrap ((lH : Int) - hi) = (lH : Int) - hi := by rw [IntWalk.i64_left]; unfold wrap64; omega
  have h1 : 1 ≤ wd := hw.1
  have h2 : 1 ≤ hi := hh.1
  clear h hW hH hlW hlH hw hh hok
  go_enter Try.func50, Try.ntmps50
  go_wp2_with fail
  refine calls_named ?_
  intro w3 hw3
  have bs : Blk w3 w.heap.size ([x].map (Value.int .i64)) 3 := by rw [hw3]; exact Blk.new _ _ _
  have hb3 : Below w.heap.size w w3 := by rw [hw3]; exact below_alloc _
  clear hw3 v0 hwW
  refine (between_calls (some ⟨w.heap.size, 0, none⟩) 1 [x] 0 ((lW : Int) - wd) w3 (blk_row bs) (by simp)).mono ?_
  rintro r w4 ⟨rfl, hb4⟩
  have hb24 := below_trans hb3 hb4
  replace v1 := Ytpgkhhdobolfbaa.kept hb24 v1
  have HD := Lib.hid hb24
  clear bs hb3 hb4 hb24
  cases hx : betw 0 ((lW : Int) - wd) [x] with
  | false =>
    have HX := Lib.hid hx
    clear hx
    go_wp2
    go_ret
    exact ⟨by rw [HX.out]; rfl, HD.out⟩
  | true =>
    have HX := Lib.hid hx
    clear hx
    go_wp2_with fail
    refine calls_named ?_
    intro w5 hw5
    have bs : Blk w5 w4.heap.size ([y].map (Value.int .i64)) 3 := by rw [hw5]; exact Blk.new _ _ _
    have hb5 : Below w4.heap.size w4 w5 := by rw [hw5]; exact below_alloc _
    clear hw5 v1 hwH
    refine (between_calls (some ⟨w4.heap.size, 0, none⟩) 1 [y] 0 ((lH : Int) - hi) w5 (blk_row bs) (by simp)).mono ?_
    rintro r w6 ⟨rfl, hb6⟩
    have HE := Lib.hid (below_trans HD.out (below_trans hb5 hb6))
    clear bs hb5 hb6
    go_wp2
    go_ret
    exact ⟨by rw [HX.out]; rfl, HE.out⟩

/-- Samples copied: i columns, and k rows of the next. -/
def copS (f g : Nat → Nat → Nat → Nat) (x y dx dy wd hi i k : Nat) : Nat → Nat → Nat → Nat := fun a b c =>
  if dx ≤ a ∧ a < dx + wd ∧ dy ≤ b ∧ b < dy + hi ∧ (a < dx + i ∨ a = dx + i ∧ b < dy + k) then g (x + (a - dx)) (y + (b - dy)) c else f a b c

theorem copS_step {L : Lay} {l : List UInt8} {f g : Nat → Nat → Nat → Nat} {x y dx dy wd hi i k : Nat} (hi1 : i < wd) (hk : k < hi) {vs : List Int} (hvs : vs = (List.range L.C).map fun c => (g (x + i) (y + k) c : Int))
    (p : Pix L l (updS (copS f g x y dx dy wd hi i k) (dx + i) (dy + k) vs)) : Pix L l (copS f g x y dx dy wd hi i (k + 1)) := by
  refine p.congr fun a b c _ _ hc => ?_
  unfold updS copS
  by_cases e : a = dx + i ∧ b = dy + k
  · obtain ⟨rfl, rfl⟩ := e
    rw [if_pos ⟨rfl, rfl⟩, if_pos ⟨by omega, by omega, by omega, by omega, .inr ⟨rfl, by omega⟩⟩, hvs, List.getD_eq_getElem?_getD, List.getElem?_map, List.getElem?_range hc]
    simp only [Option.map_some, Option.getD_some, Int.toNat_natCast]
    rw [Nat.add_sub_cancel_left, Nat.add_sub_cancel_left]
  · rw [if_neg e]
    by_cases e2 : dx ≤ a ∧ a < dx + wd ∧ dy ≤ b ∧ b < dy + hi ∧ (a < dx + i ∨ a = dx + i ∧ b < dy + k)
    · rw [if_pos e2, if_pos ⟨e2.1, e2.2.1, e2.2.2.1, e2.2.2.2.1, by omega⟩]
    · rw [if_neg e2, if_neg (by omega)]
theorem copS_col {L : Lay} {l : List UInt8} {f g : Nat → Nat → Nat → Nat} {x y dx dy wd hi i : Nat} (p : Pix L l (copS f g x y dx dy wd hi i hi)) : Pix L l (copS f g x y dx dy wd hi (i + 1) 0) := by
  refine p.congr fun a b c _ _ hc => ?_
  unfold copS
  by_cases e2 : dx ≤ a ∧ a < dx + wd ∧ dy ≤ b ∧ b < dy + hi ∧ (a < dx + i ∨ a = dx + i ∧ b < dy + hi)
  · rw [if_pos e2, if_pos (by omega)]
  · rw [if_neg e2, if_neg (by omega)]

set_option maxRecDepth 100000 in
set_option maxHeartbeats 3200000 in
theorem copied_calls {w : World} {bv gv bt gt kv kt : Nat} {Lv Lt : Lay} {Ov Ot : ByteArray} {lv lt : List UInt8} (hokv : Lv.Ok) (hokt : Lt.Ok) (hv : View w bv gv Lv Ov kv lv) (ht : View w bt gt Lt Ot kt lt) (hC : Lv.C = Lt.C)
    (hbt : bt ≠ gt) (hbv : bv ≠ gt) (hgv : gv ≠ gt) {f : Nat → Nat → Nat → Nat} (hp : Pix Lt lt f) (x y dx dy wd hi : Nat) (h1 : x + wd ≤ Lv.W) (h2 : y + hi ≤ Lv.H) (h3 : dx + wd ≤ Lt.W) (h4 : dy + hi ≤ Lt.H) :
    Calls Try.prog 51 #[.pointer (some ⟨bv, 0, none⟩), .pointer (some ⟨bt, 0, none⟩), .int .i64 (x : Nat), .int .i64 (y : Nat), .int .i64 (dx : Nat), .int .i64 (dy : Nat), .int .i64 (wd : Nat), .int .i64 (hi : Nat)] w fun e w' =>
      (∃ v, e = .returned v) ∧ OffZ gt (gt + 1) w w' ∧ ∃ l', View w' bt gt Lt Ot kt l' ∧ Pix Lt l' (copS f (samp Lv lv) x y dx dy wd hi wd 0) := by
  have HV := Lib.hid (And.intro hokv (And.intro hokt (And.intro hv (And.intro ht (And.intro hC (And.intro hbt (And.intro hbv (And.intro hgv hp))))))))
  have HN := Lib.hid (And.intro h1 (And.intro h2 (And.intro h3 h4)))
  have hwd : (wd : Int) ≤ 9223372036854775807 := by have := hokv.w2; omega
  have hhi : (hi : Int) ≤ 9223372036854775807 := by have := hokv.h2; omega
  clear hokv hokt hv ht hC hbt hbv hgv hp h1 h2 h3 h4
  go_enter Try.func51, Try.ntmps51
  go_wp2_with fail
  go_loopw [16, 19] (fun _ s wr => ∃ i : Nat, i ≤ wd ∧ s = .int .i64 i ∧ OffZ gt (gt + 1) w wr ∧ ∃ l', View wr bt gt Lt Ot kt l' ∧ Pix Lt l' (copS f (samp Lv lv) x y dx dy wd hi i 0)) (fun _ s _ => wd - (intOf s).toNat)
  case atStart => exact ⟨0, Nat.zero_le _, rfl, OffZ.refl _ _ _, lt, HV.out.2.2.2.1, HV.out.2.2.2.2.2.2.2.2.congr fun _ _ _ _ _ _ => by unfold copS; rw [if_neg (by omega)]⟩
  case round =>
    obtain ⟨i, hi0, rfl, hz, l2, hv2, hp2⟩ := hrel
    by_cases hlt : i < wd
    · have hwi : wrap64 ((i : Int) + 1) = ((i + 1 : Nat) : Int) := by unfold wrap64; omega
      have HR := Lib.hid (And.intro hz (And.intro hv2 hp2))
      clear hz hv2 hp2
      go_wp2_with fail
      go_loopw [17, 23] (fun _ s wq => ∃ k : Nat, k ≤ hi ∧ s = .int .i64 k ∧ OffZ gt (gt + 1) w wq ∧ ∃ l', View wq bt gt Lt Ot kt l' ∧ Pix Lt l' (copS f (samp Lv lv) x y dx dy wd hi i k)) (fun _ s _ => hi - (intOf s).toNat)
      case atStart => exact ⟨0, Nat.zero_le _, rfl, HR.out.1, l2, HR.out.2.1, HR.out.2.2⟩
      case round =>
        obtain ⟨k, hk0, rfl, hz, l3, hv3, hp3⟩ := hrel
        by_cases hkt : k < hi
        · have hwk : wrap64 ((k : Int) + 1) = ((k + 1 : Nat) : Int) := by unfold wrap64; omega
          obtain ⟨a1, e1⟩ : ∃ n, dx + i = n := ⟨_, rfl⟩
          obtain ⟨a2, e2⟩ : ∃ n, dy + k = n := ⟨_, rfl⟩
          obtain ⟨a3, e3⟩ : ∃ n, x + i = n := ⟨_, rfl⟩
          obtain ⟨a4, e4⟩ : ∃ n, y + k = n := ⟨_, rfl⟩
          have hd1 := HV.out.1.w2
          have hd2 := HV.out.1.h2
          have hd3 := HV.out.2.1.w2
          have hd4 := HV.out.2.1.h2
          obtain ⟨n1, n2, n3, n4⟩ := HN.out
          have f1 : IntKind.i64.wrap ((dx : Int) + (i : Int)) = (a1 : Int) := by rw [← Int.natCast_add, e1]; exact wrap_id (by omega)
          have f2 : IntKind.i64.wrap ((dy : Int) + (k : Int)) = (a2 : Int) := by rw [← Int.natCast_add, e2]; exact wrap_id (by omega)
          have f3 : IntKind.i64.wrap ((x : Int) + (i : Int)) = (a3 : Int) := by rw [← Int.natCast_add, e3]; exact wrap_id (by omega)
          have f4 : IntKind.i64.wrap ((y : Int) + (k : Int)) = (a4 : Int) := by rw [← Int.natCast_add, e4]; exact wrap_id (by omega)
          have hvs := HV.out.2.2.1.offZ hz (by have := HV.out.2.2.2.2.2.2.1; omega) (by have := HV.out.2.2.2.2.2.2.2.1; omega)
          have HP := Lib.hid (pixel_calls HV.out.1 hvs a3 a4 (by omega) (by omega))
          have HS := Lib.hid (And.intro hz (And.intro hv3 (And.intro hp3 (And.intro e1 (And.intro e2 (And.intro e3 (And.intro e4 hv3.oct.lt)))))))
          clear hz hv3 hp3 e1 e2 e3 e4 hd1 hd2 hd3 hd4 n1 n2 n3 n4 hvs
          go_wp2_with fail
          refine HP.out.mono ?_
          rintro r w5 ⟨q, rfl, hq, hqs, hb5⟩
          have hlen : ((List.range Lv.C).map fun c => (samp Lv lv a3 a4 c : Int)).length = Lv.C := by simp
          have HQ := Lib.hid (put_calls HV.out.2.1 (HS.out.2.1.kept hb5) HV.out.2.2.2.2.2.1 HS.out.2.2.1 a1 a2 (by have := HN.out; have := HS.out.2.2.2; omega) (by have := HN.out; have := HS.out.2.2.2; omega) (some ⟨q, 0, none⟩) Lv.C
            ((List.range Lv.C).map fun c => (samp Lv lv a3 a4 c : Int)) (blk_row hq) (fun p e => by cases e; have := HS.out.2.2.2.2.2.2.2; show q ≠ gt; omega) (by rw [hlen]; exact HV.out.2.2.2.2.1)
            (fun v hv => by
              obtain ⟨c, _, rfl⟩ := List.mem_map.1 hv
              have := samp_lt HV.out.1 lv a3 a4 c
              have h2 : 2 ^ (8 * Lv.k) ≤ 65536 := by rcases HV.out.1.bits with e | e <;> rw [e] <;> decide
              omega))
          rw [hlen] at HQ
          have HX := Lib.hid hb5
          clear hq hqs hb5 hlen HP
          go_wp2_with fail
          refine HQ.out.mono ?_
          rintro r w6 ⟨⟨u, rfl⟩, hz6, l4, hv4, hp4⟩
          have HY := Lib.hid (And.intro hz6 (And.intro hv4 hp4))
          clear hz6 hv4 hp4 HQ
          go_wp2_with fail
          go_roundw
          case rel =>
            refine ⟨k + 1, by omega, by go_num, (HS.out.1.trans (OffZ.of_below HX.out)).trans HY.out.1, l4, HY.out.2.1, ?_⟩
            have hp := HY.out.2.2
            obtain ⟨_, _, _, e1, e2, e3, e4, _⟩ := HS.out
            rw [← e1, ← e2, ← e3, ← e4, HV.out.2.2.2.2.1] at hp
            exact copS_step hlt hkt rfl hp
          case measure => exact meas rfl (by go_num) hkt
        · have HS := Lib.hid (And.intro hz (And.intro hv3 hp3))
          clear hz hv3 hp3
          go_wp2_with fail
          have hkh : k = hi := by omega
          subst hkh
          go_roundw
          case rel => exact ⟨i + 1, by omega, by go_num, HS.out.1, l3, HS.out.2.1, copS_col HS.out.2.2⟩
          case measure => exact meas rfl (by go_num) hlt
    · have HS := Lib.hid (And.intro hz (And.intro hv2 hp2))
      clear hz hv2 hp2
      go_wp2_with fail
      have hiw : i = wd := by omega
      subst hiw
      exact bodyPost_end (v := .tuple #[]) (by simp [results, Try.results51, go_sem]) rfl ⟨⟨_, rfl⟩, HS.out.1, l2, HS.out.2.1, HS.out.2.2⟩
end Go.Proofs.Ytpgkhhdobolfbaa
