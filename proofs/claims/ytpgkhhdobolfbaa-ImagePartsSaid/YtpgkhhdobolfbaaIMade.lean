/-
  image.made at its two closures: a row of what a function returns.
-/
import Derived.Test.YtpgkhhdobolfbaaIBlank
namespace Go.Proofs.Ytpgkhhdobolfbaa
set_option linter.unusedVariables false
set_option linter.unusedSimpArgs false
open Go Go.RowKit

/-- The row behind k rounds. -/
def rowAt (ys : Nat → Int) (n k : Nat) : List Value := (List.range n).map fun i => .int .i64 (if i < k then ys i else 0)

theorem rowAt_zero (ys : Nat → Int) (n : Nat) : rowAt ys n 0 = List.replicate n (.int .i64 0) := by
  unfold rowAt
  refine List.ext_getElem? fun i => ?_
  rw [List.getElem?_map, List.getElem?_replicate]
  by_cases h : i < n
  · rw [List.getElem?_range h, if_pos h]; simp
  · rw [List.getElem?_eq_none (by simp; omega), if_neg h]; rfl
theorem rowAt_set (ys : Nat → Int) (n k : Nat) (hk : k < n) : (rowAt ys n k).set k (.int .i64 (ys k)) = rowAt ys n (k + 1) := by
  unfold rowAt
  refine List.ext_getElem? fun i => ?_
  rw [List.getElem?_set, List.length_map, List.length_range, List.getElem?_map, List.getElem?_map]
  by_cases e : k = i
  · subst e
    rw [if_pos rfl, if_pos hk, List.getElem?_range hk]
    simp
  · rw [if_neg e]
    by_cases h : i < n
    · rw [List.getElem?_range h]
      simp only [Option.map_some]
      congr 2
      by_cases h2 : i < k
      · rw [if_pos h2, if_pos (by omega)]
      · rw [if_neg h2, if_neg (by omega)]
    · rw [List.getElem?_eq_none (by simp; omega)]; rfl
theorem rowAt_all (ys : Nat → Int) (n : Nat) : rowAt ys n n = ((List.range n).map ys).map (Value.int .i64) := by
  unfold rowAt
  rw [List.map_map]
  refine List.map_congr_left fun i hi => ?_
  simp only [Function.comp]
  rw [if_pos (List.mem_range.1 hi)]
theorem rowAt_at (ys : Nat → Int) (n k : Nat) (hk : k < n) : ∃ v, (rowAt ys n k)[k]? = some (.int .i64 v) := by
  unfold rowAt
  rw [List.getElem?_map, List.getElem?_range hk]
  exact ⟨_, rfl⟩

set_option maxHeartbeats 1600000 in
theorem made68_calls (n : Nat) (hn : n ≤ 4096) (p0 p1 p2 p3 : Nat) (ys : Nat → Int) (w : World)
    (hf : ∀ (i : Nat) (W : World), i < n → Below w.heap.size w W → Calls Try.prog 68 #[.int .i64 (i : Nat), .pointer (some ⟨p0, 0, none⟩), .pointer (some ⟨p1, 0, none⟩), .pointer (some ⟨p2, 0, none⟩), .pointer (some ⟨p3, 0, none⟩)] W fun e W' => e = .returned (.int .i64 (ys i)) ∧ Below W.heap.size W W') :
    Calls Try.prog 48 #[.int .i64 (n : Nat), .func (.func 68) #[] #[.pointer (some ⟨p0, 0, none⟩), .pointer (some ⟨p1, 0, none⟩), .pointer (some ⟨p2, 0, none⟩), .pointer (some ⟨p3, 0, none⟩)]] w fun e w' => ∃ g, e = .returned (.slice (some ⟨g, 0, none⟩) n n) ∧ Blk w' g (((List.range n).map ys).map (Value.int .i64)) 3 ∧ w.heap.size ≤ g ∧ Below w.heap.size w w' := by
  have HF := Lib.hid hf
  obtain ⟨w1, hmk, hblk, hb1⟩ := make_ints w n (by omega)
  have HX := Lib.hid (And.intro hblk (And.intro hb1 hn))
  clear hf hblk hb1 hn
  go_enter Try.func48, Try.ntmps48
  go_wp2_with fail
  clear hmk
  have hnm : (n : Int) ≤ 9223372036854775807 := by have := HX.out.2.2; omega
  go_loopw [6, 11] (fun _ i wr => ∃ k : Nat, k ≤ n ∧ i = .int .i64 k ∧ Blk wr w.heap.size (rowAt ys n k) 3 ∧ Below w.heap.size w wr) (fun _ i _ => n - (intOf i).toNat)
  case atStart => exact ⟨0, Nat.zero_le _, rfl, by rw [rowAt_zero]; exact HX.out.1, HX.out.2.1⟩
  case round =>
    obtain ⟨k, hk, rfl, hblk, hbw⟩ := hrel
    have HR := Lib.hid (And.intro hblk hbw)
    clear hblk hbw
    by_cases hlt : k < n
    · have hwk : wrap64 ((k : Int) + 1) = ((k + 1 : Nat) : Int) := by have hNb := HX.out.2.2; unfold wrap64; omega
      go_wp2_with (go_at_call 68; refine (HF.out k _ hlt HR.out.2).mono ?_; rintro e w3 ⟨rfl, hb3⟩; obtain ⟨v, hv⟩ := rowAt_at ys n k hlt; have HB := Lib.hid (And.intro (HR.out.1.kept hb3) (below_trans HR.out.2 hb3)); have ck := HB.out.1.cell hv; have fk := HB.out.1.free k; clear hb3 hv)
      clear ck fk
      go_roundw
      case rel =>
        refine ⟨k + 1, by omega, by go_num, ?_, ?_⟩
        · rw [← rowAt_set ys n k hlt]; exact HB.out.1.set k _
        · exact HB.out.2.setCell (Nat.le_refl _) _
      case measure => exact meas rfl (by go_num) hlt
    · go_wp2_with fail
      have hkn : k = n := by omega
      subst hkn
      go_ret
      refine ⟨w.heap.size, rfl, ?_, Nat.le_refl _, HR.out.2⟩
      rw [← rowAt_all]
      exact HR.out.1

set_option maxHeartbeats 1600000 in
theorem made49_calls (n : Nat) (hn : n ≤ 4096) (p0 p1 : Nat) (ys : Nat → Int) (w : World)
    (hf : ∀ (i : Nat) (W : World), i < n → Below w.heap.size w W → Calls Try.prog 49 #[.int .i64 (i : Nat), .pointer (some ⟨p0, 0, none⟩), .pointer (some ⟨p1, 0, none⟩)] W fun e W' => e = .returned (.int .i64 (ys i)) ∧ Below W.heap.size W W') :
    Calls Try.prog 48 #[.int .i64 (n : Nat), .func (.func 49) #[] #[.pointer (some ⟨p0, 0, none⟩), .pointer (some ⟨p1, 0, none⟩)]] w fun e w' => ∃ g, e = .returned (.slice (some ⟨g, 0, none⟩) n n) ∧ Blk w' g (((List.range n).map ys).map (Value.int .i64)) 3 ∧ w.heap.size ≤ g ∧ Below w.heap.size w w' := by
  have HF := Lib.hid hf
  obtain ⟨w1, hmk, hblk, hb1⟩ := make_ints w n (by omega)
  have HX := Lib.hid (And.intro hblk (And.intro hb1 hn))
  clear hf hblk hb1 hn
  go_enter Try.func48, Try.ntmps48
  go_wp2_with fail
  clear hmk
  have hnm : (n : Int) ≤ 9223372036854775807 := by have := HX.out.2.2; omega
  go_loopw [6, 11] (fun _ i wr => ∃ k : Nat, k ≤ n ∧ i = .int .i64 k ∧ Blk wr w.heap.size (rowAt ys n k) 3 ∧ Below w.heap.size w wr) (fun _ i _ => n - (intOf i).toNat)
  case atStart => exact ⟨0, Nat.zero_le _, rfl, by rw [rowAt_zero]; exact HX.out.1, HX.out.2.1⟩
  case round =>
    obtain ⟨k, hk, rfl, hblk, hbw⟩ := hrel
    have HR := Lib.hid (And.intro hblk hbw)
    clear hblk hbw
    by_cases hlt : k < n
    · have hwk : wrap64 ((k : Int) + 1) = ((k + 1 : Nat) : Int) := by have hNb := HX.out.2.2; unfold wrap64; omega
      go_wp2_with (go_at_call 49; refine (HF.out k _ hlt HR.out.2).mono ?_; rintro e w3 ⟨rfl, hb3⟩; obtain ⟨v, hv⟩ := rowAt_at ys n k hlt; have HB := Lib.hid (And.intro (HR.out.1.kept hb3) (below_trans HR.out.2 hb3)); have ck := HB.out.1.cell hv; have fk := HB.out.1.free k; clear hb3 hv)
      clear ck fk
      go_roundw
      case rel =>
        refine ⟨k + 1, by omega, by go_num, ?_, ?_⟩
        · rw [← rowAt_set ys n k hlt]; exact HB.out.1.set k _
        · exact HB.out.2.setCell (Nat.le_refl _) _
      case measure => exact meas rfl (by go_num) hlt
    · go_wp2_with fail
      have hkn : k = n := by omega
      subst hkn
      go_ret
      refine ⟨w.heap.size, rfl, ?_, Nat.le_refl _, HR.out.2⟩
      rw [← rowAt_all]
      exact HR.out.1
end Go.Proofs.Ytpgkhhdobolfbaa
