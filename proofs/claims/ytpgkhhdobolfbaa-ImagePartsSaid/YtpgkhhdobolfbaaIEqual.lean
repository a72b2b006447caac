/-
  slices.Equal; the image of the chapter's examples.
-/
import Derived.Test.YtpgkhhdobolfbaaIBetween
import Derived.Test.YtpgkhhdobolfbaaIMk
namespace Go.Proofs.Ytpgkhhdobolfbaa
set_option linter.unusedVariables false
set_option linter.unusedSimpArgs false
open Go Go.RowKit

set_option maxHeartbeats 400000 in
theorem equal_calls (A B : Option Addr) (c e : Nat) (xs ys : List Int) (w : World) (hx : Cs w .i64 A xs) (hy : Cs w .i64 B ys) (lx : xs.length ≤ 9223372036854775807) (_ly : ys.length ≤ 9223372036854775807) :
    Calls Try.prog 28 #[.slice A xs.length c, .slice B ys.length e] w fun r w' => r = .returned (.bool (decide (xs = ys))) ∧ Below w.heap.size w w' := by
  have HX := Lib.hid hx
  have HY := Lib.hid hy
  clear hx hy
  by_cases hl : xs.length = ys.length
  · have hlb : ((xs.length : Int) != (ys.length : Int)) = false := by simp [hl]
    have HL := Lib.hid hl
    clear hl
    go_enter Try.func28, Try.ntmps28
    go_wp2_with fail
    go_loopw [5, 13] (fun _ i wr => ∃ k : Nat, k ≤ xs.length ∧ i = .int .i64 k ∧ xs.take k = ys.take k ∧ Below w.heap.size w wr) (fun _ i _ => xs.length - (intOf i).toNat)
    case atStart => exact ⟨0, Nat.zero_le _, rfl, rfl, Below.refl _ _⟩
    case round =>
      obtain ⟨k, hk, rfl, htk, hbr⟩ := hrel
      have HT := Lib.hid htk
      clear htk
      by_cases hlt : k < xs.length
      · obtain ⟨x, b, off, hx, rfl, hc⟩ := HX.out.at hlt
        obtain ⟨y, b', off', hy, rfl, hc'⟩ := HY.out.at (i := k) (by have := HL.out; omega)
        have HXY := Lib.hid (And.intro hx hy)
        have hlt' : k < ys.length := by have := HL.out; omega
        clear hx hy
        replace hc := kept hbr hc
        replace hc' := kept hbr hc'
        by_cases hxy : x = y
        · have hb : (x != y) = false := by simp [hxy]
          have HE := Lib.hid hxy
          clear hxy
          go_wp2_with fail
          refine wp_seq_all (fun _ => false) (fun _ _ => undef) (fun _ _ _ => True) (by kernel_rfl) (by kernel_rfl) (fun _ _ _ _ _ _ => trivial) ?_
          repeat (first | (refine seq_skip (by rfl) ?_; simp only [Act.put, List.setIfInBounds_toArray, List.set_cons_zero, List.set_cons_succ, Nat.reduceAdd]) | (refine seq_pure (v := ?_) (by rfl) (by rfl) (fun W hW hC => ?_) ?_; rotate_left; (go_simp <;> with_reducible rfl); simp only [Act.put, List.setIfInBounds_toArray, List.set_cons_zero, List.set_cons_succ, Nat.reduceAdd]))
          refine seq_nil ?_; intro W hW hF
          go_wp2
          go_roundw
          case rel => exact ⟨k + 1, by omega, by go_num, by rw [take_at HXY.out.1, take_at HXY.out.2, HT.out, HE.out], hbr.trans (hW.mono hbr.size)⟩
          case measure => simp [intOf]; omega
        · have hb : (x != y) = true := by simp [hxy]
          have HE := Lib.hid hxy
          clear hxy
          go_wp2_with fail
          refine wp_seq_all (fun _ => false) (fun _ _ => undef) (fun _ _ _ => True) (by kernel_rfl) (by kernel_rfl) (fun _ _ _ _ _ _ => trivial) ?_
          repeat (first | (refine seq_skip (by rfl) ?_; simp only [Act.put, List.setIfInBounds_toArray, List.set_cons_zero, List.set_cons_succ, Nat.reduceAdd]) | (refine seq_pure (v := ?_) (by rfl) (by rfl) (fun W hW hC => ?_) ?_; rotate_left; (go_simp <;> with_reducible rfl); simp only [Act.put, List.setIfInBounds_toArray, List.set_cons_zero, List.set_cons_succ, Nat.reduceAdd]))
          refine seq_nil ?_; intro W hW hF
          go_wp2
          go_ret
          have hne : xs ≠ ys := by
            intro h
            have h1 := HXY.out.1
            rw [h, HXY.out.2] at h1
            exact HE.out (Option.some.inj h1).symm
          exact ⟨ret_bool (by simp [hne]), hbr.trans (hW.mono hbr.size)⟩
      · go_wp2
        go_ret
        have heq : xs = ys := by have := HT.out; rwa [List.take_of_length_le (by omega), List.take_of_length_le (by have := HL.out; omega)] at this
        exact ⟨ret_bool (by simp [heq]), hbr⟩
  · have hlb : ((xs.length : Int) != (ys.length : Int)) = true := by simp; omega
    have HL := Lib.hid hl
    clear hl
    go_enter Try.func28, Try.ntmps28
    go_wp2
    go_ret
    have hne : xs ≠ ys := fun h => HL.out (by rw [h])
    exact ⟨ret_bool (by simp [hne]), Below.refl _ _⟩


/-- The image of the chapter's examples. -/
def SIX : Im := ⟨2, 1, 3, 8, false, 4, ⟨#[1, 2, 3, 4, 5, 6, 0, 0]⟩⟩

theorem k_stride : strideS SIX = (8, 0) := by kernel_rfl
theorem k_get : getS SIX 1 0 = ([4, 5, 6], 0) := by kernel_rfl
theorem k_get2 : getS SIX 2 0 = ([], 2) := by kernel_rfl
theorem k_set : setS SIX 0 0 [7, 8, 9] = (⟨2, 1, 3, 8, false, 4, ⟨#[7, 8, 9, 4, 5, 6, 0, 0]⟩⟩, 0) := by kernel_rfl
theorem k_shape1 : shapeS SIX 8 true 1 = (⟨2, 1, 3, 8, true, 1, ⟨#[1, 4, 2, 5, 3, 6]⟩⟩, 0) := by kernel_rfl
theorem k_shape2 : shapeS SIX 16 false 1 = (⟨2, 1, 3, 16, false, 1, ⟨#[1, 1, 2, 2, 3, 3, 4, 4, 5, 5, 6, 6]⟩⟩, 0) := by kernel_rfl
theorem k_cut : cutS SIX 1 0 1 1 = (⟨1, 1, 3, 8, false, 4, ⟨#[4, 5, 6, 0]⟩⟩, 0) := by kernel_rfl
theorem k_make : makeS 65 1 1 8 false 1 = (Im.zero, 2) := by kernel_rfl
theorem k_check : checkS ⟨2, 1, 3, 8, false, 4, ⟨#[1, 2, 3, 4, 5, 6, 0, 1]⟩⟩ = 420 := by kernel_rfl
end Go.Proofs.Ytpgkhhdobolfbaa
