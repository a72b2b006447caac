/-
  The reference's place, Place, At, Check, Same.
-/
import Derived.Test.YtkkohelbidmkdaaGRight
import Derived.Test.YtkkohelbidmkdaaGAt
namespace Go.Proofs.Ytkkohelbidmkdaa
set_option linter.unusedVariables false
set_option linter.unusedSimpArgs false
open Go Go.RowKit

/-- The place of an index, with wraps. -/
def placeW (s ix : List Int) : Int := (s.zip ix).foldl (fun n mp => wrap64 (wrap64 (n * mp.1) + mp.2)) 0

/-- The number that the reference's place returns. -/
def refPl (s ix : List Int) (o : Int) : Int := if idxB s ix = true then wrap64 (placeW s ix * o) else 0

theorem inI_inB (x n : Int) : inI 0 (n - 1) x = inB (x, n) := by
  unfold inI inB
  by_cases c : 0 ≤ x <;> by_cases d : x < n
  · have : x ≤ n - 1 := by omega
    simp [c, d, this]
  · have : ¬ x ≤ n - 1 := by omega
    simp [c, d, this]
  · simp [c]
  · simp [c]

set_option maxHeartbeats 800000 in
theorem refPlace_calls (A B I : Option Addr) (c e ci : Nat) (s d ix : List Int) (o : Int) (w : World) (hs : Cs w .i64 A s) (hi : Cs w .i64 I ix) (hsz : ∀ x ∈ s, 2 ≤ x ∧ x ≤ 9)
    (ls : s.length ≤ 9223372036854775807) (li : ix.length ≤ 9223372036854775807) :
    Calls Try.prog 37 #[.agg #[.slice A s.length c, .int .i64 o, .slice B d.length e], .slice I ix.length ci] w fun r w' =>
      r = .returned (.tuple #[.int .i64 (refPl s ix o), .bool (idxB s ix)]) ∧ Below w.heap.size w w' := by
  have HS := Lib.hid hs
  have HI := Lib.hid hi
  have HZ := Lib.hid hsz
  clear hs hi hsz
  by_cases hl : ix.length = s.length
  · have hlb : ((ix.length : Int) != (s.length : Int)) = false := by simp [hl]
    have HL := Lib.hid hl
    clear hl
    go_enter Try.func37, Try.ntmps37
    go_wp2_with fail
    refine wp_named ?_
    intro w1 hw1
    have hb1 : Below w.heap.size w w1 := by rw [hw1]; exact below_alloc _
    have b0 : Blk w1 w.heap.size [.slice A s.length c, .int .i64 o, .slice B d.length e] 24 := by rw [hw1]; exact Blk.new _ _ _
    clear hw1
    have HB := Lib.hid (And.intro b0 hb1)
    clear b0 hb1
    go_loopw [6, 7] (fun p i wr => ∃ k : Nat, k ≤ ix.length ∧ i = .int .i64 k ∧ p = .int .i64 (placeW (s.take k) ix) ∧ ((ix.take k).zip (s.take k)).all inB = true ∧ Below w.heap.size w wr ∧ Blk wr w.heap.size [.slice A s.length c, .int .i64 o, .slice B d.length e] 24) (fun _ i _ => ix.length - (intOf i).toNat)
    case atStart => exact ⟨0, Nat.zero_le _, rfl, rfl, rfl, HB.out.2, HB.out.1⟩
    case round =>
      obtain ⟨k, hk, rfl, rfl, hall, hbr, b0⟩ := hrel
      have c0 := b0.cell (i := 0) rfl
      have c1 := b0.cell (i := 1) rfl
      have HR := Lib.hid (And.intro hall (And.intro hbr b0))
      clear hall b0
      by_cases hlt : k < ix.length
      · obtain ⟨x, b, off, hx, rfl, hc⟩ := HI.out.at hlt
        obtain ⟨n, b', off', hn, rfl, hc'⟩ := HS.out.at (i := k) (by have := HL.out; omega)
        have hn2 := HZ.out n (List.mem_of_getElem? hn)
        have hlt' : k < s.length := by have := HL.out; omega
        have HX := Lib.hid (And.intro hx hn)
        clear hx hn
        replace hc := kept hbr hc
        replace hc' := kept hbr hc'
        clear hbr
        have hsub : IntKind.i64.wrap (n - 1) = n - 1 := by rw [IntWalk.i64_left]; exact wrap64_id (by omega) (by omega)
        go_wp2_with fail
        by_cases hin : inI 0 (n - 1) x = true
        · have HIN := Lib.hid hin
          clear hin
          refine wp_seq_all (fun k => k == 10) (fun _ _ => .bool true) (fun _ _ _ => True) (by kernel_rfl) (by kernel_rfl) (fun _ _ _ _ _ _ => trivial) ?_
          repeat (first | (refine seq_skip (by rfl) ?_; simp only [Act.put, List.setIfInBounds_toArray, List.set_cons_zero, List.set_cons_succ, Nat.reduceAdd]) | (refine seq_pure (v := ?_) (by rfl) (by rfl) (fun W hW hC => ?_) ?_; rotate_left; (go_simp <;> with_reducible rfl); simp only [Act.put, List.setIfInBounds_toArray, List.set_cons_zero, List.set_cons_succ, Nat.reduceAdd]))
          refine seq_made (by rfl) (by rfl) (fun W hW hC hF R hR => ?_) (fun _ => ?_)
          · unfold Gives; go_simp; refine (within_calls _ _ _ _).mono ?_; rintro r w5 ⟨rfl, rfl⟩; exact ⟨_, rfl, by rw [HIN.out]; exact hR {} _ (Below.refl _ _) trivial⟩
          simp only [Act.put, List.setIfInBounds_toArray, List.set_cons_zero, List.set_cons_succ, Nat.reduceAdd]
          repeat (first | (refine seq_skip (by rfl) ?_; simp only [Act.put, List.setIfInBounds_toArray, List.set_cons_zero, List.set_cons_succ, Nat.reduceAdd]) | (refine seq_pure (v := ?_) (by rfl) (by rfl) (fun W hW hC => ?_) ?_; rotate_left; (go_simp <;> with_reducible rfl); simp only [Act.put, List.setIfInBounds_toArray, List.set_cons_zero, List.set_cons_succ, Nat.reduceAdd]))
          refine seq_nil ?_; intro W hW hF
          clear hF
          obtain ⟨hall, hbr, b0⟩ := HR.out
          replace b0 := b0.kept hW
          replace hbr := hbr.trans (hW.mono hbr.size)
          replace hc := kept hW hc
          replace hc' := kept hW hc'
          clear c0 c1 hW HR
          have c0 := b0.cell (i := 0) rfl
          have c1 := b0.cell (i := 1) rfl
          have HR := Lib.hid (And.intro hall (And.intro hbr b0))
          clear hall b0 hbr
          go_wp2_with fail
          refine wp_seq_all (fun _ => false) (fun _ _ => undef) (fun _ _ _ => True) (by kernel_rfl) (by kernel_rfl) (fun _ _ _ _ _ _ => trivial) ?_
          repeat (first | (refine seq_skip (by rfl) ?_; simp only [Act.put, List.setIfInBounds_toArray, List.set_cons_zero, List.set_cons_succ, Nat.reduceAdd]) | (refine seq_pure (v := ?_) (by rfl) (by rfl) (fun W hW hC => ?_) ?_; rotate_left; (go_simp <;> with_reducible rfl); simp only [Act.put, List.setIfInBounds_toArray, List.set_cons_zero, List.set_cons_succ, Nat.reduceAdd]))
          refine seq_nil ?_; intro W2 hW2 hF
          clear hF
          obtain ⟨hall, hbr, b0⟩ := HR.out
          replace b0 := b0.kept hW2
          replace hbr := hbr.trans (hW2.mono hbr.size)
          clear c0 c1 HR
          go_wp2
          go_roundw
          case rel =>
            refine ⟨k + 1, by omega, by go_num, ?_, ?_, hbr, b0⟩
            · rw [placeW, placeW, zip_take, zip_take, foldl_take _ _ (x := (n, x)) (List.getElem?_zip_eq_some.2 ⟨HX.out.2, HX.out.1⟩)]; rw [IntWalk.i64_left, IntWalk.i64_left]
            · rw [take_at HX.out.1, take_at HX.out.2, List.zip_append (by simp; omega), List.all_append, hall]
              have := HIN.out
              rw [inI_inB] at this
              simp [this]
          case measure => simp [intOf]; omega
        · have hin' : inI 0 (n - 1) x = false := by simpa using hin
          have HIN := Lib.hid hin'
          clear hin hin'
          refine wp_seq_all (fun k => k == 10) (fun _ _ => .bool false) (fun _ _ _ => True) (by kernel_rfl) (by kernel_rfl) (fun _ _ _ _ _ _ => trivial) ?_
          repeat (first | (refine seq_skip (by rfl) ?_; simp only [Act.put, List.setIfInBounds_toArray, List.set_cons_zero, List.set_cons_succ, Nat.reduceAdd]) | (refine seq_pure (v := ?_) (by rfl) (by rfl) (fun W hW hC => ?_) ?_; rotate_left; (go_simp <;> with_reducible rfl); simp only [Act.put, List.setIfInBounds_toArray, List.set_cons_zero, List.set_cons_succ, Nat.reduceAdd]))
          refine seq_made (by rfl) (by rfl) (fun W hW hC hF R hR => ?_) (fun _ => ?_)
          · unfold Gives; go_simp; refine (within_calls _ _ _ _).mono ?_; rintro r w5 ⟨rfl, rfl⟩; exact ⟨_, rfl, by rw [HIN.out]; exact hR {} _ (Below.refl _ _) trivial⟩
          simp only [Act.put, List.setIfInBounds_toArray, List.set_cons_zero, List.set_cons_succ, Nat.reduceAdd]
          repeat (first | (refine seq_skip (by rfl) ?_; simp only [Act.put, List.setIfInBounds_toArray, List.set_cons_zero, List.set_cons_succ, Nat.reduceAdd]) | (refine seq_pure (v := ?_) (by rfl) (by rfl) (fun W hW hC => ?_) ?_; rotate_left; (go_simp <;> with_reducible rfl); simp only [Act.put, List.setIfInBounds_toArray, List.set_cons_zero, List.set_cons_succ, Nat.reduceAdd]))
          refine seq_nil ?_; intro W hW hF
          clear hF
          obtain ⟨hall, hbr, b0⟩ := HR.out
          replace hbr := hbr.trans (hW.mono hbr.size)
          have hx : idxB s ix = false := by
            unfold idxB
            have h1 : (ix.zip s).all inB = false := by
              rw [List.all_eq_false]
              exact ⟨(x, n), List.mem_of_getElem? (List.getElem?_zip_eq_some.2 HX.out), by rw [← inI_inB, HIN.out]; simp⟩
            rw [h1, Bool.and_false]
          have HQ := Lib.hid (And.intro hx hbr)
          clear hx hbr hall b0 HR
          go_wp2
          go_ret2
          exact ⟨by simp [refPl, HQ.out.1], HQ.out.2⟩
      · have hidx : idxB s ix = true := by
          obtain ⟨hall, hbr, b0⟩ := HR.out
          have h2 := HL.out
          rw [List.take_of_length_le (by omega), List.take_of_length_le (by omega)] at hall
          unfold idxB
          rw [hall, decide_eq_true h2]; rfl
        have hst : s.take k = s := List.take_of_length_le (by have := HL.out; omega)
        rw [hst]
        have HQ := Lib.hid (And.intro hidx HR.out.2.1)
        clear hidx hbr hst
        go_wp2
        go_ret2
        exact ⟨by simp [refPl, HQ.out.1, IntWalk.i64_left], HQ.out.2⟩
  · have hlb : ((ix.length : Int) != (s.length : Int)) = true := by simp; omega
    have hx : idxB s ix = false := by unfold idxB; rw [decide_eq_false hl]; rfl
    have HQ := Lib.hid hx
    clear hl hx
    go_enter Try.func37, Try.ntmps37
    go_wp2
    go_ret2
    exact ⟨by simp [refPl, HQ.out], below_alloc _⟩
end Go.Proofs.Ytkkohelbidmkdaa
