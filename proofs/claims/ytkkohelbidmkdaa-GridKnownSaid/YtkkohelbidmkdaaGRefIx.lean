/-
  The reference's Index and the law's index: the digits of a number.
-/
import Derived.Test.YtkkohelbidmkdaaGRefRange
import Derived.Laws.OwnMore
import Derived.Test.YtkkohelbidmkdaaGSwap
namespace Go.Proofs.Ytkkohelbidmkdaa
set_option linter.unusedVariables false
set_option linter.unusedSimpArgs false
open Go Go.RowKit

theorem pr_snoc (s : List Nat) (m : Nat) : pr (s ++ [m]) = pr s * m := by
  induction s with
  | nil => simp [pr]
  | cons x s ih => simp only [List.cons_append, pr, ih, Nat.mul_assoc]

theorem dg_snoc {m : Nat} (hm : 0 < m) (s : List Nat) (hs : ∀ x ∈ s, 0 < x) : ∀ n, n < pr (s ++ [m]) → dg (s ++ [m]) n = dg s (n / m) ++ [n % m] := by
  induction s with
  | nil => intro n hn; simp only [List.nil_append, pr, Nat.mul_one] at hn; simp [dg, pr, Nat.mod_eq_of_lt hn]
  | cons x s ih =>
    intro n _
    have hp : 0 < pr (s ++ [m]) := by rw [pr_snoc]; exact Nat.mul_pos (pr_pos fun y hy => hs y (List.mem_cons_of_mem _ hy)) hm
    simp only [List.cons_append, dg]
    rw [ih (fun y hy => hs y (List.mem_cons_of_mem _ hy)) _ (Nat.mod_lt _ hp), pr_snoc, Nat.div_div_eq_div_mul, Nat.mul_comm m (pr s), Nat.mod_mul_left_mod, Nat.mul_comm (pr s) m, Nat.mod_mul_right_div_self]

/-- The row while it is filled from behind. -/
def Fill (sN : List Nat) (n0 k n : Nat) (out : List Nat) : Prop := n < pr (sN.take k) ∧ ∃ tail, out = List.replicate k 0 ++ tail ∧ dg sN n0 = dg (sN.take k) n ++ tail

theorem Fill.start (sN : List Nat) (n0 : Nat) (h : n0 < pr sN) : Fill sN n0 sN.length n0 (List.replicate sN.length 0) := ⟨by simpa using h, [], by simp, by simp⟩
theorem Fill.length {sN : List Nat} {n0 k n : Nat} {out : List Nat} (h : Fill sN n0 k n out) (hk : k ≤ sN.length) : out.length = sN.length := by
  obtain ⟨_, tail, rfl, h2⟩ := h
  have h3 := congrArg List.length h2
  rw [dg_length, List.length_append, dg_length, List.length_take] at h3
  simp; omega
theorem Fill.step {sN : List Nat} (hs : ∀ x ∈ sN, 0 < x) {n0 k n m : Nat} {out : List Nat} (h : Fill sN n0 (k + 1) n out) (hm : sN[k]? = some m) : Fill sN n0 k (n / m) (out.set k (n % m)) := by
  obtain ⟨hn, tail, rfl, h2⟩ := h
  have hm0 := hs m (List.mem_of_getElem? hm)
  rw [take_at hm] at hn
  refine ⟨?_, (n % m) :: tail, ?_, ?_⟩
  · rw [pr_snoc] at hn; exact Nat.div_lt_of_lt_mul (by rw [Nat.mul_comm]; exact hn)
  · rw [List.replicate_succ', List.append_assoc, List.set_append_right _ _ (by simp)]
    simp
  · rw [h2, take_at hm, dg_snoc hm0 _ (fun x hx => hs x (List.mem_of_mem_take hx)) _ hn, List.append_assoc]; rfl
theorem Fill.done {sN : List Nat} {n0 n : Nat} {out : List Nat} (h : Fill sN n0 0 n out) : out = dg sN n0 := by
  obtain ⟨_, tail, rfl, h2⟩ := h
  rw [h2]; simp [dg]

theorem ints_set (l : List Nat) (k v : Nat) : ints (l.set k v) = (ints l).set k (v : Int) := by simp [ints, List.map_set]
theorem ints_get {l : List Nat} {k m : Nat} (h : l[k]? = some m) : (ints l)[k]? = some (m : Int) := by simp [ints, h]

theorem make_full (W : World) (n : Nat) (h1 : 1 ≤ n) (h2 : n ≤ 4096) (base : Nat) (hb : base ≤ W.heap.size) : ∃ W', (Instr.makeSlice 22 (.int .i64 (n : Int)) (.int .i64 (n : Int))).run Try.prog W = .ok (.slice (some ⟨W.heap.size, 0, none⟩) n n) W' ∧
    Own W' base (.slice (some ⟨W.heap.size, 0, none⟩) n n) (List.replicate n 0) ∧ Below W.heap.size W W' := by
  obtain ⟨i0, hi, hz0, hz1, hz2⟩ := info_parts info_int
  obtain ⟨W', hr, ho, hg⟩ := run_make_full (P := Try.prog) W base 22 3 i0 (.int .i64 0) 1 Try.underlying22 hi hz0 hz1 .i64 .i64 n (by rw [hz2]; omega) (by simp only [maxLen]; omega) hb
  refine ⟨W', hr, ?_, (Below.refl _ _).grown hg (Nat.le_refl _) (fun k hk => by cases hk)⟩
  have hcells : (madeCells (Value.cells (.int .i64 0)) (n * 1)).toList = (List.replicate n 0).map (Value.int .i64) := by
    rw [Nat.mul_one]
    show (madeCells #[.int .i64 0] n).toList = _
    rw [toList_madeCells_one]; simp
  rw [hcells] at ho
  unfold Own
  rw [List.length_replicate]
  exact ho

set_option maxHeartbeats 800000 in
theorem refIndex_calls (A : Option Addr) (c : Nat) (sN : List Nat) (n0 : Nat) (w : World) (hs : Cs w .i64 A (ints sN)) (h1 : 1 ≤ sN.length) (h4 : sN.length ≤ 4096) (hz : ∀ x ∈ sN, 2 ≤ x ∧ x ≤ 9) (hn0 : n0 < pr sN) (hn1 : n0 ≤ 65536) :
    Calls Try.prog 43 #[.slice A (ints sN).length c, .int .i64 n0] w fun r w' => ∃ g k, r = .returned (.slice (some ⟨g, 0, none⟩) sN.length k) ∧ Own w' w.heap.size (.slice (some ⟨g, 0, none⟩) sN.length k) (ints (dg sN n0)) ∧ Below w.heap.size w w' := by
  have HS := Lib.hid hs
  have HZ := Lib.hid hz
  have HN := Lib.hid hn0
  clear hs hz hn0
  rw [ints_length]
  obtain ⟨w1, hmk, ho1, hb1⟩ := make_full w sN.length h1 h4 w.heap.size (Nat.le_refl _)
  have HX := Lib.hid (And.intro ho1 hb1)
  clear ho1 hb1
  go_enter Try.func43, Try.ntmps43
  go_wp2_with fail
  clear hmk
  go_loopw [1, 6] (fun n i wr => ∃ (k nk : Nat) (out : List Nat), k ≤ sN.length ∧ i = .int .i64 ((k : Int) - 1) ∧ n = .int .i64 nk ∧ nk ≤ 65536 ∧ Fill sN n0 k nk out ∧ Own wr w.heap.size (.slice (some ⟨w.heap.size, 0, none⟩) sN.length sN.length) (ints out) ∧ Below w.heap.size w wr) (fun _ i _ => (intOf i + 1).toNat)
  case atStart => exact ⟨sN.length, n0, List.replicate sN.length 0, Nat.le_refl _, rfl, rfl, hn1, Fill.start sN n0 HN.out, by simpa [ints] using HX.out.1, HX.out.2⟩
  case round =>
    clear HX
    obtain ⟨k, nk, out, hk, rfl, rfl, hnk, hf, ho, hbr⟩ := hrel
    rcases Nat.eq_zero_or_pos k with rfl | hk0
    · have hm1 : (((0 : Nat) : Int) - 1) = -1 := rfl
      rw [hm1]
      have hd := hf.done
      rw [hd] at ho
      have HO := Lib.hid (And.intro ho hbr)
      clear ho hbr hd hf hm1
      go_wp2
      go_ret
      exact ⟨_, _, rfl, HO.out.1, HO.out.2⟩
    · obtain ⟨j, rfl⟩ : ∃ j, k = j + 1 := ⟨k - 1, by omega⟩
      have hm1 : (((j + 1 : Nat) : Int) - 1) = (j : Int) := by omega
      rw [hm1]
      obtain ⟨x, b, off, hx, rfl, hc⟩ := HS.out.at (i := j) (by rw [ints_length]; omega)
      obtain ⟨m, hm, rfl⟩ := ints_at hx
      have hm2 := HZ.out m (List.mem_of_getElem? hm)
      have hm0 : (2 : Int) ≤ (m : Int) := by omega
      have hm9 : (m : Int) ≤ 9 := by omega
      replace hc := Ytkkohelbidmkdaa.kept hbr hc
      obtain ⟨q, hq⟩ : ∃ q, nk / m = q := ⟨_, rfl⟩
      obtain ⟨t, ht⟩ : ∃ t, nk % m = t := ⟨_, rfl⟩
      have hdiv : (nk : Int) / (m : Int) = (q : Int) := by rw [← hq]; simp
      have hmod : (nk : Int) % (m : Int) = (t : Int) := by rw [← ht]; simp
      have hqn : q ≤ 65536 := by rw [← hq]; exact Nat.le_trans (Nat.div_le_self _ _) hnk
      have hs2 := hf.step (fun y hy => by have := HZ.out y hy; omega) hm
      rw [hq, ht] at hs2
      have hlo : out.length = sN.length := hf.length hk
      obtain ⟨y, hy⟩ : ∃ y, (ints out)[j]? = some y := ⟨_, List.getElem?_eq_getElem (by rw [ints_length]; omega)⟩
      obtain ⟨p1, q1⟩ := ho.cell hy
      have ho2 := ho.put (m := j) (by rw [ints_length]; omega) t
      rw [← ints_set] at ho2
      have hbr2 := hbr.setCell (p := ⟨w.heap.size, j, none⟩) (Nat.le_refl _) (.int .i64 t)
      have hcn : (⟨w.heap.size, j, none⟩ : Addr) ≠ ⟨b, off + j, none⟩ := by
        intro h
        injection h with h _ _
        obtain ⟨_, b1, o1, _, e1, hc1⟩ := HS.out.at (i := j) (by rw [ints_length]; omega)
        cases e1
        have := block_lt hc1
        dsimp only at this
        omega
      have hjs : j < sN.length := by omega
      have HH := Lib.hid (And.intro hs2 (And.intro ho2 hbr2))
      have HCN := Lib.hid hcn
      have hc2 : (wr.setCell ⟨w.heap.size, j, none⟩ (.int .i64 t)).cell? ⟨b, off + j, none⟩ = some (.int .i64 (m : Int)) := by
        rw [World.cell?_setCell_other _ _ _ _ hcn]; exact hc
      clear hf ho hx hm hm1 hq ht hs2 hy ho2 hbr2 hbr hlo hcn
      go_wp2
      go_roundw
      case rel => exact ⟨j, q, out.set j t, by omega, by go_num, rfl, hqn, HH.out.1, HH.out.2.1, HH.out.2.2⟩
      case measure => simp [intOf]
set_option maxHeartbeats 800000 in
theorem lawIndex_calls (A : Option Addr) (c : Nat) (sN : List Nat) (n0 : Nat) (w : World) (hs : Cs w .i64 A (ints sN)) (h1 : 1 ≤ sN.length) (h4 : sN.length ≤ 4096) (hz : ∀ x ∈ sN, 2 ≤ x ∧ x ≤ 9) (hn0 : n0 < pr sN) (hn1 : n0 ≤ 65536) :
    Calls Try.prog 24 #[.slice A (ints sN).length c, .int .i64 n0] w fun r w' => ∃ g k, r = .returned (.slice (some ⟨g, 0, none⟩) sN.length k) ∧ Own w' w.heap.size (.slice (some ⟨g, 0, none⟩) sN.length k) (ints (dg sN n0)) ∧ Below w.heap.size w w' := by
  have HS := Lib.hid hs
  have HZ := Lib.hid hz
  have HN := Lib.hid hn0
  clear hs hz hn0
  rw [ints_length]
  obtain ⟨w1, hmk, ho1, hb1⟩ := make_full w sN.length h1 h4 w.heap.size (Nat.le_refl _)
  have HX := Lib.hid (And.intro ho1 hb1)
  clear ho1 hb1
  go_enter Try.func24, Try.ntmps24
  go_wp2_with fail
  clear hmk
  go_loopw [1, 6] (fun n i wr => ∃ (k nk : Nat) (out : List Nat), k ≤ sN.length ∧ i = .int .i64 ((k : Int) - 1) ∧ n = .int .i64 nk ∧ nk ≤ 65536 ∧ Fill sN n0 k nk out ∧ Own wr w.heap.size (.slice (some ⟨w.heap.size, 0, none⟩) sN.length sN.length) (ints out) ∧ Below w.heap.size w wr) (fun _ i _ => (intOf i + 1).toNat)
  case atStart => exact ⟨sN.length, n0, List.replicate sN.length 0, Nat.le_refl _, rfl, rfl, hn1, Fill.start sN n0 HN.out, by simpa [ints] using HX.out.1, HX.out.2⟩
  case round =>
    clear HX
    obtain ⟨k, nk, out, hk, rfl, rfl, hnk, hf, ho, hbr⟩ := hrel
    rcases Nat.eq_zero_or_pos k with rfl | hk0
    · have hm1 : (((0 : Nat) : Int) - 1) = -1 := rfl
      rw [hm1]
      have hd := hf.done
      rw [hd] at ho
      have HO := Lib.hid (And.intro ho hbr)
      clear ho hbr hd hf hm1
      go_wp2
      go_ret
      exact ⟨_, _, rfl, HO.out.1, HO.out.2⟩
    · obtain ⟨j, rfl⟩ : ∃ j, k = j + 1 := ⟨k - 1, by omega⟩
      have hm1 : (((j + 1 : Nat) : Int) - 1) = (j : Int) := by omega
      rw [hm1]
      obtain ⟨x, b, off, hx, rfl, hc⟩ := HS.out.at (i := j) (by rw [ints_length]; omega)
      obtain ⟨m, hm, rfl⟩ := ints_at hx
      have hm2 := HZ.out m (List.mem_of_getElem? hm)
      have hm0 : (2 : Int) ≤ (m : Int) := by omega
      have hm9 : (m : Int) ≤ 9 := by omega
      replace hc := Ytkkohelbidmkdaa.kept hbr hc
      obtain ⟨q, hq⟩ : ∃ q, nk / m = q := ⟨_, rfl⟩
      obtain ⟨t, ht⟩ : ∃ t, nk % m = t := ⟨_, rfl⟩
      have hdiv : (nk : Int) / (m : Int) = (q : Int) := by rw [← hq]; simp
      have hmod : (nk : Int) % (m : Int) = (t : Int) := by rw [← ht]; simp
      have htm : Int.tmod (nk : Int) (m : Int) = (t : Int) := by rw [Int.tmod_eq_emod_of_nonneg (by omega)]; exact hmod
      have htd : Int.tdiv (nk : Int) (m : Int) = (q : Int) := by rw [Int.tdiv_eq_ediv_of_nonneg (by omega)]; exact hdiv
      have hmz : ¬ m = 0 := by omega
      have hqn : q ≤ 65536 := by rw [← hq]; exact Nat.le_trans (Nat.div_le_self _ _) hnk
      have HF := Lib.hid (And.intro hf (And.intro ho hbr))
      have hs2 := hf.step (fun y hy => by have := HZ.out y hy; omega) hm
      rw [hq, ht] at hs2
      have hlo : out.length = sN.length := hf.length hk
      obtain ⟨y, hy⟩ : ∃ y, (ints out)[j]? = some y := ⟨_, List.getElem?_eq_getElem (by rw [ints_length]; omega)⟩
      have hb0 : b < w.heap.size := by
        obtain ⟨_, b1, o1, _, e1, hc1⟩ := HS.out.at (i := j) (by rw [ints_length]; omega)
        cases e1
        exact block_lt hc1
      have n5 : ¬ b = w.heap.size := by omega
      obtain ⟨cur, hcur, hsz⟩ : ∃ cur : Array Value, wr.heap[w.heap.size]? = some (.cells cur 3) ∧ j < cur.size := by
        rcases ho.2 with ⟨hh, _⟩ | ⟨g, cap, cur, hh, _, hh2, hh3, _, hh4, _⟩
        · cases hh
        · injection hh with h1
          injection h1 with h1
          injection h1 with h1
          subst h1
          rw [ints_length] at hh3
          exact ⟨cur, hh2, by omega⟩
      have ho2 := ho.put (m := j) (by rw [ints_length]; omega) t
      rw [← ints_set] at ho2
      have hjs : j < sN.length := by omega
      have HH := Lib.hid (And.intro hs2 (And.intro ho2 (And.intro hbr (And.intro hcur hsz))))
      clear hf ho hx hm hm1 hq ht hbr hlo hy hs2 ho2 hcur hsz HF
      go_wp2_with fail
      refine RT.wp_seq_tail (T := RT.OneT w.heap.size (.cells (cur.setIfInBounds j (.int .i64 t)) 3)) 16 (fun k => k == 15) (fun _ _ => undef) (fun _ _ W => W.heap[w.heap.size]? = some (.cells (cur.setIfInBounds j (.int .i64 t)) 3)) trivial (by kernel_rfl) (by kernel_rfl) (by decide)
        (fun _ _ A B hT h => by rcases hT.one with e | e; exact e.trans h; exact e) ?_
      repeat (first | (refine RT.seq_skip (by rfl) ?_; simp only [Act.put, List.setIfInBounds_toArray, List.set_cons_zero, List.set_cons_succ, Nat.reduceAdd]) | (refine RT.seq_pure (v := ?_) (by rfl) (by rfl) (fun W hW hn => ?_) ?_; rotate_left; (have hC := RT.OneT.cell hW; clear hW hn; go_simp <;> with_reducible rfl); simp only [Act.put, List.setIfInBounds_toArray, List.set_cons_zero, List.set_cons_succ, Nat.reduceAdd]))
      refine RT.seq_made (by rfl) (by rfl) (fun W' hW' hn hF R hR => ?_) (fun _ => ?_)
      · clear hn
        obtain ⟨⟨u, hu⟩, hfz, hT, hX⟩ := one_store HH.out.2.2.2.1 HH.out.2.2.2.2 hW'
        unfold RT.Gives
        go_simp
        exact hR {} _ hT hX (fun _ h => h)
      simp only [Act.put, List.setIfInBounds_toArray, List.set_cons_zero, List.set_cons_succ, Nat.reduceAdd]
      refine RT.seq_nil ?_
      intro W hW hF
      have hX7 := hF _ _ (List.mem_cons_self ..)
      clear hF
      obtain ⟨h1', h2', h3', h4', h5'⟩ := HH.out
      have o4 := h2'.of_heap (B := W) (fun g hg => by cases hg; rw [hX7, heap_set h4'])
      have hbr2 := hW.below h3' (Nat.le_refl _)
      have HH2 := Lib.hid (And.intro h1' (And.intro o4 hbr2))
      clear h1' h2' h3' h4' h5' o4 hbr2 hX7 hW HH hc
      go_wp2
      go_roundw
      case rel => exact ⟨j, q, out.set j t, by omega, by go_num, rfl, hqn, HH2.out.1, HH2.out.2.1, HH2.out.2.2⟩
      case measure => simp [intOf]
end Go.Proofs.Ytkkohelbidmkdaa
