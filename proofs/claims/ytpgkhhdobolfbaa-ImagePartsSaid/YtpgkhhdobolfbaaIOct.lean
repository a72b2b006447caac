/-
  A row of octets in memory.
-/
import Derived.Test.YtpgkhhdobolfbaaIValid
namespace Go.Proofs.Ytpgkhhdobolfbaa
set_option linter.unusedVariables false
set_option linter.unusedSimpArgs false
open Go Go.RowKit

/-- Block g holds the octets l at its head; none of them is frozen. -/
structure Oct (W : World) (g : Nat) (l : List UInt8) : Prop where
  cell : ∀ i o, l[i]? = some o → W.cell? ⟨g, i, none⟩ = some (.int .u8 (o.toNat : Int))
  free : ∀ i, i < l.length → W.frozen? ⟨g, i, none⟩ = false
  lt : g < W.heap.size

theorem Oct.kept {W W' : World} {g : Nat} {l : List UInt8} (h : Oct W g l) (hb : Below W.heap.size W W') : Oct W' g l :=
  ⟨fun i o hi => Ytpgkhhdobolfbaa.kept hb (h.cell i o hi), fun i hi => (hb.frozen (p := ⟨g, i, none⟩) h.lt).trans (h.free i hi), Nat.lt_of_lt_of_le h.lt hb.size⟩

theorem Oct.set {W : World} {g : Nat} {l : List UInt8} (h : Oct W g l) {i : Nat} (hi : i < l.length) (o : UInt8) : Oct (W.setCell ⟨g, i, none⟩ (.int .u8 (o.toNat : Int))) g (l.set i o) := by
  refine ⟨fun j v hj => ?_, fun j hj => ?_, by simpa [World.setCell] using h.lt⟩
  · rw [List.getElem?_set] at hj
    by_cases e : i = j
    · subst e
      rw [if_pos rfl, if_pos hi] at hj
      cases hj
      exact World.cell?_setCell_same _ _ _ (by rw [h.cell i l[i] (by simp [hi])])
    · rw [if_neg e] at hj
      rw [World.cell?_setCell_other _ _ _ _ (by intro e'; cases e'; exact e rfl)]
      exact h.cell j v hj
  · rw [List.length_set] at hj
    have := h.free j hj
    simpa using this

/-- []byte(s). -/
theorem bytes_made (w : World) (s : ByteArray) : ∃ W' k, (convert 9 41 (.string s)).run Try.prog w = .ok (.slice (some ⟨w.heap.size, 0, none⟩) s.size k) W' ∧ Oct W' w.heap.size s.data.toList ∧ Below w.heap.size w W' := by
  refine ⟨_, _, run_bytes_of_string (P := Try.prog) w 9 41 5 s Try.underlying9 Try.underlying41 Try.underlying5, ⟨fun i o hi => ?_, fun i hi => ?_, by simp⟩, ⟨rfl, rfl, rfl, by simp, fun b hb => heap_alloc_old w.drew _ hb⟩⟩
  · have hh := heap_alloc_new w.drew (.cells (bytesRow s (grownCap w s.size 0 5)) 5 ((bytesRow s (grownCap w s.size 0 5)).size, (bytesRow s (grownCap w s.size 0 5)).size + 1))
    have hl := (List.getElem?_eq_some_iff.1 hi).1
    have hsz : i < s.data.size := by simpa using hl
    simp only [World.cell?]
    rw [show (w.drew.alloc _).heap[w.heap.size]? = _ from hh]
    simp only [bytesRow]
    have hi' : s.data[i]? = some o := by simpa using hi
    rw [Array.getElem?_append_left (by simpa using hsz), Array.getElem?_map, hi']
    rfl
  · have hh := heap_alloc_new w.drew (.cells (bytesRow s (grownCap w s.size 0 5)) 5 ((bytesRow s (grownCap w s.size 0 5)).size, (bytesRow s (grownCap w s.size 0 5)).size + 1))
    have hsz : i < s.data.size := by simpa using hi
    simp only [World.frozen?]
    rw [show (w.drew.alloc _).heap[w.heap.size]? = _ from hh]
    have e : s.data.size = s.size := rfl
    have hd : s.data.toList.length = s.size := by simp [e]
    rw [hd] at hi
    simp [bytesRow, e]
    omega

theorem blk_of_owns {w : World} {base : Nat} {e : TypeId} {n g : Nat} {xs : List Value} (h : w.ownsRow base e 1 (.slice (some ⟨g, 0, none⟩) n n) n xs) : Blk w g xs e := by
  obtain ⟨h1, h2⟩ := h
  rcases h2 with ⟨h2, _⟩ | ⟨g', cap, cur, hv, hg, hh, hn, hc, hsz, htk⟩
  · cases h2
  · simp only [Value.slice.injEq, Option.some.injEq, Addr.mk.injEq] at hv
    obtain ⟨⟨rfl, _⟩, _, rfl⟩ := hv
    unfold Blk
    rw [hh]
    have : cur.toList = xs := by rw [← htk, List.take_of_length_le]; simp [hsz]
    rw [← this]

theorem info_byte : (Try.prog.info? 5).map (fun i => (i.zero, i.size, i.bytes)) = some (some (.int .u8 0), 1, 1) := by kernel_rfl

theorem make_bytes (W : World) (n : Nat) (h2 : n ≤ 140000) : ∃ W', (Instr.makeSlice 41 (.int .i64 (n : Int)) (.int .i64 (n : Int))).run Try.prog W = .ok (.slice (some ⟨W.heap.size, 0, none⟩) n n) W' ∧
    Oct W' W.heap.size (List.replicate n 0) ∧ Below W.heap.size W W' ∧ W.heap.size < W'.heap.size := by
  obtain ⟨i0, hi, hz0, hz1, hz2⟩ := info_parts info_byte
  obtain ⟨W', hr, ho, hg⟩ := run_make_full (P := Try.prog) W 0 41 5 i0 (.int .u8 0) 1 Try.underlying41 hi hz0 hz1 .i64 .i64 n (by rw [hz2]; omega) (by simp only [maxLen]; omega) (Nat.zero_le _)
  have hcells : (madeCells (Value.cells (.int .u8 0)) (n * 1)).toList = List.replicate n (.int .u8 0) := by
    rw [Nat.mul_one]
    show (madeCells #[.int .u8 0] n).toList = _
    rw [toList_madeCells_one]
  rw [hcells] at ho
  have hB := blk_of_owns ho
  refine ⟨W', hr, ⟨fun i o hi => ?_, fun i _ => hB.free i, hB.lt⟩, (Below.refl _ _).grown hg (Nat.le_refl _) (fun k hk => by cases hk), hB.lt⟩
  obtain ⟨hl, hv⟩ := List.getElem?_eq_some_iff.1 hi
  rw [List.length_replicate] at hl
  rw [List.getElem_replicate] at hv
  subst hv
  exact hB.cell (by rw [List.getElem?_replicate, if_pos hl]; rfl)

theorem make_ints (W : World) (n : Nat) (h2 : n ≤ 5000) : ∃ W', (Instr.makeSlice 29 (.int .i64 (n : Int)) (.int .i64 (n : Int))).run Try.prog W = .ok (.slice (some ⟨W.heap.size, 0, none⟩) n n) W' ∧
    Blk W' W.heap.size (List.replicate n (.int .i64 0)) 3 ∧ Below W.heap.size W W' := by
  obtain ⟨i0, hi, hz0, hz1, hz2⟩ := info_parts info_int
  obtain ⟨W', hr, ho, hg⟩ := run_make_full (P := Try.prog) W 0 29 3 i0 (.int .i64 0) 1 Try.underlying29 hi hz0 hz1 .i64 .i64 n (by rw [hz2]; omega) (by simp only [maxLen]; omega) (Nat.zero_le _)
  have hcells : (madeCells (Value.cells (.int .i64 0)) (n * 1)).toList = List.replicate n (.int .i64 0) := by
    rw [Nat.mul_one]
    show (madeCells #[.int .i64 0] n).toList = _
    rw [toList_madeCells_one]
  rw [hcells] at ho
  exact ⟨W', hr, blk_of_owns ho, (Below.refl _ _).grown hg (Nat.le_refl _) (fun k hk => by cases hk)⟩
end Go.Proofs.Ytpgkhhdobolfbaa
