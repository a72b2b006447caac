/-
  Valid grids in natural numbers: the k-th index lies at place k.
-/
import Derived.Test.YtkkohelbidmkdaaGIndices
namespace Go.Proofs.Ytkkohelbidmkdaa
set_option linter.unusedVariables false
set_option linter.unusedSimpArgs false
open Go Go.RowKit

theorem nat_row (s : List Int) (h : ∀ x ∈ s, 0 ≤ x) : ∃ sN : List Nat, s = ints sN := by
  induction s with
  | nil => exact ⟨[], rfl⟩
  | cons a s ih =>
    obtain ⟨sN, h1⟩ := ih fun x hx => h x (List.mem_cons_of_mem _ hx)
    obtain ⟨n, hn⟩ := Int.eq_ofNat_of_zero_le (h a (List.mem_cons_self ..))
    exact ⟨n :: sN, by rw [h1, hn]; rfl⟩

theorem nat_sizes {s : List Int} (h : ∀ x ∈ s, 2 ≤ x ∧ x ≤ 9) : ∃ sN : List Nat, s = ints sN ∧ ∀ x ∈ sN, 2 ≤ x ∧ x ≤ 9 := by
  obtain ⟨sN, rfl⟩ := nat_row s fun x hx => by have := h x hx; omega
  refine ⟨sN, rfl, fun x hx => ?_⟩
  have := h x (by unfold ints; exact List.mem_map.2 ⟨x, hx, rfl⟩)
  omega

theorem prod_ints (sN : List Nat) : ∀ A : Nat, (ints sN).foldl (fun a x => a * x) (A : Int) = ((A * pr sN : Nat) : Int) := by
  induction sN with
  | nil => intro A; simp [ints, pr]
  | cons m s ih =>
    intro A
    have := ih (A * m)
    simp only [ints, List.map_cons, List.foldl_cons, pr] at this ⊢
    rw [← Int.natCast_mul, this, Nat.mul_assoc]
theorem prodI_ints (sN : List Nat) : prodI (ints sN) = (pr sN : Int) := by
  have := prod_ints sN 1
  rw [Nat.one_mul] at this
  exact this

theorem place_ints : ∀ (sN ix : List Nat) (A : Nat), ((ints sN).zip (ints ix)).foldl (fun n mp => n * mp.1 + mp.2) (A : Int) = (((sN.zip ix).foldl (fun a mp => a * mp.1 + mp.2) A : Nat) : Int)
  | [], ix, A => by simp [ints]
  | m :: s, [], A => by simp [ints]
  | m :: s, x :: ix, A => by
    have := place_ints s ix (A * m + x)
    simp only [ints, List.map_cons, List.zip_cons_cons, List.foldl_cons] at this ⊢
    rw [← this]
    congr 1

theorem placeI_dg {sN : List Nat} (h : ∀ x ∈ sN, 0 < x) {k : Nat} (hk : k < pr sN) : placeI (ints sN) (ints (dg sN k)) = k := by
  have h1 := place_ints sN (dg sN k) 0
  rw [dg_fold sN h k 0 hk] at h1
  unfold placeI
  rw [show ((0 : Nat) : Int) = 0 from rfl] at h1
  rw [h1]; simp

theorem idxB_dg {sN : List Nat} (h : ∀ x ∈ sN, 0 < x) {k : Nat} (hk : k < pr sN) : idxB (ints sN) (ints (dg sN k)) = true := by
  rw [idxB_iff]
  refine ⟨by rw [ints_length, ints_length, dg_length], fun i x n hx hn => ?_⟩
  obtain ⟨x', hx', rfl⟩ := ints_at hx
  obtain ⟨n', hn', rfl⟩ := ints_at hn
  have := dg_lt h hk i x' n' hx' hn'
  omega

theorem ints_getD (l : List Nat) (i : Nat) : (ints l).getD i 0 = ((l[i]?.getD 0 : Nat) : Int) := by
  unfold ints
  rw [List.getD_eq_getElem?_getD, List.getElem?_map]
  cases l[i]? <;> rfl

/-- The k-th index lies at place k. -/
theorem place_dg {sN : List Nat} {on : Nat} {d : List Int} (hv : ValidG (ints sN) on d) (h : ∀ x ∈ sN, 0 < x) {k : Nat} (hk : k < pr sN) :
    wrap64 (placeN (ints sN) (pad4 (dg sN k)) * on) = ((k * on : Nat) : Int) ∧ k * on + on ≤ d.length := by
  obtain ⟨h1, h2, h3, h4⟩ := place_fits hv (idxB_dg h hk)
  rw [placeI_dg h hk] at h1 h4
  simp only [ints_getD] at h1
  refine ⟨?_, ?_⟩
  · rw [Int.natCast_mul, ← h1]; rfl
  · have : ((k * on : Nat) : Int) = (k : Int) * on := Int.natCast_mul _ _
    omega

theorem data_nat {sN : List Nat} {on : Nat} {d : List Int} (hv : ValidG (ints sN) on d) : d.length = pr sN * on := by
  have := hv.data
  rw [prodI_ints, ← Int.natCast_mul] at this
  exact Int.ofNat.inj this
end Go.Proofs.Ytkkohelbidmkdaa
