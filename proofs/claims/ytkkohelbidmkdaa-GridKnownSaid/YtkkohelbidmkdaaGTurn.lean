/-
  Turned grids, plain: two inputs' places changed.
-/
import Derived.Test.YtkkohelbidmkdaaGNat
namespace Go.Proofs.Ytkkohelbidmkdaa
set_option linter.unusedVariables false
set_option linter.unusedSimpArgs false
open Go Go.RowKit

/-- The place of an index in natural numbers. -/
def plN (s ix : List Nat) : Nat := (s.zip ix).foldl (fun a mp => a * mp.1 + mp.2) 0

def swapN (l : List Nat) (a b : Nat) : List Nat := (l.set a (l[b]?.getD 0)).set b (l[a]?.getD 0)
def swapL (l : List Int) (a b : Nat) : List Int := (l.set a (l[b]?.getD 0)).set b (l[a]?.getD 0)

@[simp] theorem swapN_length (l : List Nat) (a b : Nat) : (swapN l a b).length = l.length := by simp [swapN]
@[simp] theorem swapL_length (l : List Int) (a b : Nat) : (swapL l a b).length = l.length := by simp [swapL]

theorem swapN_at {l : List Nat} {a b : Nat} (ha : a < l.length) (hb : b < l.length) (i : Nat) : (swapN l a b)[i]? = if i = b then l[a]? else if i = a then l[b]? else l[i]? := by
  unfold swapN
  rw [List.getElem?_set, List.getElem?_set, List.length_set]
  by_cases h1 : b = i
  · subst h1
    simp [hb, List.getElem?_eq_getElem ha]
  · have h1' : ¬ i = b := fun e => h1 e.symm
    by_cases h2 : a = i
    · subst h2
      simp [h1, h1', ha, List.getElem?_eq_getElem hb]
    · have h2' : ¬ i = a := fun e => h2 e.symm
      simp [h1, h1', h2, h2']

theorem ints_swap (l : List Nat) (a b : Nat) : ints (swapN l a b) = swapL (ints l) a b := by
  have h : ∀ i : Nat, (ints l)[i]?.getD 0 = ((l[i]?.getD 0 : Nat) : Int) := fun i => by
    unfold ints; rw [List.getElem?_map]; cases l[i]? <;> rfl
  unfold swapL
  rw [h, h]
  simp [swapN, ints, List.map_set]

theorem pr_swap {l : List Nat} (h4 : l.length ≤ 4) {a b : Nat} (ha : a < l.length) (hb : b < l.length) : pr (swapN l a b) = pr l := by
  match l, h4 with
  | [], _ => simp at ha
  | [x], _ =>
    have h1 : a = 0 := by simp at ha; omega
    have h2 : b = 0 := by simp at hb; omega
    subst h1 h2; rfl
  | [x, y], _ =>
    have h1 : a = 0 ∨ a = 1 := by simp at ha; omega
    have h2 : b = 0 ∨ b = 1 := by simp at hb; omega
    rcases h1 with rfl | rfl <;> rcases h2 with rfl | rfl <;> simp [swapN, pr] <;> ac_rfl
  | [x, y, z], _ =>
    have h1 : a = 0 ∨ a = 1 ∨ a = 2 := by simp at ha; omega
    have h2 : b = 0 ∨ b = 1 ∨ b = 2 := by simp at hb; omega
    rcases h1 with rfl | rfl | rfl <;> rcases h2 with rfl | rfl | rfl <;> simp [swapN, pr] <;> ac_rfl
  | [x, y, z, t], _ =>
    have h1 : a = 0 ∨ a = 1 ∨ a = 2 ∨ a = 3 := by simp at ha; omega
    have h2 : b = 0 ∨ b = 1 ∨ b = 2 ∨ b = 3 := by simp at hb; omega
    rcases h1 with rfl | rfl | rfl | rfl <;> rcases h2 with rfl | rfl | rfl | rfl <;> simp [swapN, pr] <;> ac_rfl
  | _ :: _ :: _ :: _ :: _ :: _, h => simp at h

theorem swapN_all {l : List Nat} {a b : Nat} (ha : a < l.length) (hb : b < l.length) {p : Nat → Prop} (h : ∀ x ∈ l, p x) : ∀ x ∈ swapN l a b, p x := by
  intro x hx
  obtain ⟨i, hi⟩ := List.mem_iff_getElem?.1 hx
  rw [swapN_at ha hb] at hi
  split at hi
  · exact h x (List.mem_of_getElem? hi)
  split at hi
  · exact h x (List.mem_of_getElem? hi)
  · exact h x (List.mem_of_getElem? hi)

/-- Two numbers of an index, padded, change places. -/
theorem pad_swap {l : List Nat} (_h4 : l.length ≤ 4) {a b : Nat} (ha : a < l.length) (hb : b < l.length) :
    ((pad4 l).set a ((l[b]?.getD 0 : Nat) : Int)).set b ((l[a]?.getD 0 : Nat) : Int) = pad4 (swapN l a b) := by
  refine List.ext_getElem? fun i => ?_
  have hl : (pad4 l).length = 4 := rfl
  by_cases hi : i < 4
  · rw [pad4_at _ _ hi, swapN_at ha hb, List.getElem?_set, List.getElem?_set, List.length_set, hl, pad4_at _ _ hi]
    by_cases h1 : b = i
    · subst h1; simp [hi]
    · have h1' : ¬ i = b := fun e => h1 e.symm
      by_cases h2 : a = i
      · subst h2; simp [h1, h1', hi]
      · have h2' : ¬ i = a := fun e => h2 e.symm
        simp [h1, h1', h2, h2']
  · rw [List.getElem?_eq_none (by simp [hl]; omega), List.getElem?_eq_none (by simp [pad4]; omega)]

/-- An index of a valid grid in natural numbers lies at its place. -/
theorem place_ix {sN ix : List Nat} {on : Nat} {d : List Int} (hv : ValidG (ints sN) on d) (hl : ix.length = sN.length) (hlt : ∀ (i : Nat) x n, ix[i]? = some x → sN[i]? = some n → x < n) :
    wrap64 (placeN (ints sN) (pad4 ix) * on) = ((plN sN ix * on : Nat) : Int) ∧ plN sN ix * on + on ≤ d.length ∧ plN sN ix < pr sN ∧ placeI (ints sN) (ints ix) = plN sN ix := by
  have hb : idxB (ints sN) (ints ix) = true := by
    rw [idxB_iff]
    refine ⟨by rw [ints_length, ints_length, hl], fun i x n hx hn => ?_⟩
    obtain ⟨x', hx', rfl⟩ := ints_at hx
    obtain ⟨n', hn', rfl⟩ := ints_at hn
    have := hlt i x' n' hx' hn'
    omega
  obtain ⟨h1, h2, h3, h4⟩ := place_fits hv hb
  have hp : placeI (ints sN) (ints ix) = plN sN ix := by
    have := place_ints sN ix 0
    exact this
  rw [hp] at h1 h3 h4
  rw [prodI_ints] at h3
  simp only [ints_getD] at h1
  refine ⟨?_, ?_, by omega, hp⟩
  · rw [Int.natCast_mul, ← h1]; rfl
  · have : ((plN sN ix * on : Nat) : Int) = (plN sN ix : Int) * on := Int.natCast_mul _ _
    omega

/-- The index that is turned back lies within the grid. -/
theorem swap_within {sN : List Nat} {a b k : Nat} (hs : ∀ x ∈ sN, 0 < x) (ha : a < sN.length) (hb : b < sN.length) (hk : k < pr (swapN sN a b)) :
    (swapN (dg (swapN sN a b) k) a b).length = sN.length ∧ ∀ (i : Nat) x n, (swapN (dg (swapN sN a b) k) a b)[i]? = some x → sN[i]? = some n → x < n := by
  have hd := dg_lt (swapN_all ha hb hs) hk
  refine ⟨by simp, fun i x n hx hn => ?_⟩
  rw [swapN_at (by simpa using ha) (by simpa using hb)] at hx
  by_cases h1 : i = b
  · subst h1
    rw [if_pos rfl] at hx
    refine hd a x n hx ?_
    rw [swapN_at ha hb]
    by_cases h2 : a = i
    · subst h2; simpa using hn
    · simp [h2, hn]
  · rw [if_neg h1] at hx
    by_cases h2 : i = a
    · subst h2
      rw [if_pos rfl] at hx
      refine hd b x n hx ?_
      rw [swapN_at ha hb]
      simp [hn]
    · rw [if_neg h2] at hx
      refine hd i x n hx ?_
      rw [swapN_at ha hb]
      simp [h1, h2, hn]

/-- Rows one behind the other. -/
def gathered (f : Nat → List Int) : Nat → List Int
  | 0 => []
  | k + 1 => gathered f k ++ f k
theorem gathered_length {f : Nat → List Int} {o : Nat} : ∀ {k : Nat}, (∀ j, j < k → (f j).length = o) → (gathered f k).length = k * o
  | 0, _ => by simp [gathered]
  | k + 1, h => by
    rw [gathered, List.length_append, gathered_length (k := k) fun j hj => h j (by omega), h k (by omega), Nat.add_mul]; omega
end Go.Proofs.Ytkkohelbidmkdaa
