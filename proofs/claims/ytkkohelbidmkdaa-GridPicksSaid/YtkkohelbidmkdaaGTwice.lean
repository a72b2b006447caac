/-
  Turned and picked grids, plain: rows, their lowest and highest, a turn undone.
-/
import Derived.Test.YtkkohelbidmkdaaGPick
import Derived.Test.YtkkohelbidmkdaaGOrderW
namespace Go.Proofs.Ytkkohelbidmkdaa
set_option linter.unusedVariables false
set_option linter.unusedSimpArgs false
open Go Go.RowKit

theorem gathered_take {f : Nat → List Int} {o : Nat} : ∀ {n : Nat}, (∀ j, j < n → (f j).length = o) → ∀ k, k < n → rowAt (gathered f n) o k = f k
  | 0, _, _, hk => absurd hk (Nat.not_lt_zero _)
  | n + 1, h, k, hk => by
    have hg : (gathered f n).length = n * o := gathered_length fun j hj => h j (by omega)
    by_cases e : k = n
    · subst e
      unfold rowAt
      rw [gathered, List.drop_left' hg, List.take_of_length_le (by rw [h k (by omega)]; exact Nat.le_refl _)]
    · have hkn : k < n := by omega
      have h1 : (k + 1) * o ≤ n * o := Nat.mul_le_mul_right _ hkn
      rw [Nat.succ_mul] at h1
      rw [← gathered_take (n := n) (fun j hj => h j (by omega)) k hkn]
      unfold rowAt
      rw [gathered, List.drop_append_of_le_length (by omega), List.take_append_of_le_length (by rw [List.length_drop]; omega)]

theorem gathered_congr {f g : Nat → List Int} : ∀ {n : Nat}, (∀ j, j < n → f j = g j) → gathered f n = gathered g n
  | 0, _ => rfl
  | n + 1, h => by rw [gathered, gathered, gathered_congr (n := n) (fun j hj => h j (by omega)), h n (by omega)]

theorem gathered_rows (d : List Int) (o : Nat) : ∀ n, gathered (rowAt d o) n = d.take (n * o)
  | 0 => by simp [gathered]
  | n + 1 => by rw [gathered, gathered_rows d o n, take_row]

theorem gathered_mem {f : Nat → List Int} : ∀ {n : Nat} {x : Int}, x ∈ gathered f n → ∃ j, j < n ∧ x ∈ f j
  | 0, x, h => by simp [gathered] at h
  | n + 1, x, h => by
    rw [gathered, List.mem_append] at h
    rcases h with h | h
    · obtain ⟨j, hj, hx⟩ := gathered_mem h
      exact ⟨j, by omega, hx⟩
    · exact ⟨n, by omega, h⟩

theorem rowAt_mem {d : List Int} {o k : Nat} {x : Int} (h : x ∈ rowAt d o k) : x ∈ d := List.mem_of_mem_drop (List.mem_of_mem_take h)

theorem swapN_swapN {l : List Nat} {a b : Nat} (ha : a < l.length) (hb : b < l.length) : swapN (swapN l a b) b a = l := by
  refine List.ext_getElem? fun i => ?_
  rw [swapN_at (by simpa using hb) (by simpa using ha), swapN_at ha hb, swapN_at ha hb, swapN_at ha hb]
  by_cases h1 : i = a
  · subst h1
    simp
  · by_cases h2 : i = b
    · subst h2
      by_cases h3 : a = i
      · exact absurd h3.symm h1
      · simp [h1, h3]
    · simp [h1, h2]

theorem swapN_comm {l : List Nat} {a b : Nat} (ha : a < l.length) (hb : b < l.length) : swapN l a b = swapN l b a := by
  refine List.ext_getElem? fun i => ?_
  rw [swapN_at ha hb, swapN_at hb ha]
  by_cases h1 : i = a
  · subst h1
    by_cases h2 : i = b
    · subst h2; rfl
    · simp [h2]
  · by_cases h2 : i = b
    · subst h2; simp [h1]
    · simp [h1, h2]

/-- The place of an index within is its point's number. -/
theorem dg_plN {s ix : List Nat} (h : ∀ x ∈ s, 0 < x) (hl : ix.length = s.length) (hlt : ∀ (i : Nat) x n, ix[i]? = some x → s[i]? = some n → x < n) : plN s ix < pr s ∧ dg s (plN s ix) = ix := by
  obtain ⟨n, h1, h2, h3⟩ := dg_of h ix 0 hl hlt
  have e : plN s ix = n := by unfold plN; rw [h2]; omega
  rw [e]
  exact ⟨h1, h3⟩
theorem plN_dg {s : List Nat} (h : ∀ x ∈ s, 0 < x) {k : Nat} (hk : k < pr s) : plN s (dg s k) = k := by
  unfold plN
  rw [dg_fold s h k 0 hk]
  omega

/-- An index of the turned grid, turned back: the number of the point with the numbers exchanged. -/
def turnP (sN : List Nat) (a b k : Nat) : Nat := plN sN (swapN (dg (swapN sN a b) k) a b)
theorem turnP_lt {sN : List Nat} {a b k : Nat} (hs : ∀ x ∈ sN, 0 < x) (ha : a < sN.length) (hb : b < sN.length) (hk : k < pr (swapN sN a b)) : turnP sN a b k < pr sN ∧ dg sN (turnP sN a b k) = swapN (dg (swapN sN a b) k) a b := by
  obtain ⟨h1, h2⟩ := swap_within hs ha hb hk
  exact dg_plN hs h1 h2
theorem turnP_back {sN : List Nat} {a b k : Nat} (hs : ∀ x ∈ sN, 0 < x) (ha : a < sN.length) (hb : b < sN.length) (hk : k < pr sN) :
    turnP (swapN sN a b) b a k < pr (swapN sN a b) ∧ turnP sN a b (turnP (swapN sN a b) b a k) = k := by
  have hs' := swapN_all ha hb hs
  have e := swapN_swapN ha hb
  obtain ⟨h1, h2⟩ := turnP_lt (sN := swapN sN a b) (a := b) (b := a) (k := k) hs' (by simpa using hb) (by simpa using ha) (by rw [e]; exact hk)
  refine ⟨h1, ?_⟩
  show plN sN (swapN (dg (swapN sN a b) (turnP (swapN sN a b) b a k)) a b) = k
  rw [h2, e, swapN_swapN (by simpa using hb) (by simpa using ha), plN_dg hs hk]

theorem swapD_eq (sN : List Nat) (d : List Int) (on a b k : Nat) : swapD sN d on a b k = rowAt d on (turnP sN a b k) := rfl

/-- The turned grid's values. -/
def swapV (sN : List Nat) (d : List Int) (on a b : Nat) : List Int := gathered (swapD sN d on a b) (pr sN)

theorem swapV_row {sN : List Nat} {d : List Int} {on a b k : Nat} (hs : ∀ x ∈ sN, 0 < x) (h4 : sN.length ≤ 4) (ha : a < sN.length) (hb : b < sN.length) (hd : d.length = pr sN * on) (hk : k < pr sN) :
    rowAt (swapV sN d on a b) on k = rowAt d on (turnP sN a b k) :=
  gathered_take (f := swapD sN d on a b) (fun j hj => by rw [swapD_eq]; exact rowAt_length (turnP_lt hs ha hb (by rw [pr_swap h4 ha hb]; exact hj)).1 hd) k hk

theorem swapV_length {sN : List Nat} {d : List Int} {on a b : Nat} (hs : ∀ x ∈ sN, 0 < x) (h4 : sN.length ≤ 4) (ha : a < sN.length) (hb : b < sN.length) (hd : d.length = pr sN * on) : (swapV sN d on a b).length = pr sN * on :=
  gathered_length fun j hj => by rw [swapD_eq]; exact rowAt_length (turnP_lt hs ha hb (by rw [pr_swap h4 ha hb]; exact hj)).1 hd

theorem ValidG.pos {sN : List Nat} {on : Nat} {d : List Int} (hv : ValidG (ints sN) on d) : ∀ x ∈ sN, 0 < x := fun x hx => by
  have := hv.sizes x (List.mem_map.2 ⟨x, hx, rfl⟩)
  omega

theorem ValidG.swapped {sN : List Nat} {on a b : Nat} {d : List Int} (hv : ValidG (ints sN) on d) (ha : a < sN.length) (hb : b < sN.length) : ValidG (ints (swapN sN a b)) on (swapV sN d on a b) := by
  have h4 : sN.length ≤ 4 := by have := hv.len4; rwa [ints_length] at this
  have hd := data_nat hv
  have hl := swapV_length hv.pos h4 ha hb hd
  refine ⟨by have := hv.len1; rw [ints_length] at this ⊢; simpa using this, by rw [ints_length]; simpa using h4, ?_, hv.out1, hv.out4, ?_, by rw [hl, ← hd]; exact hv.most, ?_⟩
  · intro x hx
    obtain ⟨m, hm, rfl⟩ := List.mem_map.1 hx
    exact swapN_all (p := fun m : Nat => (2 : Int) ≤ m ∧ (m : Int) ≤ 9) ha hb (fun y hy => hv.sizes y (List.mem_map.2 ⟨y, hy, rfl⟩)) m hm
  · rw [prodI_ints, hl, pr_swap h4 ha hb, Int.natCast_mul]
  · intro x hx
    obtain ⟨j, _, hj⟩ := gathered_mem hx
    exact hv.full x (rowAt_mem hj)

theorem swapR_ok {sN : List Nat} {on a b : Nat} {d : List Int} (hv : ValidG (ints sN) on d) (ha : a < sN.length) (hb : b < sN.length) : swapR (ints sN) on d (a : Nat) (b : Nat) = (ints (swapN sN a b), (on : Int), swapV sN d on a b, 0) := by
  unfold swapR
  rw [if_neg (by rw [(checkN_iff _ _ _).2 hv]; simp), if_neg (by simp [inputB, ints_length]; omega), toN_ints, ints_swap]
  simp [swapV]

theorem swapV_back {sN : List Nat} {on a b : Nat} {d : List Int} (hs : ∀ x ∈ sN, 0 < x) (h4 : sN.length ≤ 4) (ha : a < sN.length) (hb : b < sN.length) (hd : d.length = pr sN * on) : swapV (swapN sN a b) (swapV sN d on a b) on b a = d := by
  have e : swapV (swapN sN a b) (swapV sN d on a b) on b a = gathered (rowAt d on) (pr sN) := by
    unfold swapV
    rw [pr_swap h4 ha hb]
    refine gathered_congr fun j hj => ?_
    obtain ⟨h1, h2⟩ := turnP_back hs ha hb hj
    rw [swapD_eq]
    have h3 := swapV_row (d := d) (on := on) hs h4 ha hb hd (k := turnP (swapN sN a b) b a j) (by rwa [pr_swap h4 ha hb] at h1)
    unfold swapV at h3
    rw [h3, h2]
  rw [e, gathered_rows, List.take_of_length_le (by omega)]

/-! Lowest and highest of rows. -/
/-- x is the R-least of the rows' c-th values. -/
def Least (R : Int → Int → Prop) (r : Nat → List Int) (n c : Nat) (x : Int) : Prop := (∀ j, j < n → R x ((r j)[c]?.getD 0)) ∧ ∃ j, j < n ∧ x = (r j)[c]?.getD 0
theorem Least.unique {R : Int → Int → Prop} (anti : ∀ x y, R x y → R y x → x = y) {r r' : Nat → List Int} {n c c' : Nat} {x x' : Int} (h : Least R r n c x) (h' : Least R r' n c' x')
    (h1 : ∀ j, j < n → ∃ k, k < n ∧ (r j)[c]?.getD 0 = (r' k)[c']?.getD 0) (h2 : ∀ j, j < n → ∃ k, k < n ∧ (r' j)[c']?.getD 0 = (r k)[c]?.getD 0) : x = x' := by
  obtain ⟨j, hj, e⟩ := h.2
  obtain ⟨j', hj', e'⟩ := h'.2
  obtain ⟨k, hk, ek⟩ := h1 j hj
  obtain ⟨k', hk', ek'⟩ := h2 j' hj'
  refine anti _ _ ?_ ?_
  · rw [e', ek']; exact h.1 k' hk'
  · rw [e, ek]; exact h'.1 k hk

theorem joined_least {R : Int → Int → Prop} {g : Int → Int → Int} (trans : ∀ x y z, R x y → R y z → R x z) (hgl : ∀ x y, R (g x y) x) (hgr : ∀ x y, R (g x y) y) (hg : ∀ x y, g x y = x ∨ g x y = y) (refl : ∀ x, R x x)
    {d : List Int} {o n c : Nat} (hd : d.length = n * o) (hc : c < o) : ∀ k, k < n → ∃ x, (joined g d o (k + 1))[c]? = some x ∧ Least R (rowAt d o) (k + 1) c x
  | 0, h0 => by
    have hr : (rowAt d o 0).length = o := rowAt_length h0 hd
    have e : d.take o = rowAt d o 0 := by simp [rowAt]
    rw [joined_succ]
    show ∃ x, (List.zipWith g (d.take o) (rowAt d o 0))[c]? = some x ∧ _
    rw [e]
    have hx : (rowAt d o 0)[c]? = some ((rowAt d o 0)[c]'(by omega)) := by simp [hr, hc]
    refine ⟨g ((rowAt d o 0)[c]'(by omega)) ((rowAt d o 0)[c]'(by omega)), by rw [List.getElem?_zipWith, hx], ?_⟩
    have hs : g ((rowAt d o 0)[c]'(by omega)) ((rowAt d o 0)[c]'(by omega)) = (rowAt d o 0)[c]'(by omega) := by rcases hg ((rowAt d o 0)[c]'(by omega)) ((rowAt d o 0)[c]'(by omega)) with h | h <;> exact h
    rw [hs]
    refine ⟨fun j hj => ?_, 0, by omega, by rw [hx]; rfl⟩
    have : j = 0 := by omega
    subst this
    rw [hx]
    exact refl _
  | k + 1, hk => by
    obtain ⟨x, hx, h1, j0, hj0, e0⟩ := joined_least trans hgl hgr hg refl hd hc k (by omega)
    have hr : (rowAt d o (k + 1)).length = o := rowAt_length hk hd
    have hy : (rowAt d o (k + 1))[c]? = some ((rowAt d o (k + 1))[c]'(by omega)) := by simp [hr, hc]
    rw [joined_succ]
    refine ⟨g x ((rowAt d o (k + 1))[c]'(by omega)), by rw [List.getElem?_zipWith, hx, hy], fun j hj => ?_, ?_⟩
    · by_cases e : j = k + 1
      · subst e
        rw [hy]
        exact hgr _ _
      · exact trans _ _ _ (hgl _ _) (h1 j (by omega))
    · rcases hg x ((rowAt d o (k + 1))[c]'(by omega)) with h | h
      · exact ⟨j0, by omega, by rw [h]; exact e0⟩
      · exact ⟨k + 1, by omega, by rw [h, hy]; rfl⟩

theorem joined_min {d : List Int} {o n c : Nat} (hd : d.length = n * o) (hn : 0 < n) (hc : c < o) : ∃ x, (joined min d o n)[c]? = some x ∧ Least (· ≤ ·) (rowAt d o) n c x := by
  obtain ⟨k, rfl⟩ : ∃ k, n = k + 1 := ⟨n - 1, by omega⟩
  exact joined_least (R := (· ≤ ·)) (g := min) (fun x y z h1 h2 => by omega) (fun x y => by omega) (fun x y => by omega) (fun x y => by omega) (fun x => by omega) hd hc k (by omega)
theorem joined_max {d : List Int} {o n c : Nat} (hd : d.length = n * o) (hn : 0 < n) (hc : c < o) : ∃ x, (joined max d o n)[c]? = some x ∧ Least (fun x y => y ≤ x) (rowAt d o) n c x := by
  obtain ⟨k, rfl⟩ : ∃ k, n = k + 1 := ⟨n - 1, by omega⟩
  exact joined_least (R := fun x y => y ≤ x) (g := max) (fun x y z h1 h2 => by omega) (fun x y => by omega) (fun x y => by omega) (fun x y => by omega) (fun x => by omega) hd hc k (by omega)

theorem joined_same {d d' : List Int} {o n : Nat} (hd : d.length = n * o) (hd' : d'.length = n * o) (hn : 0 < n) (h1 : ∀ j, j < n → ∃ k, k < n ∧ rowAt d o j = rowAt d' o k) (h2 : ∀ j, j < n → ∃ k, k < n ∧ rowAt d' o j = rowAt d o k) :
    joined min d o n = joined min d' o n ∧ joined max d o n = joined max d' o n := by
  have p1 : ∀ c j : Nat, j < n → ∃ k, k < n ∧ (rowAt d o j)[c]?.getD 0 = (rowAt d' o k)[c]?.getD 0 := fun c j hj => by
    obtain ⟨k, hk, e⟩ := h1 j hj
    exact ⟨k, hk, by rw [e]⟩
  have p2 : ∀ c j : Nat, j < n → ∃ k, k < n ∧ (rowAt d' o j)[c]?.getD 0 = (rowAt d o k)[c]?.getD 0 := fun c j hj => by
    obtain ⟨k, hk, e⟩ := h2 j hj
    exact ⟨k, hk, by rw [e]⟩
  constructor
  · refine List.ext_getElem? fun c => ?_
    by_cases hc : c < o
    · obtain ⟨x, e1, l1⟩ := joined_min hd hn hc
      obtain ⟨y, e2, l2⟩ := joined_min hd' hn hc
      rw [e1, e2, l1.unique (fun _ _ _ _ => by omega) l2 (p1 c) (p2 c)]
    · rw [List.getElem?_eq_none (by rw [joined_length hd hn (Nat.le_refl _)]; omega), List.getElem?_eq_none (by rw [joined_length hd' hn (Nat.le_refl _)]; omega)]
  · refine List.ext_getElem? fun c => ?_
    by_cases hc : c < o
    · obtain ⟨x, e1, l1⟩ := joined_max hd hn hc
      obtain ⟨y, e2, l2⟩ := joined_max hd' hn hc
      rw [e1, e2, l1.unique (fun _ _ _ _ => by omega) l2 (p1 c) (p2 c)]
    · rw [List.getElem?_eq_none (by rw [joined_length hd hn (Nat.le_refl _)]; omega), List.getElem?_eq_none (by rw [joined_length hd' hn (Nat.le_refl _)]; omega)]

theorem rangeR_ok {sN : List Nat} {on : Nat} {d : List Int} (hv : ValidG (ints sN) on d) : rangeR (ints sN) on d = (joined min d on (pr sN), joined max d on (pr sN), 0) := by
  unfold rangeR
  rw [if_neg (by rw [(checkN_iff _ _ _).2 hv]; simp), prodI_ints]
  simp

theorem rangeR_swapped {sN : List Nat} {on a b : Nat} {d : List Int} (hv : ValidG (ints sN) on d) (ha : a < sN.length) (hb : b < sN.length) : rangeR (ints (swapN sN a b)) on (swapV sN d on a b) = rangeR (ints sN) on d := by
  have h4 : sN.length ≤ 4 := by have := hv.len4; rwa [ints_length] at this
  have hd := data_nat hv
  have hs := hv.pos
  rw [rangeR_ok hv, rangeR_ok (hv.swapped ha hb), pr_swap h4 ha hb]
  have hj := joined_same (d := swapV sN d on a b) (d' := d) (o := on) (n := pr sN) (swapV_length hs h4 ha hb hd) hd (pr_pos hs)
    (fun j hj => ⟨turnP sN a b j, (turnP_lt hs ha hb (by rw [pr_swap h4 ha hb]; exact hj)).1, swapV_row hs h4 ha hb hd hj⟩)
    (fun j hj => by
      obtain ⟨h1, h2⟩ := turnP_back hs ha hb hj
      rw [pr_swap h4 ha hb] at h1
      exact ⟨turnP (swapN sN a b) b a j, h1, by rw [swapV_row hs h4 ha hb hd h1, h2]⟩)
  rw [hj.1, hj.2]

/-- A point of the swapped grid. -/
theorem at_swapped {sN : List Nat} {on a b n : Nat} {d : List Int} (hv : ValidG (ints sN) on d) (ha : a < sN.length) (hb : b < sN.length) (hn : n < pr sN) :
    atR (ints (swapN sN a b)) on (swapV sN d on a b) (swapL (ints (dg sN n)) a b) = (rowAt d on n, 0) := by
  have h4 : sN.length ≤ 4 := by have := hv.len4; rwa [ints_length] at this
  have hd := data_nat hv
  have hs := hv.pos
  obtain ⟨h1, h2⟩ := turnP_back hs ha hb hn
  have h5 := turnP_lt (sN := swapN sN a b) (a := b) (b := a) (k := n) (swapN_all ha hb hs) (by simpa using hb) (by simpa using ha) (by rw [swapN_swapN ha hb]; exact hn)
  rw [swapN_swapN ha hb] at h5
  have h6 : swapL (ints (dg sN n)) a b = ints (dg (swapN sN a b) (turnP (swapN sN a b) b a n)) := by
    rw [h5.2, ← ints_swap, swapN_comm (by simpa using ha) (by simpa using hb)]
  rw [h6, (place_point (hv.swapped ha hb) h1).2, swapV_row hs h4 ha hb hd (by rwa [pr_swap h4 ha hb] at h1), h2]
end Go.Proofs.Ytkkohelbidmkdaa
