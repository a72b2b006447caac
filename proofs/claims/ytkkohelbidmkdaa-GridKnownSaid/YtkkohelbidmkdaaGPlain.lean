/-
  Plain facts about valid grids: products, places, bounds. No program in sight.
-/
import Derived.Test.YtkkohelbidmkdaaGPlace
namespace Go.Proofs.Ytkkohelbidmkdaa
set_option linter.unusedVariables false
set_option linter.unusedSimpArgs false
open Go.RowKit

def prodI (s : List Int) : Int := s.foldl (fun a x => a * x) 1

structure ValidG (s : List Int) (o : Int) (d : List Int) : Prop where
  len1 : 1 ≤ s.length
  len4 : s.length ≤ 4
  sizes : ∀ x ∈ s, 2 ≤ x ∧ x ≤ 9
  out1 : 1 ≤ o
  out4 : o ≤ 4
  data : (d.length : Int) = prodI s * o
  most : d.length ≤ 4096
  full : ∀ x ∈ d, 0 ≤ x ∧ x ≤ 65535

theorem wrap64_id {n : Int} (h1 : -9223372036854775808 ≤ n) (h2 : n ≤ 9223372036854775807) : wrap64 n = n := by unfold wrap64; omega

theorem outB_false {lo hi x : Int} : outB lo hi x = false ↔ lo ≤ x ∧ x ≤ hi := by unfold outB; simp

theorem any_out {lo hi : Int} {l : List Int} : l.any (outB lo hi) = false ↔ ∀ x ∈ l, lo ≤ x ∧ x ≤ hi := by
  rw [List.any_eq_false]
  constructor
  · intro h x hx; have := h x hx; rw [Bool.not_eq_true] at this; exact outB_false.1 this
  · intro h x hx; rw [Bool.not_eq_true]; exact outB_false.2 (h x hx)

theorem pow9 : ∀ n : Nat, (1 : Int) ≤ 9 ^ n
  | 0 => by simp
  | n + 1 => by have := pow9 n; rw [Int.pow_succ]; omega

theorem prod_go : ∀ (s : List Int) (a b : Int), (∀ x ∈ s, 2 ≤ x ∧ x ≤ 9) → 1 ≤ a → a ≤ b → b * 9 ^ s.length ≤ 6561 → s.foldl (fun a x => wrap64 (a * x)) a = s.foldl (fun a x => a * x) a ∧ 1 ≤ s.foldl (fun a x => a * x) a ∧ s.foldl (fun a x => a * x) a ≤ b * 9 ^ s.length
  | [], a, b, _, h1, h2, h3 => by simp at h3 ⊢; omega
  | x :: s, a, b, hs, h1, h2, h3 => by
    obtain ⟨hx1, hx2⟩ := hs x (List.mem_cons_self ..)
    have e1 : a * x ≤ b * 9 := by
      calc a * x ≤ a * 9 := Int.mul_le_mul_of_nonneg_left hx2 (by omega)
        _ ≤ b * 9 := Int.mul_le_mul_of_nonneg_right h2 (by omega)
    have e2 : 1 ≤ a * x := by
      calc (1 : Int) = 1 * 1 := rfl
        _ ≤ a * x := Int.mul_le_mul h1 (by omega) (by omega) (by omega)
    have e3 : b * 9 * 9 ^ s.length = b * 9 ^ (x :: s).length := by simp [Int.pow_succ, Int.mul_assoc, Int.mul_comm]
    have e4 : b * 9 ≤ 6561 := by
      have hp : (1 : Int) ≤ 9 ^ s.length := pow9 _
      have : b * 9 * 1 ≤ b * 9 * 9 ^ s.length := Int.mul_le_mul_of_nonneg_left hp (by omega)
      rw [e3] at this; omega
    obtain ⟨i1, i2, i3⟩ := prod_go s (a * x) (b * 9) (fun y hy => hs y (List.mem_cons_of_mem _ hy)) e2 e1 (by rw [e3]; exact h3)
    simp only [List.foldl_cons]
    rw [wrap64_id (by omega) (by omega)]
    exact ⟨i1, i2, by rw [← e3]; exact i3⟩

theorem prodW_eq {s : List Int} (hs : ∀ x ∈ s, 2 ≤ x ∧ x ≤ 9) (h4 : s.length ≤ 4) : prodW s = prodI s ∧ 1 ≤ prodI s ∧ prodI s ≤ 6561 := by
  have hp : (9 : Int) ^ s.length ≤ 6561 := by
    have : s.length = 0 ∨ s.length = 1 ∨ s.length = 2 ∨ s.length = 3 ∨ s.length = 4 := by omega
    rcases this with h | h | h | h | h <;> rw [h] <;> decide
  obtain ⟨h1, h2, h3⟩ := prod_go s 1 1 hs (by omega) (by omega) (by omega)
  exact ⟨h1, h2, by unfold prodI; omega⟩

theorem checkN_iff (s : List Int) (o : Int) (d : List Int) : checkN s o d = 0 ↔ ValidG s o d := by
  unfold checkN
  constructor
  · intro h
    split at h
    · simp at h
    rename_i h1
    split at h
    · simp at h
    rename_i h2
    split at h
    · simp at h
    rename_i h3
    split at h
    · simp at h
    rename_i h4
    split at h
    · simp at h
    rename_i h5
    split at h
    · simp at h
    rename_i h6
    split at h
    · simp at h
    rename_i h7
    simp only [Bool.not_eq_true] at h3 h4 h7
    have hsz := any_out.1 h4
    obtain ⟨ho1, ho2⟩ := outB_false.1 h3
    obtain ⟨p1, p2, p3⟩ := prodW_eq hsz (by omega)
    have hb : prodI s * o ≤ 6561 * 4 := Int.mul_le_mul p3 ho2 (by omega) (by omega)
    have hb0 : 0 ≤ prodI s * o := Int.mul_nonneg (by omega) (by omega)
    refine ⟨by omega, by omega, hsz, ho1, ho2, ?_, by omega, any_out.1 h7⟩
    have h8 : (d.length : Int) = wrap64 (prodW s * o) := by
      by_cases h8 : (d.length : Int) = wrap64 (prodW s * o)
      · exact h8
      · exact absurd h8 h5
    rw [p1, wrap64_id (by omega) (by omega)] at h8
    exact h8
  · intro h
    obtain ⟨p1, p2, p3⟩ := prodW_eq h.sizes h.len4
    have hb : prodI s * o ≤ 6561 * 4 := Int.mul_le_mul p3 h.out4 (by have := h.out1; omega) (by omega)
    have hb0 : 0 ≤ prodI s * o := Int.mul_nonneg (by omega) (by have := h.out1; omega)
    rw [if_neg (by have := h.len1; omega), if_neg (by have := h.len4; omega), if_neg (by rw [Bool.not_eq_true]; exact outB_false.2 ⟨h.out1, h.out4⟩), if_neg (by rw [Bool.not_eq_true]; exact any_out.2 h.sizes),
      if_neg (by rw [p1, wrap64_id (by omega) (by omega)]; simp [h.data]), if_neg (by have := h.most; omega), if_neg (by rw [Bool.not_eq_true]; exact any_out.2 h.full)]

theorem checkN_or (s : List Int) (o : Int) (d : List Int) : checkN s o d = 0 ∨ checkN s o d = 100 := by
  unfold checkN
  repeat' split
  all_goals simp

/-! ### Places -/
/-- The place of an index, with no wrap. -/
def placeI (s p : List Int) : Int := (s.zip p).foldl (fun n mp => n * mp.1 + mp.2) 0

theorem place_go : ∀ (zs : List (Int × Int)) (n N : Int), (∀ z ∈ zs, 2 ≤ z.1 ∧ z.1 ≤ 9 ∧ 0 ≤ z.2 ∧ z.2 < z.1) → 0 ≤ n → n < N → N * 9 ^ zs.length ≤ 6561 →
    zs.foldl (fun n mp => wrap64 (wrap64 (n * mp.1) + mp.2)) n = zs.foldl (fun n mp => n * mp.1 + mp.2) n ∧ 0 ≤ zs.foldl (fun n mp => n * mp.1 + mp.2) n ∧
    zs.foldl (fun n mp => n * mp.1 + mp.2) n < (zs.map (·.1)).foldl (fun a x => a * x) N
  | [], n, N, _, h1, h2, h3 => by simp; omega
  | z :: zs, n, N, hz, h1, h2, h3 => by
    obtain ⟨hz1, hz2, hz3, hz4⟩ := hz z (List.mem_cons_self ..)
    have e1 : n * z.1 + z.2 < N * z.1 := by
      have h4 : (n + 1) * z.1 ≤ N * z.1 := Int.mul_le_mul_of_nonneg_right (by omega) (by omega)
      have h5 : (n + 1) * z.1 = n * z.1 + z.1 := by rw [Int.add_mul]; omega
      omega
    have e0 : 0 ≤ n * z.1 := Int.mul_nonneg h1 (by omega)
    have e2 : N * z.1 ≤ N * 9 := Int.mul_le_mul_of_nonneg_left hz2 (by omega)
    have e3 : N * 9 * 9 ^ zs.length = N * 9 ^ (z :: zs).length := by simp [Int.pow_succ, Int.mul_assoc, Int.mul_comm]
    have hp : (1 : Int) ≤ 9 ^ zs.length := pow9 _
    have e4 : N * 9 ≤ 6561 := by
      have : N * 9 * 1 ≤ N * 9 * 9 ^ zs.length := Int.mul_le_mul_of_nonneg_left hp (by omega)
      rw [e3] at this; omega
    have e5 : N * z.1 * 9 ^ zs.length ≤ 6561 := by
      have : N * z.1 * 9 ^ zs.length ≤ N * 9 * 9 ^ zs.length := Int.mul_le_mul_of_nonneg_right e2 (by omega)
      rw [e3] at this; omega
    obtain ⟨i1, i2, i3⟩ := place_go zs (n * z.1 + z.2) (N * z.1) (fun y hy => hz y (List.mem_cons_of_mem _ hy)) (by omega) e1 e5
    simp only [List.foldl_cons, List.map_cons]
    rw [wrap64_id (n := n * z.1) (by omega) (by omega), wrap64_id (by omega) (by omega)]
    exact ⟨i1, i2, i3⟩

theorem idxB_iff (s ix : List Int) : idxB s ix = true ↔ ix.length = s.length ∧ ∀ (i : Nat) (x n : Int), ix[i]? = some x → s[i]? = some n → 0 ≤ x ∧ x < n := by
  unfold idxB
  simp only [Bool.and_eq_true, decide_eq_true_eq, List.all_eq_true]
  constructor
  · rintro ⟨h1, h2⟩
    refine ⟨h1, fun i x n hx hn => ?_⟩
    have := h2 (x, n) (List.mem_of_getElem? (List.getElem?_zip_eq_some.2 ⟨hx, hn⟩))
    unfold inB at this; simpa using this
  · rintro ⟨h1, h2⟩
    refine ⟨h1, fun z hz => ?_⟩
    obtain ⟨i, hi⟩ := List.mem_iff_getElem?.1 hz
    obtain ⟨h3, h4⟩ := List.getElem?_zip_eq_some.1 hi
    have := h2 i z.1 z.2 h3 h4
    unfold inB; simpa using this

theorem zip_pad {s ix : List Int} (h : ix.length = s.length) (h4 : s.length ≤ 4) : s.zip [ix.getD 0 0, ix.getD 1 0, ix.getD 2 0, ix.getD 3 0] = s.zip ix := by
  match s, ix, h, h4 with
  | [], [], _, _ => rfl
  | [a], [b], _, _ => rfl
  | [a, a'], [b, b'], _, _ => rfl
  | [a, a', a''], [b, b', b''], _, _ => rfl
  | [a, a', a'', a3], [b, b', b'', b3], _, _ => rfl
  | _ :: _ :: _ :: _ :: _ :: _, _, _, h => simp at h

/-- The place of an index of a valid grid: a natural number, with all the point's values behind it. -/
theorem place_fits {s ix d : List Int} {o : Int} (hv : ValidG s o d) (hi : idxB s ix = true) :
    wrap64 (placeN s [ix.getD 0 0, ix.getD 1 0, ix.getD 2 0, ix.getD 3 0] * o) = placeI s ix * o ∧ 0 ≤ placeI s ix ∧ placeI s ix < prodI s ∧ placeI s ix * o + o ≤ d.length := by
  obtain ⟨hlen, hin⟩ := (idxB_iff s ix).1 hi
  have hp : (9 : Int) ^ (s.zip ix).length ≤ 6561 := by
    have hl : (s.zip ix).length ≤ 4 := by rw [List.length_zip]; have := hv.len4; omega
    have : (s.zip ix).length = 0 ∨ (s.zip ix).length = 1 ∨ (s.zip ix).length = 2 ∨ (s.zip ix).length = 3 ∨ (s.zip ix).length = 4 := by omega
    rcases this with h | h | h | h | h <;> rw [h] <;> decide
  have hz : ∀ z ∈ s.zip ix, 2 ≤ z.1 ∧ z.1 ≤ 9 ∧ 0 ≤ z.2 ∧ z.2 < z.1 := by
    intro z hz
    obtain ⟨i, hi⟩ := List.mem_iff_getElem?.1 hz
    obtain ⟨h3, h4⟩ := List.getElem?_zip_eq_some.1 hi
    have h5 := hv.sizes z.1 (List.mem_of_getElem? h3)
    have h6 := hin i z.2 z.1 h4 h3
    omega
  obtain ⟨i1, i2, i3⟩ := place_go (s.zip ix) 0 1 hz (by omega) (by omega) (by omega)
  rw [List.map_fst_zip (by omega)] at i3
  obtain ⟨p1, p2, p3⟩ := prodW_eq hv.sizes hv.len4
  have h1 : placeI s ix + 1 ≤ prodI s := i3
  have ho1 := hv.out1
  have ho4 := hv.out4
  have h2 : (placeI s ix + 1) * o ≤ prodI s * o := Int.mul_le_mul_of_nonneg_right h1 (by omega)
  have h3 : (placeI s ix + 1) * o = placeI s ix * o + o := by rw [Int.add_mul]; omega
  have h4 : 0 ≤ placeI s ix * o := Int.mul_nonneg i2 (by omega)
  have h5 := hv.most
  have h6 := hv.data
  refine ⟨?_, i2, i3, by omega⟩
  unfold placeN
  rw [zip_pad hlen hv.len4, i1]
  show wrap64 (placeI s ix * o) = _
  exact wrap64_id (by omega) (by omega)

end Go.Proofs.Ytkkohelbidmkdaa
