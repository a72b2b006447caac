/-
  Image layouts, plain: where samples stand; octets told by their samples.
-/
import Derived.Test.YtpgkhhdobolfbaaIBase
namespace Go.Proofs.Ytpgkhhdobolfbaa
set_option linter.unusedVariables false
set_option linter.unusedSimpArgs false
open Go Go.RowKit

/-- A layout: k octets a sample. -/
structure Lay where
  W : Nat
  H : Nat
  C : Nat
  k : Nat
  P : Bool
  pd : Nat

namespace Lay
def row (L : Lay) : Nat := if L.P then L.W * L.k else L.W * L.C * L.k
def stride (L : Lay) : Nat := (L.row + L.pd - 1) / L.pd * L.pd
def rows (L : Lay) : Nat := if L.P then L.H * L.C else L.H
def size (L : Lay) : Nat := L.rows * L.stride
def R (L : Lay) (y c : Nat) : Nat := if L.P then c * L.H + y else y
def q (L : Lay) (x c : Nat) : Nat := if L.P then x else x * L.C + c
def place (L : Lay) (x y c : Nat) : Nat := L.R y c * L.stride + L.q x c * L.k
end Lay

structure Lay.Ok (L : Lay) : Prop where
  w1 : 1 ≤ L.W
  w2 : L.W ≤ 64
  h1 : 1 ≤ L.H
  h2 : L.H ≤ 64
  c1 : 1 ≤ L.C
  c2 : L.C ≤ 4
  most : L.W * L.H * L.C ≤ 4096
  bits : L.k = 1 ∨ L.k = 2
  pad : L.pd = 1 ∨ L.pd = 2 ∨ L.pd = 4 ∨ L.pd = 8

theorem Lay.Ok.row_pos {L : Lay} (h : L.Ok) : 1 ≤ L.row ∧ L.row ≤ 512 := by
  have w1 := h.w1
  have c1 := h.c1
  have h1 : L.W * L.C ≤ 64 * 4 := Nat.mul_le_mul h.w2 h.c2
  have h2 : 1 * 1 ≤ L.W * L.C := Nat.mul_le_mul h.w1 h.c1
  have hw2 := h.w2
  unfold Lay.row
  rcases h.bits with e | e <;> rw [e] <;> split <;> omega

theorem Lay.Ok.stride_row {L : Lay} (h : L.Ok) : L.row ≤ L.stride ∧ L.stride < L.row + L.pd ∧ L.stride % L.pd = 0 := by
  have hp : 0 < L.pd := by rcases h.pad with e | e | e | e <;> omega
  unfold Lay.stride
  refine ⟨?_, ?_, Nat.mul_mod_left _ _⟩
  · have h1 := Nat.div_add_mod (L.row + L.pd - 1) L.pd
    have h2 := Nat.mod_lt (L.row + L.pd - 1) hp
    rw [Nat.mul_comm] at h1
    omega
  · have h1 := Nat.div_add_mod (L.row + L.pd - 1) L.pd
    rw [Nat.mul_comm] at h1
    omega

theorem Lay.q_row {L : Lay} {x c : Nat} (hx : x < L.W) (hc : c < L.C) : L.q x c * L.k + L.k ≤ L.row := by
  have e : (L.q x c + 1) * L.k = L.q x c * L.k + L.k := Nat.succ_mul ..
  rw [← e]
  unfold Lay.row Lay.q
  split
  · exact Nat.mul_le_mul_right _ hx
  · refine Nat.mul_le_mul_right _ ?_
    have : (x + 1) * L.C ≤ L.W * L.C := Nat.mul_le_mul_right _ hx
    rw [Nat.succ_mul] at this
    omega

theorem Lay.R_rows {L : Lay} {y c : Nat} (hy : y < L.H) (hc : c < L.C) : L.R y c < L.rows := by
  unfold Lay.R Lay.rows
  split
  · have : (c + 1) * L.H ≤ L.C * L.H := Nat.mul_le_mul_right _ hc
    rw [Nat.succ_mul] at this
    rw [Nat.mul_comm L.H]
    omega
  · exact hy

/-- A sample's octets lie in their row, ahead of the padding. -/
theorem Lay.Ok.place_row {L : Lay} (h : L.Ok) {x y c j : Nat} (hx : x < L.W) (hy : y < L.H) (hc : c < L.C) (hj : j < L.k) : (L.place x y c + j) / L.stride = L.R y c ∧ (L.place x y c + j) % L.stride = L.q x c * L.k + j ∧ L.q x c * L.k + j < L.row ∧ L.place x y c + j < L.size := by
  have hq := Lay.q_row hx hc
  have hs := h.stride_row.1
  have hr := Lay.R_rows hy hc
  have hlt : L.q x c * L.k + j < L.stride := by omega
  have hp : 0 < L.stride := by omega
  have hz : (L.R y c + 1) * L.stride ≤ L.rows * L.stride := Nat.mul_le_mul_right _ hr
  rw [Nat.succ_mul] at hz
  have e : L.place x y c + j = L.q x c * L.k + j + L.stride * L.R y c := by unfold Lay.place; rw [Nat.mul_comm (L.R y c)]; omega
  refine ⟨?_, ?_, by omega, by unfold Lay.size Lay.place; omega⟩
  · rw [e, Nat.add_mul_div_left _ _ hp, Nat.div_eq_of_lt hlt, Nat.zero_add]
  · rw [e, Nat.add_mul_mod_self_left, Nat.mod_eq_of_lt hlt]

/-- Row and column of samples tell the pixel and the channel. -/
theorem Lay.R_q {L : Lay} {x y c x' y' c' : Nat} (hx : x < L.W) (hy : y < L.H) (hc : c < L.C) (hx' : x' < L.W) (hy' : y' < L.H) (hc' : c' < L.C) (hR : L.R y c = L.R y' c') (hq : L.q x c = L.q x' c') : x = x' ∧ y = y' ∧ c = c' := by
  unfold Lay.R at hR
  unfold Lay.q at hq
  split at hR <;> rename_i hP
  · rw [if_pos hP, if_pos hP] at hq
    have e1 : (c * L.H + y) / L.H = c := by rw [Nat.mul_comm, Nat.mul_add_div (by omega), Nat.div_eq_of_lt hy]; omega
    have e2 : (c' * L.H + y') / L.H = c' := by rw [Nat.mul_comm, Nat.mul_add_div (by omega), Nat.div_eq_of_lt hy']; omega
    have ec : c = c' := by rw [← e1, hR, e2]
    subst ec
    exact ⟨hq, by omega, rfl⟩
  · rw [if_neg hP, if_neg hP] at hq
    have e1 : (x * L.C + c) / L.C = x := by rw [Nat.mul_comm, Nat.mul_add_div (by omega), Nat.div_eq_of_lt hc]; omega
    have e2 : (x' * L.C + c') / L.C = x' := by rw [Nat.mul_comm, Nat.mul_add_div (by omega), Nat.div_eq_of_lt hc']; omega
    have ex : x = x' := by rw [← e1, hq, e2]
    subst ex
    exact ⟨rfl, hR, by omega⟩

theorem Lay.Ok.place_inj {L : Lay} (h : L.Ok) {x y c j x' y' c' j' : Nat} (hx : x < L.W) (hy : y < L.H) (hc : c < L.C) (hj : j < L.k) (hx' : x' < L.W) (hy' : y' < L.H) (hc' : c' < L.C) (hj' : j' < L.k) (e : L.place x y c + j = L.place x' y' c' + j') : x = x' ∧ y = y' ∧ c = c' ∧ j = j' := by
  obtain ⟨a1, a2, _, _⟩ := h.place_row hx hy hc hj
  obtain ⟨b1, b2, _, _⟩ := h.place_row hx' hy' hc' hj'
  rw [e] at a1 a2
  have hR := a1.symm.trans b1
  have hqj := a2.symm.trans b2
  have hq : L.q x c = L.q x' c' ∧ j = j' := by rcases h.bits with ek | ek <;> rw [ek] at hqj hj hj' <;> omega
  obtain ⟨e1, e2, e3⟩ := Lay.R_q hx hy hc hx' hy' hc' hR hq.1
  exact ⟨e1, e2, e3, hq.2⟩

/-- Every octet ahead of the padding belongs to a sample. -/
theorem Lay.Ok.covered {L : Lay} (h : L.Ok) {i : Nat} (hi : i < L.size) (hr : i % L.stride < L.row) : ∃ x y c j, x < L.W ∧ y < L.H ∧ c < L.C ∧ j < L.k ∧ i = L.place x y c + j := by
  have hk : 0 < L.k := by rcases h.bits with e | e <;> omega
  have hs : 0 < L.stride := by have := h.stride_row.1; have := h.row_pos.1; omega
  have hRl : i / L.stride < L.rows := by
    refine Nat.div_lt_of_lt_mul ?_
    rw [Nat.mul_comm]; exact hi
  have hdm := Nat.div_add_mod i L.stride
  have hqm := Nat.div_add_mod (i % L.stride) L.k
  have hjk := Nat.mod_lt (i % L.stride) hk
  unfold Lay.row at hr
  unfold Lay.rows at hRl
  unfold Lay.place Lay.R Lay.q
  split at hr <;> rename_i hP
  · rw [if_pos hP] at hRl
    have hH : 0 < L.H := h.h1
    refine ⟨i % L.stride / L.k, i / L.stride % L.H, i / L.stride / L.H, i % L.stride % L.k, ?_, Nat.mod_lt _ hH, ?_, hjk, ?_⟩
    · refine Nat.div_lt_of_lt_mul ?_
      rw [Nat.mul_comm]; exact hr
    · exact Nat.div_lt_of_lt_mul hRl
    · rw [if_pos hP, if_pos hP]
      have h3 := Nat.div_add_mod (i / L.stride) L.H
      rw [Nat.mul_comm (i / L.stride / L.H), h3, Nat.mul_comm (i / L.stride), Nat.mul_comm (i % L.stride / L.k)]
      omega
  · rw [if_neg hP] at hRl
    have hC : 0 < L.C := h.c1
    refine ⟨i % L.stride / L.k / L.C, i / L.stride, i % L.stride / L.k % L.C, i % L.stride % L.k, ?_, hRl, Nat.mod_lt _ hC, hjk, ?_⟩
    · refine Nat.div_lt_of_lt_mul ?_
      rw [Nat.mul_comm L.C]
      refine Nat.div_lt_of_lt_mul ?_
      rw [Nat.mul_comm L.k]; exact hr
    · rw [if_neg hP, if_neg hP]
      have h3 := Nat.div_add_mod (i % L.stride / L.k) L.C
      rw [Nat.mul_comm (i % L.stride / L.k / L.C), h3, Nat.mul_comm (i / L.stride), Nat.mul_comm (i % L.stride / L.k)]
      omega
end Go.Proofs.Ytpgkhhdobolfbaa
