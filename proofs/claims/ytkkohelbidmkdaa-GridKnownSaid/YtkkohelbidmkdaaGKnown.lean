/-
  What the law GridKnown calls: a row of zeros, grids that are not valid, the twelve and the big grid.
-/
import Derived.Test.YtkkohelbidmkdaaGTurnsW
namespace Go.Proofs.Ytkkohelbidmkdaa
set_option linter.unusedVariables false
set_option linter.unusedSimpArgs false
open Go Go.RowKit

theorem make_zeros (W : World) (n : Nat) (h2 : n ≤ 5000) (base : Nat) (hb : base ≤ W.heap.size) : ∃ W', (Instr.makeSlice 22 (.int .i64 (n : Int)) (.int .i64 (n : Int))).run Try.prog W = .ok (.slice (some ⟨W.heap.size, 0, none⟩) n n) W' ∧
    Own W' base (.slice (some ⟨W.heap.size, 0, none⟩) n n) (List.replicate n 0) ∧ Below W.heap.size W W' := by
  obtain ⟨i0, hi, hz0, hz1, hz2⟩ := info_parts info_int
  obtain ⟨W', hr, ho, hg⟩ := run_make_full (P := Try.prog) W base 22 3 i0 (.int .i64 0) 1 Try.underlying22 hi hz0 hz1 .i64 .i64 n (by rw [hz2]; omega) (by simp only [maxLen]; omega) hb
  refine ⟨W', hr, ?_, (Below.refl _ _).grown hg (Nat.le_refl _) (fun k hk => by cases hk)⟩
  have hcells : (madeCells (Value.cells (.int .i64 0)) (n * 1)).toList = (List.replicate n 0).map (Value.int .i64) := by
    rw [Nat.mul_one]
    show (madeCells #[.int .i64 0] n).toList = _
    rw [toList_madeCells_one]; simp
  rw [hcells] at ho
  unfold Own
  rw [List.length_replicate]
  exact ho

theorem zeros_calls (n : Nat) (w : World) (h : n ≤ 5000) : Calls Try.prog 26 #[.int .i64 n] w fun r w' => ∃ g, r = .returned (.slice (some ⟨g, 0, none⟩) n n) ∧ Own w' w.heap.size (.slice (some ⟨g, 0, none⟩) n n) (List.replicate n 0) ∧ Below w.heap.size w w' := by
  obtain ⟨w1, hmk, ho1, hb1⟩ := make_zeros w n h w.heap.size (Nat.le_refl _)
  have HX := Lib.hid (And.intro ho1 hb1)
  clear ho1 hb1
  go_enter Try.func26, Try.ntmps26
  go_wp2_with fail
  clear hmk
  go_wp2
  go_ret
  exact ⟨_, rfl, HX.out.1, HX.out.2⟩

/-- A grid that is there and not valid. -/
structure BadG (W : World) (v1 : Value) (o : Int) (v2 : Value) (A : Option Addr) (c : Nat) (s : List Int) (B : Option Addr) (e : Nat) (d : List Int) : Prop where
  e1 : v1 = .slice A s.length c
  e2 : v2 = .slice B d.length e
  grid : GridV W (.agg #[.slice A s.length c, .int .i64 o, .slice B d.length e]) A c s o B e d
  bad : checkN s o d = 100
  len : s.length ≤ 4096

def Bad (W : World) (v1 : Value) (o : Int) (v2 : Value) : Prop := ∃ A c s B e d, BadG W v1 o v2 A c s B e d
theorem Bad.kept {W W' : World} {v1 : Value} {o : Int} {v2 : Value} (h : Bad W v1 o v2) (hb : Below W.heap.size W W') : Bad W' v1 o v2 := by
  obtain ⟨A, c, s, B, e, d, h⟩ := h
  exact ⟨A, c, s, B, e, d, h.e1, h.e2, h.grid.kept hb, h.bad, h.len⟩
theorem bad_zeros {W : World} {b z n base : Nat} {s : List Int} {o : Int} (h1 : Blk W b (s.map (Value.int .i64)) 3) (h2 : Own W base (.slice (some ⟨z, 0, none⟩) n n) (List.replicate n 0)) (hbad : checkN s o (List.replicate n 0) = 100) (hl : s.length ≤ 4096) : Bad W (.slice (some ⟨b, 0, none⟩) s.length s.length) o (.slice (some ⟨z, 0, none⟩) n n) := by
  obtain ⟨l1, l2, l3, l4, l5⟩ := h2.length
  exact ⟨_, _, s, _, _, List.replicate n 0, rfl, by rw [l1], ⟨by rw [l1], h1.cs, l5, Nat.le_refl _, by omega, (fun e => by cases e), by omega, l3, (fun e => by cases e)⟩, hbad, hl⟩
theorem bad_rows {W : World} {b z : Nat} {s d : List Int} {o : Int} (h1 : Blk W b (s.map (Value.int .i64)) 3) (h2 : Blk W z (d.map (Value.int .i64)) 3) (hbad : checkN s o d = 100) (hl : s.length ≤ 4096) (hd : d.length ≤ 4096) : Bad W (.slice (some ⟨b, 0, none⟩) s.length s.length) o (.slice (some ⟨z, 0, none⟩) d.length d.length) :=
  ⟨_, _, s, _, _, d, rfl, rfl, ⟨rfl, h1.cs, h2.cs, Nat.le_refl _, by omega, (fun e => by cases e), Nat.le_refl _, by omega, (fun e => by cases e)⟩, hbad, hl⟩
theorem bad_size {W : World} {b : Nat} {s : List Int} {o : Int} (h1 : Blk W b (s.map (Value.int .i64)) 3) (hbad : checkN s o [] = 100) (hl : s.length ≤ 4096) : Bad W (.slice (some ⟨b, 0, none⟩) s.length s.length) o (.slice none 0 0) :=
  ⟨_, _, s, none, 0, [], rfl, rfl, ⟨rfl, h1.cs, Cs.nil, Nat.le_refl _, by omega, (fun e => by cases e), Nat.le_refl _, by omega, fun _ => rfl⟩, hbad, hl⟩
theorem bad_nil {W : World} (hbad : checkN [] 0 [] = 100) : Bad W (.slice none 0 0) 0 (.slice none 0 0) :=
  ⟨none, 0, [], none, 0, [], rfl, rfl, ⟨rfl, Cs.nil, Cs.nil, Nat.le_refl _, by omega, fun _ => rfl, Nat.le_refl _, by omega, fun _ => rfl⟩, hbad, by simp⟩

theorem checkN_bad {s : List Int} {o : Int} {d : List Int} (h : ¬ ValidG s o d) : checkN s o d = 100 := by
  rcases checkN_or s o d with h1 | h1
  · exact absurd ((checkN_iff _ _ _).1 h1) h
  · exact h1
theorem bad1 : checkN [] 0 [] = 100 := checkN_bad fun h => absurd h.len1 (by simp)
theorem bad2 : checkN [1] 1 (List.replicate 1 0) = 100 := checkN_bad fun h => absurd (h.sizes 1 (by simp)) (by omega)
theorem bad3 : checkN [10] 1 (List.replicate 10 0) = 100 := checkN_bad fun h => absurd (h.sizes 10 (by simp)) (by omega)
theorem bad4 : checkN [2, 2, 2, 2, 2] 1 (List.replicate 32 0) = 100 := checkN_bad fun h => absurd h.len4 (by simp)
theorem bad5 : checkN [2] 0 [] = 100 := checkN_bad fun h => absurd h.out1 (by omega)
theorem bad6 : checkN [2] 5 (List.replicate 10 0) = 100 := checkN_bad fun h => absurd h.out4 (by omega)
theorem bad7 : checkN [2] 1 [0, 65536] = 100 := checkN_bad fun h => absurd (h.full 65536 (by simp)) (by omega)
theorem bad8 : checkN [2] 1 [0, -1] = 100 := checkN_bad fun h => absurd (h.full (-1) (by simp)) (by omega)
theorem bad9 : checkN [2] 1 (List.replicate 3 0) = 100 := checkN_bad fun h => absurd h.data (by rw [List.length_replicate]; simp [prodI])
theorem bad10 : checkN [9, 9, 9] 4 (List.replicate 2915 0) = 100 := checkN_bad fun h => absurd h.data (by rw [List.length_replicate]; simp [prodI])
theorem bad11 : checkN [9, 9, 9, 6] 1 (List.replicate 4374 0) = 100 := checkN_bad fun h => absurd h.most (by rw [List.length_replicate]; omega)
theorem bigV : ValidG [8, 8, 8, 8] 1 (List.replicate 4096 0) :=
  ⟨by simp, by simp, fun x hx => by simp at hx; omega, by omega, by omega, by rw [List.length_replicate]; simp [prodI], by rw [List.length_replicate]; omega, fun x hx => by rw [(List.mem_replicate.1 hx).2]; omega⟩

section
variable {s d : List Int} {o : Int}
theorem placeR_bad (h : checkN s o d = 100) (ix : List Int) : placeR s o d ix = (0, 100) := by unfold placeR; rw [if_pos (by rw [h]; decide)]
theorem atR_bad (h : checkN s o d = 100) (ix : List Int) : atR s o d ix = ([], 100) := by unfold atR; rw [if_pos (by rw [h]; decide)]
theorem rangeR_bad (h : checkN s o d = 100) : rangeR s o d = ([], [], 100) := by unfold rangeR; rw [if_pos (by rw [h]; decide)]
theorem swapR_bad (h : checkN s o d = 100) (a b : Int) : swapR s o d a b = ([], 0, [], 100) := by unfold swapR; rw [if_pos (by rw [h]; decide)]
theorem pickR_bad (h : checkN s o d = 100) (cs : List Int) : pickR s o d cs = ([], 0, [], 100) := by unfold pickR; rw [if_pos (by rw [h]; decide)]
end

theorem k1 : atR sizes12 2 data12 [0] = ([], 2) := by decide +kernel
theorem k2 : atR sizes12 2 data12 [0, 0, 0] = ([], 2) := by decide +kernel
theorem k3 : placeR sizes12 2 data12 [0, -1] = (0, 2) := by decide +kernel
theorem k4 : swapR sizes12 2 data12 0 2 = ([], 0, [], 2) := by decide +kernel
theorem k5 : swapR sizes12 2 data12 (-1) 0 = ([], 0, [], 2) := by decide +kernel
theorem k6 : pickR sizes12 2 data12 [2] = ([], 0, [], 2) := by decide +kernel
theorem k7 : pickR sizes12 2 data12 [] = ([], 0, [], 2) := by decide +kernel
theorem k8 : pickR sizes12 2 data12 [0, 0, 0, 0, 0] = ([], 0, [], 2) := by decide +kernel
theorem k9 : pickR [8, 8, 8, 8] 1 (List.replicate 4096 0) [0, 0] = ([], 0, [], 3) := by
  unfold pickR
  rw [if_neg (by rw [(checkN_iff _ _ _).2 bigV]; decide), if_neg (by decide), if_neg (by decide), if_pos (by decide)]
theorem k10 : pickR [8, 8, 8, 8] 1 (List.replicate 4096 0) [0, 1] = ([], 0, [], 2) := by
  unfold pickR
  rw [if_neg (by rw [(checkN_iff _ _ _).2 bigV]; decide), if_neg (by decide), if_pos (by decide)]
theorem k11 : pickR sizes12 2 data12 [1, 1, 0, 1] = ([2, 3], 4, [1, 1, 0, 1, 3, 3, 2, 3, 5, 5, 4, 5, 7, 7, 6, 7, 9, 9, 8, 9, 11, 11, 10, 11], 0) := by decide +kernel

/-- The twelve, in memory. -/
structure G12 (g1 g2 : Nat) (W : World) : Prop where
  size : Blk W g1 (sizes12.map (Value.int .i64)) 3
  data : Blk W g2 (data12.map (Value.int .i64)) 3
theorem G12.kept {g1 g2 : Nat} {W W' : World} (h : G12 g1 g2 W) (hb : Below W.heap.size W W') : G12 g1 g2 W' := ⟨h.size.kept hb, h.data.kept hb⟩
theorem G12.grid {g1 g2 : Nat} {W : World} (h : G12 g1 g2 W) : GridV W (.agg #[.slice (some ⟨g1, 0, none⟩) 2 2, .int .i64 2, .slice (some ⟨g2, 0, none⟩) 12 12]) (some ⟨g1, 0, none⟩) 2 sizes12 2 (some ⟨g2, 0, none⟩) 12 data12 :=
  ⟨rfl, h.size.cs, h.data.cs, by decide, by decide, (fun e => by cases e), by decide, by decide, (fun e => by cases e)⟩
theorem c12_at {g1 g2 : Nat} {W : World} (h : G12 g1 g2 W) {I : Option Addr} {ci n : Nat} {ix : List Int} (hi : Cs W .i64 I ix) (hn : ix.length = n) (hl : n ≤ 16) {p : List Int × Int} (hr : atR sizes12 2 data12 ix = p) :
    Calls Try.prog 15 #[.agg #[.slice (some ⟨g1, 0, none⟩) 2 2, .int .i64 2, .slice (some ⟨g2, 0, none⟩) 12 12], .slice I n ci] W fun r w' => ∃ v, r = .returned (.tuple #[v, .int .i64 p.2]) ∧ Below W.heap.size W w' := by
  subst hn
  have hc := gridAt_calls (some ⟨g1, 0, none⟩) (some ⟨g2, 0, none⟩) I 2 12 ci sizes12 data12 ix 2 W h.size.cs h.data.cs hi (by decide) (by decide) (by decide) (by omega)
  rw [hr] at hc
  exact hc.mono fun r w' ⟨v, h1, _, h3⟩ => ⟨v, h1, h3⟩
theorem c12_place {g1 g2 : Nat} {W : World} (h : G12 g1 g2 W) {I : Option Addr} {ci n : Nat} {ix : List Int} (hi : Cs W .i64 I ix) (hn : ix.length = n) (hl : n ≤ 16) {p : Int × Int} (hr : placeR sizes12 2 data12 ix = p) :
    Calls Try.prog 13 #[.agg #[.slice (some ⟨g1, 0, none⟩) 2 2, .int .i64 2, .slice (some ⟨g2, 0, none⟩) 12 12], .slice I n ci] W fun r w' => r = .returned (.tuple #[.int .i64 p.1, .int .i64 p.2]) ∧ Below W.heap.size W w' := by
  subst hn
  have hc := gridPlace_calls (some ⟨g1, 0, none⟩) (some ⟨g2, 0, none⟩) I 2 12 ci sizes12 data12 ix 2 W h.size.cs h.data.cs hi (by decide) (by decide) (by omega)
  rw [hr] at hc
  exact hc
theorem c12_swap {g1 g2 : Nat} {W : World} (h : G12 g1 g2 W) (a b : Int) {p : List Int × Int × List Int × Int} (hr : swapR sizes12 2 data12 a b = p) :
    Calls Try.prog 18 #[.agg #[.slice (some ⟨g1, 0, none⟩) 2 2, .int .i64 2, .slice (some ⟨g2, 0, none⟩) 12 12], .int .i64 a, .int .i64 b] W fun r w' => TurnRes p W r w' := by
  have hc := swap_turn h.grid a b
  rw [hr] at hc
  exact hc
theorem c12_pick {g1 g2 : Nat} {W : World} (h : G12 g1 g2 W) {I : Option Addr} {ci n : Nat} {ix : List Int} (hi : Cs W .i64 I ix) (hn : ix.length = n) (hl : n ≤ 16) {p : List Int × Int × List Int × Int} (hr : pickR sizes12 2 data12 ix = p) :
    Calls Try.prog 21 #[.agg #[.slice (some ⟨g1, 0, none⟩) 2 2, .int .i64 2, .slice (some ⟨g2, 0, none⟩) 12 12], .slice I n ci] W fun r w' => TurnRes p W r w' := by
  subst hn
  have hc := pick_turn (ci := ci) h.grid hi (by omega)
  rw [hr] at hc
  exact hc

/-- The big grid, in memory. -/
structure GBig (g1 g2 : Nat) (W : World) : Prop where
  size : Blk W g1 (([8, 8, 8, 8] : List Int).map (Value.int .i64)) 3
  data : Own W 0 (.slice (some ⟨g2, 0, none⟩) 4096 4096) (List.replicate 4096 0)
theorem GBig.kept {g1 g2 : Nat} {W W' : World} (h : GBig g1 g2 W) (hb : Below W.heap.size W W') : GBig g1 g2 W' := ⟨h.size.kept hb, h.data.kept hb⟩
theorem GBig.grid {g1 g2 : Nat} {W : World} (h : GBig g1 g2 W) : GridV W (.agg #[.slice (some ⟨g1, 0, none⟩) 4 4, .int .i64 1, .slice (some ⟨g2, 0, none⟩) 4096 4096]) (some ⟨g1, 0, none⟩) 4 [8, 8, 8, 8] 1 (some ⟨g2, 0, none⟩) 4096 (List.replicate 4096 0) :=
  ⟨by rw [List.length_replicate]; rfl, h.size.cs, h.data.length.2.2.2.2, by decide, by decide, (fun e => by cases e), by rw [List.length_replicate]; omega, by omega, (fun e => by cases e)⟩
theorem big_pick {g1 g2 : Nat} {W : World} (h : GBig g1 g2 W) {I : Option Addr} {ci n : Nat} {ix : List Int} (hi : Cs W .i64 I ix) (hn : ix.length = n) (hl : n ≤ 16) {p : List Int × Int × List Int × Int} (hr : pickR [8, 8, 8, 8] 1 (List.replicate 4096 0) ix = p) :
    Calls Try.prog 21 #[.agg #[.slice (some ⟨g1, 0, none⟩) 4 4, .int .i64 1, .slice (some ⟨g2, 0, none⟩) 4096 4096], .slice I n ci] W fun r w' => TurnRes p W r w' := by
  subst hn
  have hc := pick_turn (ci := ci) h.grid hi (by omega)
  rw [hr, List.length_replicate] at hc
  exact hc
theorem big_check {g1 g2 : Nat} {W : World} (h : GBig g1 g2 W) : Calls Try.prog 25 #[.agg #[.slice (some ⟨g1, 0, none⟩) 4 4, .int .i64 1, .slice (some ⟨g2, 0, none⟩) 4096 4096]] W fun r w' => r = .returned (.int .i64 0) ∧ Below W.heap.size W w' := by
  have hc := check_calls (some ⟨g1, 0, none⟩) (some ⟨g2, 0, none⟩) 4 4096 [8, 8, 8, 8] (List.replicate 4096 0) 1 W h.size.cs h.data.length.2.2.2.2 (by decide) (by rw [List.length_replicate]; omega)
  rw [(checkN_iff _ _ _).2 bigV, List.length_replicate] at hc
  exact hc
end Go.Proofs.Ytkkohelbidmkdaa
