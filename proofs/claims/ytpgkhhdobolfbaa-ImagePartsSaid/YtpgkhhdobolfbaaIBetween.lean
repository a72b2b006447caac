/-
  image.between and what it calls, slices.Contains, image.shaped: what each call returns.
-/
import Derived.Test.YtpgkhhdobolfbaaISeq
namespace Go.Proofs.Ytpgkhhdobolfbaa
set_option linter.unusedVariables false
set_option linter.unusedSimpArgs false
open Go.RowKit

/-- Is x outside of low .. high? -/
def outB (lo hi x : Int) : Bool := decide (x < lo) || decide (hi < x)

set_option maxHeartbeats 400000 in
theorem outside_calls (x lo hi : Int) (b1 b2 : Nat) (w : World) (h1 : w.cell? ⟨b1, 0, none⟩ = some (.int .i64 lo)) (h2 : w.cell? ⟨b2, 0, none⟩ = some (.int .i64 hi)) :
    Calls Try.prog 71 #[.int .i64 x, .pointer (some ⟨b1, 0, none⟩), .pointer (some ⟨b2, 0, none⟩)] w fun e w' => e = .returned (.bool (outB lo hi x)) ∧ w = w' := by
  by_cases c : x < lo <;> by_cases d : hi < x
  all_goals
    go_enter Try.func71, Try.ntmps71
    go_wp2
    go_ret
    exact ⟨by simp [outB, c, d], rfl⟩

set_option maxHeartbeats 400000 in
theorem indexFunc_calls (A : Option Addr) (c : Nat) (xs : List Int) (lo hi : Int) (b1 b2 : Nat) (w : World) (h : Cs w .i64 A xs) (hl : xs.length ≤ 9223372036854775807)
   (h1 : w.cell? ⟨b1, 0, none⟩ = some (.int .i64 lo)) (h2 : w.cell? ⟨b2, 0, none⟩ = some (.int .i64 hi)) :
    Calls Try.prog 79 #[.slice A xs.length c, .func (.func 71) #[] #[.pointer (some ⟨b1, 0, none⟩), .pointer (some ⟨b2, 0, none⟩)]] w fun e w' =>
      ∃ n : Int, e = .returned (.int .i64 n) ∧ decide (0 ≤ n) = xs.any (outB lo hi) ∧ w = w' := by
  have H := Lib.hid h
  clear h
  go_enter Try.func79, Try.ntmps79
  go_wp2
  go_loop [5, 8] (fun _ i => ∃ k : Nat, k ≤ xs.length ∧ i = .int .i64 k ∧ (xs.take k).any (outB lo hi) = false) (fun _ i => xs.length - (intOf i).toNat)
  case atStart => exact ⟨0, Nat.zero_le _, rfl, rfl⟩
  case round =>
    obtain ⟨k, hk, rfl, hn⟩ := hrel
    have HN := Lib.hid hn
    clear hn
    by_cases hlt : k < xs.length
    · obtain ⟨x, b, o, hx, rfl, hc⟩ := H.out.at hlt
      have HX := Lib.hid hx
      clear hx
      cases hb : outB lo hi x with
      | true =>
        go_wp2_with (go_at_call 71; refine (outside_calls _ lo hi b1 b2 _ h1 h2).mono ?_; rintro e w' ⟨rfl, rfl⟩)
        go_ret
        refine ⟨_, rfl, ?_, rfl⟩
        have : xs.any (outB lo hi) = true := List.any_eq_true.2 ⟨x, List.mem_of_getElem? HX.out, hb⟩
        rw [this]
        simp
      | false =>
        go_wp2_with (go_at_call 71; refine (outside_calls _ lo hi b1 b2 _ h1 h2).mono ?_; rintro e w' ⟨rfl, rfl⟩)
        go_round
        case rel => exact ⟨k + 1, by omega, by go_num, by rw [take_at HX.out, List.any_append, HN.out]; simp [hb]⟩
        case measure => simp [intOf]; omega
    · go_wp2
      go_ret
      exact ⟨_, rfl, by have := HN.out; rw [List.take_of_length_le (by omega)] at this; rw [this]; rfl, rfl⟩

set_option maxHeartbeats 400000 in
theorem containsFunc_calls (A : Option Addr) (c : Nat) (xs : List Int) (lo hi : Int) (b1 b2 : Nat) (w : World) (h : Cs w .i64 A xs) (hl : xs.length ≤ 9223372036854775807)
   (h1 : w.cell? ⟨b1, 0, none⟩ = some (.int .i64 lo)) (h2 : w.cell? ⟨b2, 0, none⟩ = some (.int .i64 hi)) :
    Calls Try.prog 70 #[.slice A xs.length c, .func (.func 71) #[] #[.pointer (some ⟨b1, 0, none⟩), .pointer (some ⟨b2, 0, none⟩)]] w fun e w' =>
      e = .returned (.bool (xs.any (outB lo hi))) ∧ w = w' := by
  go_enter Try.func70, Try.ntmps70
  go_wp2_with fail
  refine (indexFunc_calls A c xs lo hi b1 b2 w h hl h1 h2).mono ?_
  rintro e w' ⟨n, rfl, hn, rfl⟩
  have HN := Lib.hid hn
  clear hn
  go_wp2
  go_ret
  exact ⟨ret_bool HN.out, rfl⟩

/-- Are all within low .. high? -/
def betw (lo hi : Int) (xs : List Int) : Bool := !xs.any (outB lo hi)

set_option maxHeartbeats 400000 in
theorem between_calls (A : Option Addr) (c : Nat) (xs : List Int) (lo hi : Int) (w : World) (h : Cs w .i64 A xs) (hl : xs.length ≤ 9223372036854775807) :
    Calls Try.prog 40 #[.int .i64 lo, .int .i64 hi, .slice A xs.length c] w fun e w' => e = .returned (.bool (betw lo hi xs)) ∧ Below w.heap.size w w' := by
  have H := Lib.hid h
  clear h
  go_enter Try.func40, Try.ntmps40
  go_wp2_with fail
  refine calls_named ?_
  intro w1 hw1
  have b0 : Blk w1 w.heap.size [.int .i64 lo] 3 := by rw [hw1]; exact (Blk.new _ _ _).alloc _
  have b1 : Blk w1 (w.heap.size + 1) [.int .i64 hi] 3 := by rw [hw1]; exact Blk.at (by simp)
  have hb : Below w.heap.size w w1 := by rw [hw1]; repeat (first | exact below_alloc _ | refine below_trans ?_ (below_alloc _))
  have HB := Lib.hid hb
  clear hw1 hb
  refine (containsFunc_calls A c xs lo hi w.heap.size (w.heap.size + 1) w1 (H.out.kept HB.out) hl (b0.cell (i := 0) rfl) (b1.cell (i := 0) rfl)).mono ?_
  rintro e w' ⟨rfl, rfl⟩
  clear b0 b1
  go_wp2
  go_ret
  exact ⟨ret_bool rfl, HB.out⟩

/-- Is y among them? -/
def hasB (xs : List Int) (y : Int) : Bool := xs.contains y

set_option maxHeartbeats 400000 in
theorem index_calls (A : Option Addr) (c : Nat) (xs : List Int) (y : Int) (w : World) (h : Cs w .i64 A xs) (hl : xs.length ≤ 9223372036854775807) :
    Calls Try.prog 80 #[.slice A xs.length c, .int .i64 y] w fun e w' => ∃ n : Int, e = .returned (.int .i64 n) ∧ decide (0 ≤ n) = hasB xs y ∧ Below w.heap.size w w' := by
  have H := Lib.hid h
  clear h
  go_enter Try.func80, Try.ntmps80
  go_wp2
  go_loop [5, 8] (fun _ i => ∃ k : Nat, k ≤ xs.length ∧ i = .int .i64 k ∧ (xs.take k).contains y = false) (fun _ i => xs.length - (intOf i).toNat)
  case atStart => exact ⟨0, Nat.zero_le _, rfl, rfl⟩
  case round =>
    obtain ⟨k, hk, rfl, hn⟩ := hrel
    have HN := Lib.hid hn
    clear hn
    by_cases hlt : k < xs.length
    · obtain ⟨x, b, o, hx, rfl, hc⟩ := H.out.at hlt
      have HX := Lib.hid hx
      clear hx
      by_cases hxy : y = x
      · have hb : (y == x) = true := by simp [hxy]
        have HE := Lib.hid hxy
        clear hxy
        go_wp2
        go_ret
        refine ⟨_, rfl, ?_, Below.refl _ _⟩
        have : hasB xs y = true := List.elem_eq_true_of_mem (by rw [HE.out]; exact List.mem_of_getElem? HX.out)
        rw [this]
        simp
      · have hb : (y == x) = false := by simp [hxy]
        have HE := Lib.hid hxy
        clear hxy
        go_wp2
        go_round
        case rel => exact ⟨k + 1, by omega, by go_num, by
          have h1 := HN.out
          rw [take_at HX.out]
          simp only [List.contains_eq_mem, List.mem_append, List.mem_singleton, decide_eq_false_iff_not, not_or] at h1 ⊢
          exact ⟨h1, HE.out⟩⟩
        case measure => simp [intOf]; omega
    · go_wp2
      go_ret
      exact ⟨_, rfl, by have := HN.out; rw [List.take_of_length_le (by omega)] at this; unfold hasB; rw [this]; rfl, Below.refl _ _⟩

set_option maxHeartbeats 400000 in
theorem contains_calls (A : Option Addr) (c : Nat) (xs : List Int) (y : Int) (w : World) (h : Cs w .i64 A xs) (hl : xs.length ≤ 9223372036854775807) :
    Calls Try.prog 78 #[.slice A xs.length c, .int .i64 y] w fun e w' => e = .returned (.bool (hasB xs y)) ∧ Below w.heap.size w w' := by
  go_enter Try.func78, Try.ntmps78
  go_wp2_with fail
  refine (index_calls A c xs y w h hl).mono ?_
  rintro e w' ⟨n, rfl, hn, hb⟩
  have HN := Lib.hid (And.intro hn hb)
  clear hn hb
  go_wp2
  go_ret
  exact ⟨ret_bool HN.out.1, HN.out.2⟩

/-- The numbers that a valid image may have. -/
structure Shp (W H C B Pd : Int) : Prop where
  w1 : 1 ≤ W
  w2 : W ≤ 64
  h1 : 1 ≤ H
  h2 : H ≤ 64
  c1 : 1 ≤ C
  c2 : C ≤ 4
  most : W * H * C ≤ 4096
  bits : B = 8 ∨ B = 16
  pad : Pd = 1 ∨ Pd = 2 ∨ Pd = 4 ∨ Pd = 8

instance (W H C B Pd : Int) : Decidable (Shp W H C B Pd) :=
  decidable_of_iff (1 ≤ W ∧ W ≤ 64 ∧ 1 ≤ H ∧ H ≤ 64 ∧ 1 ≤ C ∧ C ≤ 4 ∧ W * H * C ≤ 4096 ∧ (B = 8 ∨ B = 16) ∧ (Pd = 1 ∨ Pd = 2 ∨ Pd = 4 ∨ Pd = 8))
    ⟨fun ⟨a, b, c, d, e, f, g, h, i⟩ => ⟨a, b, c, d, e, f, g, h, i⟩, fun ⟨a, b, c, d, e, f, g, h, i⟩ => ⟨a, b, c, d, e, f, g, h, i⟩⟩

/-- Are the numbers such? -/
def shB (W H C B Pd : Int) : Bool := decide (Shp W H C B Pd)

theorem betw_two {lo hi x y : Int} : betw lo hi [x, y] = true ↔ (lo ≤ x ∧ x ≤ hi) ∧ (lo ≤ y ∧ y ≤ hi) := by
  simp [betw, outB]
theorem betw_one {lo hi x : Int} : betw lo hi [x] = true ↔ lo ≤ x ∧ x ≤ hi := by
  simp [betw, outB]

theorem blk_row {w : World} {g : Nat} {xs : List Int} (h : Blk w g (xs.map (Value.int .i64)) 3) : Cs w .i64 (some ⟨g, 0, none⟩) xs := fun i x hx =>
  ⟨g, 0, rfl, by rw [Nat.zero_add]; exact h.cell (by rw [List.getElem?_map, hx]; rfl)⟩

/-- An image's value. -/
def imgV (W H C B : Int) (P : Bool) (Pd : Int) (O : ByteArray) : Value := .agg #[.int .i64 W, .int .i64 H, .int .i64 C, .int .i64 B, .bool P, .int .i64 Pd, .string O]

theorem prod_small {W H C : Int} (h1 : 1 ≤ W ∧ W ≤ 64) (h2 : 1 ≤ H ∧ H ≤ 64) (h3 : 1 ≤ C ∧ C ≤ 4) : 1 ≤ W * H ∧ W * H ≤ 4096 ∧ 1 ≤ W * H * C ∧ W * H * C ≤ 16384 := by
  have a1 : W * H ≤ 64 * 64 := Int.mul_le_mul h1.2 h2.2 (by omega) (by omega)
  have a2 : 1 * 1 ≤ W * H := Int.mul_le_mul h1.1 h2.1 (by omega) (by omega)
  have a3 : W * H * C ≤ 4096 * 4 := Int.mul_le_mul (by omega) h3.2 (by omega) (by omega)
  have a4 : 1 * 1 ≤ W * H * C := Int.mul_le_mul (by omega) h3.1 (by omega) (by omega)
  omega

set_option maxHeartbeats 1600000 in
theorem shaped_calls (W H C B : Int) (P : Bool) (Pd : Int) (O : ByteArray) (w : World) :
    Calls Try.prog 63 #[.agg #[.int .i64 W, .int .i64 H, .int .i64 C, .int .i64 B, .bool P, .int .i64 Pd, .string O]] w fun e w' => e = .returned (.bool (shB W H C B Pd)) ∧ Below w.heap.size w w' := by
  go_enter Try.func63, Try.ntmps63
  go_wp2_with fail
  refine calls_named ?_
  intro w1 hw1
  have b0 : Blk w1 w.heap.size [.int .i64 W, .int .i64 H, .int .i64 C, .int .i64 B, .bool P, .int .i64 Pd, .string O] 24 := by rw [hw1]; exact (Blk.new _ _ _).alloc _
  have b1 : Blk w1 (w.heap.size + 1) ([W, H].map (Value.int .i64)) 3 := by rw [hw1]; exact Blk.at (by simp)
  have hb : Below w.heap.size w w1 := by rw [hw1]; repeat (first | exact below_alloc _ | refine below_trans ?_ (below_alloc _))
  clear hw1
  refine (between_calls (some ⟨w.heap.size + 1, 0, none⟩) 2 [W, H] 1 64 w1 (blk_row b1) (by simp)).mono ?_
  rintro e w2 ⟨rfl, hb2⟩
  replace b0 := b0.kept hb2
  replace hb := below_trans hb hb2
  clear b1 hb2
  have c0 := b0.cell (i := 0) rfl
  have c1 := b0.cell (i := 1) rfl
  have c2 := b0.cell (i := 2) rfl
  have HB := Lib.hid (And.intro b0 hb)
  clear b0 hb
  by_cases k1 : betw 1 64 [W, H] = true
  · rw [k1]
    have K1 := Lib.hid (betw_two.1 k1)
    clear k1
    go_wp2_with fail
    refine calls_named ?_
    intro w3 hw3
    have b2 : Blk w3 w2.heap.size ([C].map (Value.int .i64)) 3 := by rw [hw3]; exact Blk.at rfl
    have hb3 : Below w2.heap.size w2 w3 := by rw [hw3]; repeat (first | exact below_alloc _ | refine below_trans ?_ (below_alloc _))
    clear hw3 c0 c1 c2
    refine (between_calls (some ⟨w2.heap.size, 0, none⟩) 1 [C] 1 4 w3 (blk_row b2) (by simp)).mono ?_
    rintro e w4 ⟨rfl, hb4⟩
    have b0 := (HB.out.1.kept hb3).kept hb4
    have hb := below_trans HB.out.2 (below_trans hb3 hb4)
    clear b2 hb3 hb4 HB
    have c0 := b0.cell (i := 0) rfl
    have c1 := b0.cell (i := 1) rfl
    have c2 := b0.cell (i := 2) rfl
    have c3 := b0.cell (i := 3) rfl
    have c5 := b0.cell (i := 5) rfl
    have HB := Lib.hid (And.intro b0 hb)
    clear b0 hb
    by_cases k2 : betw 1 4 [C] = true
    · rw [k2]
      have K2 := Lib.hid (betw_one.1 k2)
      clear k2
      obtain ⟨m1, m2, m3, m4⟩ := prod_small K1.out.1 K1.out.2 K2.out
      have hw1 : IntKind.i64.wrap (W * H) = W * H := by rw [IntWalk.i64_left]; unfold wrap64; omega
      have hw2 : IntKind.i64.wrap (W * H * C) = W * H * C := by rw [IntWalk.i64_left]; unfold wrap64; omega
      by_cases k3 : W * H * C ≤ 4096
      · have K3 := Lib.hid k3
        have hlt0 := HB.out.1.lt
        by_cases k4 : B = 8 ∨ B = 16
        · have hfin : ∀ w5 : World, w5 = w4.alloc (.cells (([1, 2, 4, 8].map (Value.int .i64)).toArray) 3) → Calls Try.prog 78 #[.slice (some ⟨w4.heap.size, 0, none⟩) 4 4, .int .i64 Pd] w5 fun e w' => e = .returned (.bool (hasB [1, 2, 4, 8] Pd)) ∧ Below w.heap.size w w' := by
            intro w5 hw5
            have b2 : Blk w5 w4.heap.size ([1, 2, 4, 8].map (Value.int .i64)) 3 := by rw [hw5]; exact Blk.at rfl
            have hb5 : Below w4.heap.size w4 w5 := by rw [hw5]; exact below_alloc _
            refine (contains_calls (some ⟨w4.heap.size, 0, none⟩) 4 [1, 2, 4, 8] Pd w5 (blk_row b2) (by simp)).mono ?_
            rintro e w6 ⟨rfl, hb6⟩
            exact ⟨rfl, below_trans HB.out.2 (below_trans hb5 hb6)⟩
          have HFIN := Lib.hid hfin
          have hpad : hasB [1, 2, 4, 8] Pd = decide (Pd = 1 ∨ Pd = 2 ∨ Pd = 4 ∨ Pd = 8) := by
            unfold hasB; rw [Bool.eq_iff_iff]; simp
          have HPAD := Lib.hid (show hasB [1, 2, 4, 8] Pd = shB W H C B Pd by
            unfold shB; rw [hpad, Bool.eq_iff_iff, decide_eq_true_iff, decide_eq_true_iff]
            exact ⟨fun h => ⟨K1.out.1.1, K1.out.1.2, K1.out.2.1, K1.out.2.2, K2.out.1, K2.out.2, K3.out, k4, h⟩, fun h => h.pad⟩)
          clear hfin hpad
          rcases k4 with rfl | rfl
          all_goals
            go_wp2_with fail
            refine (HFIN.out _ rfl).mono ?_
            rintro e w6 ⟨rfl, hb6⟩
            have HB6 := Lib.hid hb6
            clear hb6
            go_wp2
            go_ret
            exact ⟨ret_bool HPAD.out, HB6.out⟩
        · have e8 : (B == 8) = false := by simp; omega
          have e16 : (B == 16) = false := by simp; omega
          have hR := Lib.hid (show shB W H C B Pd = false from decide_eq_false (fun h => k4 h.bits))
          clear k4
          go_wp2
          go_ret
          exact ⟨ret_bool hR.out.symm, HB.out.2⟩
      · have hR := Lib.hid (show shB W H C B Pd = false from decide_eq_false (fun h => k3 h.most))
        go_wp2
        go_ret
        exact ⟨ret_bool hR.out.symm, HB.out.2⟩
    · have hR := Lib.hid (show shB W H C B Pd = false from decide_eq_false (fun h => k2 (betw_one.2 ⟨h.c1, h.c2⟩)))
      rw [show betw 1 4 [C] = false by simpa using k2]
      clear k2
      go_wp2
      go_ret
      exact ⟨ret_bool hR.out.symm, HB.out.2⟩
  · have hR := Lib.hid (show shB W H C B Pd = false from decide_eq_false (fun h => k1 (betw_two.2 ⟨⟨h.w1, h.w2⟩, ⟨h.h1, h.h2⟩⟩)))
    rw [show betw 1 64 [W, H] = false by simpa using k1]
    clear k1
    go_wp2
    go_ret
    exact ⟨ret_bool hR.out.symm, HB.out.2⟩
end Go.Proofs.Ytpgkhhdobolfbaa
