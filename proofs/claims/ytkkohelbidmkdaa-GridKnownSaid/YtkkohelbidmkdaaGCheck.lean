/-
  grid.product, the closures of grid.Check, slices.IndexFunc and ContainsFunc, grid.Check: what each call returns.
-/
import Derived.Test.YtkkohelbidmkdaaGSeq
namespace Go.Proofs.Ytkkohelbidmkdaa
set_option linter.unusedVariables false
set_option linter.unusedSimpArgs false
open Go.RowKit

/-- Is x outside of low .. high? -/
def outB (lo hi x : Int) : Bool := decide (x < lo) || decide (hi < x)
theorem outB_eq (lo hi x : Int) : outB lo hi x = (decide (x < lo) || decide (hi < x)) := rfl

def prodW (xs : List Int) : Int := xs.foldl (fun a x => wrap64 (a * x)) 1

set_option maxHeartbeats 400000 in
theorem product_calls (A : Option Addr) (c : Nat) (xs : List Int) (w : World) (h : Cs w .i64 A xs) (hl : xs.length ≤ 9223372036854775807) :
    Calls Try.prog 45 #[.slice A xs.length c] w fun e w' => e = .returned (.int .i64 (prodW xs)) ∧ w = w' := by
  have H := Lib.hid h
  clear h
  go_enter Try.func45, Try.ntmps45
  go_wp2
  go_loop [3, 8] (fun p i => ∃ k : Nat, k ≤ xs.length ∧ i = .int .i64 k ∧ p = .int .i64 (prodW (xs.take k))) (fun _ i => xs.length - (intOf i).toNat)
  case atStart => exact ⟨0, Nat.zero_le _, rfl, rfl⟩
  case round =>
    obtain ⟨k, hk, rfl, rfl⟩ := hrel
    by_cases hlt : k < xs.length
    · obtain ⟨x, b, o, hx, rfl, hc⟩ := H.out.at hlt
      have HX := Lib.hid hx
      clear hx
      go_wp2
      go_round
      case rel => exact ⟨k + 1, by omega, by go_num, by rw [take_at HX.out, prodW, prodW, List.foldl_append]; rfl⟩
      case measure => simp [intOf]; omega
    · go_wp2
      go_ret
      exact ⟨by rw [List.take_of_length_le (by omega)]; rfl, rfl⟩

set_option maxHeartbeats 400000 in
theorem outside_calls (x lo hi : Int) (b1 b2 : Nat) (w : World) (h1 : w.cell? ⟨b1, 0, none⟩ = some (.int .i64 lo)) (h2 : w.cell? ⟨b2, 0, none⟩ = some (.int .i64 hi)) :
    Calls Try.prog 48 #[.int .i64 x, .pointer (some ⟨b1, 0, none⟩), .pointer (some ⟨b2, 0, none⟩)] w fun e w' => e = .returned (.bool (outB lo hi x)) ∧ w = w' := by
  by_cases c : x < lo <;> by_cases d : hi < x
  all_goals
    go_enter Try.func48, Try.ntmps48
    go_wp2
    go_ret
    exact ⟨by simp [outB, c, d], rfl⟩

/-- A function value made by Check's closure: its two variables lie at b1 and b2. -/
def outF (b1 b2 : Nat) : Value := .func (.func 48) #[] #[.pointer (some ⟨b1, 0, none⟩), .pointer (some ⟨b2, 0, none⟩)]

structure Outs (w : World) (lo hi : Int) (b1 b2 : Nat) : Prop where
  c1 : w.cell? ⟨b1, 0, none⟩ = some (.int .i64 lo)
  c2 : w.cell? ⟨b2, 0, none⟩ = some (.int .i64 hi)

theorem Outs.kept {w w' : World} {lo hi : Int} {b1 b2 : Nat} (h : Outs w lo hi b1 b2) (hb : Below w.heap.size w w') : Outs w' lo hi b1 b2 :=
  ⟨Ytkkohelbidmkdaa.kept hb h.c1, Ytkkohelbidmkdaa.kept hb h.c2⟩

set_option maxHeartbeats 400000 in
theorem outsideMake_calls (lo hi : Int) (w : World) :
    Calls Try.prog 47 #[.int .i64 lo, .int .i64 hi] w fun e w' => ∃ b1 b2, e = .returned (.func (.func 48) #[] #[.pointer (some ⟨b1, 0, none⟩), .pointer (some ⟨b2, 0, none⟩)]) ∧
      Outs w' lo hi b1 b2 ∧ Below w.heap.size w w' := by
  go_enter Try.func47, Try.ntmps47
  go_wp2
  go_ret
  exact ⟨_, _, rfl, ⟨by simp, by simp⟩, below_trans (below_alloc _) (below_alloc _)⟩

set_option maxHeartbeats 400000 in
theorem indexFunc_calls (A : Option Addr) (c : Nat) (xs : List Int) (lo hi : Int) (b1 b2 : Nat) (w : World) (h : Cs w .i64 A xs) (hl : xs.length ≤ 9223372036854775807)
   (ho : Outs w lo hi b1 b2) :
    Calls Try.prog 53 #[.slice A xs.length c, .func (.func 48) #[] #[.pointer (some ⟨b1, 0, none⟩), .pointer (some ⟨b2, 0, none⟩)]] w fun e w' =>
      ∃ n : Int, e = .returned (.int .i64 n) ∧ decide (0 ≤ n) = xs.any (outB lo hi) ∧ w = w' := by
  have H := Lib.hid h
  clear h
  go_enter Try.func53, Try.ntmps53
  go_wp2
  go_loop [5, 8] (fun _ i => ∃ k : Nat, k ≤ xs.length ∧ i = .int .i64 k ∧ (xs.take k).any (outB lo hi) = false) (fun _ i => xs.length - (intOf i).toNat)
  case atStart => exact ⟨0, Nat.zero_le _, rfl, rfl⟩
  case round =>
    obtain ⟨k, hk, rfl, hn⟩ := hrel
    have HN := Lib.hid hn
    clear hn
    by_cases hlt : k < xs.length
    · obtain ⟨x, b, o, hx, rfl, hc⟩ := H.out.at hlt
      have HX := Lib.hid hx
      clear hx
      cases hb : outB lo hi x with
      | true =>
        go_wp2_with (go_at_call 48; refine (outside_calls _ lo hi b1 b2 _ ho.c1 ho.c2).mono ?_; rintro e w' ⟨rfl, rfl⟩)
        go_ret
        refine ⟨_, rfl, ?_, rfl⟩
        have : xs.any (outB lo hi) = true := List.any_eq_true.2 ⟨x, List.mem_of_getElem? HX.out, hb⟩
        rw [this]
        simp
      | false =>
        go_wp2_with (go_at_call 48; refine (outside_calls _ lo hi b1 b2 _ ho.c1 ho.c2).mono ?_; rintro e w' ⟨rfl, rfl⟩)
        go_round
        case rel => exact ⟨k + 1, by omega, by go_num, by rw [take_at HX.out, List.any_append, HN.out]; simp [hb]⟩
        case measure => simp [intOf]; omega
    · go_wp2
      go_ret
      exact ⟨_, rfl, by have := HN.out; rw [List.take_of_length_le (by omega)] at this; rw [this]; rfl, rfl⟩

set_option maxHeartbeats 400000 in
theorem containsFunc_calls (A : Option Addr) (c : Nat) (xs : List Int) (lo hi : Int) (b1 b2 : Nat) (w : World) (h : Cs w .i64 A xs) (hl : xs.length ≤ 9223372036854775807)
   (ho : Outs w lo hi b1 b2) :
    Calls Try.prog 49 #[.slice A xs.length c, .func (.func 48) #[] #[.pointer (some ⟨b1, 0, none⟩), .pointer (some ⟨b2, 0, none⟩)]] w fun e w' =>
      e = .returned (.bool (xs.any (outB lo hi))) ∧ w = w' := by
  go_enter Try.func49, Try.ntmps49
  go_wp2_with fail
  refine (indexFunc_calls A c xs lo hi b1 b2 w h hl ho).mono ?_
  rintro e w' ⟨n, rfl, hn, rfl⟩
  have HN := Lib.hid hn
  clear hn
  go_wp2
  go_ret
  exact ⟨ret_bool HN.out, rfl⟩

/-- What Check says of a grid. -/
def checkN (s : List Int) (o : Int) (d : List Int) : Int :=
  if s.length = 0 then 100 else if 4 < s.length then 100 else if outB 1 4 o then 100 else if s.any (outB 2 9) then 100
  else if (d.length : Int) ≠ wrap64 (prodW s * o) then 100 else if 4096 < d.length then 100 else if d.any (outB 0 65535) then 100 else 0

set_option maxHeartbeats 1000000 in
theorem check_calls (A B : Option Addr) (c e : Nat) (s d : List Int) (o : Int) (w : World) (hs : Cs w .i64 A s) (hd : Cs w .i64 B d) (ls : s.length ≤ 9223372036854775807) (ld : d.length ≤ 9223372036854775807) :
    Calls Try.prog 25 #[.agg #[.slice A s.length c, .int .i64 o, .slice B d.length e]] w fun r w' => r = .returned (.int .i64 (checkN s o d)) ∧ Below w.heap.size w w' := by
  go_enter Try.func25, Try.ntmps25
  go_wp2_with fail
  refine wp_named ?_
  intro w1 hw1
  have hb1 : Below w.heap.size w w1 := by rw [hw1]; exact below_alloc _
  have k0 : w1.cell? ⟨w.heap.size, 0, none⟩ = some (.slice A s.length c) := by rw [hw1]; simp
  have k1 : w1.cell? ⟨w.heap.size, 1, none⟩ = some (.int .i64 o) := by rw [hw1]; simp
  have k2 : w1.cell? ⟨w.heap.size, 2, none⟩ = some (.slice B d.length e) := by rw [hw1]; simp
  clear hw1
  have HS := Lib.hid (hs.kept hb1)
  have HD := Lib.hid (hd.kept hb1)
  clear hs hd
  by_cases c1 : s.length = 0
  · have c1b : ((s.length : Int) == 0) = true := by simp [c1]
    have C1 := Lib.hid c1
    clear c1
    refine wp_seq_all (fun _ => false) (fun _ _ => undef) (fun _ _ _ => True) (by kernel_rfl) (by kernel_rfl) (fun _ _ _ _ _ _ => trivial) ?_
    repeat (first | (refine seq_skip (by rfl) ?_; simp only [Act.put, List.setIfInBounds_toArray, List.set_cons_zero, List.set_cons_succ, Nat.reduceAdd]) | (refine seq_pure (v := ?_) (by rfl) (by rfl) (fun W hW hC => ?_) ?_; rotate_left; (go_simp <;> with_reducible rfl); simp only [Act.put, List.setIfInBounds_toArray, List.set_cons_zero, List.set_cons_succ, Nat.reduceAdd]))
    refine seq_nil ?_; intro W hW hF
    go_wp2
    go_ret
    exact ⟨by simp [checkN, C1.out], below_trans hb1 hW⟩
  have c1b : ((s.length : Int) == 0) = false := by simp [c1]
  have C1 := Lib.hid c1
  clear c1
  by_cases c2 : 4 < s.length
  · have c2b : decide ((4 : Int) < (s.length : Int)) = true := by simp; omega
    have C2 := Lib.hid c2
    clear c2
    refine wp_seq_all (fun _ => false) (fun _ _ => undef) (fun _ _ _ => True) (by kernel_rfl) (by kernel_rfl) (fun _ _ _ _ _ _ => trivial) ?_
    repeat (first | (refine seq_skip (by rfl) ?_; simp only [Act.put, List.setIfInBounds_toArray, List.set_cons_zero, List.set_cons_succ, Nat.reduceAdd]) | (refine seq_pure (v := ?_) (by rfl) (by rfl) (fun W hW hC => ?_) ?_; rotate_left; (go_simp <;> with_reducible rfl); simp only [Act.put, List.setIfInBounds_toArray, List.set_cons_zero, List.set_cons_succ, Nat.reduceAdd]))
    refine seq_nil ?_; intro W hW hF
    go_wp2
    go_ret
    exact ⟨by simp [checkN, C1.out, C2.out], below_trans hb1 hW⟩
  have c2b : decide ((4 : Int) < (s.length : Int)) = false := by simp; omega
  have C2 := Lib.hid c2
  clear c2
  cases c3 : outB 1 4 o with
  | true =>
    refine wp_seq_all (fun k => k == 12 || k == 15) (fun k x => if k = 12 then .func (.func 48) #[] #[.pointer (some ⟨x.i, 0, none⟩), .pointer (some ⟨x.j, 0, none⟩)] else .bool true)
      (fun k x W => k = 12 → Outs W 1 4 x.i x.j) (by kernel_rfl) (by kernel_rfl) (fun k x A B hb h e => (h e).kept hb) ?_
    repeat (first | (refine seq_skip (by rfl) ?_; simp only [Act.put, List.setIfInBounds_toArray, List.set_cons_zero, List.set_cons_succ, Nat.reduceAdd]) | (refine seq_pure (v := ?_) (by rfl) (by rfl) (fun W hW hC => ?_) ?_; rotate_left; (go_simp <;> with_reducible rfl); simp only [Act.put, List.setIfInBounds_toArray, List.set_cons_zero, List.set_cons_succ, Nat.reduceAdd]))
    refine seq_made (by rfl) (by rfl) (fun W hW hC hF R hR => ?_) (fun x => ?_)
    · unfold Gives; go_simp; refine (outsideMake_calls _ _ _).mono ?_; rintro e w2 ⟨b1, b2, rfl, ho, hb⟩; exact ⟨_, rfl, hR {i := b1, j := b2} _ hb (fun _ => ho)⟩
    simp only [↓reduceIte]; simp only [Act.put, List.setIfInBounds_toArray, List.set_cons_zero, List.set_cons_succ, Nat.reduceAdd]
    repeat (first | (refine seq_skip (by rfl) ?_; simp only [Act.put, List.setIfInBounds_toArray, List.set_cons_zero, List.set_cons_succ, Nat.reduceAdd]) | (refine seq_pure (v := ?_) (by rfl) (by rfl) (fun W hW hC => ?_) ?_; rotate_left; (go_simp <;> with_reducible rfl); simp only [Act.put, List.setIfInBounds_toArray, List.set_cons_zero, List.set_cons_succ, Nat.reduceAdd]))
    refine seq_made (by rfl) (by rfl) (fun W hW hC hF R hR => ?_) (fun y => ?_)
    · have ho : Outs W 1 4 x.i x.j := hF _ _ (List.mem_cons_self ..) (by kernel_rfl) (by simp)
      unfold Gives; go_simp; refine (outside_calls _ _ _ _ _ _ ho.c1 ho.c2).mono ?_; rintro e w2 ⟨rfl, rfl⟩; exact ⟨_, rfl, by rw [c3]; exact hR {} _ (Below.refl _ _) (fun e => by cases e)⟩
    simp only [↓reduceIte, Nat.reduceEqDiff]; simp only [Act.put, List.setIfInBounds_toArray, List.set_cons_zero, List.set_cons_succ, Nat.reduceAdd]
    repeat (first | (refine seq_skip (by rfl) ?_; simp only [Act.put, List.setIfInBounds_toArray, List.set_cons_zero, List.set_cons_succ, Nat.reduceAdd]) | (refine seq_pure (v := ?_) (by rfl) (by rfl) (fun W hW hC => ?_) ?_; rotate_left; (go_simp <;> with_reducible rfl); simp only [Act.put, List.setIfInBounds_toArray, List.set_cons_zero, List.set_cons_succ, Nat.reduceAdd]))
    refine seq_nil ?_; intro W hW hF
    go_wp2
    go_ret
    exact ⟨by simp [checkN, C1.out, C2.out, c3], below_trans hb1 hW⟩
  | false =>
    refine wp_seq_all (fun k => k == 12 || k == 15 || k == 21 || k == 22) (fun k x => if k = 12 then .func (.func 48) #[] #[.pointer (some ⟨x.i, 0, none⟩), .pointer (some ⟨x.j, 0, none⟩)] else if k = 21 then .func (.func 48) #[] #[.pointer (some ⟨x.i, 0, none⟩), .pointer (some ⟨x.j, 0, none⟩)] else if k = 15 then .bool false else .bool (s.any (outB 2 9)))
      (fun k x W => (k = 12 → Outs W 1 4 x.i x.j) ∧ (k = 21 → Outs W 2 9 x.i x.j)) (by kernel_rfl) (by kernel_rfl) (fun k x A B hb h => ⟨fun e => (h.1 e).kept hb, fun e => (h.2 e).kept hb⟩) ?_
    repeat (first | (refine seq_skip (by rfl) ?_; simp only [Act.put, List.setIfInBounds_toArray, List.set_cons_zero, List.set_cons_succ, Nat.reduceAdd]) | (refine seq_pure (v := ?_) (by rfl) (by rfl) (fun W hW hC => ?_) ?_; rotate_left; (go_simp <;> with_reducible rfl); simp only [Act.put, List.setIfInBounds_toArray, List.set_cons_zero, List.set_cons_succ, Nat.reduceAdd]))
    refine seq_made (by rfl) (by rfl) (fun W hW hC hF R hR => ?_) (fun x => ?_)
    · unfold Gives; go_simp; refine (outsideMake_calls _ _ _).mono ?_; rintro e w2 ⟨b1, b2, rfl, ho, hb⟩; exact ⟨_, rfl, hR {i := b1, j := b2} _ hb ⟨fun _ => ho, (fun e => absurd e (by decide))⟩⟩
    simp only [↓reduceIte]; simp only [Act.put, List.setIfInBounds_toArray, List.set_cons_zero, List.set_cons_succ, Nat.reduceAdd]
    repeat (first | (refine seq_skip (by rfl) ?_; simp only [Act.put, List.setIfInBounds_toArray, List.set_cons_zero, List.set_cons_succ, Nat.reduceAdd]) | (refine seq_pure (v := ?_) (by rfl) (by rfl) (fun W hW hC => ?_) ?_; rotate_left; (go_simp <;> with_reducible rfl); simp only [Act.put, List.setIfInBounds_toArray, List.set_cons_zero, List.set_cons_succ, Nat.reduceAdd]))
    refine seq_made (by rfl) (by rfl) (fun W hW hC hF R hR => ?_) (fun y => ?_)
    · have ho : Outs W 1 4 x.i x.j := (hF _ _ (List.mem_cons_self ..) (by kernel_rfl)).1 (by simp)
      unfold Gives; go_simp; refine (outside_calls _ _ _ _ _ _ ho.c1 ho.c2).mono ?_; rintro e w2 ⟨rfl, rfl⟩; exact ⟨_, rfl, by rw [c3]; exact hR {} _ (Below.refl _ _) ⟨(fun e => absurd e (by decide)), (fun e => absurd e (by decide))⟩⟩
    simp only [↓reduceIte, Nat.reduceEqDiff]; simp only [Act.put, List.setIfInBounds_toArray, List.set_cons_zero, List.set_cons_succ, Nat.reduceAdd]
    repeat (first | (refine seq_skip (by rfl) ?_; simp only [Act.put, List.setIfInBounds_toArray, List.set_cons_zero, List.set_cons_succ, Nat.reduceAdd]) | (refine seq_pure (v := ?_) (by rfl) (by rfl) (fun W hW hC => ?_) ?_; rotate_left; (go_simp <;> with_reducible rfl); simp only [Act.put, List.setIfInBounds_toArray, List.set_cons_zero, List.set_cons_succ, Nat.reduceAdd]))
    refine seq_made (by rfl) (by rfl) (fun W hW hC hF R hR => ?_) (fun z => ?_)
    · unfold Gives; go_simp; refine (outsideMake_calls _ _ _).mono ?_; rintro e w2 ⟨b1, b2, rfl, ho, hb⟩; exact ⟨_, rfl, hR {i := b1, j := b2} _ hb ⟨(fun e => absurd e (by decide)), fun _ => ho⟩⟩
    simp only [↓reduceIte, Nat.reduceEqDiff]; simp only [Act.put, List.setIfInBounds_toArray, List.set_cons_zero, List.set_cons_succ, Nat.reduceAdd]
    repeat (first | (refine seq_skip (by rfl) ?_; simp only [Act.put, List.setIfInBounds_toArray, List.set_cons_zero, List.set_cons_succ, Nat.reduceAdd]) | (refine seq_pure (v := ?_) (by rfl) (by rfl) (fun W hW hC => ?_) ?_; rotate_left; (go_simp <;> with_reducible rfl); simp only [Act.put, List.setIfInBounds_toArray, List.set_cons_zero, List.set_cons_succ, Nat.reduceAdd]))
    refine seq_made (by rfl) (by rfl) (fun W hW hC hF R hR => ?_) (fun u => ?_)
    · have ho : Outs W 2 9 z.i z.j := (hF _ _ (List.mem_cons_self ..) (by kernel_rfl)).2 (by simp)
      unfold Gives; go_simp; refine (containsFunc_calls _ _ _ 2 9 _ _ _ (HS.out.kept hW) ls ho).mono ?_; rintro e w2 ⟨rfl, rfl⟩; exact ⟨_, rfl, hR {} _ (Below.refl _ _) ⟨(fun e => absurd e (by decide)), (fun e => absurd e (by decide))⟩⟩
    simp only [↓reduceIte, Nat.reduceEqDiff]; simp only [Act.put, List.setIfInBounds_toArray, List.set_cons_zero, List.set_cons_succ, Nat.reduceAdd]
    repeat (first | (refine seq_skip (by rfl) ?_; simp only [Act.put, List.setIfInBounds_toArray, List.set_cons_zero, List.set_cons_succ, Nat.reduceAdd]) | (refine seq_pure (v := ?_) (by rfl) (by rfl) (fun W hW hC => ?_) ?_; rotate_left; (go_simp <;> with_reducible rfl); simp only [Act.put, List.setIfInBounds_toArray, List.set_cons_zero, List.set_cons_succ, Nat.reduceAdd]))
    refine seq_nil ?_; intro W hW hF
    have hb1W := below_trans hb1 hW
    have HS2 := Lib.hid (HS.out.kept hW)
    have HD2 := Lib.hid (HD.out.kept hW)
    replace k0 := kept hW k0
    replace k1 := kept hW k1
    replace k2 := kept hW k2
    have HC3 := Lib.hid c3
    clear HS HD hb1 hW hF c1b c2b c3
    cases c4 : s.any (outB 2 9) with
    | true =>
      have HC4 := Lib.hid c4
      clear c4
      go_wp2
      go_ret
      exact ⟨by simp [checkN, C1.out, C2.out, HC3.out, HC4.out], hb1W⟩
    | false =>
    have HC4 := Lib.hid c4
    clear c4
    go_wp2_with fail
    have hwr : IntKind.i64.wrap (prodW s * o) = wrap64 (prodW s * o) := IntWalk.i64_left _
    by_cases c5 : (d.length : Int) = wrap64 (prodW s * o)
    · have c5b : ((d.length : Int) != wrap64 (prodW s * o)) = false := by simp [← c5]
      have HC5 := Lib.hid c5
      clear c5
      by_cases c6 : 4096 < d.length
      · have c6b : decide ((4096 : Int) < (d.length : Int)) = true := by simp; omega
        have HC6 := Lib.hid c6
        clear c6
        refine wp_seq_all (fun k => k == 3) (fun _ _ => .int .i64 (prodW s)) (fun _ _ _ => True) (by kernel_rfl) (by kernel_rfl) (fun _ _ _ _ _ _ => trivial) ?_
        repeat (first | (refine seq_skip (by rfl) ?_; simp only [Act.put, List.setIfInBounds_toArray, List.set_cons_zero, List.set_cons_succ, Nat.reduceAdd]) | (refine seq_pure (v := ?_) (by rfl) (by rfl) (fun W hW hC => ?_) ?_; rotate_left; (go_simp <;> with_reducible rfl); simp only [Act.put, List.setIfInBounds_toArray, List.set_cons_zero, List.set_cons_succ, Nat.reduceAdd]))
        refine seq_made (by rfl) (by rfl) (fun W hW hC hF R hR => ?_) (fun x => ?_)
        · unfold Gives; go_simp; refine (product_calls _ _ _ _ (HS2.out.kept hW) ls).mono ?_; rintro e w2 ⟨rfl, rfl⟩; exact ⟨_, rfl, hR {} _ (Below.refl _ _) trivial⟩
        (try simp only [↓reduceIte]); simp only [Act.put, List.setIfInBounds_toArray, List.set_cons_zero, List.set_cons_succ, Nat.reduceAdd]
        repeat (first | (refine seq_skip (by rfl) ?_; simp only [Act.put, List.setIfInBounds_toArray, List.set_cons_zero, List.set_cons_succ, Nat.reduceAdd]) | (refine seq_pure (v := ?_) (by rfl) (by rfl) (fun W hW hC => ?_) ?_; rotate_left; (go_simp <;> with_reducible rfl); simp only [Act.put, List.setIfInBounds_toArray, List.set_cons_zero, List.set_cons_succ, Nat.reduceAdd]))
        refine seq_nil ?_; intro W2 hW2 hF
        go_wp2
        go_ret
        exact ⟨by simp [checkN, C1.out, C2.out, HC3.out, HC4.out, HC5.out, HC6.out], below_trans hb1W hW2⟩
      · have c6b : decide ((4096 : Int) < (d.length : Int)) = false := by simp; omega
        have HC6 := Lib.hid c6
        clear c6
        refine wp_seq_all (fun k => k == 3 || k == 16 || k == 17) (fun k x => if k = 3 then .int .i64 (prodW s) else if k = 16 then .func (.func 48) #[] #[.pointer (some ⟨x.i, 0, none⟩), .pointer (some ⟨x.j, 0, none⟩)] else .bool (d.any (outB 0 65535))) (fun k x W => k = 16 → Outs W 0 65535 x.i x.j) (by kernel_rfl) (by kernel_rfl) (fun k x A B hb h e => (h e).kept hb) ?_
        repeat (first | (refine seq_skip (by rfl) ?_; simp only [Act.put, List.setIfInBounds_toArray, List.set_cons_zero, List.set_cons_succ, Nat.reduceAdd]) | (refine seq_pure (v := ?_) (by rfl) (by rfl) (fun W hW hC => ?_) ?_; rotate_left; (go_simp <;> with_reducible rfl); simp only [Act.put, List.setIfInBounds_toArray, List.set_cons_zero, List.set_cons_succ, Nat.reduceAdd]))
        refine seq_made (by rfl) (by rfl) (fun W hW hC hF R hR => ?_) (fun x => ?_)
        · unfold Gives; go_simp; refine (product_calls _ _ _ _ (HS2.out.kept hW) ls).mono ?_; rintro e w2 ⟨rfl, rfl⟩; exact ⟨_, rfl, hR {} _ (Below.refl _ _) (fun e => absurd e (by decide))⟩
        (try simp only [↓reduceIte]); simp only [Act.put, List.setIfInBounds_toArray, List.set_cons_zero, List.set_cons_succ, Nat.reduceAdd]
        repeat (first | (refine seq_skip (by rfl) ?_; simp only [Act.put, List.setIfInBounds_toArray, List.set_cons_zero, List.set_cons_succ, Nat.reduceAdd]) | (refine seq_pure (v := ?_) (by rfl) (by rfl) (fun W hW hC => ?_) ?_; rotate_left; (go_simp <;> with_reducible rfl); simp only [Act.put, List.setIfInBounds_toArray, List.set_cons_zero, List.set_cons_succ, Nat.reduceAdd]))
        refine seq_made (by rfl) (by rfl) (fun W hW hC hF R hR => ?_) (fun y => ?_)
        · unfold Gives; go_simp; refine (outsideMake_calls _ _ _).mono ?_; rintro e w2 ⟨b1, b2, rfl, ho, hb⟩; exact ⟨_, rfl, hR {i := b1, j := b2} _ hb (fun _ => ho)⟩
        simp only [↓reduceIte, Nat.reduceEqDiff]; simp only [Act.put, List.setIfInBounds_toArray, List.set_cons_zero, List.set_cons_succ, Nat.reduceAdd]
        repeat (first | (refine seq_skip (by rfl) ?_; simp only [Act.put, List.setIfInBounds_toArray, List.set_cons_zero, List.set_cons_succ, Nat.reduceAdd]) | (refine seq_pure (v := ?_) (by rfl) (by rfl) (fun W hW hC => ?_) ?_; rotate_left; (go_simp <;> with_reducible rfl); simp only [Act.put, List.setIfInBounds_toArray, List.set_cons_zero, List.set_cons_succ, Nat.reduceAdd]))
        refine seq_made (by rfl) (by rfl) (fun W hW hC hF R hR => ?_) (fun u => ?_)
        · have ho : Outs W 0 65535 y.i y.j := hF _ _ (List.mem_cons_self ..) (by kernel_rfl) (by simp)
          unfold Gives; go_simp; refine (containsFunc_calls _ _ _ 0 65535 _ _ _ (HD2.out.kept hW) ld ho).mono ?_; rintro e w2 ⟨rfl, rfl⟩; exact ⟨_, rfl, hR {} _ (Below.refl _ _) (fun e => absurd e (by decide))⟩
        simp only [↓reduceIte, Nat.reduceEqDiff]; simp only [Act.put, List.setIfInBounds_toArray, List.set_cons_zero, List.set_cons_succ, Nat.reduceAdd]
        repeat (first | (refine seq_skip (by rfl) ?_; simp only [Act.put, List.setIfInBounds_toArray, List.set_cons_zero, List.set_cons_succ, Nat.reduceAdd]) | (refine seq_pure (v := ?_) (by rfl) (by rfl) (fun W hW hC => ?_) ?_; rotate_left; (go_simp <;> with_reducible rfl); simp only [Act.put, List.setIfInBounds_toArray, List.set_cons_zero, List.set_cons_succ, Nat.reduceAdd]))
        refine seq_nil ?_; intro W2 hW2 hF
        cases c7 : d.any (outB 0 65535) with
        | true =>
          have HC7 := Lib.hid c7
          clear c7
          go_wp2
          go_ret
          exact ⟨by simp [checkN, C1.out, C2.out, HC3.out, HC4.out, HC5.out, HC6.out, HC7.out], below_trans hb1W hW2⟩
        | false =>
          have HC7 := Lib.hid c7
          clear c7
          go_wp2
          go_ret
          exact ⟨by simp [checkN, C1.out, C2.out, HC3.out, HC4.out, HC5.out, HC6.out, HC7.out], below_trans hb1W hW2⟩
    · have c5b : ((d.length : Int) != wrap64 (prodW s * o)) = true := by simp [c5]
      have HC5 := Lib.hid c5
      clear c5
      refine wp_seq_all (fun k => k == 3) (fun _ _ => .int .i64 (prodW s)) (fun _ _ _ => True) (by kernel_rfl) (by kernel_rfl) (fun _ _ _ _ _ _ => trivial) ?_
      repeat (first | (refine seq_skip (by rfl) ?_; simp only [Act.put, List.setIfInBounds_toArray, List.set_cons_zero, List.set_cons_succ, Nat.reduceAdd]) | (refine seq_pure (v := ?_) (by rfl) (by rfl) (fun W hW hC => ?_) ?_; rotate_left; (go_simp <;> with_reducible rfl); simp only [Act.put, List.setIfInBounds_toArray, List.set_cons_zero, List.set_cons_succ, Nat.reduceAdd]))
      refine seq_made (by rfl) (by rfl) (fun W hW hC hF R hR => ?_) (fun x => ?_)
      · unfold Gives; go_simp; refine (product_calls _ _ _ _ (HS2.out.kept hW) ls).mono ?_; rintro e w2 ⟨rfl, rfl⟩; exact ⟨_, rfl, hR {} _ (Below.refl _ _) trivial⟩
      (try simp only [↓reduceIte]); simp only [Act.put, List.setIfInBounds_toArray, List.set_cons_zero, List.set_cons_succ, Nat.reduceAdd]
      repeat (first | (refine seq_skip (by rfl) ?_; simp only [Act.put, List.setIfInBounds_toArray, List.set_cons_zero, List.set_cons_succ, Nat.reduceAdd]) | (refine seq_pure (v := ?_) (by rfl) (by rfl) (fun W hW hC => ?_) ?_; rotate_left; (go_simp <;> with_reducible rfl); simp only [Act.put, List.setIfInBounds_toArray, List.set_cons_zero, List.set_cons_succ, Nat.reduceAdd]))
      refine seq_nil ?_; intro W2 hW2 hF
      go_wp2
      go_ret
      exact ⟨by simp [checkN, C1.out, C2.out, HC3.out, HC4.out, HC5.out], below_trans hb1W hW2⟩
end Go.Proofs.Ytkkohelbidmkdaa
