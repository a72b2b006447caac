/-
  slices.Clone, slices.Equal, grid.Same, grid.start, grid.place, grid.values, grid.Place, grid.At: what each call returns.
-/
import Derived.Test.YtkkohelbidmkdaaGCheck
namespace Go.Proofs.Ytkkohelbidmkdaa
set_option linter.unusedVariables false
set_option linter.unusedSimpArgs false
open Go.RowKit

/-- The place of an index, before it is multiplied by the outputs. -/
def placeN (s p : List Int) : Int := (s.zip p).foldl (fun n mp => wrap64 (wrap64 (n * mp.1) + mp.2)) 0

theorem foldl_take {α β : Type} (f : β → α → β) (b : β) {l : List α} {k : Nat} {x : α} (h : l[k]? = some x) : (l.take (k + 1)).foldl f b = f ((l.take k).foldl f b) x := by
  rw [take_at h, List.foldl_append]; rfl

theorem zip_take {α β : Type} (l : List α) (m : List β) (k : Nat) : (l.take k).zip m = (l.zip m).take k := by
  induction l generalizing m k with
  | nil => simp
  | cons x l ih => cases m <;> cases k <;> simp [ih]

set_option maxHeartbeats 400000 in
theorem place_calls (A B : Option Addr) (c e : Nat) (s d : List Int) (o : Int) (p0 p1 p2 p3 : Int) (w : World) (hs : Cs w .i64 A s) (ls : s.length ≤ 4) :
    Calls Try.prog 35 #[.agg #[.slice A s.length c, .int .i64 o, .slice B d.length e], .agg #[.int .i64 p0, .int .i64 p1, .int .i64 p2, .int .i64 p3]] w fun r w' =>
      r = .returned (.int .i64 (wrap64 (placeN s [p0, p1, p2, p3] * o))) ∧ Below w.heap.size w w' := by
  have HS := Lib.hid hs
  clear hs
  go_enter Try.func35, Try.ntmps35
  go_wp2_with fail
  refine wp_named ?_
  intro w1 hw1
  have hb1 : Below w.heap.size w w1 := by rw [hw1]; exact below_trans (below_alloc _) (below_alloc _)
  have bt : Blk w1 w.heap.size [.slice A s.length c, .int .i64 o, .slice B d.length e] 67 := by rw [hw1]; exact (Blk.new _ _ _).alloc _
  have bp : Blk w1 (w.heap.size + 1) [.int .i64 p0, .int .i64 p1, .int .i64 p2, .int .i64 p3] 69 := by rw [hw1]; have := Blk.new (w.alloc (.cells #[.slice A s.length c, .int .i64 o, .slice B d.length e] 67)) [.int .i64 p0, .int .i64 p1, .int .i64 p2, .int .i64 p3] 69; rwa [World.size_alloc] at this
  have HS1 := Lib.hid (HS.out.kept hb1)
  have k1 := bt.cell (i := 1) rfl
  clear hw1 HS
  have hps : ∀ k : Nat, k < s.length → ∃ p, [p0, p1, p2, p3][k]? = some p ∧ w1.cell? ⟨w.heap.size + 1, k, none⟩ = some (.int .i64 p) := by
    intro k hk
    match k, hk with
    | 0, _ => exact ⟨p0, rfl, bp.cell rfl⟩
    | 1, _ => exact ⟨p1, rfl, bp.cell rfl⟩
    | 2, _ => exact ⟨p2, rfl, bp.cell rfl⟩
    | 3, _ => exact ⟨p3, rfl, bp.cell rfl⟩
    | n + 4, h => omega
  have HPS := Lib.hid hps
  clear hps bt bp
  go_loop [5, 12] (fun n i => ∃ k : Nat, k ≤ s.length ∧ i = .int .i64 k ∧ n = .int .i64 (placeN (s.take k) [p0, p1, p2, p3])) (fun _ i => s.length - (intOf i).toNat)
  case atStart => exact ⟨0, Nat.zero_le _, rfl, rfl⟩
  case round =>
    obtain ⟨k, hk, rfl, rfl⟩ := hrel
    by_cases hlt : k < s.length
    · obtain ⟨x, b, off, hx, rfl, hc⟩ := HS1.out.at hlt
      obtain ⟨p, hp, hcp⟩ := HPS.out k hlt
      have HX := Lib.hid (And.intro hx hp)
      clear hx hp
      go_wp2
      go_round
      case rel => exact ⟨k + 1, by omega, by go_num, by rw [placeN, placeN, zip_take, zip_take, foldl_take _ _ (x := (x, p)) (List.getElem?_zip_eq_some.2 ⟨HX.out.1, HX.out.2⟩)]⟩
      case measure => simp [intOf]; omega
    · go_wp2
      go_ret
      exact ⟨by rw [List.take_of_length_le (by omega)]; rfl, hb1⟩

set_option maxHeartbeats 400000 in
theorem clone_calls (A : Option Addr) (c : Nat) (xs : List Int) (w : World) (hs : Cs w .i64 A xs) (hA : A = none → c = 0) (hlen : xs.length * 8 ≤ 140737488355328) :
    Calls Try.prog 12 #[.slice A xs.length c] w fun r w' => ∃ v, r = .returned v ∧ Own w' w.heap.size v xs ∧ Below w.heap.size w w' := by
  have qT : ∀ (w : World) (a : Option Addr) (n c n' c' : Nat), (binOp .eql 22 (.slice a n c) (.slice none n' c')).run Try.prog w = .ok (.bool a.isNone) w := fun w a n c n' c' => Lib.run_eql_slice_nil w _ _ a n c n' c' Try.underlying22
  cases A with
  | none =>
    have hxs : xs = [] := by
      cases xs with
      | nil => rfl
      | cons y ys => obtain ⟨b, o, e, _⟩ := hs 0 y rfl; cases e
    subst hxs
    clear hs
    go_enter Try.func12, Try.ntmps12
    go_wp2
    go_ret
    exact ⟨_, rfl, Own.nil _ _, Below.refl _ _⟩
  | some ad =>
    have hown : Own (w.alloc (.cells #[] 3)) w.heap.size (.slice (some ⟨w.heap.size, 0, none⟩) 0 0) [] :=
      ⟨rfl, .inr ⟨w.heap.size, 0, #[], rfl, Nat.le_refl _, heap_alloc_new w _, Nat.le_refl _, Nat.zero_le _, rfl, rfl⟩⟩
    have HO := Lib.hid hown
    have HS := Lib.hid (hs.kept (below_alloc (.cells #[] 3)))
    clear hs hown
    go_enter Try.func12, Try.ntmps12
    go_wp2_with (at_builtin; refine append_ints rfl _ _ rfl w.heap.size _ [] rfl HO.out (some ad) c xs rfl HS.out (fun e => by cases e) (by simpa using hlen) (by simp) ?_; intro v' w1 hown1 hg1; have HB := Lib.hid (HO.out.below hg1 (Nat.le_refl _) (below_alloc _)); clear hg1)
    go_ret
    exact ⟨_, rfl, hown1, HB.out⟩

set_option maxHeartbeats 400000 in
theorem equal_calls (A B : Option Addr) (c e : Nat) (xs ys : List Int) (w : World) (hx : Cs w .i64 A xs) (hy : Cs w .i64 B ys) (lx : xs.length ≤ 9223372036854775807) (_ly : ys.length ≤ 9223372036854775807) :
    Calls Try.prog 17 #[.slice A xs.length c, .slice B ys.length e] w fun r w' => r = .returned (.bool (decide (xs = ys))) ∧ Below w.heap.size w w' := by
  have HX := Lib.hid hx
  have HY := Lib.hid hy
  clear hx hy
  by_cases hl : xs.length = ys.length
  · have hlb : ((xs.length : Int) != (ys.length : Int)) = false := by simp [hl]
    have HL := Lib.hid hl
    clear hl
    go_enter Try.func17, Try.ntmps17
    go_wp2_with fail
    go_loopw [5, 13] (fun _ i wr => ∃ k : Nat, k ≤ xs.length ∧ i = .int .i64 k ∧ xs.take k = ys.take k ∧ Below w.heap.size w wr) (fun _ i _ => xs.length - (intOf i).toNat)
    case atStart => exact ⟨0, Nat.zero_le _, rfl, rfl, Below.refl _ _⟩
    case round =>
      obtain ⟨k, hk, rfl, htk, hbr⟩ := hrel
      have HT := Lib.hid htk
      clear htk
      by_cases hlt : k < xs.length
      · obtain ⟨x, b, off, hx, rfl, hc⟩ := HX.out.at hlt
        obtain ⟨y, b', off', hy, rfl, hc'⟩ := HY.out.at (i := k) (by have := HL.out; omega)
        have HXY := Lib.hid (And.intro hx hy)
        have hlt' : k < ys.length := by have := HL.out; omega
        clear hx hy
        replace hc := kept hbr hc
        replace hc' := kept hbr hc'
        by_cases hxy : x = y
        · have hb : (x != y) = false := by simp [hxy]
          have HE := Lib.hid hxy
          clear hxy
          go_wp2_with fail
          refine wp_seq_all (fun _ => false) (fun _ _ => undef) (fun _ _ _ => True) (by kernel_rfl) (by kernel_rfl) (fun _ _ _ _ _ _ => trivial) ?_
          repeat (first | (refine seq_skip (by rfl) ?_; simp only [Act.put, List.setIfInBounds_toArray, List.set_cons_zero, List.set_cons_succ, Nat.reduceAdd]) | (refine seq_pure (v := ?_) (by rfl) (by rfl) (fun W hW hC => ?_) ?_; rotate_left; (go_simp <;> with_reducible rfl); simp only [Act.put, List.setIfInBounds_toArray, List.set_cons_zero, List.set_cons_succ, Nat.reduceAdd]))
          refine seq_nil ?_; intro W hW hF
          go_wp2
          go_roundw
          case rel => exact ⟨k + 1, by omega, by go_num, by rw [take_at HXY.out.1, take_at HXY.out.2, HT.out, HE.out], hbr.trans (hW.mono hbr.size)⟩
          case measure => simp [intOf]; omega
        · have hb : (x != y) = true := by simp [hxy]
          have HE := Lib.hid hxy
          clear hxy
          go_wp2_with fail
          refine wp_seq_all (fun _ => false) (fun _ _ => undef) (fun _ _ _ => True) (by kernel_rfl) (by kernel_rfl) (fun _ _ _ _ _ _ => trivial) ?_
          repeat (first | (refine seq_skip (by rfl) ?_; simp only [Act.put, List.setIfInBounds_toArray, List.set_cons_zero, List.set_cons_succ, Nat.reduceAdd]) | (refine seq_pure (v := ?_) (by rfl) (by rfl) (fun W hW hC => ?_) ?_; rotate_left; (go_simp <;> with_reducible rfl); simp only [Act.put, List.setIfInBounds_toArray, List.set_cons_zero, List.set_cons_succ, Nat.reduceAdd]))
          refine seq_nil ?_; intro W hW hF
          go_wp2
          go_ret
          have hne : xs ≠ ys := by
            intro h
            have h1 := HXY.out.1
            rw [h, HXY.out.2] at h1
            exact HE.out (Option.some.inj h1).symm
          exact ⟨ret_bool (by simp [hne]), hbr.trans (hW.mono hbr.size)⟩
      · go_wp2
        go_ret
        have heq : xs = ys := by have := HT.out; rwa [List.take_of_length_le (by omega), List.take_of_length_le (by have := HL.out; omega)] at this
        exact ⟨ret_bool (by simp [heq]), hbr⟩
  · have hlb : ((xs.length : Int) != (ys.length : Int)) = true := by simp; omega
    have HL := Lib.hid hl
    clear hl
    go_enter Try.func17, Try.ntmps17
    go_wp2
    go_ret
    have hne : xs ≠ ys := fun h => HL.out (by rw [h])
    exact ⟨ret_bool (by simp [hne]), Below.refl _ _⟩

set_option maxHeartbeats 800000 in
theorem same_calls (A B A' B' : Option Addr) (c e c' e' : Nat) (s d s' d' : List Int) (o o' : Int) (w : World) (hs : Cs w .i64 A s) (hd : Cs w .i64 B d) (hs' : Cs w .i64 A' s') (hd' : Cs w .i64 B' d')
    (ls : s.length ≤ 9223372036854775807) (ld : d.length ≤ 9223372036854775807) (ls' : s'.length ≤ 9223372036854775807) (ld' : d'.length ≤ 9223372036854775807) :
    Calls Try.prog 31 #[.agg #[.slice A s.length c, .int .i64 o, .slice B d.length e], .agg #[.slice A' s'.length c', .int .i64 o', .slice B' d'.length e']] w fun r w' => r = .returned (.bool (decide (s = s') && decide (o = o') && decide (d = d'))) ∧ Below w.heap.size w w' := by
  have HS := Lib.hid hs
  have HD := Lib.hid hd
  have HS' := Lib.hid hs'
  have HD' := Lib.hid hd'
  clear hs hd hs' hd'
  go_enter Try.func31, Try.ntmps31
  go_wp2_with fail
  refine calls_named ?_
  intro w1 hw1
  have hb1 : Below w.heap.size w w1 := by rw [hw1]; exact below_trans (below_alloc _) (below_alloc _)
  have bt : Blk w1 w.heap.size [.slice A s.length c, .int .i64 o, .slice B d.length e] 24 := by rw [hw1]; exact (Blk.new _ _ _).alloc _
  have bp : Blk w1 (w.heap.size + 1) [.slice A' s'.length c', .int .i64 o', .slice B' d'.length e'] 24 := by rw [hw1]; have := Blk.new (w.alloc (.cells #[.slice A s.length c, .int .i64 o, .slice B d.length e] 24)) [.slice A' s'.length c', .int .i64 o', .slice B' d'.length e'] 24; rwa [World.size_alloc] at this
  clear hw1
  refine (equal_calls _ _ _ _ _ _ _ (HS.out.kept hb1) (HS'.out.kept hb1) ls ls').mono ?_
  rintro r w2 ⟨rfl, hb2⟩
  have hb12 := below_trans hb1 hb2
  replace bt := bt.kept hb2
  replace bp := bp.kept hb2
  have t1 := bt.cell (i := 1) rfl
  have t2 := bt.cell (i := 2) rfl
  have u1 := bp.cell (i := 1) rfl
  have u2 := bp.cell (i := 2) rfl
  clear hb1 hb2
  have HB := Lib.hid hb12
  clear hb12 bt bp
  by_cases e1 : s = s'
  · have d1 : decide (s = s') = true := by simp [e1]
    have E1 := Lib.hid d1
    rw [d1]
    clear e1 d1
    by_cases e2 : o = o'
    · have d2 : (o == o') = true := by simp [e2]
      have E2 := Lib.hid e2
      clear e2
      go_wp2_with (go_at_call 17; refine (equal_calls _ _ _ _ _ _ _ (HD.out.kept HB.out) (HD'.out.kept HB.out) ld ld').mono ?_; rintro r w3 ⟨rfl, hb3⟩)
      go_ret
      exact ⟨by simp [E1.out, E2.out], below_trans HB.out hb3⟩
    · have d2 : (o == o') = false := by simp [e2]
      have E2 := Lib.hid e2
      clear e2
      go_wp2
      go_ret
      exact ⟨by simp [E2.out], HB.out⟩
  · have d1 : decide (s = s') = false := by simp [e1]
    have E1 := Lib.hid d1
    rw [d1]
    clear e1 d1
    go_wp2
    go_ret
    exact ⟨by simp [E1.out], HB.out⟩
end Go.Proofs.Ytkkohelbidmkdaa
