/-
  The reference's Place, At, Check, Same.
-/
import Derived.Test.YtkkohelbidmkdaaGRefPl
import Derived.Test.YtkkohelbidmkdaaGRangeFn
namespace Go.Proofs.Ytkkohelbidmkdaa
set_option linter.unusedVariables false
set_option linter.unusedSimpArgs false
open Go Go.RowKit

theorem refPl_eq {s ix d : List Int} {o : Int} (hv : ValidG s o d) (hi : idxB s ix = true) : refPl s ix o = placeI s ix * o := by
  obtain ⟨hlen, _⟩ := (idxB_iff s ix).1 hi
  have h := (place_fits hv hi).1
  unfold refPl
  rw [if_pos hi, ← h]
  unfold placeW placeN
  rw [zip_pad hlen hv.len4]

set_option maxHeartbeats 800000 in
theorem refPlaceFn_calls (A B I : Option Addr) (c e ci : Nat) (s d ix : List Int) (o : Int) (w : World) (hs : Cs w .i64 A s) (hd : Cs w .i64 B d) (hi : Cs w .i64 I ix)
    (ls : s.length ≤ 9223372036854775807) (ld : d.length ≤ 9223372036854775807) (li : ix.length ≤ 9223372036854775807) :
    Calls Try.prog 14 #[.agg #[.slice A s.length c, .int .i64 o, .slice B d.length e], .slice I ix.length ci] w fun r w' => r = .returned (.tuple #[.int .i64 (placeR s o d ix).1, .int .i64 (placeR s o d ix).2]) ∧ Below w.heap.size w w' := by
  have HS := Lib.hid hs
  have HD := Lib.hid hd
  have HI := Lib.hid hi
  clear hs hd hi
  go_enter Try.func14, Try.ntmps14
  go_wp2_with fail
  refine calls_named ?_
  intro w1 hw1
  have hb1 : Below w.heap.size w w1 := by rw [hw1]; repeat (first | exact below_alloc _ | refine below_trans ?_ (below_alloc _))
  have b0 : Blk w1 w.heap.size [.slice A s.length c, .int .i64 o, .slice B d.length e] 24 := by rw [hw1]; exact Blk.new _ _ _
  clear hw1
  refine (right_calls A B c e s d o w1 (HS.out.kept hb1) (HD.out.kept hb1) ls ld).mono ?_
  rintro r w2 ⟨rfl, hb2⟩
  replace b0 := b0.kept hb2
  have hb12 := below_trans hb1 hb2
  have c0 := b0.cell (i := 0) rfl
  have c1 := b0.cell (i := 1) rfl
  have c2 := b0.cell (i := 2) rfl
  have HB := Lib.hid hb12
  clear b0 hb1 hb2 hb12
  by_cases hc : checkN s o d = 0
  · have hcb : decide (checkN s o d = 0) = true := decide_eq_true hc
    have hv := (checkN_iff s o d).1 hc
    have HV := Lib.hid (And.intro hc hv)
    rw [hcb]
    clear hc hcb hv
    go_wp2_with fail
    refine (refPlace_calls A B I c e ci s d ix o w2 (HS.out.kept HB.out) (HI.out.kept HB.out) HV.out.2.sizes ls li).mono ?_
    rintro r w3 ⟨rfl, hb3⟩
    have hb13 := below_trans HB.out hb3
    have HB := Lib.hid hb13
    clear hb3 hb13
    by_cases hi : idxB s ix = true
    · have hR : placeR s o d ix = (refPl s ix o, 0) := by
        unfold placeR; rw [refPl_eq HV.out.2 hi, if_neg (by have := HV.out.1; omega), if_neg (by simp [hi])]
      have HR := Lib.hid hR
      rw [hi]
      clear hi hR
      go_wp2
      go_ret2
      exact ⟨by simp [HR.out], HB.out⟩
    · have hi' : idxB s ix = false := by simpa using hi
      have hR : placeR s o d ix = (0, 2) := by
        unfold placeR; rw [if_neg (by have := HV.out.1; omega), if_pos hi']
      have HR := Lib.hid hR
      rw [hi']
      clear hi hi' hR
      go_wp2
      go_ret2
      exact ⟨by simp [HR.out], HB.out⟩
  · have hcb : decide (checkN s o d = 0) = false := decide_eq_false hc
    have hR : placeR s o d ix = (0, 100) := by unfold placeR; rw [if_pos hc]
    have HR := Lib.hid hR
    rw [hcb]
    clear hc hcb hR
    go_wp2
    go_ret2
    exact ⟨by simp [HR.out], HB.out⟩

set_option maxHeartbeats 800000 in
theorem refCheck_calls (A B : Option Addr) (c e : Nat) (s d : List Int) (o : Int) (w : World) (hs : Cs w .i64 A s) (hd : Cs w .i64 B d)
    (ls : s.length ≤ 9223372036854775807) (ld : d.length ≤ 9223372036854775807) :
    Calls Try.prog 30 #[.agg #[.slice A s.length c, .int .i64 o, .slice B d.length e]] w fun r w' => r = .returned (.int .i64 (checkN s o d)) ∧ Below w.heap.size w w' := by
  have HS := Lib.hid hs
  have HD := Lib.hid hd
  clear hs hd
  go_enter Try.func30, Try.ntmps30
  go_wp2_with fail
  refine calls_named ?_
  intro w1 hw1
  have hb1 : Below w.heap.size w w1 := by rw [hw1]; repeat (first | exact below_alloc _ | refine below_trans ?_ (below_alloc _))
  clear hw1
  refine (right_calls A B c e s d o w1 (HS.out.kept hb1) (HD.out.kept hb1) ls ld).mono ?_
  rintro r w2 ⟨rfl, hb2⟩
  have hb12 := below_trans hb1 hb2
  have HB := Lib.hid hb12
  clear hb1 hb2 hb12
  by_cases hc : checkN s o d = 0
  · have hcb : decide (checkN s o d = 0) = true := decide_eq_true hc
    have HR := Lib.hid hc
    rw [hcb]
    clear hc hcb
    go_wp2
    go_ret
    exact ⟨by simp [HR.out], HB.out⟩
  · have hcb : decide (checkN s o d = 0) = false := decide_eq_false hc
    have hR : checkN s o d = 100 := by rcases checkN_or s o d with h | h; exact absurd h hc; exact h
    have HR := Lib.hid hR
    rw [hcb]
    clear hc hcb hR
    go_wp2
    go_ret
    exact ⟨by simp [HR.out], HB.out⟩

set_option maxHeartbeats 800000 in
theorem refSame_calls (A B A' B' : Option Addr) (c e c' e' : Nat) (s d s' d' : List Int) (o o' : Int) (w : World) (hs : Cs w .i64 A s) (hd : Cs w .i64 B d) (hs' : Cs w .i64 A' s') (hd' : Cs w .i64 B' d')
    (ls : s.length ≤ 9223372036854775807) (ld : d.length ≤ 9223372036854775807) (ls' : s'.length ≤ 9223372036854775807) (ld' : d'.length ≤ 9223372036854775807) :
    Calls Try.prog 20 #[.agg #[.slice A s.length c, .int .i64 o, .slice B d.length e], .agg #[.slice A' s'.length c', .int .i64 o', .slice B' d'.length e']] w fun r w' => r = .returned (.bool (decide (s = s') && decide (o = o') && decide (d = d'))) ∧ Below w.heap.size w w' := by
  have HS := Lib.hid hs
  have HD := Lib.hid hd
  have HS' := Lib.hid hs'
  have HD' := Lib.hid hd'
  clear hs hd hs' hd'
  go_enter Try.func20, Try.ntmps20
  go_wp2_with fail
  refine calls_named ?_
  intro w1 hw1
  have hb1 : Below w.heap.size w w1 := by rw [hw1]; exact below_trans (below_alloc _) (below_alloc _)
  have bt : Blk w1 w.heap.size [.slice A s.length c, .int .i64 o, .slice B d.length e] 24 := by rw [hw1]; exact (Blk.new _ _ _).alloc _
  have bp : Blk w1 (w.heap.size + 1) [.slice A' s'.length c', .int .i64 o', .slice B' d'.length e'] 24 := by rw [hw1]; have := Blk.new (w.alloc (.cells #[.slice A s.length c, .int .i64 o, .slice B d.length e] 24)) [.slice A' s'.length c', .int .i64 o', .slice B' d'.length e'] 24; rwa [World.size_alloc] at this
  clear hw1
  refine (ints_calls _ _ _ _ _ _ _ (HS.out.kept hb1) (HS'.out.kept hb1) ls ls').mono ?_
  rintro r w2 ⟨rfl, hb2⟩
  have hb12 := below_trans hb1 hb2
  replace bt := bt.kept hb2
  replace bp := bp.kept hb2
  have t1 := bt.cell (i := 1) rfl
  have t2 := bt.cell (i := 2) rfl
  have u1 := bp.cell (i := 1) rfl
  have u2 := bp.cell (i := 2) rfl
  clear hb1 hb2
  have HB := Lib.hid hb12
  clear hb12 bt bp
  by_cases e1 : s = s'
  · have d1 : decide (s = s') = true := by simp [e1]
    have E1 := Lib.hid d1
    rw [d1]
    clear e1 d1
    by_cases e2 : o = o'
    · have d2 : (o == o') = true := by simp [e2]
      have E2 := Lib.hid e2
      clear e2
      go_wp2_with (go_at_call 44; refine (ints_calls _ _ _ _ _ _ _ (HD.out.kept HB.out) (HD'.out.kept HB.out) ld ld').mono ?_; rintro r w3 ⟨rfl, hb3⟩)
      go_ret
      exact ⟨by simp [E1.out, E2.out, of_decide_eq_true E1.out], below_trans HB.out hb3⟩
    · have d2 : (o == o') = false := by simp [e2]
      have E2 := Lib.hid e2
      clear e2
      go_wp2
      go_ret
      exact ⟨by simp [E2.out], HB.out⟩
  · have d1 : decide (s = s') = false := by simp [e1]
    have E1 := Lib.hid d1
    rw [d1]
    clear e1 d1
    go_wp2
    go_ret
    exact ⟨by simp [E1.out, of_decide_eq_false E1.out], HB.out⟩

set_option maxHeartbeats 800000 in
theorem refAt_calls (A B I : Option Addr) (c e ci : Nat) (s d ix : List Int) (o : Int) (w : World) (hs : Cs w .i64 A s) (hd : Cs w .i64 B d) (hi : Cs w .i64 I ix)
    (ls : s.length ≤ 9223372036854775807) (ld : d.length ≤ e) (le : e ≤ 9223372036854775807) (li : ix.length ≤ 9223372036854775807) :
    Calls Try.prog 16 #[.agg #[.slice A s.length c, .int .i64 o, .slice B d.length e], .slice I ix.length ci] w fun r w' => ∃ v, r = .returned (.tuple #[v, .int .i64 (atR s o d ix).2]) ∧ Own w' w.heap.size v (atR s o d ix).1 ∧ Below w.heap.size w w' := by
  have HS := Lib.hid hs
  have HD := Lib.hid hd
  have HI := Lib.hid hi
  clear hs hd hi
  go_enter Try.func16, Try.ntmps16
  go_wp2_with fail
  refine calls_named ?_
  intro w1 hw1
  have hb1 : Below w.heap.size w w1 := by rw [hw1]; repeat (first | exact below_alloc _ | refine below_trans ?_ (below_alloc _))
  have b0 : Blk w1 w.heap.size [.slice A s.length c, .int .i64 o, .slice B d.length e] 24 := by rw [hw1]; exact Blk.new _ _ _
  clear hw1
  refine (refPlaceFn_calls A B I c e ci s d ix o w1 (HS.out.kept hb1) (HD.out.kept hb1) (HI.out.kept hb1) ls (by omega) li).mono ?_
  rintro r w2 ⟨rfl, hb2⟩
  replace b0 := b0.kept hb2
  have hlt0 := b0.lt
  have hb12 := below_trans hb1 hb2
  have c0 := b0.cell (i := 0) rfl
  have c1 := b0.cell (i := 1) rfl
  have c2 := b0.cell (i := 2) rfl
  have HB := Lib.hid hb12
  clear b0 hb1 hb2 hb12
  by_cases hc : checkN s o d = 0
  · by_cases hi : idxB s ix = true
    · have hv := (checkN_iff s o d).1 hc
      obtain ⟨f1, f2, f3, f4⟩ := place_fits hv hi
      have f0 : 0 ≤ placeI s ix * o := Int.mul_nonneg f2 (by have := hv.out1; omega)
      have fo := hv.out1
      have fm := hv.most
      have hP : placeR s o d ix = (placeI s ix * o, 0) := by unfold placeR; rw [if_neg (by omega), if_neg (by rw [hi]; simp)]
      obtain ⟨m, hm⟩ := Int.eq_ofNat_of_zero_le f0
      obtain ⟨on, rfl⟩ := Int.eq_ofNat_of_zero_le (show 0 ≤ o by omega)
      have hR : atR s on d ix = ((d.drop m).take on, 0) := by unfold atR; rw [if_neg (by omega), if_neg (by rw [hi]; simp), hm]; simp
      rw [hm] at hP
      have HR := Lib.hid hR
      have hmo : m + on ≤ d.length := by omega
      have hon : 0 < on := by omega
      obtain ⟨b, off, hB⟩ : ∃ b off, B = some ⟨b, off, none⟩ := by
        obtain ⟨_, b, off, _, h, _⟩ := HD.out.at (i := 0) (by omega)
        exact ⟨b, off, h⟩
      subst hB
      rw [hP]
      clear hR hc hi f1 f2 f3 f4 hm hv f0 hP
      have hme : m + on ≤ e := by omega
      have hown : Own (w2.alloc (.cells #[] 3)) w2.heap.size (.slice (some ⟨w2.heap.size, 0, none⟩) 0 0) [] :=
        ⟨rfl, .inr ⟨w2.heap.size, 0, #[], rfl, Nat.le_refl _, heap_alloc_new w2 _, Nat.le_refl _, Nat.zero_le _, rfl, rfl⟩⟩
      have hcs : Cs (w2.alloc (.cells #[] 3)) .i64 (some ⟨b, off + m, none⟩) ((d.drop m).take on) := ((HD.out.kept HB.out).kept (below_alloc (.cells #[] 3))).sub m on
      have hlen : ((d.drop m).take on).length = on := by rw [List.length_take, List.length_drop]; omega
      have HO := Lib.hid (And.intro hown (And.intro hcs hlen))
      clear hown hcs hlen
      go_wp2_with (at_builtin; go_loud (refine append_ints rfl _ _ rfl w2.heap.size _ [] rfl HO.out.1 (some ⟨b, off + m, none⟩) (e - m) ((d.drop m).take on) (by rw [HO.out.2.2]; show Value.slice _ (m + on - m) _ = _; rw [Nat.add_sub_cancel_left]) HO.out.2.1 (fun h => by cases h) (by rw [HO.out.2.2]; simp; omega) (by simp) ?_); intro v' w3 hown1 hg1; have HB3 := Lib.hid (HO.out.1.below hg1 (Nat.le_refl _) (below_alloc _)); clear hg1)
      go_ret2
      exact ⟨v', by simp [HR.out], by rw [HR.out]; exact hown1.lower HB.out.size, below_trans HB.out HB3.out⟩
    · have hi' : idxB s ix = false := by simpa using hi
      have hP : placeR s o d ix = (0, 2) := by unfold placeR; rw [if_neg (by omega), if_pos hi']
      have hR : atR s o d ix = ([], 2) := by unfold atR; rw [if_neg (by omega), if_pos hi']
      have HR := Lib.hid hR
      rw [hP]
      clear hi hi' hR hP hc
      go_wp2
      go_ret2
      exact ⟨.slice none 0 0, by simp [HR.out], by rw [HR.out]; exact Own.nil _ _, HB.out⟩
  · have hP : placeR s o d ix = (0, 100) := by unfold placeR; rw [if_pos hc]
    have hR : atR s o d ix = ([], 100) := by unfold atR; rw [if_pos hc]
    have HR := Lib.hid hR
    rw [hP]
    clear hR hP hc
    go_wp2
    go_ret2
    exact ⟨.slice none 0 0, by simp [HR.out], by rw [HR.out]; exact Own.nil _ _, HB.out⟩
end Go.Proofs.Ytkkohelbidmkdaa
