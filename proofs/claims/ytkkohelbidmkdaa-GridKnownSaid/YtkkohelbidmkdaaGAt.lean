/-
  grid.Place and grid.At: what each call returns.
-/
import Derived.Test.YtkkohelbidmkdaaGPlain
namespace Go.Proofs.Ytkkohelbidmkdaa
set_option linter.unusedVariables false
set_option linter.unusedSimpArgs false
open Go.RowKit

/-- Place's two results. -/
def placeR (s : List Int) (o : Int) (d ix : List Int) : Int × Int :=
  if checkN s o d ≠ 0 then (0, 100) else if idxB s ix = false then (0, 2) else (placeI s ix * o, 0)
/-- At's two results. -/
def atR (s : List Int) (o : Int) (d ix : List Int) : List Int × Int :=
  if checkN s o d ≠ 0 then ([], 100) else if idxB s ix = false then ([], 2) else ((d.drop (placeI s ix * o).toNat).take o.toNat, 0)

set_option maxHeartbeats 800000 in
theorem gridPlace_calls (A B I : Option Addr) (c e ci : Nat) (s d ix : List Int) (o : Int) (w : World) (hs : Cs w .i64 A s) (hd : Cs w .i64 B d) (hi : Cs w .i64 I ix)
    (ls : s.length ≤ 9223372036854775807) (ld : d.length ≤ 9223372036854775807) (li : ix.length ≤ 9223372036854775807) :
    Calls Try.prog 13 #[.agg #[.slice A s.length c, .int .i64 o, .slice B d.length e], .slice I ix.length ci] w fun r w' => r = .returned (.tuple #[.int .i64 (placeR s o d ix).1, .int .i64 (placeR s o d ix).2]) ∧ Below w.heap.size w w' := by
  have HS := Lib.hid hs
  have HD := Lib.hid hd
  have HI := Lib.hid hi
  clear hs hd hi
  go_enter Try.func13, Try.ntmps13
  go_wp2_with fail
  refine calls_named ?_
  intro w1 hw1
  have hb1 : Below w.heap.size w w1 := by rw [hw1]; repeat (first | exact below_alloc _ | refine below_trans ?_ (below_alloc _))
  clear hw1
  refine (start_calls A B I c e ci s d ix o w1 (HS.out.kept hb1) (HD.out.kept hb1) (HI.out.kept hb1) ls ld li).mono ?_
  rintro r w2 ⟨hb2, T, p0, p1, p2, p3, n, rfl, hcase⟩
  have HB := Lib.hid (below_trans hb1 hb2)
  clear hb1 hb2
  rcases hcase with ⟨hn, hn0, rfl⟩ | ⟨rfl, hc, hx, rfl⟩ | ⟨rfl, hc, hx, rfl, e0, e1, e2, e3⟩
  · have hnb : (n != 0) = true := by simp [hn0]
    have hn100 : n = 100 := by rcases checkN_or s o d with h | h <;> omega
    have hR : placeR s o d ix = (0, n) := by unfold placeR; rw [if_pos (by omega), hn100]
    have HR := Lib.hid hR
    clear hR hn hn0 hn100
    go_wp2
    go_ret2
    exact ⟨by simp [HR.out], by repeat (first | (with_reducible exact HB.out) | (with_reducible refine Below.drew ?_) | (with_reducible refine below_drewN ?_ _) | (with_reducible refine below_trans ?_ (below_alloc _)) | ((with_reducible refine Below.setCell ?_ ?_ _); rotate_left; (have hsz := HB.out.size; dsimp only; simp only [World.size_alloc]; omega)))⟩
  · have hR : placeR s o d ix = (0, 2) := by unfold placeR; rw [if_neg (by omega), if_pos hx]
    have HR := Lib.hid hR
    clear hR hc hx
    go_wp2
    go_ret2
    exact ⟨by simp [HR.out], by repeat (first | (with_reducible exact HB.out) | (with_reducible refine Below.drew ?_) | (with_reducible refine below_drewN ?_ _) | (with_reducible refine below_trans ?_ (below_alloc _)) | ((with_reducible refine Below.setCell ?_ ?_ _); rotate_left; (have hsz := HB.out.size; dsimp only; simp only [World.size_alloc]; omega)))⟩
  · obtain ⟨f1, f2, f3, f4⟩ := place_fits ((checkN_iff s o d).1 hc) hx
    have hR : placeR s o d ix = (placeI s ix * o, 0) := by unfold placeR; rw [if_neg (by omega), if_neg (by rw [hx]; simp)]
    rw [← e0, ← e1, ← e2, ← e3] at f1
    have HF := Lib.hid f1
    have ls4 := ((checkN_iff s o d).1 hc).len4
    have HR := Lib.hid hR
    clear hR hc hx f1 f2 f3 f4 e0 e1 e2 e3
    go_wp2_with fail
    refine calls_named ?_
    intro w3 hw3
    have hb3 : Below w.heap.size w w3 := by rw [hw3]; repeat (first | (with_reducible exact HB.out) | (with_reducible refine Below.drew ?_) | (with_reducible refine below_drewN ?_ _) | (with_reducible refine below_trans ?_ (below_alloc _)) | ((with_reducible refine Below.setCell ?_ ?_ _); rotate_left; (have hsz := HB.out.size; dsimp only; simp only [World.size_alloc]; omega)))
    clear hw3
    refine (place_calls A B c e s d o _ _ _ _ w3 (HS.out.kept hb3) ls4).mono ?_
    rintro r w4 ⟨rfl, hb4⟩
    rw [HF.out]
    go_wp2
    go_ret2
    exact ⟨by simp [HR.out], below_trans hb3 hb4⟩

theorem ret_slice {A B : Option Addr} {n m c c' : Nat} (h1 : A = B) (h2 : n = m) (h3 : c = c') : (Value.slice A n c) = .slice B m c' := by rw [h1, h2, h3]

set_option maxHeartbeats 800000 in
theorem gridAt_calls (A B I : Option Addr) (c e ci : Nat) (s d ix : List Int) (o : Int) (w : World) (hs : Cs w .i64 A s) (hd : Cs w .i64 B d) (hi : Cs w .i64 I ix)
    (ls : s.length ≤ 9223372036854775807) (ld : d.length ≤ e) (le : e ≤ 9223372036854775807) (li : ix.length ≤ 9223372036854775807) :
    Calls Try.prog 15 #[.agg #[.slice A s.length c, .int .i64 o, .slice B d.length e], .slice I ix.length ci] w fun r w' => ∃ v, r = .returned (.tuple #[v, .int .i64 (atR s o d ix).2]) ∧ Own w' w.heap.size v (atR s o d ix).1 ∧ Below w.heap.size w w' := by
  have HS := Lib.hid hs
  have HD := Lib.hid hd
  have HI := Lib.hid hi
  clear hs hd hi
  go_enter Try.func15, Try.ntmps15
  go_wp2_with fail
  refine calls_named ?_
  intro w1 hw1
  have hb1 : Below w.heap.size w w1 := by rw [hw1]; repeat (first | exact below_alloc _ | refine below_trans ?_ (below_alloc _))
  clear hw1
  refine (start_calls A B I c e ci s d ix o w1 (HS.out.kept hb1) (HD.out.kept hb1) (HI.out.kept hb1) ls (by omega) li).mono ?_
  rintro r w2 ⟨hb2, T, p0, p1, p2, p3, n, rfl, hcase⟩
  have HB := Lib.hid (below_trans hb1 hb2)
  clear hb1 hb2
  rcases hcase with ⟨hn, hn0, rfl⟩ | ⟨rfl, hc, hx, rfl⟩ | ⟨rfl, hc, hx, rfl, e0, e1, e2, e3⟩
  · have hnb : (n != 0) = true := by simp [hn0]
    have hn100 : n = 100 := by rcases checkN_or s o d with h | h <;> omega
    have hR : atR s o d ix = ([], n) := by unfold atR; rw [if_pos (by omega), hn100]
    have HR := Lib.hid hR
    clear hR hn hn0 hn100
    go_wp2
    go_ret2
    exact ⟨.slice none 0 0, by simp [HR.out], by rw [HR.out]; exact Own.nil _ _, by repeat (first | (with_reducible exact HB.out) | (with_reducible refine Below.drew ?_) | (with_reducible refine below_drewN ?_ _) | (with_reducible refine below_trans ?_ (below_alloc _)) | ((with_reducible refine Below.setCell ?_ ?_ _); rotate_left; (have hsz := HB.out.size; dsimp only; simp only [World.size_alloc]; omega)))⟩
  · have hR : atR s o d ix = ([], 2) := by unfold atR; rw [if_neg (by omega), if_pos hx]
    have HR := Lib.hid hR
    clear hR hc hx
    go_wp2
    go_ret2
    exact ⟨.slice none 0 0, by simp [HR.out], by rw [HR.out]; exact Own.nil _ _, by repeat (first | (with_reducible exact HB.out) | (with_reducible refine Below.drew ?_) | (with_reducible refine below_drewN ?_ _) | (with_reducible refine below_trans ?_ (below_alloc _)) | ((with_reducible refine Below.setCell ?_ ?_ _); rotate_left; (have hsz := HB.out.size; dsimp only; simp only [World.size_alloc]; omega)))⟩
  · have hv := (checkN_iff s o d).1 hc
    obtain ⟨f1, f2, f3, f4⟩ := place_fits hv hx
    rw [← e0, ← e1, ← e2, ← e3] at f1
    have f0 : 0 ≤ placeI s ix * o := Int.mul_nonneg f2 (by have := hv.out1; omega)
    have fo := hv.out1
    have fm := hv.most
    obtain ⟨m, hm⟩ := Int.eq_ofNat_of_zero_le f0
    obtain ⟨on, rfl⟩ := Int.eq_ofNat_of_zero_le (show 0 ≤ o by omega)
    have hR : atR s on d ix = ((d.drop m).take on, 0) := by unfold atR; rw [if_neg (by omega), if_neg (by rw [hx]; simp), hm]; simp
    have HR := Lib.hid hR
    have ls4 := hv.len4
    have hmo : m + on ≤ d.length := by omega
    have hon : 0 < on := by omega
    rw [hm] at f1
    have HF := Lib.hid f1
    obtain ⟨b, off, hB⟩ : ∃ b off, B = some ⟨b, off, none⟩ := by
      obtain ⟨_, b, off, _, h, _⟩ := HD.out.at (i := 0) (by omega)
      exact ⟨b, off, h⟩
    subst hB
    clear hR hc hx f1 f2 f3 f4 e0 e1 e2 e3 hm hv f0
    go_wp2_with fail
    refine calls_named ?_
    intro w3 hw3
    have hb3 : Below w.heap.size w w3 := by rw [hw3]; repeat (first | (with_reducible exact HB.out) | (with_reducible refine Below.drew ?_) | (with_reducible refine below_drewN ?_ _) | (with_reducible refine below_trans ?_ (below_alloc _)) | ((with_reducible refine Below.setCell ?_ ?_ _); rotate_left; (have hsz := HB.out.size; dsimp only; simp only [World.size_alloc]; omega)))
    clear hw3
    refine (values_calls A b off c e s d on _ _ _ _ m w3 (HS.out.kept hb3) ls4 HF.out hmo ld le hon).mono ?_
    rintro r w4 ⟨rfl, hb4⟩
    have hb34 := below_trans hb3 hb4
    have hcs : Cs w4 .i64 (some ⟨b, off + m, none⟩) ((d.drop m).take on) := by
      intro i x hx
      rw [List.getElem?_take] at hx
      split at hx
      · rw [List.getElem?_drop] at hx
        obtain ⟨b', o', e', hc'⟩ := (HD.out.kept hb34) (m + i) x hx
        cases e'
        exact ⟨b, off + m, rfl, by rw [Nat.add_assoc]; exact hc'⟩
      · cases hx
    have hlen : ((d.drop m).take on).length = on := by rw [List.length_take, List.length_drop]; omega
    have HC := Lib.hid (And.intro hcs hlen)
    have HB3 := Lib.hid hb34
    clear hcs hlen hb3 hb4 hb34
    go_wp2_with fail
    have hcl := clone_calls (some ⟨b, off + m, none⟩) (e - m) ((d.drop m).take on) w4 HC.out.1 (fun h => by cases h) (by rw [HC.out.2]; omega)
    rw [HC.out.2] at hcl
    refine hcl.mono ?_
    rintro r w5 ⟨v, rfl, hown, hb5⟩
    have HO := Lib.hid (And.intro hown hb5)
    clear hown hb5 hcl
    go_wp2
    go_ret2
    exact ⟨v, by simp [HR.out], by rw [HR.out]; exact HO.out.1.lower HB3.out.size, below_trans HB3.out HO.out.2⟩
end Go.Proofs.Ytkkohelbidmkdaa
