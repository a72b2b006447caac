/-
  grid.start, table.values, table.input, grid.Place, grid.At: what each call returns.
-/
import Derived.Test.YtkkohelbidmkdaaGStart
import Derived.BigRegion
namespace Go.Proofs.Ytkkohelbidmkdaa
set_option linter.unusedVariables false
set_option linter.unusedSimpArgs false
open Go.RowKit

/-- Is a number of an index within its size? -/
def inB (xn : Int × Int) : Bool := decide (0 ≤ xn.1) && decide (xn.1 < xn.2)
/-- Is it an index of the sizes? -/
def idxB (s ix : List Int) : Bool := decide (ix.length = s.length) && (ix.zip s).all inB

/-- A position: four numbers, 0 behind the last input. -/
def posV (ix : List Int) : Value := .agg #[.int .i64 (ix.getD 0 0), .int .i64 (ix.getD 1 0), .int .i64 (ix.getD 2 0), .int .i64 (ix.getD 3 0)]
def zeroT : Value := .agg #[.slice none 0 0, .int .i64 0, .slice none 0 0]

theorem checkN_size {s d : List Int} {o : Int} (h : checkN s o d = 0) : 0 < s.length ∧ s.length ≤ 4 := by
  unfold checkN at h
  split at h
  · simp at h
  · split at h
    · simp at h
    · omega

set_option maxHeartbeats 800000 in
theorem input_calls (A B : Option Addr) (c e : Nat) (s d : List Int) (o n : Int) (w : World) (_ls : s.length ≤ 9223372036854775807) :
    Calls Try.prog 39 #[.agg #[.slice A s.length c, .int .i64 o, .slice B d.length e], .int .i64 n] w fun r w' => r = .returned (.bool (decide (0 ≤ n) && decide (n < s.length))) ∧ Below w.heap.size w w' := by
  by_cases h1 : 0 ≤ n <;> by_cases h2 : n < s.length
  all_goals
    go_enter Try.func39, Try.ntmps39
    go_wp2
    go_ret
    exact ⟨by simp [h1, h2], below_alloc _⟩

set_option maxHeartbeats 800000 in
theorem values_calls (A : Option Addr) (b off : Nat) (c e : Nat) (s d : List Int) (o : Nat) (p0 p1 p2 p3 : Int) (m : Nat) (w : World) (hs : Cs w .i64 A s) (ls : s.length ≤ 4)
    (hm : wrap64 (placeN s [p0, p1, p2, p3] * o) = m) (hmo : m + o ≤ d.length) (hde : d.length ≤ e) (he : e ≤ 9223372036854775807) (ho : 0 < o) :
    Calls Try.prog 38 #[.agg #[.slice A s.length c, .int .i64 o, .slice (some ⟨b, off, none⟩) d.length e], .agg #[.int .i64 p0, .int .i64 p1, .int .i64 p2, .int .i64 p3]] w fun r w' =>
      r = .returned (.slice (some ⟨b, off + m, none⟩) o (e - m)) ∧ Below w.heap.size w w' := by
  go_enter Try.func38, Try.ntmps38
  go_wp2_with fail
  refine calls_named ?_
  intro w1 hw1
  have hb1 : Below w.heap.size w w1 := by rw [hw1]; exact below_trans (below_alloc _) (below_alloc _)
  have bt : Blk w1 w.heap.size [.slice A s.length c, .int .i64 o, .slice (some ⟨b, off, none⟩) d.length e] 67 := by rw [hw1]; exact (Blk.new _ _ _).alloc _
  clear hw1
  refine (place_calls A (some ⟨b, off, none⟩) c e s d o p0 p1 p2 p3 w1 (hs.kept hb1) ls).mono ?_
  rintro r w2 ⟨rfl, hb2⟩
  have hb12 := below_trans hb1 hb2
  rw [hm]
  replace bt := bt.kept hb2
  have t1 := bt.cell (i := 1) rfl
  have t2 := bt.cell (i := 2) rfl
  clear hb1 hb2 hm hs bt
  go_wp2
  go_ret
  have e1 : m + o - m = o := by omega
  exact ⟨by show Ending.returned (.slice (some ⟨b, off + m, none⟩) (m + o - m) (e - m)) = _; rw [e1], hb12⟩

/-- The first k numbers of an index; 0 behind them. -/
def Pos (ix : List Int) (k : Nat) (P : List Int) : Prop := P.length = 4 ∧ ∀ j, j < 4 → P[j]? = some (if j < k then ix.getD j 0 else 0)

theorem Pos.four {ix : List Int} {k : Nat} {P : List Int} (h : Pos ix k P) : ∃ p0 p1 p2 p3, P = [p0, p1, p2, p3] := by
  obtain ⟨h1, _⟩ := h
  match P, h1 with
  | [a, b, c, d], _ => exact ⟨a, b, c, d, rfl⟩

theorem Pos.zero (ix : List Int) : Pos ix 0 [0, 0, 0, 0] := ⟨rfl, fun j hj => by
  match j, hj with
  | 0, _ => rfl
  | 1, _ => rfl
  | 2, _ => rfl
  | 3, _ => rfl⟩

theorem Pos.step {ix : List Int} {k : Nat} {P : List Int} (h : Pos ix k P) (hk : k < 4) {x : Int} (hx : ix[k]? = some x) : Pos ix (k + 1) (P.set k x) := by
  obtain ⟨h1, h2⟩ := h
  refine ⟨by simp [h1], fun j hj => ?_⟩
  rw [List.getElem?_set]
  by_cases hjk : k = j
  · subst hjk
    simp [h1, hk, List.getD_eq_getElem?_getD, hx]
  · rw [if_neg hjk, h2 j hj]
    by_cases h3 : j < k
    · simp [h3, Nat.lt_succ_of_lt h3]
    · have : ¬ j < k + 1 := by omega
      simp [h3, this]

theorem Pos.all {ix : List Int} {p0 p1 p2 p3 : Int} (h : Pos ix ix.length [p0, p1, p2, p3]) : p0 = ix.getD 0 0 ∧ p1 = ix.getD 1 0 ∧ p2 = ix.getD 2 0 ∧ p3 = ix.getD 3 0 := by
  have key : ∀ j, (if j < ix.length then ix.getD j 0 else 0) = ix.getD j 0 := fun j => by
    by_cases hj : j < ix.length
    · simp [hj]
    · simp [hj, List.getD_eq_getElem?_getD]
  have h0 := h.2 0 (by omega)
  have h1 := h.2 1 (by omega)
  have h2 := h.2 2 (by omega)
  have h3 := h.2 3 (by omega)
  rw [key] at h0 h1 h2 h3
  simp at h0 h1 h2 h3
  simp [h0, h1, h2, h3]

set_option maxHeartbeats 1600000 in
theorem start_calls (A B I : Option Addr) (c e ci : Nat) (s d ix : List Int) (o : Int) (w : World) (hs : Cs w .i64 A s) (hd : Cs w .i64 B d) (hi : Cs w .i64 I ix)
    (ls : s.length ≤ 9223372036854775807) (ld : d.length ≤ 9223372036854775807) (_li : ix.length ≤ 9223372036854775807) :
    Calls Try.prog 34 #[.agg #[.slice A s.length c, .int .i64 o, .slice B d.length e], .slice I ix.length ci] w fun r w' => Below w.heap.size w w' ∧ ∃ T p0 p1 p2 p3 n, r = .returned (.tuple #[T, .agg #[.int .i64 p0, .int .i64 p1, .int .i64 p2, .int .i64 p3], .int .i64 n]) ∧
      ((n = checkN s o d ∧ n ≠ 0 ∧ T = .agg #[.slice none 0 0, .int .i64 0, .slice none 0 0]) ∨ (n = 2 ∧ checkN s o d = 0 ∧ idxB s ix = false ∧ T = .agg #[.slice none 0 0, .int .i64 0, .slice none 0 0]) ∨
       (n = 0 ∧ checkN s o d = 0 ∧ idxB s ix = true ∧ T = .agg #[.slice A s.length c, .int .i64 o, .slice B d.length e] ∧ p0 = ix.getD 0 0 ∧ p1 = ix.getD 1 0 ∧ p2 = ix.getD 2 0 ∧ p3 = ix.getD 3 0)) := by
  have HS := Lib.hid hs
  have HD := Lib.hid hd
  have HI := Lib.hid hi
  clear hs hd hi
  go_enter Try.func34, Try.ntmps34
  go_wp2_with fail
  refine calls_named ?_
  intro w1 hw1
  have hb1 : Below w.heap.size w w1 := by rw [hw1]; repeat (first | exact below_alloc _ | refine below_trans ?_ (below_alloc _))
  have b0 : Blk w1 w.heap.size [.slice A s.length c, .int .i64 o, .slice B d.length e] 24 := by rw [hw1]; exact (((Blk.at (by simp)).alloc _).alloc _).alloc _
  have b1 : Blk w1 (w.heap.size + 1) [.slice none 0 0, .int .i64 0, .slice none 0 0] 67 := by rw [hw1]; exact ((Blk.at (by simp)).alloc _).alloc _
  have b2 : Blk w1 (w.heap.size + 2) [.int .i64 0, .int .i64 0, .int .i64 0, .int .i64 0] 69 := by rw [hw1]; exact ((Blk.at (by simp)).alloc _)
  have b3 : Blk w1 (w.heap.size + 3) [.int .i64 0, .int .i64 0, .int .i64 0, .int .i64 0] 69 := by rw [hw1]; exact Blk.at (by simp)
  clear hw1
  refine (check_calls A B c e s d o w1 (HS.out.kept hb1) (HD.out.kept hb1) ls ld).mono ?_
  rintro r w2 ⟨rfl, hb2⟩
  have HB := Lib.hid (below_trans hb1 hb2)
  replace b0 := b0.kept hb2
  replace b1 := b1.kept hb2
  replace b2 := b2.kept hb2
  replace b3 := b3.kept hb2
  clear hb1 hb2
  have q0 := b0.cell (i := 0) rfl
  have q1 := b0.cell (i := 1) rfl
  have q2 := b0.cell (i := 2) rfl
  have r0 := b1.cell (i := 0) rfl
  have r1 := b1.cell (i := 1) rfl
  have r2 := b1.cell (i := 2) rfl
  have rf0 := b1.free 0
  have rf1 := b1.free 1
  have rf2 := b1.free 2
  have s0 := b2.cell (i := 0) rfl
  have s1 := b2.cell (i := 1) rfl
  have s2 := b2.cell (i := 2) rfl
  have s3 := b2.cell (i := 3) rfl
  have sf0 := b2.free 0
  have sf1 := b2.free 1
  have sf2 := b2.free 2
  have sf3 := b2.free 3
  by_cases hc : checkN s o d = 0
  · have hsz := checkN_size hc
    have HC := Lib.hid hc
    rw [hc]
    clear hc
    clear HD
    by_cases hl : ix.length = s.length
    · have hlb : ((ix.length : Int) != (s.length : Int)) = false := by simp [hl]
      have HL := Lib.hid hl
      clear hl
      go_wp2_with fail
      clear q0 q1 q2 r0 r1 r2 rf0 rf1 rf2 s0 s1 s2 s3 sf0 sf1 sf2 sf3
      go_loopw [28] (fun i wr => ∃ (k : Nat) (P : List Int), k ≤ ix.length ∧ i = .int .i64 k ∧ ((ix.zip s).take k).all inB = true ∧ Pos ix k P ∧
        Blk wr w.heap.size [.slice A s.length c, .int .i64 o, .slice B d.length e] 24 ∧ Blk wr (w.heap.size + 1) [.slice none 0 0, .int .i64 0, .slice none 0 0] 67 ∧
        Blk wr (w.heap.size + 1 + 1) [.int .i64 0, .int .i64 0, .int .i64 0, .int .i64 0] 69 ∧ Blk wr (w.heap.size + 1 + 1 + 1) (P.map (Value.int .i64)) 69 ∧ Below w.heap.size w wr) (fun i _ => ix.length - (intOf i).toNat)
      case atStart => exact ⟨0, [0, 0, 0, 0], Nat.zero_le _, rfl, rfl, Pos.zero _, b0, b1, b2, b3, HB.out⟩
      case round =>
        clear b0 b1 b2 b3 HB
        obtain ⟨k, P, hk, rfl, hall, hP, b0, b1, b2, b3, hbr⟩ := hrel
        have hs := HS.out.kept hbr
        have hi := HI.out.kept hbr
        have HB := Lib.hid hbr
        have HA := Lib.hid hall
        obtain ⟨p0, p1, p2, p3, rfl⟩ := hP.four
        have HP := Lib.hid hP
        clear hbr hall hP
        have q0 := b0.cell (i := 0) rfl
        have q1 := b0.cell (i := 1) rfl
        have q2 := b0.cell (i := 2) rfl
        have r0 := b1.cell (i := 0) rfl
        have r1 := b1.cell (i := 1) rfl
        have r2 := b1.cell (i := 2) rfl
        have rf0 := b1.free 0
        have rf1 := b1.free 1
        have rf2 := b1.free 2
        have s0 := b2.cell (i := 0) rfl
        have s1 := b2.cell (i := 1) rfl
        have s2 := b2.cell (i := 2) rfl
        have s3 := b2.cell (i := 3) rfl
        have sf0 := b2.free 0
        have sf1 := b2.free 1
        have sf2 := b2.free 2
        have sf3 := b2.free 3
        by_cases hlt : k < ix.length
        · obtain ⟨x, bi, oi, hx, rfl, hcx⟩ := hi.at hlt
          obtain ⟨n, bs, os, hn, rfl, hcn⟩ := hs.at (i := k) (by have := HL.out; omega)
          have hks : k < s.length := by have := HL.out; omega
          have HX := Lib.hid (And.intro hx hn)
          clear hx hn hs hi
          by_cases hin : x < 0 ∨ n ≤ x
          · have hbad : inB (x, n) = false := by unfold inB; rcases hin with h | h <;> simp <;> omega
            have HBAD := Lib.hid hbad
            clear hbad
            have u0 := b3.cell (i := 0) rfl
            have u1 := b3.cell (i := 1) rfl
            have u2 := b3.cell (i := 2) rfl
            have u3 := b3.cell (i := 3) rfl
            clear b0 b1 b2 b3
            have hidx : idxB s ix = false := by
              unfold idxB
              rw [Bool.and_eq_false_iff]; right
              rw [List.all_eq_false]
              exact ⟨(x, n), List.mem_of_getElem? (List.getElem?_zip_eq_some.2 ⟨HX.out.1, HX.out.2⟩), by rw [HBAD.out]; simp⟩
            have HIDX := Lib.hid hidx
            clear hidx
            by_cases h1 : x < 0
            · clear hin
              go_wp2_with fail
              go_region
              go_wp2
              refine bodyPost_ret (v := .tuple #[.agg #[.slice none 0 0, .int .i64 0, .slice none 0 0], .agg #[.int .i64 p0, .int .i64 p1, .int .i64 p2, .int .i64 p3], .int .i64 2]) (by simp [results, Try.results34, go_sem, *]) rfl ⟨?_, _, _, _, _, _, _, rfl, .inr (.inl ⟨rfl, HC.out, HIDX.out, rfl⟩)⟩
              repeat (first | (with_reducible exact HB.out) | (with_reducible refine Below.drew ?_) | (with_reducible refine below_drewN ?_ _) | ((with_reducible refine Below.setCell ?_ ?_ _); rotate_left; (dsimp only; omega)))
            · have h2 : n ≤ x := by omega
              clear hin
              go_wp2_with fail
              go_region
              go_wp2
              refine bodyPost_ret (v := .tuple #[.agg #[.slice none 0 0, .int .i64 0, .slice none 0 0], .agg #[.int .i64 p0, .int .i64 p1, .int .i64 p2, .int .i64 p3], .int .i64 2]) (by simp [results, Try.results34, go_sem, *]) rfl ⟨?_, _, _, _, _, _, _, rfl, .inr (.inl ⟨rfl, HC.out, HIDX.out, rfl⟩)⟩
              repeat (first | (with_reducible exact HB.out) | (with_reducible refine Below.drew ?_) | (with_reducible refine below_drewN ?_ _) | ((with_reducible refine Below.setCell ?_ ?_ _); rotate_left; (dsimp only; omega)))
          · have h1 : ¬ x < 0 := by omega
            have h2 : ¬ n ≤ x := by omega
            have hgood : inB (x, n) = true := by unfold inB; simp; omega
            have HG := Lib.hid hgood
            clear hgood hin
            have hk4 : k < 4 := by omega
            obtain ⟨pk, hpk⟩ : ∃ pk, ([p0, p1, p2, p3].map (Value.int .i64))[k]? = some pk := ⟨_, List.getElem?_eq_getElem (by simpa using hk4)⟩
            have up := b3.cell hpk
            have uf := b3.free k
            have HPK := Lib.hid hpk
            clear hpk q0 q1 q2 r0 r1 r2 rf0 rf1 rf2 s0 s1 s2 s3 sf0 sf1 sf2 sf3
            have HBB := Lib.hid (And.intro b0 (And.intro b1 (And.intro b2 b3)))
            have g0 := b0.cell (i := 0) rfl
            clear b0 b1 b2 b3
            go_wp2
            go_roundw
            case rel =>
              obtain ⟨b0, b1, b2, b3⟩ := HBB.out
              have hset := b3.set k (.int .i64 x)
              rw [← List.map_set] at hset
              refine ⟨k + 1, [p0, p1, p2, p3].set k x, by omega, by go_num, ?_, HP.out.step hk4 HX.out.1, b0.other (by dsimp only; omega) _, b1.other (by dsimp only; omega) _, b2.other (by dsimp only; omega) _, hset, ?_⟩
              · rw [take_at (x := (x, n)) (List.getElem?_zip_eq_some.2 ⟨HX.out.1, HX.out.2⟩), List.all_append, HA.out]; simp [HG.out]
              · repeat (first | (with_reducible exact HB.out) | (with_reducible refine Below.drew ?_) | (with_reducible refine below_drewN ?_ _) | ((with_reducible refine Below.setCell ?_ ?_ _); rotate_left; (dsimp only; omega)))
            case measure => simp [intOf]; omega
        · have hke : k = ix.length := by omega
          have u0 := b3.cell (i := 0) rfl
          have u1 := b3.cell (i := 1) rfl
          have u2 := b3.cell (i := 2) rfl
          have u3 := b3.cell (i := 3) rfl
          clear b0 b1 b2 b3 hs hi
          have hidx : idxB s ix = true := by
            unfold idxB
            have h1 := HA.out
            rw [List.take_of_length_le (by rw [List.length_zip]; omega)] at h1
            rw [h1, decide_eq_true HL.out]; rfl
          have hpos := HP.out
          rw [hke] at hpos
          obtain ⟨e0, e1, e2, e3⟩ := hpos.all
          have HE := Lib.hid (And.intro hidx (And.intro e0 (And.intro e1 (And.intro e2 e3))))
          clear hidx hpos e0 e1 e2 e3 hke
          go_wp2_with fail
          go_region
          go_wp2
          refine bodyPost_ret (v := .tuple #[.agg #[.slice A s.length c, .int .i64 o, .slice B d.length e], .agg #[.int .i64 p0, .int .i64 p1, .int .i64 p2, .int .i64 p3], .int .i64 0]) (by simp [results, Try.results34, go_sem, *]) rfl ⟨?_, _, _, _, _, _, _, rfl, .inr (.inr ⟨rfl, HC.out, HE.out.1, rfl, HE.out.2.1, HE.out.2.2.1, HE.out.2.2.2.1, HE.out.2.2.2.2⟩)⟩
          repeat (first | (with_reducible exact HB.out) | (with_reducible refine Below.drew ?_) | (with_reducible refine below_drewN ?_ _) | ((with_reducible refine Below.setCell ?_ ?_ _); rotate_left; (dsimp only; omega)))
    · have hlb : ((ix.length : Int) != (s.length : Int)) = true := by simp; omega
      have HL := Lib.hid hl
      clear hl
      have u0 := b3.cell (i := 0) rfl
      have u1 := b3.cell (i := 1) rfl
      have u2 := b3.cell (i := 2) rfl
      have u3 := b3.cell (i := 3) rfl
      clear b0 b1 b2 b3
      go_wp2_with fail
      go_region
      go_wp2
      refine bodyPost_ret (v := .tuple #[.agg #[.slice none 0 0, .int .i64 0, .slice none 0 0], .agg #[.int .i64 0, .int .i64 0, .int .i64 0, .int .i64 0], .int .i64 2]) (by simp [results, Try.results34, go_sem, *]) rfl ⟨?_, _, _, _, _, _, _, rfl, .inr (.inl ⟨rfl, HC.out, ?_, rfl⟩)⟩
      · repeat (first | (with_reducible exact HB.out) | (with_reducible refine Below.drew ?_) | (with_reducible refine below_drewN ?_ _) | ((with_reducible refine Below.setCell ?_ ?_ _); rotate_left; (dsimp only; omega)))
      · unfold idxB; rw [decide_eq_false HL.out]; rfl
  · have hcb : (checkN s o d != 0) = true := by simp [hc]
    have HC := Lib.hid hc
    clear hc
    have u0 := b3.cell (i := 0) rfl
    have u1 := b3.cell (i := 1) rfl
    have u2 := b3.cell (i := 2) rfl
    have u3 := b3.cell (i := 3) rfl
    clear b0 b1 b2 b3
    generalize hn : checkN s o d = n
    go_wp2_with fail
    go_region
    go_wp2
    refine bodyPost_ret (v := .tuple #[.agg #[.slice none 0 0, .int .i64 0, .slice none 0 0], .agg #[.int .i64 0, .int .i64 0, .int .i64 0, .int .i64 0], .int .i64 n]) (by simp [results, Try.results34, go_sem, *]) rfl ⟨?_, _, _, _, _, _, _, rfl, .inl ⟨hn.symm, ?_, rfl⟩⟩
    · repeat (first | (with_reducible exact HB.out) | (with_reducible refine Below.drew ?_) | (with_reducible refine below_drewN ?_ _) | ((with_reducible refine Below.setCell ?_ ?_ _); rotate_left; (dsimp only; omega)))
    · have := HC.out; rwa [hn] at this
end Go.Proofs.Ytkkohelbidmkdaa
