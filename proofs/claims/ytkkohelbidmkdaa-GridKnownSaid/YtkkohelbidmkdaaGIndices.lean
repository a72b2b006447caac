/-
  table.indices: it calls yield at each index of the sizes, in order.
-/
import Derived.Test.YtkkohelbidmkdaaGRange
import Derived.Test.YtkkohelbidmkdaaGDigits
import Derived.Laws.StructEq
namespace Go.Proofs.Ytkkohelbidmkdaa
set_option linter.unusedVariables false
set_option linter.unusedSimpArgs false
open Go Go.RowKit
attribute [local go_sem] Oper.semAt_some

theorem part_pos (a b c d : Int) (w : World) :
    (part 3 #[.int .i64 a, .int .i64 b, .int .i64 c, .int .i64 d] 0).run Try.prog w = .ok (.int .i64 a) w ∧ (part 3 #[.int .i64 a, .int .i64 b, .int .i64 c, .int .i64 d] 1).run Try.prog w = .ok (.int .i64 b) w ∧
    (part 3 #[.int .i64 a, .int .i64 b, .int .i64 c, .int .i64 d] 2).run Try.prog w = .ok (.int .i64 c) w ∧ (part 3 #[.int .i64 a, .int .i64 b, .int .i64 c, .int .i64 d] 3).run Try.prog w = .ok (.int .i64 d) w := by
  refine ⟨?_, ?_, ?_, ?_⟩ <;> kernel_rfl

theorem run_equalIn_pos (dp : Nat) (p0 p1 p2 p3 l0 l1 l2 l3 : Int) (w : World) :
    (Op.equalIn (dp + 2) 69 (.agg #[.int .i64 p0, .int .i64 p1, .int .i64 p2, .int .i64 p3]) (.agg #[.int .i64 l0, .int .i64 l1, .int .i64 l2, .int .i64 l3])).run Try.prog w =
      .ok (decide (p0 = l0 ∧ p1 = l1 ∧ p2 = l2 ∧ p3 = l3)) w := by
  have a0 := fun a b c d : Int => (part_pos a b c d w).1
  have a1 := fun a b c d : Int => (part_pos a b c d w).2.1
  have a2 := fun a b c d : Int => (part_pos a b c d w).2.2.1
  have a3 := fun a b c d : Int => (part_pos a b c d w).2.2.2
  have hr : List.range' 0 4 = [0, 1, 2, 3] := rfl
  have he : ∀ a b : Int, (Op.equalIn (dp + 1) 3 (.int .i64 a) (.int .i64 b)).run Try.prog w = .ok (a == b) w := fun a b => run_equalIn_int (P := Try.prog) (w := w) dp 3 .i64 .i64 a b Try.underlying3
  rw [Op.equalIn]
  simp only [Sem.run_bind, run_underlying Try.underlying69]
  by_cases e0 : p0 = l0 <;> by_cases e1 : p1 = l1 <;> by_cases e2 : p2 = l2 <;> by_cases e3 : p3 = l3 <;>
  simp [Result.andThen, hr, Sem.run_bind, a0, a1, a2, a3, he, e0, e1, e2, e3]

theorem run_neq_pos (p0 p1 p2 p3 l0 l1 l2 l3 : Int) (w : World) :
    (binOp .neq 69 (.agg #[.int .i64 p0, .int .i64 p1, .int .i64 p2, .int .i64 p3]) (.agg #[.int .i64 l0, .int .i64 l1, .int .i64 l2, .int .i64 l3])).run Try.prog w =
      .ok (.bool (!decide (p0 = l0 ∧ p1 = l1 ∧ p2 = l2 ∧ p3 = l3))) w := by
  rw [run_neq_struct, run_equalIn_pos]; rfl

/-- Sizes as numbers of Go. -/
def ints (s : List Nat) : List Int := List.map (fun x : Nat => (x : Int)) s
theorem ints_at {s : List Nat} {k : Nat} {x : Int} (h : (ints s)[k]? = some x) : ∃ m, s[k]? = some m ∧ x = (m : Int) := by
  unfold ints at h
  rw [List.getElem?_map] at h
  obtain ⟨m, h1, h2⟩ := Option.map_eq_some_iff.1 h
  exact ⟨m, h1, h2.symm⟩
theorem ints_length (s : List Nat) : (ints s).length = s.length := by simp [ints]

/-- Four numbers, the first ones those of an index. -/
def pad4 (l : List Nat) : List Int := [((l[0]?.getD 0 : Nat) : Int), ((l[1]?.getD 0 : Nat) : Int), ((l[2]?.getD 0 : Nat) : Int), ((l[3]?.getD 0 : Nat) : Int)]
def posN (l : List Nat) : Value := .agg #[.int .i64 (l[0]?.getD 0 : Nat), .int .i64 (l[1]?.getD 0 : Nat), .int .i64 (l[2]?.getD 0 : Nat), .int .i64 (l[3]?.getD 0 : Nat)]

/-- The positions that are yielded. -/
def allPos (s : List Nat) : List (Array Value) := (List.range (pr s)).map fun k => #[posN (dg s k)]

/-- The numbers of the last index, the first k of them. -/
def Lst (s : List Nat) (k : Nat) (P : List Int) : Prop := P.length = 4 ∧ ∀ j, j < 4 → P[j]? = some (if j < k then ((s[j]?.getD 0 : Nat) : Int) - 1 else 0)

theorem Lst.zero (s : List Nat) : Lst s 0 [0, 0, 0, 0] := ⟨rfl, fun j hj => by
  match j, hj with
  | 0, _ => rfl
  | 1, _ => rfl
  | 2, _ => rfl
  | 3, _ => rfl⟩
theorem Lst.four {s : List Nat} {k : Nat} {P : List Int} (h : Lst s k P) : ∃ p0 p1 p2 p3, P = [p0, p1, p2, p3] := by
  obtain ⟨h1, _⟩ := h
  match P, h1 with
  | [a, b, c, d], _ => exact ⟨a, b, c, d, rfl⟩
theorem Lst.step {s : List Nat} {k : Nat} {P : List Int} (h : Lst s k P) (hk : k < 4) {m : Nat} (hm : s[k]? = some m) : Lst s (k + 1) (P.set k ((m : Int) - 1)) := by
  obtain ⟨h1, h2⟩ := h
  refine ⟨by simp [h1], fun j hj => ?_⟩
  rw [List.getElem?_set]
  by_cases hjk : k = j
  · subst hjk
    simp [h1, hk, hm]
  · rw [if_neg hjk, h2 j hj]
    by_cases h3 : j < k
    · simp [h3, Nat.lt_succ_of_lt h3]
    · have : ¬ j < k + 1 := by omega
      simp [h3, this]

theorem pad_zero (s : List Nat) : pad4 (dg s 0) = [0, 0, 0, 0] := by
  have h : ∀ i : Nat, (dg s 0)[i]?.getD 0 = 0 := fun i => by
    cases hx : (dg s 0)[i]? with
    | none => rfl
    | some x => exact dg_zero s i x hx
  simp [pad4, h]

theorem allPos_at {s : List Nat} {k : Nat} (hk : k < pr s) : (allPos s)[k]? = some #[posN (dg s k)] := by
  simp [allPos, hk]

theorem allPos_length (s : List Nat) : (allPos s).length = pr s := by simp [allPos]

/-- The position is that of the last index: the last number has come. -/
theorem pos_last {s : List Nat} (h4 : s.length ≤ 4) (hs : ∀ x ∈ s, 0 < x) {k : Nat} (hk : k < pr s) {l0 l1 l2 l3 : Int} (hL : Lst s s.length [l0, l1, l2, l3]) :
    pad4 (dg s k) = [l0, l1, l2, l3] ↔ k + 1 = pr s := by
  rw [← dg_last hs hk]
  constructor
  · intro h i x m hx hm
    have hi : i < s.length := (List.getElem?_eq_some_iff.1 hm).1
    have h1 := hL.2 i (by omega)
    rw [← h, if_pos hi, hm] at h1
    have h2 : (pad4 (dg s k))[i]? = some ((x : Nat) : Int) := by
      match i, hx with
      | 0, hx => simp [pad4, hx]
      | 1, hx => simp [pad4, hx]
      | 2, hx => simp [pad4, hx]
      | 3, hx => simp [pad4, hx]
      | n + 4, _ => omega
    rw [h2] at h1
    simp at h1
    omega
  · intro h
    refine List.ext_getElem? fun i => ?_
    by_cases hi4 : i < 4
    · rw [hL.2 i hi4]
      have h2 : (pad4 (dg s k))[i]? = some (((dg s k)[i]?.getD 0 : Nat) : Int) := by
        match i, hi4 with
        | 0, _ => rfl
        | 1, _ => rfl
        | 2, _ => rfl
        | 3, _ => rfl
      rw [h2]
      by_cases hi : i < s.length
      · have hd : i < (dg s k).length := by simpa using hi
        have := h i _ _ (List.getElem?_eq_getElem hd) (List.getElem?_eq_getElem hi)
        rw [if_pos hi, List.getElem?_eq_getElem hd, List.getElem?_eq_getElem hi]
        simp only [Option.getD_some]
        congr 1
        omega
      · have hd : (dg s k)[i]? = none := by rw [List.getElem?_eq_none_iff]; simp; omega
        rw [if_neg hi, hd]; rfl
    · rw [List.getElem?_eq_none (by simp [pad4]; omega), List.getElem?_eq_none (by simp; omega)]

/-- The next index, made from the end: places past i are nought. -/
def Rst (s : List Nat) (k i : Nat) (P : List Int) : Prop :=
  P.length = 4 ∧ i < s.length ∧ (∀ j, j < 4 → P[j]? = some (if i < j then 0 else (((dg s k)[j]?.getD 0 : Nat) : Int))) ∧ ∀ j x m, i < j → (dg s k)[j]? = some x → s[j]? = some m → x + 1 = m

theorem pad4_at (l : List Nat) (j : Nat) (hj : j < 4) : (pad4 l)[j]? = some ((l[j]?.getD 0 : Nat) : Int) := by
  match j, hj with
  | 0, _ => rfl
  | 1, _ => rfl
  | 2, _ => rfl
  | 3, _ => rfl
theorem Rst.first {s : List Nat} (h1 : 1 ≤ s.length) (k : Nat) : Rst s k (s.length - 1) (pad4 (dg s k)) := by
  refine ⟨rfl, by omega, fun j hj => ?_, fun j x m hj hx hm => ?_⟩
  · rw [pad4_at _ _ hj]
    by_cases h : s.length - 1 < j
    · have : (dg s k)[j]? = none := by rw [List.getElem?_eq_none_iff]; simp; omega
      rw [if_pos h, this]; rfl
    · rw [if_neg h]
  · have := (List.getElem?_eq_some_iff.1 hm).1
    omega
theorem Rst.cell {s : List Nat} {k i : Nat} {P : List Int} (h : Rst s k i P) (h4 : s.length ≤ 4) : ∃ x m, (dg s k)[i]? = some x ∧ s[i]? = some m ∧ P[i]? = some (x : Int) := by
  have hd : i < (dg s k).length := by simpa using h.2.1
  refine ⟨_, _, List.getElem?_eq_getElem hd, List.getElem?_eq_getElem h.2.1, ?_⟩
  rw [h.2.2.1 i (by have := h.2.1; omega), if_neg (by omega), List.getElem?_eq_getElem hd]; rfl
theorem Rst.step {s : List Nat} {k i : Nat} {P : List Int} (h : Rst s k (i + 1) P) {x m : Nat} (hx : (dg s k)[i + 1]? = some x) (hm : s[i + 1]? = some m) (he : x + 1 = m) : Rst s k i (P.set (i + 1) 0) := by
  obtain ⟨a, b, c, d⟩ := h
  refine ⟨by simpa using a, by omega, fun j hj => ?_, fun j x' m' hj hx' hm' => ?_⟩
  · rw [List.getElem?_set]
    by_cases hjk : i + 1 = j
    · subst hjk
      simp [a, hj]
    · rw [if_neg hjk, c j hj]
      by_cases h3 : i < j
      · have : i + 1 < j := by omega
        simp [h3, this]
      · have : ¬ i + 1 < j := by omega
        simp [h3, this]
  · by_cases hjk : i + 1 = j
    · subst hjk
      rw [hx] at hx'; rw [hm] at hm'
      injection hx' with e1; injection hm' with e2
      omega
    · exact d j x' m' (by omega) hx' hm'
theorem Rst.no_end {s : List Nat} (hs : ∀ x ∈ s, 0 < x) {k : Nat} (hk : k < pr s) {P : List Int} (h : Rst s k 0 P) {x m : Nat} (hx : (dg s k)[0]? = some x) (hm : s[0]? = some m) (he : x + 1 = m) : k + 1 = pr s := by
  refine (dg_last hs hk).1 fun j x' m' hx' hm' => ?_
  cases j with
  | zero => rw [hx] at hx'; rw [hm] at hm'; injection hx' with e1; injection hm' with e2; omega
  | succ j => exact h.2.2.2 _ _ _ (by omega) hx' hm'
theorem Rst.last {s : List Nat} (hs : ∀ x ∈ s, 0 < x) {k i : Nat} (hk : k < pr s) {P : List Int} (h : Rst s k i P) {x m : Nat} (hx : (dg s k)[i]? = some x) (hm : s[i]? = some m) (he : x + 1 ≠ m) :
    P.set i ((x : Int) + 1) = pad4 (dg s (k + 1)) := by
  have hlt := dg_lt hs hk i x m hx hm
  obtain ⟨_, hd⟩ := dg_next hs hk i x m hx hm (by omega) (fun j x' m' => h.2.2.2 j x' m')
  obtain ⟨a, b, c, d⟩ := h
  refine List.ext_getElem? fun j => ?_
  by_cases hj : j < 4
  · rw [pad4_at _ _ hj, List.getElem?_set]
    by_cases hjs : j < s.length
    · rw [hd j hjs]
      by_cases hij : i = j
      · subst hij
        simp [a, hj]
      · rw [if_neg hij, c j hj]
        by_cases h3 : i < j
        · simp [h3]
        · have : ¬ j = i := fun e => hij e.symm
          simp [h3, this]
    · have h0 : (dg s (k + 1))[j]? = none := by rw [List.getElem?_eq_none_iff]; simp; omega
      have hij : ¬ i = j := by omega
      have h3 : i < j := by omega
      rw [if_neg hij, c j hj, h0, if_pos h3]; rfl
  · rw [List.getElem?_eq_none (by simp; omega), List.getElem?_eq_none (by simp [pad4]; omega)]

set_option maxHeartbeats 1600000 in
theorem indices_iter (A B : Option Addr) (c e dl : Nat) (sN : List Nat) (o : Int) (w0 : World) (hs : Cs w0 .i64 A (ints sN)) (h1 : 1 ≤ sN.length) (h4 : sN.length ≤ 4) (hsz : ∀ x ∈ sN, 2 ≤ x ∧ x ≤ 9) :
    Iter Try.prog 40 #[.agg #[.slice A sN.length c, .int .i64 o, .slice B dl e]] 3 (allPos sN) w0 := by
  intro l W J hb0 hJ hY hJ0 n
  have HS := Lib.hid (hs.kept hb0)
  have HJ := Lib.hid hJ
  have HY := Lib.hid hY
  clear hJ hY hs
  refine callsIn_wide.2 ?_
  go_enter Try.func40, Try.ntmps40
  go_wp2_with fail
  refine wp_named ?_
  intro w1 hw1
  have b0 : Blk w1 W.heap.size [.slice A sN.length c, .int .i64 o, .slice B dl e] 67 := by rw [hw1]; exact ((Blk.at rfl).alloc _).alloc _
  have b1 : Blk w1 (W.heap.size + 1) [.int .i64 0, .int .i64 0, .int .i64 0, .int .i64 0] 69 := by rw [hw1]; exact (Blk.at (by simp)).alloc _
  have b2 : Blk w1 (W.heap.size + 1 + 1) [.int .i64 0, .int .i64 0, .int .i64 0, .int .i64 0] 69 := by rw [hw1]; exact Blk.at (by simp)
  have hz1 : OffZ W.heap.size (W.heap.size + 3) W w1 := by rw [hw1]; exact ((OffZ.alloc _).trans (OffZ.alloc _)).trans (OffZ.alloc _)
  have hws : w1.heap.size = W.heap.size + 3 := by rw [hw1]; simp
  clear hw1
  have HZ1 := Lib.hid hz1
  clear hz1
  go_loopw [13] (fun i wr => ∃ (k : Nat) (P : List Int), k ≤ sN.length ∧ i = .int .i64 k ∧ Lst sN k P ∧ Blk wr W.heap.size [.slice A sN.length c, .int .i64 o, .slice B dl e] 67 ∧
    Blk wr (W.heap.size + 1) [.int .i64 0, .int .i64 0, .int .i64 0, .int .i64 0] 69 ∧ Blk wr (W.heap.size + 1 + 1) (P.map (Value.int .i64)) 69 ∧ OffZ W.heap.size (W.heap.size + 3) W wr ∧ W.heap.size + 3 ≤ wr.heap.size) (fun i _ => sN.length - (intOf i).toNat)
  case atStart => exact ⟨0, [0, 0, 0, 0], Nat.zero_le _, rfl, Lst.zero _, b0, b1, b2, HZ1.out, by omega⟩
  case round =>
    clear b0 b1 b2 HZ1
    obtain ⟨k, P, hk, rfl, hP, b0, b1, b2, hz, hws⟩ := hrel
    have HZ := Lib.hid hz
    obtain ⟨l0, l1, l2, l3, rfl⟩ := hP.four
    have HP := Lib.hid hP
    by_cases hlt : k < sN.length
    · obtain ⟨x, bs, os, hx, rfl, hc⟩ := HS.out.at (i := k) (by rw [ints_length]; exact hlt)
      obtain ⟨m, hm, rfl⟩ := ints_at hx
      have hmb := hsz m (List.mem_of_getElem? hm)
      have hcr : wr.cell? ⟨bs, os + k, none⟩ = some (.int .i64 m) := by
        have hb := block_lt hc
        have h3 := hz.block bs hb (.inl hb)
        exact (World.cell?_of_block h3).trans hc
      have hk4 : k < 4 := by omega
      obtain ⟨pk, hpk⟩ : ∃ pk, ([l0, l1, l2, l3].map (Value.int .i64))[k]? = some pk := ⟨_, List.getElem?_eq_getElem (by simpa using hk4)⟩
      have up := b2.cell hpk
      have uf := b2.free k
      have HM := Lib.hid hm
      have HBB := Lib.hid (And.intro b0 (And.intro b1 b2))
      clear hx hc hpk hz hP b0 b1 b2 hm
      go_wp2
      go_roundw
      case rel =>
        obtain ⟨b0, b1, b2⟩ := HBB.out
        have hset := b2.set k (.int .i64 ((m : Int) - 1))
        rw [← List.map_set] at hset
        exact ⟨k + 1, [l0, l1, l2, l3].set k ((m : Int) - 1), by omega, by go_num, HP.out.step hk4 HM.out, b0.other (by dsimp only; omega) _, b1.other (by dsimp only; omega) _, hset, HZ.out.trans (OffZ.setCell _ (by dsimp only; omega) (by dsimp only; omega) _), by simpa [World.setCell] using hws⟩
      case measure => simp [intOf]; omega
    · have hke : k = sN.length := by omega
      clear hP hz
      have HL := Lib.hid (show Lst sN sN.length [l0, l1, l2, l3] by have := HP.out; rwa [hke] at this)
      clear HP hke
      have HBB := Lib.hid (And.intro b0 (And.intro b1 b2))
      clear b0 b1 b2
      go_wp2_with fail
      have hpos : 0 < pr sN := pr_pos fun x hx => by have := hsz x hx; omega
      go_loopg [8] (pr sN - 1) (fun g _ wr => ∃ k, k + g + 1 = pr sN ∧ J k wr ∧ Blk wr W.heap.size [.slice A sN.length c, .int .i64 o, .slice B dl e] 67 ∧
        Blk wr (W.heap.size + 1) ((pad4 (dg sN k)).map (Value.int .i64)) 69 ∧ Blk wr (W.heap.size + 1 + 1) ([l0, l1, l2, l3].map (Value.int .i64)) 69 ∧ W.heap.size + 3 ≤ wr.heap.size)
      case atStart =>
        obtain ⟨b0, b1, b2⟩ := HBB.out
        exact ⟨0, by omega, HJ.out 0 _ _ hJ0 HZ.out, b0, by rw [pad_zero]; exact b1, b2, hws⟩
      case round =>
        clear HBB HZ hws
        obtain ⟨k, hkg, hJk, b0, b1, b2, hws⟩ := hrel
        have hk : k < pr sN := by omega
        obtain ⟨p0, hp0⟩ : ∃ p0 : Int, (((dg sN k)[0]?.getD 0 : Nat) : Int) = p0 := ⟨_, rfl⟩
        obtain ⟨p1, hp1⟩ : ∃ p1 : Int, (((dg sN k)[1]?.getD 0 : Nat) : Int) = p1 := ⟨_, rfl⟩
        obtain ⟨p2, hp2⟩ : ∃ p2 : Int, (((dg sN k)[2]?.getD 0 : Nat) : Int) = p2 := ⟨_, rfl⟩
        obtain ⟨p3, hp3⟩ : ∃ p3 : Int, (((dg sN k)[3]?.getD 0 : Nat) : Int) = p3 := ⟨_, rfl⟩
        have hpad : pad4 (dg sN k) = [p0, p1, p2, p3] := by unfold pad4; rw [hp0, hp1, hp2, hp3]
        have hpv : posN (dg sN k) = .agg #[.int .i64 p0, .int .i64 p1, .int .i64 p2, .int .i64 p3] := by unfold posN; rw [hp0, hp1, hp2, hp3]
        obtain ⟨fn, tmps, assign, body, hy, hR⟩ := HY.out 0 k _ wr (allPos_at hk) hws hJk
        rw [hpv] at hy
        have hlst := pos_last h4 (fun x hx => by have := hsz x hx; omega) hk HL.out
        have HPL := Lib.hid (And.intro hpad hlst)
        rw [hpad] at b1
        have u0 := b1.cell (i := 0) rfl
        have u1 := b1.cell (i := 1) rfl
        have u2 := b1.cell (i := 2) rfl
        have u3 := b1.cell (i := 3) rfl
        have HBB := Lib.hid (And.intro b0 (And.intro b1 b2))
        clear hp0 hp1 hp2 hp3 hpad hpv hlst b0 b1 b2
        have HH := Lib.hid hy
        clear hy
        refine wp_seq_k ?_; intro K2 hK2
        refine wp_seq_k ?_; intro K3 hK3
        have hy := HH.out
        refine (wpIn_wide (n := 1)).1 ?_
        gi_wp2
        refine hR.mono ?_
        rintro e B1 ⟨rfl, hJ', hkz⟩
        have HKZ := Lib.hid hkz
        obtain ⟨b0, b1, b2⟩ := HBB.out
        clear HBB hy HH u0 u1 u2 u3
        have c0 := b0.keepZ hkz (by omega) (by omega)
        have c1 := b1.keepZ hkz (by omega) (by omega)
        have c2 := b2.keepZ hkz (by omega) (by omega)
        clear b0 b1 b2 hkz
        have hne0 : (Op.equalIn 10000 69 (.agg #[.int .i64 p0, .int .i64 p1, .int .i64 p2, .int .i64 p3]) (.agg #[.int .i64 l0, .int .i64 l1, .int .i64 l2, .int .i64 l3])).run Try.prog B1 = _ := run_equalIn_pos 9998 p0 p1 p2 p3 l0 l1 l2 l3 B1
        have HNE := Lib.hid hne0
        clear hne0
        have hd : ((decide (p0 = l0 ∧ p1 = l1 ∧ p2 = l2 ∧ p3 = l3)) = decide (k + 1 = pr sN)) := by
          obtain ⟨g1, g2⟩ := HPL.out
          rw [g1] at g2
          simp only [List.cons.injEq, and_true] at g2
          exact decide_eq_decide.2 g2
        have u0 := c1.cell (i := 0) rfl
        have u1 := c1.cell (i := 1) rfl
        have u2 := c1.cell (i := 2) rfl
        have u3 := c1.cell (i := 3) rfl
        have v0 := c2.cell (i := 0) rfl
        have v1 := c2.cell (i := 1) rfl
        have v2 := c2.cell (i := 2) rfl
        have v3 := c2.cell (i := 3) rfl
        have HCC := Lib.hid (And.intro c0 (And.intro c1 c2))
        clear c1 c2
        have hne := HNE.out
        rw [hd] at hne
        by_cases hend : k + 1 = pr sN
        · rw [decide_eq_true hend] at hne
          dsimp only
          gi_wp2
          go_wp2_with fail
          refine ⟨rfl, .tuple #[], by kernel_rfl, ⟨_, rfl⟩, ?_⟩
          rw [allPos_length, ← hend]
          exact hJ'
        · rw [decide_eq_false hend] at hne
          have w0' := c0.cell (i := 0) rfl
          clear c0
          dsimp only
          gi_wp2
          go_wp2_with fail
          go_loopw [8] (fun i wr => ∃ (j : Nat) (P : List Int), i = .int .i64 j ∧ Rst sN k j P ∧ Blk wr W.heap.size [.slice A sN.length c, .int .i64 o, .slice B dl e] 67 ∧
            Blk wr (W.heap.size + 1) (P.map (Value.int .i64)) 69 ∧ Blk wr (W.heap.size + 1 + 1) ([l0, l1, l2, l3].map (Value.int .i64)) 69 ∧ J (k + 1) wr ∧ W.heap.size + 3 ≤ wr.heap.size) (fun i _ => (intOf i).toNat)
          case atStart =>
            obtain ⟨d0, d1, d2⟩ := HCC.out
            have hr := Rst.first h1 k
            rw [HPL.out.1] at hr
            exact ⟨sN.length - 1, [p0, p1, p2, p3], by congr 1; omega, hr, d0, d1, d2, hJ', by have := HKZ.out.size; omega⟩
          case round =>
            clear HCC HKZ HPL u0 u1 u2 u3 v0 v1 v2 v3 w0' hne hd hJ' hJk hws
            obtain ⟨j, P, rfl, hr, b0, b1, b2, hJ', hws⟩ := hrel
            obtain ⟨x, m, hx, hm, hP⟩ := hr.cell h4
            have hj : j < sN.length := hr.2.1
            have hj4 : j < 4 := by omega
            have hmb := hsz m (List.mem_of_getElem? hm)
            have u1 := b1.cell (i := j) (by rw [List.getElem?_map, hP]; rfl)
            have hl := HL.out.2 j hj4
            rw [if_pos hj, hm, Option.getD_some] at hl
            have hj4i : (j : Int) < 4 := by omega
            have u2 := b2.cell (i := j) (by rw [List.getElem?_map, hl]; rfl)
            have uf := b1.free j
            have hxm := dg_lt (fun x hx => by have := hsz x hx; omega) hk j x m hx hm
            have HR := Lib.hid hr
            have HX := Lib.hid (And.intro hx hm)
            have HBB := Lib.hid (And.intro b0 (And.intro b1 b2))
            clear hr hx hm hl hP b0 b1 b2
            have hend' : k + 1 ≠ pr sN := hend
            have HE := Lib.hid hend'
            clear hend' hend
            by_cases he : x + 1 = m
            · have hq : ((x : Int) == (m : Int) - 1) = true := by simp; omega
              have HEQ := Lib.hid he
              clear he
              refine wp_seq_k ?_; intro K5 hK5
              refine wp_seq_k ?_; intro K6 hK6
              refine wp_seq_all (fun _ => false) (fun _ _ => undef) (fun _ _ _ => True) (by kernel_rfl) (by kernel_rfl) (fun _ _ _ _ _ _ => trivial) ?_
              repeat (first | (refine seq_skip (by rfl) ?_; simp only [Act.put, List.setIfInBounds_toArray, List.set_cons_zero, List.set_cons_succ, Nat.reduceAdd]) | (refine seq_pure (v := ?_) (by rfl) (by rfl) (fun W hW hC => ?_) ?_; rotate_left; (go_simp <;> with_reducible rfl); simp only [Act.put, List.setIfInBounds_toArray, List.set_cons_zero, List.set_cons_succ, Nat.reduceAdd]))
              refine seq_nil ?_
              intro W3 hW3 hF
              clear hF u1 u2
              have hws3 := hW3.size
              obtain ⟨b0, b1, b2⟩ := HBB.out
              replace b0 := b0.kept hW3
              replace b1 := b1.kept hW3
              replace b2 := b2.kept hW3
              have u1 := b1.cell (i := j) (by rw [List.getElem?_map, HR.out.cell h4 |>.choose_spec.choose_spec.2.2]; rfl)
              have uf := b1.free j
              replace hJ' := HJ.out _ _ _ hJ' (OffZ.of_below hW3)
              have HBC := Lib.hid (And.intro b0 (And.intro b1 b2))
              have HJ' := Lib.hid hJ'
              clear b0 b1 b2 HBB hJ' hW3
              go_wp2
              go_roundw
              case rel =>
                obtain ⟨b0, b1, b2⟩ := HBC.out
                have hr := HR.out
                obtain ⟨hx, hm⟩ := HX.out
                cases j with
                | zero => exact absurd (hr.no_end (fun x hx => by have := hsz x hx; omega) hk hx hm HEQ.out) HE.out
                | succ j =>
                  have hset := b1.set (j + 1) (.int .i64 0)
                  rw [← List.map_set] at hset
                  exact ⟨j, P.set (j + 1) 0, by go_num, hr.step hx hm HEQ.out, b0.other (by dsimp only; omega) _, hset, b2.other (by dsimp only; omega) _, HJ.out _ _ _ HJ'.out (OffZ.setCell _ (by dsimp only; omega) (by dsimp only; omega) _), by simp only [World.size_setCell]; omega⟩
              case measure =>
                have hr := HR.out
                obtain ⟨hx, hm⟩ := HX.out
                cases j with
                | zero => exact absurd (hr.no_end (fun x hx => by have := hsz x hx; omega) hk hx hm HEQ.out) HE.out
                | succ j => simp [intOf]
            · have hq : ((x : Int) == (m : Int) - 1) = false := by simp; omega
              have HEQ := Lib.hid he
              clear he
              refine wp_seq_k ?_; intro K5 hK5
              refine wp_seq_k ?_; intro K6 hK6
              refine wp_seq_all (fun _ => false) (fun _ _ => undef) (fun _ _ _ => True) (by kernel_rfl) (by kernel_rfl) (fun _ _ _ _ _ _ => trivial) ?_
              repeat (first | (refine seq_skip (by rfl) ?_; simp only [Act.put, List.setIfInBounds_toArray, List.set_cons_zero, List.set_cons_succ, Nat.reduceAdd]) | (refine seq_pure (v := ?_) (by rfl) (by rfl) (fun W hW hC => ?_) ?_; rotate_left; (go_simp <;> with_reducible rfl); simp only [Act.put, List.setIfInBounds_toArray, List.set_cons_zero, List.set_cons_succ, Nat.reduceAdd]))
              refine seq_nil ?_
              intro W3 hW3 hF
              clear hF u1 u2
              have hws3 := hW3.size
              obtain ⟨b0, b1, b2⟩ := HBB.out
              replace b0 := b0.kept hW3
              replace b1 := b1.kept hW3
              replace b2 := b2.kept hW3
              obtain ⟨x', m', hx', hm', hP⟩ := HR.out.cell h4
              obtain rfl : x = x' := by have := HX.out.1; rw [hx'] at this; exact (Option.some.inj this).symm
              have u1 := b1.cell (i := j) (by rw [List.getElem?_map, hP]; rfl)
              have uf := b1.free j
              replace hJ' := HJ.out _ _ _ hJ' (OffZ.of_below hW3)
              have HBC := Lib.hid (And.intro b0 (And.intro b1 b2))
              have HJ' := Lib.hid hJ'
              clear b0 b1 b2 HBB hJ' hW3 hx' hm' hP
              go_wp2
              go_roundg (gk - 1)
              case measure => have := HE.out; omega
              case rel =>
                obtain ⟨b0, b1, b2⟩ := HBC.out
                have hset := b1.set j (.int .i64 ((x : Int) + 1))
                rw [← List.map_set, HR.out.last (fun x hx => by have := hsz x hx; omega) hk HX.out.1 HX.out.2 HEQ.out] at hset
                exact ⟨k + 1, by have := HE.out; omega, HJ.out _ _ _ HJ'.out (OffZ.setCell _ (by dsimp only; omega) (by dsimp only; omega) _), b0.other (by dsimp only; omega) _, hset, b2.other (by dsimp only; omega) _, by simp only [World.size_setCell]; omega⟩
end Go.Proofs.Ytkkohelbidmkdaa
