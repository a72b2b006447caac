/-
  grid.Swap: what each call returns.
-/
import Derived.Test.YtkkohelbidmkdaaGTurn
import Derived.Test.YtkkohelbidmkdaaGRangeFn
import Derived.Test.YtkkohelbidmkdaaGSeqT
import Derived.Deep.DeepAppendRoom
import Derived.BigRegionIn
import Derived.Laws.MakeOwn
namespace Go.Proofs.Ytkkohelbidmkdaa
set_option linter.unusedVariables false
set_option linter.unusedSimpArgs false
open Go Go.RowKit
attribute [local go_sem] Oper.semAt_some run_store_func

theorem Blk.set3 {w : World} {b : Nat} {x y z : Value} {t : TypeId} (h : Blk w b [x, y, z] t) (x' y' z' : Value) :
    Blk (((w.setCell ⟨b, 0, none⟩ x').setCell ⟨b, 1, none⟩ y').setCell ⟨b, 2, none⟩ z') b [x', y', z'] t := ((h.set 0 x').set 1 y').set 2 z'
theorem Blk.other3 {w : World} {g b : Nat} {cs : List Value} {t : TypeId} (h : Blk w g cs t) (hne : g ≠ b) (x' y' z' : Value) :
    Blk (((w.setCell ⟨b, 0, none⟩ x').setCell ⟨b, 1, none⟩ y').setCell ⟨b, 2, none⟩ z') g cs t := ((h.other hne x').other hne y').other hne z'
theorem below_set3 {w w' : World} {b : Nat} (h : Below w.heap.size w w') (hb : w.heap.size ≤ b) (x' y' z' : Value) :
    Below w.heap.size w (((w'.setCell ⟨b, 0, none⟩ x').setCell ⟨b, 1, none⟩ y').setCell ⟨b, 2, none⟩ z') := ((h.setCell hb x').setCell hb y').setCell hb z'
theorem Own.other3 {w : World} {base : Nat} {v : Value} {xs : List Int} (h : Own w base v xs) {b : Nat} (hne : ∀ g, v.ownBlock = some g → g ≠ b) (x' y' z' : Value) :
    Own (((w.setCell ⟨b, 0, none⟩ x').setCell ⟨b, 1, none⟩ y').setCell ⟨b, 2, none⟩ z') base v xs := ((h.other (a := ⟨b, 0, none⟩) hne x').other (a := ⟨b, 1, none⟩) hne y').other (a := ⟨b, 2, none⟩) hne z'

theorem slice_block {g g' n n' c c' : Nat} (h : Value.slice (some ⟨g, 0, none⟩) n c = .slice (some ⟨g', 0, none⟩) n' c') : g = g' := by
  injection h with h
  injection h with h
  injection h

theorem heap_set {w : World} {g : Nat} {cur : Array Value} {t : TypeId} (h : w.heap[g]? = some (.cells cur t)) (i : Nat) (v : Value) : (w.setCell ⟨g, i, none⟩ v).heap[g]? = some (.cells (cur.setIfInBounds i v) t) := by
  have hlt := (Array.getElem?_eq_some_iff.1 h).1
  show (w.heap.modify g _)[g]? = _
  rw [Array.getElem?_eq_getElem (by rw [Array.size_modify]; exact hlt), Array.getElem_modify_self]
  rw [(Array.getElem?_eq_some_iff.1 h).2]
  simp
theorem one_store {g : Nat} {cur : Array Value} {t : TypeId} {i : Nat} {v : Value} {A W : World} (hA : A.heap[g]? = some (.cells cur t)) (hi : i < cur.size) (hW : RT.OneT g (.cells (cur.setIfInBounds i v) t) A W) :
    (∃ u, W.cell? ⟨g, i, none⟩ = some u) ∧ W.frozen? ⟨g, i, none⟩ = false ∧ RT.OneT g (.cells (cur.setIfInBounds i v) t) W (W.setCell ⟨g, i, none⟩ v) ∧ (W.setCell ⟨g, i, none⟩ v).heap[g]? = some (.cells (cur.setIfInBounds i v) t) := by
  obtain ⟨c, hc, hs, hcc⟩ : ∃ c : Array Value, W.heap[g]? = some (.cells c t) ∧ c.size = cur.size ∧ c.setIfInBounds i v = cur.setIfInBounds i v := by
    rcases hW.one with e | e
    · exact ⟨cur, e.trans hA, rfl, rfl⟩
    · exact ⟨_, e, by simp, by simp⟩
  have hh := heap_set hc i v
  rw [hcc] at hh
  refine ⟨⟨c[i]'(by omega), ?_⟩, by simp [World.frozen?, hc], .store _ rfl v hh, hh⟩
  simp only [World.cell?, hc]
  simp [hs, hi]
theorem Own.of_heap {A B : World} {base : Nat} {v : Value} {xs : List Int} (h : Own A base v xs) (hv : ∀ g, v.ownBlock = some g → B.heap[g]? = A.heap[g]?) : Own B base v xs := by
  obtain ⟨h1, h2⟩ := h
  refine ⟨h1, ?_⟩
  rcases h2 with h2 | ⟨g, cap, cur, rfl, hg, hh, r⟩
  · exact .inl h2
  · exact .inr ⟨g, cap, cur, rfl, hg, by rw [hv g rfl]; exact hh, r⟩

theorem append_spare {ops : Array Oper} {rest : List Oper} {o : Oper} {a : Act} {w : World} {Q : Exit → Act → World → Prop} (hg : o.guard = none) (s x : Operand)
    (ho : o.op = .call { callee := .builtin .append, args := #[s, x], argTypes := #[22, 22] }) (base gd : Nat) (xs : List Int) (cap : Nat) (hs : a.eval s = .slice (some ⟨gd, 0, none⟩) xs.length cap)
    (hown : Own w base (.slice (some ⟨gd, 0, none⟩) xs.length cap) xs) (ad : Addr) (c : Nat) (ys : List Int) (hx : a.eval x = .slice (some ad) ys.length c) (hy : Cs w .i64 (some ad) ys) (hroom : xs.length + ys.length ≤ cap)
    (h : ∀ w', Own w' base (.slice (some ⟨gd, 0, none⟩) (xs ++ ys).length cap) (xs ++ ys) → w.grownBy w' (some gd) → wpList Try.prog ops Q rest (a.put o.dst (.slice (some ⟨gd, 0, none⟩) (xs ++ ys).length cap)) w') : wpList Try.prog ops Q (o :: rest) a w := by
  obtain ⟨i0, hi, _, hz1, _⟩ := info_parts info_int
  refine wpList_append_own_spare w hg s x 22 ho base 3 i0 1 Try.underlying22 hi hz1 gd xs.length cap (xs.map (Value.int .i64)) hs hown ad ys.length c (ys.map (Value.int .i64)) hx (by simp) (fun j u hu => ?_) (fun u hu => ?_) hroom (fun w' h1 h2 => ?_)
  · rw [List.getElem?_map] at hu
    obtain ⟨y, hy1, rfl⟩ := Option.map_eq_some_iff.1 hu
    obtain ⟨b, o, e, hc⟩ := hy j y hy1
    cases e
    unfold Addr.add
    split
    · rename_i hj; subst hj; exact hc
    · exact hc
  · obtain ⟨y, _, rfl⟩ := List.mem_map.1 hu
    rfl
  · have hl : (xs ++ ys).length = xs.length + ys.length := List.length_append
    rw [hl] at h
    exact h w' (by unfold Own; rw [hl, List.map_append]; exact h1) h2

/-- make([]int, 0, n) -/
theorem make_ints (W : World) (n : Nat) (h1 : 1 ≤ n) (h2 : n ≤ 4096) (base : Nat) (hb : base ≤ W.heap.size) : ∃ W', (Instr.makeSlice 22 (.int .i64 0) (.int .i64 (n : Int))).run Try.prog W = .ok (.slice (some ⟨W.heap.size, 0, none⟩) 0 n) W' ∧
    Own W' base (.slice (some ⟨W.heap.size, 0, none⟩) 0 n) [] ∧ W'.cell? ⟨W.heap.size, 0, none⟩ = some (.int .i64 0) ∧ Below W.heap.size W W' := by
  obtain ⟨i0, hi, hz0, hz1, hz2⟩ := info_parts info_int
  have hr := run_make (P := Try.prog) W 22 3 i0 (.int .i64 0) Try.underlying22 hi hz0 .i64 .i64 0 n (Int.le_refl _) (by omega) (by rw [hz2]; omega) (by omega)
  simp only [Int.toNat_zero, Int.toNat_natCast] at hr
  rw [hz1] at hr
  refine ⟨_, hr, World.ownsRow_made W _ n hb (by simp only [maxLen]; omega) (size_madeCells _ _), ?_, below_alloc _⟩
  have hh := World.alloc_heap_new W (.cells (madeCells (Value.cells (.int .i64 0)) (n * 1)) 3)
  have h0 : (madeCells (Value.cells (.int .i64 0)) (n * 1))[0]? = some (.int .i64 0) := by
    unfold madeCells
    rw [Array.getElem?_map, Nat.mul_one]
    have : (Array.range n)[0]? = some 0 := by rw [Array.getElem?_eq_getElem (by simp; omega)]; simp
    rw [this]
    rfl
  simp only [World.cell?, hh]
  simpa using h0

def inputB (s : List Int) (a : Int) : Bool := decide (0 ≤ a) && decide (a < s.length)

def swapD (sN : List Nat) (d : List Int) (on a b : Nat) : Nat → List Int := fun k => rowAt d on (plN sN (swapN (dg (swapN sN a b) k) a b))
def toN (s : List Int) : List Nat := s.map Int.toNat
theorem toN_ints (sN : List Nat) : toN (ints sN) = sN := by
  unfold toN ints
  rw [List.map_map]
  exact (List.map_congr_left fun _ _ => by simp).trans (List.map_id _)

/-- Swap's results: the grid's three parts, the code. -/
def swapR (s : List Int) (o : Int) (d : List Int) (a b : Int) : List Int × Int × List Int × Int :=
  if checkN s o d ≠ 0 then ([], 0, [], 100) else if (inputB s a && inputB s b) = false then ([], 0, [], 2)
  else (swapL s a.toNat b.toNat, o, gathered (swapD (toN s) d o.toNat a.toNat b.toNat) (pr (toN s)), 0)

/-- What holds in Swap's loop ahead of the n-th round. -/
structure SwapI (w0 : World) (ca cb cr ct co gs gd base k1 L cap on : Nat) (a b : Nat) (TT : List Value) (sz : List Int) (f : Nat → List Int) (n : Nat) (W : World) : Prop where
  a : Blk W ca [.int .i64 a] 3
  b : Blk W cb [.int .i64 b] 3
  r : Blk W cr [.slice none 0 0, .int .i64 0, .slice none 0 0] 24
  tb : Blk W ct TT 67
  out : Blk W co [.slice (some ⟨gs, 0, none⟩) L k1, .int .i64 on, .slice (some ⟨gd, 0, none⟩) (gathered f n).length cap] 24
  sz : Own W base (.slice (some ⟨gs, 0, none⟩) L k1) sz
  dt : Own W base (.slice (some ⟨gd, 0, none⟩) (gathered f n).length cap) (gathered f n)
  below : Below w0.heap.size w0 W
theorem SwapI.kept {w0 : World} {ca cb cr ct co gs gd base k1 L cap on : Nat} {a b : Nat} {TT : List Value} {sz : List Int} {f : Nat → List Int} {n : Nat} {A B : World} (h : SwapI w0 ca cb cr ct co gs gd base k1 L cap on a b TT sz f n A) (hb : Below A.heap.size A B) : SwapI w0 ca cb cr ct co gs gd base k1 L cap on a b TT sz f n B :=
  ⟨h.a.kept hb, h.b.kept hb, h.r.kept hb, h.tb.kept hb, h.out.kept hb, h.sz.kept hb, h.dt.kept hb, below_trans h.below hb⟩
theorem offZ_grown {A B : World} {g : Nat} (h : A.grownBy B (some g)) : OffZ g (g + 1) A B :=
  ⟨h.os, h.tape, h.output, h.size, fun b hb hz => h.block b hb (fun e => by cases e; omega)⟩
theorem SwapI.offZ {w0 : World} {ca cb cr ct co gs gd base k1 L cap on : Nat} {a b : Nat} {TT : List Value} {sz : List Int} {f : Nat → List Int} {n z0 z1 : Nat} {A B : World} (h : SwapI w0 ca cb cr ct co gs gd base k1 L cap on a b TT sz f n A) (hz : OffZ z0 z1 A B)
    (h1 : ca < z0) (h2 : cb < z0) (h3 : cr < z0) (h4 : ct < z0) (h5 : co < z0) (h6 : gs < z0) (h7 : gd < z0) (h8 : w0.heap.size ≤ z0) : SwapI w0 ca cb cr ct co gs gd base k1 L cap on a b TT sz f n B :=
  ⟨h.a.offZ hz (.inl h1), h.b.offZ hz (.inl h2), h.r.offZ hz (.inl h3), h.tb.offZ hz (.inl h4), h.out.offZ hz (.inl h5), h.sz.offZ hz (fun g hg => by cases hg; exact .inl h6), h.dt.offZ hz (fun g hg => by cases hg; exact .inl h7), Below.offZ h.below (Nat.le_refl _) hz h8⟩

set_option maxHeartbeats 1600000 in
theorem swap_calls (A B : Option Addr) (c e : Nat) (s d : List Int) (o a b : Int) (w : World) (hs : Cs w .i64 A s) (hd : Cs w .i64 B d)
    (ls : s.length ≤ 9223372036854775807) (hA : A = none → c = 0) (ld : d.length ≤ e) (le : e ≤ 9223372036854775807) :
    Calls Try.prog 18 #[.agg #[.slice A s.length c, .int .i64 o, .slice B d.length e], .int .i64 a, .int .i64 b] w fun r w' => ∃ v1 v2, r = .returned (.tuple #[.agg #[v1, .int .i64 (swapR s o d a b).2.1, v2], .int .i64 (swapR s o d a b).2.2.2]) ∧
      Own w' w.heap.size v1 (swapR s o d a b).1 ∧ Own w' w.heap.size v2 (swapR s o d a b).2.2.1 ∧ Below w.heap.size w w' := by
  have HS := Lib.hid hs
  have HD := Lib.hid hd
  clear hs hd
  refine (callsIn_wide (n := 0)).1 (callsIn_of_wp_marks Try.func18 rfl trivial (wpIn_wide.2 ?_) rfl)
  simp only [Try.ntmps18, List.size_toArray, List.length_cons, List.length_nil, Nat.reduceAdd, Nat.reduceSub, Array.replicate_succ, Array.replicate_zero, List.push_toArray, List.append_toArray, List.nil_append, List.cons_append]
  go_wp2_with fail
  refine calls_named ?_
  intro w1 hw1
  have hb1 : Below w.heap.size w w1 := by rw [hw1]; repeat (first | exact below_alloc _ | refine below_trans ?_ (below_alloc _))
  have b0 : Blk w1 w.heap.size [.slice A s.length c, .int .i64 o, .slice B d.length e] 24 := by rw [hw1]; exact (((Blk.at rfl).alloc _).alloc _).alloc _
  have b1 : Blk w1 (w.heap.size + 1) [.int .i64 a] 3 := by rw [hw1]; exact ((Blk.at (by simp)).alloc _).alloc _
  have b2 : Blk w1 (w.heap.size + 1 + 1) [.int .i64 b] 3 := by rw [hw1]; exact (Blk.at (by simp)).alloc _
  have b3 : Blk w1 (w.heap.size + 1 + 1 + 1) [.slice none 0 0, .int .i64 0, .slice none 0 0] 24 := by rw [hw1]; exact Blk.at (by simp)
  clear hw1
  refine (check_calls A B c e s d o w1 (HS.out.kept hb1) (HD.out.kept hb1) ls (by omega)).mono ?_
  rintro r w2 ⟨rfl, hb2⟩
  have hb12 := below_trans hb1 hb2
  replace b0 := b0.kept hb2
  replace b1 := b1.kept hb2
  replace b2 := b2.kept hb2
  replace b3 := b3.kept hb2
  have c00 := b0.cell (i := 0) rfl
  have c01 := b0.cell (i := 1) rfl
  have c02 := b0.cell (i := 2) rfl
  have c30 := b3.cell (i := 0) rfl
  have c31 := b3.cell (i := 1) rfl
  have c32 := b3.cell (i := 2) rfl
  have f30 := b3.free 0
  have f31 := b3.free 1
  have f32 := b3.free 2
  have HB := Lib.hid hb12
  have HBB := Lib.hid (And.intro b0 (And.intro b1 (And.intro b2 b3)))
  clear hb1 hb2 hb12 b0 b1 b2 b3
  by_cases hc : checkN s o d = 0
  · have hv := (checkN_iff s o d).1 hc
    have HC := Lib.hid hc
    rw [hc]
    clear hc
    have HV := Lib.hid hv
    clear hv
    go_upto_region 5 with fail
    refine wp_named ?_
    intro w3 hw3
    have hb23 : Below w2.heap.size w2 w3 := by rw [hw3]; exact below_alloc _
    have b4 : Blk w3 w2.heap.size [.slice A s.length c, .int .i64 o, .slice B d.length e] 67 := by rw [hw3]; exact Blk.at rfl
    have hsz3 : w3.heap.size = w2.heap.size + 1 := by rw [hw3]; simp
    clear hw3 c00 c01 c02 c30 c31 c32 f30 f31 f32
    obtain ⟨b0, b1, b2, b3⟩ := HBB.out
    have hlt3 := b3.lt
    replace b1 := b1.kept hb23
    replace b2 := b2.kept hb23
    replace b3 := b3.kept hb23
    have hb3 := below_trans HB.out hb23
    have c40 := b4.cell (i := 0) rfl
    have c41 := b4.cell (i := 1) rfl
    have c42 := b4.cell (i := 2) rfl
    have c1 := b1.cell (i := 0) rfl
    have c2 := b2.cell (i := 0) rfl
    have HBB := Lib.hid (And.intro b1 (And.intro b2 (And.intro b3 b4)))
    have HB := Lib.hid hb3
    clear b0 b1 b2 b3 b4 hb3 hb23
    have ls4 := HV.out.len4
    go_wp2_with fail
    refine (input_calls _ _ _ _ _ _ _ _ _ ls).mono ?_
    rintro r w4 ⟨rfl, hb4⟩
    obtain ⟨b1, b2, b3, b4⟩ := HBB.out
    replace b1 := b1.kept hb4
    replace b2 := b2.kept hb4
    replace b3 := b3.kept hb4
    replace b4 := b4.kept hb4
    replace hb4 := below_trans HB.out hb4
    clear HBB HB c40 c41 c42 c1 c2 hsz3
    have c40 := b4.cell (i := 0) rfl
    have c41 := b4.cell (i := 1) rfl
    have c42 := b4.cell (i := 2) rfl
    have c2 := b2.cell (i := 0) rfl
    have HBB := Lib.hid (And.intro b1 (And.intro b2 (And.intro b3 b4)))
    have HB := Lib.hid hb4
    clear b1 b2 hb4
    obtain ⟨ia, hia⟩ : ∃ x, inputB s a = x := ⟨_, rfl⟩
    obtain ⟨ib, hib⟩ : ∃ x, inputB s b = x := ⟨_, rfl⟩
    rw [show (decide (0 ≤ a) && decide (a < (s.length : Int))) = ia from hia]
    cases ia with
    | false =>
      have HR := Lib.hid (show swapR s o d a b = ([], 0, [], 2) by unfold swapR; rw [if_neg (by rw [HC.out]; simp), if_pos (by rw [hia]; rfl)])
      clear hia hib
      have c30 := b3.cell (i := 0) rfl
      have c31 := b3.cell (i := 1) rfl
      have c32 := b3.cell (i := 2) rfl
      have f30 := b3.free 0
      have f31 := b3.free 1
      have f32 := b3.free 2
      clear b3 b4 c40 c41 c42 c2
      go_wp2_with fail
      have hz := HBB.out.2.2.1.set3 (.slice none 0 0) (.int .i64 0) (.slice none 0 0)
      have d0 := hz.cell (i := 0) rfl
      have d1 := hz.cell (i := 1) rfl
      have d2 := hz.cell (i := 2) rfl
      exact leaves_ret (.tuple #[.agg #[.slice none 0 0, .int .i64 0, .slice none 0 0], .int .i64 2]) (by simp [results, Try.results18, go_sem, d0, d1, d2]) ⟨_, _, by rw [HR.out], by rw [HR.out]; exact Own.nil _ _, by rw [HR.out]; exact Own.nil _ _, below_set3 HB.out (by omega) _ _ _⟩
    | true =>
      clear b3 b4
      go_wp2_with fail
      refine (input_calls _ _ _ _ _ _ _ _ _ ls).mono ?_
      rintro r w5 ⟨rfl, hb5⟩
      obtain ⟨b1, b2, b3, b4⟩ := HBB.out
      replace b1 := b1.kept hb5
      replace b2 := b2.kept hb5
      replace b3 := b3.kept hb5
      replace b4 := b4.kept hb5
      replace hb5 := below_trans HB.out hb5
      clear HBB HB c40 c41 c42 c2
      rw [show (decide (0 ≤ b) && decide (b < (s.length : Int))) = ib from hib]
      have HBB := Lib.hid (And.intro b1 (And.intro b2 (And.intro b3 b4)))
      have HB := Lib.hid hb5
      clear hb5
      cases ib with
      | false =>
        have HR := Lib.hid (show swapR s o d a b = ([], 0, [], 2) by unfold swapR; rw [if_neg (by rw [HC.out]; simp), if_pos (by rw [hia, hib]; rfl)])
        clear hia hib
        have c30 := b3.cell (i := 0) rfl
        have c31 := b3.cell (i := 1) rfl
        have c32 := b3.cell (i := 2) rfl
        have f30 := b3.free 0
        have f31 := b3.free 1
        have f32 := b3.free 2
        clear b1 b2 b3 b4
        go_wp2_with fail
        have hz := HBB.out.2.2.1.set3 (.slice none 0 0) (.int .i64 0) (.slice none 0 0)
        have d0 := hz.cell (i := 0) rfl
        have d1 := hz.cell (i := 1) rfl
        have d2 := hz.cell (i := 2) rfl
        exact leaves_ret (.tuple #[.agg #[.slice none 0 0, .int .i64 0, .slice none 0 0], .int .i64 2]) (by simp [results, Try.results18, go_sem, d0, d1, d2]) ⟨_, _, by rw [HR.out], by rw [HR.out]; exact Own.nil _ _, by rw [HR.out]; exact Own.nil _ _, below_set3 HB.out (by omega) _ _ _⟩
      | true =>
        have c40 := b4.cell (i := 0) rfl
        have c41 := b4.cell (i := 1) rfl
        have c42 := b4.cell (i := 2) rfl
        have c1 := b1.cell (i := 0) rfl
        have c2 := b2.cell (i := 0) rfl
        clear b1 b2 b3 b4
        have HI := Lib.hid (And.intro hia hib)
        clear hia hib
        obtain ⟨sN, rfl, hsN⟩ := nat_sizes HV.out.sizes
        have HSN := Lib.hid hsN
        clear hsN
        obtain ⟨on, rfl⟩ := Int.eq_ofNat_of_zero_le (show 0 ≤ o by have := HV.out.out1; omega)
        obtain ⟨an, rfl, han⟩ : ∃ an : Nat, a = an ∧ an < sN.length := by
          have h := HI.out.1
          unfold inputB at h
          simp only [Bool.and_eq_true, decide_eq_true_eq, ints_length] at h
          exact ⟨a.toNat, by omega, by omega⟩
        obtain ⟨bn, rfl, hbn⟩ : ∃ bn : Nat, b = bn ∧ bn < sN.length := by
          have h := HI.out.2
          unfold inputB at h
          simp only [Bool.and_eq_true, decide_eq_true_eq, ints_length] at h
          exact ⟨b.toNat, by omega, by omega⟩
        have fm := HV.out.most
        have fo := HV.out.out1
        have fo4 := HV.out.out4
        have hl4 : sN.length ≤ 4 := by rw [ints_length] at ls4; exact ls4
        have hdat := data_nat HV.out
        have hsp : ∀ x ∈ sN, 0 < x := fun x hx => by have := HSN.out x hx; omega
        have hpp := pr_pos hsp
        have hdl : 1 ≤ d.length := by rw [hdat]; exact Nat.mul_pos hpp (by omega)
        have HDAT := Lib.hid hdat
        clear hdat
        obtain ⟨bd, off, hB⟩ : ∃ b off, B = some ⟨b, off, none⟩ := by
          obtain ⟨_, b, off, _, h, _⟩ := HD.out.at (i := 0) (by omega)
          exact ⟨b, off, h⟩
        subst hB
        go_wp2_with fail
        refine wp_seq_tail 14 (fun k => k == 3 || k == 11 || k == 13) (fun k x => if k = 3 then .slice x.A (ints sN).length x.k else if k = 11 then .slice (some ⟨x.i, 0, none⟩) 0 d.length else .pointer (some ⟨x.i, 0, none⟩))
          (fun k x W => if k = 3 then Own W w5.heap.size (.slice x.A (ints sN).length x.k) (ints sN) else if k = 11 then Own W w5.heap.size (.slice (some ⟨x.i, 0, none⟩) 0 d.length) [] ∧ W.cell? ⟨x.i, 0, none⟩ = some (.int .i64 0) else Blk W x.i [.slice none 0 0, .int .i64 0, .slice none 0 0] 24 ∧ w5.heap.size ≤ x.i)
          (by kernel_rfl) (by kernel_rfl) (by decide) (fun k x A B hb h => ?_) ?_
        · split at h
          · rw [if_pos (by assumption)]; exact h.kept hb
          · rw [if_neg (by assumption)]
            split at h
            · rw [if_pos (by assumption)]; exact ⟨h.1.kept hb, kept hb h.2⟩
            · rw [if_neg (by assumption)]; exact ⟨h.1.kept hb, h.2⟩
        repeat (first | (refine seq_skip (by rfl) ?_; simp only [Act.put, List.setIfInBounds_toArray, List.set_cons_zero, List.set_cons_succ, Nat.reduceAdd]) | (refine seq_pure (v := ?_) (by rfl) (by rfl) (fun W hW hC => ?_) ?_; rotate_left; (go_simp <;> with_reducible rfl); simp only [Act.put, List.setIfInBounds_toArray, List.set_cons_zero, List.set_cons_succ, Nat.reduceAdd]))
        refine seq_made (by rfl) (by rfl) (fun W hW hC hF R hR => ?_) (fun x1 => ?_)
        · unfold Gives; go_simp
          refine (clone_calls A c (ints sN) W (HS.out.kept (below_trans HB.out hW)) hA (by rw [ints_length]; omega)).mono ?_
          rintro r w6 ⟨v, rfl, ho, hb⟩
          obtain ⟨A6, c6, rfl, _⟩ := ho.cs
          exact ⟨_, rfl, hR {A := A6, k := c6} _ hb (ho.lower hW.size)⟩
        simp only [↓reduceIte, Nat.reduceEqDiff]; simp only [Act.put, List.setIfInBounds_toArray, List.set_cons_zero, List.set_cons_succ, Nat.reduceAdd]
        repeat (first | (refine seq_skip (by rfl) ?_; simp only [Act.put, List.setIfInBounds_toArray, List.set_cons_zero, List.set_cons_succ, Nat.reduceAdd]) | (refine seq_pure (v := ?_) (by rfl) (by rfl) (fun W hW hC => ?_) ?_; rotate_left; (go_simp <;> with_reducible rfl); simp only [Act.put, List.setIfInBounds_toArray, List.set_cons_zero, List.set_cons_succ, Nat.reduceAdd]))
        refine seq_made (by rfl) (by rfl) (fun W hW hC hF R hR => ?_) (fun x2 => ?_)
        · obtain ⟨W', hm, ho, hc0, hb⟩ := make_ints W d.length hdl fm w5.heap.size hW.size
          unfold Gives; go_simp
          exact hR {i := W.heap.size} _ hb ⟨ho, hc0⟩
        simp only [↓reduceIte, Nat.reduceEqDiff]; simp only [Act.put, List.setIfInBounds_toArray, List.set_cons_zero, List.set_cons_succ, Nat.reduceAdd]
        repeat (first | (refine seq_skip (by rfl) ?_; simp only [Act.put, List.setIfInBounds_toArray, List.set_cons_zero, List.set_cons_succ, Nat.reduceAdd]) | (refine seq_pure (v := ?_) (by rfl) (by rfl) (fun W hW hC => ?_) ?_; rotate_left; (go_simp <;> with_reducible rfl); simp only [Act.put, List.setIfInBounds_toArray, List.set_cons_zero, List.set_cons_succ, Nat.reduceAdd]))
        refine seq_made (by rfl) (by rfl) (fun W hW hC hF R hR => ?_) (fun x3 => ?_)
        · unfold Gives; go_simp
          exact hR {i := W.heap.size} _ (below_alloc _) ⟨Blk.new _ _ _, hW.size⟩
        simp only [↓reduceIte, Nat.reduceEqDiff]; simp only [Act.put, List.setIfInBounds_toArray, List.set_cons_zero, List.set_cons_succ, Nat.reduceAdd]
        repeat (first | (refine seq_skip (by rfl) ?_; simp only [Act.put, List.setIfInBounds_toArray, List.set_cons_zero, List.set_cons_succ, Nat.reduceAdd]) | (refine seq_pure (v := ?_) (by rfl) (by rfl) (fun W hW hC => ?_) ?_; rotate_left; (go_simp <;> with_reducible rfl); simp only [Act.put, List.setIfInBounds_toArray, List.set_cons_zero, List.set_cons_succ, Nat.reduceAdd]))
        refine seq_nil ?_
        intro W hW hF
        have q1 := hF _ _ (List.mem_cons_of_mem _ (List.mem_cons_of_mem _ (List.mem_cons_self ..)))
        have q2 := hF _ _ (List.mem_cons_of_mem _ (List.mem_cons_self ..))
        have q3 := hF _ _ (List.mem_cons_self ..)
        clear hF
        obtain ⟨A1, hA1⟩ : ∃ A, x1.A = A := ⟨_, rfl⟩
        obtain ⟨k1, hk1⟩ : ∃ k, x1.k = k := ⟨_, rfl⟩
        obtain ⟨gd, hgd⟩ : ∃ g, x2.i = g := ⟨_, rfl⟩
        obtain ⟨gt, hgt⟩ : ∃ g, x3.i = g := ⟨_, rfl⟩
        rw [hA1, hk1] at q1 ⊢
        rw [hgd] at q2 ⊢
        rw [hgt] at q3 ⊢
        clear hA1 hk1 hgd hgt x1 x2 x3
        have c50 := q3.1.cell (i := 0) rfl
        have c51 := q3.1.cell (i := 1) rfl
        have c52 := q3.1.cell (i := 2) rfl
        have f50 := q3.1.free 0
        have f51 := q3.1.free 1
        have f52 := q3.1.free 2
        obtain ⟨b1, b2, b3, b4⟩ := HBB.out
        have hlt4 := b4.lt
        have HX := Lib.hid (And.intro (b1.kept hW) (And.intro (b2.kept hW) (And.intro (b3.kept hW) (And.intro (b4.kept hW) (And.intro q1 (And.intro q2 (And.intro q3 (below_trans HB.out hW))))))))
        have hWs := hW.size
        clear b1 b2 b3 b4 q1 q2 q3 HBB HB c40 c41 c42 c1 c2 hW
        go_upto_region 8 with fail
        refine wp_named ?_
        intro w6 hw6
        have hla : an < (ints sN).length := by rw [ints_length]; exact han
        have hlb : bn < (ints sN).length := by rw [ints_length]; exact hbn
        obtain ⟨b1, b2, b3, b4, q1, q2, q3, hbw⟩ := HX.out
        have hne1 := b1.lt
        have hgtl := q3.2
        obtain ⟨gs, cap, hv1, hgs, _, _, _, _, hgsl, _⟩ := q1.set (k := an) hla 0
        injection hv1 with hv1 _ hv3
        subst hv1 hv3
        have hgdl := (q2.1.block_ge gd rfl).1
        have hgt3 : gs ≠ gt := by
          rintro rfl
          obtain ⟨_, hh⟩ := q1
          rcases hh with ⟨hh, _⟩ | ⟨g, cap, cur, hh, _, hh2, _⟩
          · cases hh
          · injection hh with h1
            injection h1 with h1
            injection h1 with h1
            subst h1
            have := q3.1
            unfold Blk at this
            rw [hh2] at this
            simp at this
        have hgd3 : gd ≠ gt := by
          rintro rfl
          obtain ⟨_, hh⟩ := q2.1
          rcases hh with ⟨hh, _⟩ | ⟨g, cap, cur, hh, _, hh2, _⟩
          · cases hh
          · injection hh with h1
            injection h1 with h1
            injection h1 with h1
            subst h1
            have := q3.1
            unfold Blk at this
            rw [hh2] at this
            simp at this
        have hgds : gd ≠ gs := by
          rintro rfl
          obtain ⟨g, cap, hv0, _, _, _, hc0, _⟩ := q1.set (k := 0) (by omega) 0
          injection hv0 with hv0
          injection hv0 with hv0
          injection hv0 with hv0
          subst hv0
          have h0 := q2.2
          rw [hc0] at h0
          injection h0 with h0
          injection h0 with _ h0
          have := HV.out.sizes _ (List.getElem_mem (l := ints sN) (n := 0) (by omega))
          omega
        have r1 := b1.other3 (b := gt) (by omega) (.slice (some ⟨gs, 0, none⟩) (ints sN).length k1) (.int .i64 on) (.slice (some ⟨gd, 0, none⟩) 0 d.length)
        have r2 := b2.other3 (b := gt) (by omega) (.slice (some ⟨gs, 0, none⟩) (ints sN).length k1) (.int .i64 on) (.slice (some ⟨gd, 0, none⟩) 0 d.length)
        have r3 := b3.other3 (b := gt) (by omega) (.slice (some ⟨gs, 0, none⟩) (ints sN).length k1) (.int .i64 on) (.slice (some ⟨gd, 0, none⟩) 0 d.length)
        have r4 := b4.other3 (b := gt) (by omega) (.slice (some ⟨gs, 0, none⟩) (ints sN).length k1) (.int .i64 on) (.slice (some ⟨gd, 0, none⟩) 0 d.length)
        have r5 := q3.1.set3 (.slice (some ⟨gs, 0, none⟩) (ints sN).length k1) (.int .i64 on) (.slice (some ⟨gd, 0, none⟩) 0 d.length)
        have o1 := q1.other3 (b := gt) (fun g hg => by cases hg; exact hgt3) (.slice (some ⟨gs, 0, none⟩) (ints sN).length k1) (.int .i64 on) (.slice (some ⟨gd, 0, none⟩) 0 d.length)
        have o2 := q2.1.other3 (b := gt) (fun g hg => by cases hg; exact hgd3) (.slice (some ⟨gs, 0, none⟩) (ints sN).length k1) (.int .i64 on) (.slice (some ⟨gd, 0, none⟩) 0 d.length)
        have hb6 := below_set3 (b := gt) hbw (by have := HX.out.1.lt; have := b4.lt; omega) (.slice (some ⟨gs, 0, none⟩) (ints sN).length k1) (.int .i64 on) (.slice (some ⟨gd, 0, none⟩) 0 d.length)
        have hw6s : w6.heap.size = W.heap.size := by rw [hw6]; simp
        rw [← hw6] at r1 r2 r3 r4 r5 o1 o2 hb6
        clear hw6 c50 c51 c52 f50 f51 f52 b1 b2 b3 b4 q1 q2 q3 hbw HX
        obtain ⟨xa, ba, oa, hxa, rfl, hca⟩ := HS.out.at hla
        obtain ⟨xb, ba', oa', hxb, hAb, hcb⟩ := HS.out.at hlb
        cases hAb
        have hba := block_lt hca
        dsimp only at hba
        replace hca := kept hb6 hca
        replace hcb := kept hb6 hcb
        obtain ⟨g1, cap1, hv1, _, _, _, _, _, _, o3⟩ := o1.set (k := an) hla xb
        have he1 := slice_block hv1
        clear hv1
        subst he1
        obtain ⟨cur, hcur, hsz⟩ : ∃ cur : Array Value, w6.heap[gs]? = some (.cells cur 3) ∧ (ints sN).length ≤ cur.size := by
          obtain ⟨_, hh⟩ := o1
          rcases hh with ⟨hh, _⟩ | ⟨g, cap, cur, hh, _, hh2, hh3, _, hh4, _⟩
          · cases hh
          · injection hh with h1
            injection h1 with h1
            injection h1 with h1
            subst h1
            exact ⟨cur, hh2, by omega⟩
        have c1 := r1.cell (i := 0) rfl
        have c2 := r2.cell (i := 0) rfl
        have c40 := r4.cell (i := 0) rfl
        have c50 := r5.cell (i := 0) rfl
        have n1 : ¬ gt = gs := fun e => hgt3 e.symm
        have n2 : ¬ w.heap.size + 1 = gs := by omega
        have n3 : ¬ w.heap.size + 1 + 1 = gs := by omega
        have n4 : ¬ w2.heap.size = gs := by omega
        have n5 : ¬ ba = gs := by omega
        have HX := Lib.hid (And.intro r1 (And.intro r2 (And.intro r3 (And.intro r4 (And.intro r5 (And.intro o3 (And.intro o2 hb6)))))))
        have HXX := Lib.hid (And.intro hxa (And.intro hxb (And.intro hcur hsz)))
        clear r1 r2 r3 r4 r5 o1 o2 o3 hb6 hxa hxb hcur hsz
        refine RT.wp_seq_tail (T := RT.OneT gs (.cells (cur.setIfInBounds an (.int .i64 xb)) 3)) 20 (fun k => k == 19) (fun _ _ => undef) (fun _ _ W => W.heap[gs]? = some (.cells (cur.setIfInBounds an (.int .i64 xb)) 3)) trivial (by kernel_rfl) (by kernel_rfl) (by decide)
          (fun _ _ A B hT h => by rcases hT.one with e | e; exact e.trans h; exact e) ?_
        repeat (first | (refine RT.seq_skip (by rfl) ?_; simp only [Act.put, List.setIfInBounds_toArray, List.set_cons_zero, List.set_cons_succ, Nat.reduceAdd]) | (refine RT.seq_pure (v := ?_) (by rfl) (by rfl) (fun W hW hn => ?_) ?_; rotate_left; (have hC := RT.OneT.cell hW; clear hW hn; go_simp <;> with_reducible rfl); simp only [Act.put, List.setIfInBounds_toArray, List.set_cons_zero, List.set_cons_succ, Nat.reduceAdd]))
        refine RT.seq_made (by rfl) (by rfl) (fun W' hW' hn hF R hR => ?_) (fun _ => ?_)
        · clear hn
          obtain ⟨⟨u, hu⟩, hfz, hT, hX⟩ := one_store HXX.out.2.2.1 (by have := HXX.out.2.2.2; omega) hW'
          unfold RT.Gives
          go_simp
          exact hR {} _ hT hX (fun _ h => h)
        simp only [Act.put, List.setIfInBounds_toArray, List.set_cons_zero, List.set_cons_succ, Nat.reduceAdd]
        refine RT.seq_nil ?_
        intro W7 hW7 hF
        have hX7 := hF _ _ (List.mem_cons_self ..)
        clear hF
        obtain ⟨r1, r2, r3, r4, r5, o3, o2, hb6⟩ := HX.out
        have o4 := o3.of_heap (B := W7) (fun g hg => by cases hg; rw [hX7, heap_set HXX.out.2.2.1])
        replace r1 := hW7.blk r1 n2
        replace r2 := hW7.blk r2 n3
        replace r3 := hW7.blk r3 (by have := r3.lt; omega)
        replace r4 := hW7.blk r4 n4
        replace r5 := hW7.blk r5 n1
        replace o2 := hW7.own o2 (fun k hk => by cases hk; exact hgds)
        replace hb6 := hW7.below hb6 (by omega)
        have hlb' : bn < ((ints sN).set an xb).length := by rw [List.length_set]; exact hlb
        obtain ⟨g4, cap4, hv4, _, _, _, hsb, hfb, _, o5⟩ := o4.set (k := bn) hlb' xa
        injection hv4 with hv4 hv5 hv6
        injection hv4 with hv4
        injection hv4 with hv4
        subst hv4
        clear hv5 hv6
        have hsw : ((ints sN).set an xb).set bn xa = swapL (ints sN) an bn := by
          unfold swapL
          rw [HXX.out.1, HXX.out.2.1]; rfl
        rw [hsw] at o5
        obtain ⟨ub, hub⟩ : ∃ u, ((ints sN).set an xb)[bn]'hlb' = u := ⟨_, rfl⟩
        rw [hub] at hsb
        clear hub hsw hlb' o3 o4
        replace r1 := r1.other (a := ⟨gs, bn, none⟩) n2 (.int .i64 xa)
        replace r2 := r2.other (a := ⟨gs, bn, none⟩) n3 (.int .i64 xa)
        replace r3 := r3.other (a := ⟨gs, bn, none⟩) (by have := r3.lt; dsimp only; omega) (.int .i64 xa)
        replace r4 := r4.other (a := ⟨gs, bn, none⟩) n4 (.int .i64 xa)
        replace r5 := r5.other (a := ⟨gs, bn, none⟩) n1 (.int .i64 xa)
        replace o2 := o2.other (a := ⟨gs, bn, none⟩) (fun k hk => by cases hk; exact hgds) (.int .i64 xa)
        replace hb6 := hb6.setCell (p := ⟨gs, bn, none⟩) (by dsimp only; omega) (.int .i64 xa)
        have hgs7 := hW7.size
        have HX := Lib.hid (And.intro r1 (And.intro r2 (And.intro r3 (And.intro r4 (And.intro r5 (And.intro o5 (And.intro o2 hb6)))))))
        clear r1 r2 r3 r4 r5 o5 o2 hb6 hX7 hW7 hca hcb c1 c2 c40 c50 HXX
        go_upto_region 9 with fail
        refine wp_named ?_
        intro w8 hw8
        rw [← hw8] at HX
        have hw8s : w8.heap.size = W7.heap.size := by rw [hw8]; simp
        clear hw8 hsb hfb
        have c50 := HX.out.2.2.2.2.1.cell (i := 0) rfl
        have c51 := HX.out.2.2.2.2.1.cell (i := 1) rfl
        have c52 := HX.out.2.2.2.2.1.cell (i := 2) rfl
        go_wp2_with fail
        clear c50 c51 c52
        refine wp_frame ?_
        intro T hT
        obtain ⟨r1, r2, r3, r4, r5, o5, o2, hb6⟩ := HX.out
        have hln : (ints sN).length = (swapN sN an bn).length := by rw [ints_length, swapN_length]
        have hsn4 : (swapN sN an bn).length ≤ 4 := by rw [swapN_length]; exact hl4
        have hcs8 : Cs w8 .i64 (some ⟨gs, 0, none⟩) (ints (swapN sN an bn)) := by
          obtain ⟨A', c', hv, _, _, _, h⟩ := o5.cs
          injection hv with hv
          subst hv
          rw [ints_swap]; exact h
        have hit := indices_iter (some ⟨gs, 0, none⟩) (some ⟨gd, 0, none⟩) k1 d.length 0 (swapN sN an bn) on w8 hcs8 (by rw [swapN_length]; omega) hsn4 (swapN_all han hbn HSN.out)
        rw [← hln] at hit
        have hpos := pr_swap hl4 han hbn
        have HLN := Lib.hid hln
        have HPS := Lib.hid hpos
        clear hln hpos
        have lr1 := r1.lt
        have lr2 := r2.lt
        have lr3 := r3.lt
        have lr4 := r4.lt
        have lr5 := r5.lt
        have lgs := (o5.block_ge gs rfl).2
        have lgd := (o2.block_ge gd rfl).2
        have hIoff := fun n A B (h : SwapI w (w.heap.size + 1) (w.heap.size + 1 + 1) (w.heap.size + 1 + 1 + 1) w2.heap.size gt gs gd w5.heap.size k1 (ints sN).length d.length on an bn [.slice (some ⟨ba, oa, none⟩) (ints sN).length c, .int .i64 on, .slice (some ⟨bd, off, none⟩) d.length e] (swapL (ints sN) an bn) (swapD sN d on an bn) n A) (hz : OffZ w8.heap.size (w8.heap.size + 2 + 3) A B) => h.offZ hz lr1 lr2 lr3 lr4 lr5 lgs lgd hb6.size
        refine wp_range (c := 3) (by rw [hT]; rfl) (fun _ _ => rfl) hit (Below.refl _ _) ?_
          (SwapI w (w.heap.size + 1) (w.heap.size + 1 + 1) (w.heap.size + 1 + 1 + 1) w2.heap.size gt gs gd w5.heap.size k1 (ints sN).length d.length on an bn [.slice (some ⟨ba, oa, none⟩) (ints sN).length c, .int .i64 on, .slice (some ⟨bd, off, none⟩) d.length e] (swapL (ints sN) an bn) (swapD sN d on an bn))
          hIoff ⟨r1, r2, r3, r4, r5, o5, o2, hb6⟩
          (fun k x a' AW => ∃ b8, w8.heap.size + 2 + 3 ≤ b8 ∧ a' = { tmps := (T.setIfInBounds 67 (posN (dg (swapN sN an bn) k))).setIfInBounds 11 (.pointer (some ⟨b8, 0, none⟩)), defers := [] } ∧ Blk AW b8 ((pad4 (dg (swapN sN an bn) k)).map (Value.int .i64)) 69 ∧
            SwapI w (w.heap.size + 1) (w.heap.size + 1 + 1) (w.heap.size + 1 + 1 + 1) w2.heap.size gt gs gd w5.heap.size k1 (ints sN).length d.length on an bn [.slice (some ⟨ba, oa, none⟩) (ints sN).length c, .int .i64 on, .slice (some ⟨bd, off, none⟩) d.length e] (swapL (ints sN) an bn) (swapD sN d on an bn) k AW) ?_ ?_ ?_ ?_
        · intro k x hx
          rw [(allPos_some hx).2]; rfl
        · rintro k x a' AW BW ⟨b8, hb8, rfl, hq, hi⟩ hz
          exact ⟨b8, hb8, rfl, hq.offZ hz (.inr hb8), hIoff _ _ _ hi hz⟩
        · intro l n k x AW hx hI hsz K hK
          obtain ⟨hk, rfl⟩ := allPos_some hx
          have hK' := fun b8 h1 h2 h3 h4 h5 => hK { tmps := (T.setIfInBounds 67 (posN (dg (swapN sN an bn) k))).setIfInBounds 11 (.pointer (some ⟨b8, 0, none⟩)), defers := [] } (AW.alloc (.cells ((pad4 (dg (swapN sN an bn) k)).map (Value.int .i64)).toArray 69)) h1 ⟨b8, h2, h3, h4, h5⟩
          have HK := Lib.hid hK'
          have HIO := Lib.hid hIoff
          clear hK hK' hIoff
          rw [fold_one]
          subst hT
          unfold posN
          simp only [List.setIfInBounds_toArray, List.set_cons_succ, List.set_cons_zero]
          gi_wp2
          exact HK.out AW.heap.size (KeepZ.alloc _ (by omega)) (by omega) trivial (Blk.new _ _ _) (HIO.out _ _ _ hI (OffZ.alloc _))
        · intro l n k x a' AW hx hA hsz
          obtain ⟨b8, hb8, rfl, hq, hi⟩ := hA
          obtain ⟨hk, rfl⟩ := allPos_some hx
          subst hT
          unfold posN
          simp only [List.setIfInBounds_toArray, List.set_cons_succ, List.set_cons_zero]
          have ha4 : an < 4 := by omega
          have hb4 : bn < 4 := by omega
          have hai : (an : Int) < 4 := by omega
          have hbi : (bn : Int) < 4 := by omega
          obtain ⟨ya, hya⟩ : ∃ y, ((((dg (swapN sN an bn) k)[an]?.getD 0 : Nat)) : Int) = y := ⟨_, rfl⟩
          obtain ⟨yb, hyb⟩ : ∃ y, ((((dg (swapN sN an bn) k)[bn]?.getD 0 : Nat)) : Int) = y := ⟨_, rfl⟩
          have ua := hq.cell (i := an) (v := .int .i64 ya) (by rw [List.getElem?_map, pad4_at _ _ ha4, hya]; rfl)
          have ub := hq.cell (i := bn) (v := .int .i64 yb) (by rw [List.getElem?_map, pad4_at _ _ hb4, hyb]; rfl)
          have fa := hq.free an
          have fb := hq.free bn
          have c1 := hi.a.cell (i := 0) rfl
          have c2 := hi.b.cell (i := 0) rfl
          have hba : ¬ w.heap.size + 1 = b8 := by omega
          have hbb : ¬ w.heap.size + 1 + 1 = b8 := by omega
          have HCG := Lib.hid (show AW.heap[b8]? = some (.cells ((pad4 (dg (swapN sN an bn) k)).map (Value.int .i64)).toArray 69) from hq)
          have HA := Lib.hid (And.intro hya (And.intro hyb hi))
          have HIO := Lib.hid hIoff
          clear hya hyb hi hIoff hq r1 r2 r3 r4 r5 o5 o2 hb6 hit hx fa fb
          gi_wp2_with fail
          refine RT.wpIn_seq_tail (T := RT.OneN 9 b8 (.cells ((pad4 (dg (swapN sN an bn) k)).map (Value.int .i64)).toArray 69) (.cells (((pad4 (dg (swapN sN an bn) k)).map (Value.int .i64)).set an (.int .i64 yb)).toArray 69)) 10 (fun k => k == 9) (fun _ _ => undef)
            (fun _ _ W => W.heap[b8]? = some (.cells (((pad4 (dg (swapN sN an bn) k)).map (Value.int .i64)).set an (.int .i64 yb)).toArray 69)) HCG.out (by kernel_rfl) (by kernel_rfl) (by kernel_rfl) (by decide) (by rintro ⟨_, _, h⟩; exact absurd (And.left (a := Exit.outgrown = Exit.normal) h) (by simp))
            (fun _ _ A B hT h => by rcases RT.OneT.one hT with e | e; exact e.trans h; exact e) ?_
          repeat (first | (refine RT.seq_skip (by rfl) ?_; simp only [Act.put, List.setIfInBounds_toArray, List.set_cons_zero, List.set_cons_succ, Nat.reduceAdd]) | (refine RT.seq_pure (v := ?_) (by rfl) (by rfl) (fun W hW hn => ?_) ?_; rotate_left; (have hC := RT.OneT.cell hW; (try have hD := RT.here HCG.out (hn (show RT.isAnc _ _ 9 = true by decide +kernel))); clear hW hn; go_simp <;> with_reducible rfl); simp only [Act.put, List.setIfInBounds_toArray, List.set_cons_zero, List.set_cons_succ, Nat.reduceAdd]))
          refine RT.seq_made (by rfl) (by rfl) (fun W' hW' hn hF R hR => ?_) (fun _ => ?_)
          · clear hn
            obtain ⟨⟨u, hu⟩, hfz, hT, hX⟩ := one_store (i := an) (v := .int .i64 yb) HCG.out (by simp [pad4]; omega) (by rw [List.setIfInBounds_toArray]; exact hW')
            rw [List.setIfInBounds_toArray] at hT hX
            clear hW'
            unfold RT.Gives
            go_simp
            exact hR {} _ hT hX (fun h => absurd rfl h)
          simp only [Act.put, List.setIfInBounds_toArray, List.set_cons_zero, List.set_cons_succ, Nat.reduceAdd]
          refine RT.seq_nil ?_
          intro W9 hW9 hF
          have hX9 : Blk W9 b8 (((pad4 (dg (swapN sN an bn) k)).map (Value.int .i64)).set an (.int .i64 yb)) 69 := hF _ _ (List.mem_cons_self ..)
          clear hF
          obtain ⟨hya, hyb, hi⟩ := HA.out
          have hle : bn < (((pad4 (dg (swapN sN an bn) k)).map (Value.int .i64)).set an (.int .i64 yb)).length := by simp [pad4]; omega
          obtain ⟨ub9, hub9⟩ : ∃ u, (((pad4 (dg (swapN sN an bn) k)).map (Value.int .i64)).set an (.int .i64 yb))[bn]? = some u := ⟨_, List.getElem?_eq_getElem hle⟩
          have u9 := hX9.cell hub9
          have f9 := hX9.free bn
          have hX10 := hX9.set bn (.int .i64 ya)
          have hpd : (((pad4 (dg (swapN sN an bn) k)).map (Value.int .i64)).set an (.int .i64 yb)).set bn (.int .i64 ya) = (pad4 (swapN (dg (swapN sN an bn) k) an bn)).map (Value.int .i64) := by
            rw [← pad_swap (by simpa using hl4) (by simpa using han) (by simpa using hbn), hya, hyb, List.map_set, List.map_set]
          rw [hpd] at hX10
          have hz1 := hW9.offZ.trans (OffZ.setCell W9 (p := ⟨b8, bn, none⟩) (Nat.le_refl _) (Nat.lt_succ_self _) (.int .i64 ya))
          have hkz := (hW9.keepZ (z0 := w8.heap.size) hb8 hsz).trans (KeepZ.setCell W9 (p := ⟨b8, bn, none⟩) (.inr hb8) (.int .i64 ya))
          have hi10 := hi.offZ hz1 (by omega) (by omega) (by omega) (by omega) (by omega) (by omega) (by omega) (by omega)
          have HI10 := Lib.hid (And.intro hi10 (And.intro hX10 hkz))
          have hs9 : AW.heap.size ≤ W9.heap.size := hW9.size
          clear hi hX9 hX10 hz1 hkz hi10 HCG HA hpd hya hyb hub9 hle hW9 ua ub c1 c2
          go_wp2_with fail
          refine wpIn_named ?_
          intro W10 hW10
          rw [← hW10] at HI10
          have hs10 : W10.heap.size = W9.heap.size := by rw [hW10]; simp
          clear hW10 u9 f9
          obtain ⟨hi, hq, hkz⟩ := HI10.out
          obtain ⟨hil, hix⟩ := swap_within (a := an) (b := bn) hsp han hbn hk
          obtain ⟨hp1, hp2, _, _⟩ := place_ix HV.out hil hix
          have hdr : (swapD sN d on an bn k).length = on := by
            unfold swapD rowAt
            rw [List.length_take, List.length_drop]; omega
          have hgl : (gathered (swapD sN d on an bn) k).length = k * on := gathered_length fun j hj => by
            obtain ⟨hil, hix⟩ := swap_within (a := an) (b := bn) hsp han hbn (Nat.lt_trans hj hk)
            obtain ⟨_, hp2, _, _⟩ := place_ix HV.out hil hix
            unfold swapD rowAt
            rw [List.length_take, List.length_drop]; omega
          have hroom : (gathered (swapD sN d on an bn) k).length + (swapD sN d on an bn k).length ≤ d.length := by
            rw [hgl, hdr, HDAT.out, ← HPS.out]
            have h1 : (k + 1) * on ≤ pr (swapN sN an bn) * on := Nat.mul_le_mul_right _ hk
            rw [Nat.add_mul] at h1; omega
          have hval : ∀ W', Below W10.heap.size W10 W' → Calls Try.prog 38 #[.agg #[.slice (some ⟨ba, oa, none⟩) (ints sN).length c, .int .i64 on, .slice (some ⟨bd, off, none⟩) d.length e], posN (swapN (dg (swapN sN an bn) k) an bn)] W' fun r w' =>
              r = .returned (.slice (some ⟨bd, off + plN sN (swapN (dg (swapN sN an bn) k) an bn) * on, none⟩) on (e - plN sN (swapN (dg (swapN sN an bn) k) an bn) * on)) ∧ Below W'.heap.size W' w' := fun W' hW' =>
            values_calls _ bd off c e (ints sN) d on _ _ _ _ _ W' (HS.out.kept (below_trans hi.below hW')) ls4 hp1 hp2 ld le (by omega)
          unfold posN at hval
          have HVC := Lib.hid hval
          have HDR := Lib.hid (And.intro hdr hroom)
          have c12 := hi.out.cell (i := 2) rfl
          have c40 := hi.tb.cell (i := 0) rfl
          have c41 := hi.tb.cell (i := 1) rfl
          have c42 := hi.tb.cell (i := 2) rfl
          have q0 := hq.cell (i := 0) rfl
          have q1 := hq.cell (i := 1) rfl
          have q2 := hq.cell (i := 2) rfl
          have q3 := hq.cell (i := 3) rfl
          clear hval hdr hroom hgl hp1 hp2 hil hix hi hq hkz
          refine wpIn_seq_tail 5 (fun k => k == 4) (fun _ _ => .slice (some ⟨bd, off + plN sN (swapN (dg (swapN sN an bn) k) an bn) * on, none⟩) on (e - plN sN (swapN (dg (swapN sN an bn) k) an bn) * on)) (fun _ _ _ => True) (by kernel_rfl) (by kernel_rfl) (by kernel_rfl) (by decide) (by rintro ⟨_, _, h⟩; exact absurd (And.left (a := Exit.outgrown = Exit.normal) h) (by simp)) (fun _ _ _ _ _ _ => trivial) ?_
          repeat (first | (refine seq_skip (by rfl) ?_; simp only [Act.put, List.setIfInBounds_toArray, List.set_cons_zero, List.set_cons_succ, Nat.reduceAdd]) | (refine seq_pure (v := ?_) (by rfl) (by rfl) (fun W hW hC => ?_) ?_; rotate_left; (go_simp <;> with_reducible rfl); simp only [Act.put, List.setIfInBounds_toArray, List.set_cons_zero, List.set_cons_succ, Nat.reduceAdd]))
          refine seq_made (by rfl) (by rfl) (fun W' hW' hC hF R hR => ?_) (fun _ => ?_)
          · unfold Gives; go_simp; refine (HVC.out W' hW').mono ?_; rintro r w' ⟨rfl, hb'⟩; exact ⟨_, rfl, hR {} _ hb' trivial⟩
          simp only [Act.put, List.setIfInBounds_toArray, List.set_cons_zero, List.set_cons_succ, Nat.reduceAdd]
          refine seq_nil ?_
          intro W11 hW11 hF
          clear hF q0 q1 q2 q3 c40 c41 c42 HVC c12
          obtain ⟨hi, hq, hkz⟩ := HI10.out
          replace hi := hi.kept hW11
          have hs11 := hW11.size
          replace hkz := hkz.trans (KeepZ.of_below hW11 (by omega))
          obtain ⟨hdr, hroom⟩ := HDR.out
          have hcs : Cs W11 .i64 (some ⟨bd, off + plN sN (swapN (dg (swapN sN an bn) k) an bn) * on, none⟩) (swapD sN d on an bn k) := (HD.out.kept hi.below).sub _ _
          refine append_spare (by rfl) (.tmp 79) (.tmp 82) rfl w5.heap.size gd (gathered (swapD sN d on an bn) k) d.length rfl hi.dt _ (e - plN sN (swapN (dg (swapN sN an bn) k) an bn) * on) (swapD sN d on an bn k) (by rw [hdr]; rfl) hcs hroom ?_
          intro W12 how hgr
          have hs12 := hgr.size
          have hzz := offZ_grown hgr
          replace hkz := hkz.trans (KeepZ.grown hgr (by omega) (fun b hb => by cases hb; exact .inl lgd))
          have i1 := hi.a.offZ hzz (by omega)
          have i2 := hi.b.offZ hzz (by omega)
          have i3 := hi.r.offZ hzz (by omega)
          have i4 := hi.tb.offZ hzz (by omega)
          have i5 := hi.out.offZ hzz (by omega)
          have i6 := hi.sz.offZ hzz (fun g hg => by cases hg; rcases Nat.lt_or_gt_of_ne hgds with h | h; exact .inr h; exact .inl h)
          have i7 := Below.offZ hi.below (Nat.le_refl _) hzz (by omega)
          clear hi hq hcs hgr hzz hdr hroom
          have c12 := i5.cell (i := 2) rfl
          have f12 := i5.free 2
          have HF := Lib.hid (And.intro i1 (And.intro i2 (And.intro i3 (And.intro i4 (And.intro i5 (And.intro i6 (And.intro i7 (And.intro how hkz))))))))
          clear i1 i2 i3 i4 i5 i6 i7 how hkz hW11 HI10
          go_wp2_with fail
          obtain ⟨i1, i2, i3, i4, i5, i6, i7, how, hkz⟩ := HF.out
          have lgd' := (how.block_ge gd rfl).1
          have hww : w.heap.size + 3 < w2.heap.size := hlt3
          rw [← List.length_append]
          rw [hw8s] at *
          have h5 := i5.set 2 (.slice (some ⟨gd, 0, none⟩) (gathered (swapD sN d on an bn) k ++ swapD sN d on an bn k).length d.length)
          refine ⟨hkz.trans (KeepZ.setCell W12 (p := ⟨gt, 2, none⟩) (.inl lr5) _), ⟨i1.other (by dsimp only; omega) _, i2.other (by dsimp only; omega) _, i3.other (by dsimp only; omega) _, i4.other (by dsimp only; omega) _, h5, i6.other (fun g hg => by cases hg; exact hgt3) _, how.other (fun g hg => by cases hg; exact hgd3) _, i7.setCell (by dsimp only; omega) _⟩⟩
        · intro W9 hI hK9
          rw [allPos_length, HPS.out] at hI
          have c50 := hI.out.cell (i := 0) rfl
          have c51 := hI.out.cell (i := 1) rfl
          have c52 := hI.out.cell (i := 2) rfl
          have c60 := hI.r.cell (i := 0) rfl
          have c61 := hI.r.cell (i := 1) rfl
          have c62 := hI.r.cell (i := 2) rfl
          have f60 := hI.r.free 0
          have f61 := hI.r.free 1
          have f62 := hI.r.free 2
          have HE := Lib.hid (And.intro hI hK9)
          clear hI hK9 r1 r2 r3 r4 r5 o5 o2 hb6 hit hIoff
          subst hT
          go_wp2_with fail
          obtain ⟨hI, hK9⟩ := HE.out
          have hgsw := (hI.sz.block_ge gs rfl).1
          have hgdw := (hI.dt.block_ge gd rfl).1
          have hR : swapR (ints sN) on d an bn = (swapL (ints sN) an bn, (on : Int), gathered (swapD sN d on an bn) (pr sN), 0) := by
            unfold swapR
            rw [if_neg (by rw [HC.out]; simp), if_neg (by rw [HI.out.1, HI.out.2]; simp), toN_ints]; simp
          rw [hR]
          have hlt9 : w8.heap.size < W9.heap.size := (Array.getElem?_eq_some_iff.1 hK9).1
          refine leaves_mark (r := w8.heap.size) ?_ fun W10 hW10 => ?_
          · rw [Below.heap_setCell _ _ _ _ (by dsimp only; omega), Below.heap_setCell _ _ _ _ (by dsimp only; omega), Below.heap_setCell _ _ _ _ (by dsimp only; omega)]; exact hK9
          have hz := (hI.r.set3 (.slice (some ⟨gs, 0, none⟩) (ints sN).length k1) (.int .i64 on) (.slice (some ⟨gd, 0, none⟩) (gathered (swapD sN d on an bn) (pr sN)).length d.length)).offZ hW10 (.inl (by omega))
          have d0 := hz.cell (i := 0) rfl
          have d1 := hz.cell (i := 1) rfl
          have d2 := hz.cell (i := 2) rfl
          refine ⟨.tuple #[.agg #[.slice (some ⟨gs, 0, none⟩) (ints sN).length k1, .int .i64 on, .slice (some ⟨gd, 0, none⟩) (gathered (swapD sN d on an bn) (pr sN)).length d.length], .int .i64 0], by simp [results, Try.results18, go_sem, d0, d1, d2], _, _, rfl, ?_, ?_, ?_⟩
          · have hn : gs ≠ w.heap.size + 1 + 1 + 1 := by omega
            exact ((hI.sz.other3 (fun g hg => by cases hg; exact hn) _ _ _).offZ hW10 (fun g hg => by cases hg; exact .inl lgs)).lower (by omega)
          · have hn : gd ≠ w.heap.size + 1 + 1 + 1 := by omega
            exact ((hI.dt.other3 (fun g hg => by cases hg; exact hn) _ _ _).offZ hW10 (fun g hg => by cases hg; exact .inl lgd)).lower (by omega)
          · exact Below.offZ (below_set3 hI.below (by omega) _ _ _) (Nat.le_refl _) hW10 (by omega)
  · have hc100 : checkN s o d = 100 := (checkN_or s o d).resolve_left hc
    have HR := Lib.hid (show swapR s o d a b = ([], 0, [], 100) by unfold swapR; rw [if_pos hc])
    rw [hc100]
    clear hc hc100
    go_wp2_with fail
    obtain ⟨b0, b1, b2, b3⟩ := HBB.out
    have hz := b3.set3 (.slice none 0 0) (.int .i64 0) (.slice none 0 0)
    have d0 := hz.cell (i := 0) rfl
    have d1 := hz.cell (i := 1) rfl
    have d2 := hz.cell (i := 2) rfl
    exact leaves_ret (.tuple #[.agg #[.slice none 0 0, .int .i64 0, .slice none 0 0], .int .i64 100]) (by simp [results, Try.results18, go_sem, d0, d1, d2]) ⟨_, _, by rw [HR.out], by rw [HR.out]; exact Own.nil _ _, by rw [HR.out]; exact Own.nil _ _, below_set3 HB.out (by omega) _ _ _⟩
end Go.Proofs.Ytkkohelbidmkdaa
