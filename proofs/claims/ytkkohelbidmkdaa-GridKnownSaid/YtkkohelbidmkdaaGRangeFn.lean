/-
  grid.Range: what each call returns.
-/
import Derived.Test.YtkkohelbidmkdaaGComb
import Derived.Test.YtkkohelbidmkdaaGAt
import Derived.Test.YtkkohelbidmkdaaGNat
import Derived.Deep.Cut
import Derived.BigRegion
namespace Go.Proofs.Ytkkohelbidmkdaa
set_option linter.unusedVariables false
set_option linter.unusedSimpArgs false
open Go Go.RowKit
theorem run_store_func {P : Program} (w : World) (a : Addr) (m : Mode) (f : Fn) (b c : Array Value) : (store a (.func f b c) m).run P w = stored P w a (.func f b c) m := run_store P w a _ m rfl
attribute [local go_sem] Oper.semAt_some run_store_func

theorem lesser_calls (x y : Int) (w : World) : Calls Try.prog 51 #[.int .i64 x, .int .i64 y] w fun r w' => r = .returned (.int .i64 (min x y)) ∧ w' = w := by
  go_enter Try.func51, Try.ntmps51
  go_wp2
  all_goals
    go_ret
    exact ⟨ret_int (by omega), rfl⟩

theorem greater_calls (x y : Int) (w : World) : Calls Try.prog 52 #[.int .i64 x, .int .i64 y] w fun r w' => r = .returned (.int .i64 (max x y)) ∧ w' = w := by
  go_enter Try.func52, Try.ntmps52
  go_wp2
  all_goals
    go_ret
    exact ⟨ret_int (by omega), rfl⟩

/-- The values at the k-th index. -/
def rowAt (d : List Int) (o k : Nat) : List Int := (d.drop (k * o)).take o
/-- The rows before the k-th, joined. -/
def joined (g : Int → Int → Int) (d : List Int) (o k : Nat) : List Int := (List.range k).foldl (fun acc j => List.zipWith g acc (rowAt d o j)) (d.take o)

theorem joined_succ (g : Int → Int → Int) (d : List Int) (o k : Nat) : joined g d o (k + 1) = List.zipWith g (joined g d o k) (rowAt d o k) := by
  unfold joined; rw [List.range_succ, List.foldl_append]; rfl

theorem rowAt_length {d : List Int} {o k n : Nat} (hk : k < n) (hd : d.length = n * o) : (rowAt d o k).length = o := by
  unfold rowAt
  rw [List.length_take, List.length_drop]
  have h1 : (k + 1) * o ≤ n * o := Nat.mul_le_mul_right _ hk
  have h2 : (k + 1) * o = k * o + o := by rw [Nat.add_mul]; omega
  omega
theorem joined_length {g : Int → Int → Int} {d : List Int} {o n : Nat} (hd : d.length = n * o) (hn : 0 < n) : ∀ {k : Nat}, k ≤ n → (joined g d o k).length = o
  | 0, _ => by
    have h1 : 1 * o ≤ n * o := Nat.mul_le_mul_right _ hn
    unfold joined; simp; omega
  | k + 1, hk => by
    rw [joined_succ, List.length_zipWith, joined_length hd hn (k := k) (by omega), rowAt_length (by omega) hd]; omega

theorem Cs.sub {w : World} {q : IntKind} {b off : Nat} {xs : List Int} (h : Cs w q (some ⟨b, off, none⟩) xs) (m n : Nat) : Cs w q (some ⟨b, off + m, none⟩) ((xs.drop m).take n) := by
  intro i x hx
  rw [List.getElem?_take] at hx
  split at hx
  · rw [List.getElem?_drop] at hx
    obtain ⟨b', o', e', hc'⟩ := h (m + i) x hx
    cases e'
    exact ⟨b, off + m, rfl, by rw [Nat.add_assoc]; exact hc'⟩
  · cases hx

theorem Own.offZ {z0 z1 : Nat} {A B : World} {base : Nat} {v : Value} {xs : List Int} (h : Own A base v xs) (hz : OffZ z0 z1 A B) (hv : ∀ g, v.ownBlock = some g → g < z0 ∨ z1 ≤ g) : Own B base v xs := by
  obtain ⟨h1, h2⟩ := h
  refine ⟨h1, ?_⟩
  rcases h2 with h2 | ⟨g, cap, cur, rfl, hg, hh, r⟩
  · exact .inl h2
  · exact .inr ⟨g, cap, cur, rfl, hg, by rw [hz.block g (Array.getElem?_eq_some_iff.1 hh).1 (hv g rfl)]; exact hh, r⟩
theorem Own.drew {w : World} {base : Nat} {v : Value} {xs : List Int} (h : Own w base v xs) : Own w.drew base v xs := h
theorem Own.block_ge {w : World} {base : Nat} {v : Value} {xs : List Int} (h : Own w base v xs) : ∀ g, v.ownBlock = some g → base ≤ g ∧ g < w.heap.size := by
  intro g hg
  rcases h.2 with ⟨rfl, _⟩ | ⟨g', cap, cur, rfl, hg', hh, _⟩
  · simp [Value.ownBlock] at hg
  · simp [Value.ownBlock] at hg; subst hg; exact ⟨hg', (Array.getElem?_eq_some_iff.1 hh).1⟩
/-- A store elsewhere leaves an own row as it was. -/
theorem Own.other {w : World} {base : Nat} {v : Value} {xs : List Int} (h : Own w base v xs) {a : Addr} (hne : ∀ g, v.ownBlock = some g → g ≠ a.block) (u : Value) : Own (w.setCell a u) base v xs := by
  obtain ⟨h1, h2⟩ := h
  refine ⟨h1, ?_⟩
  rcases h2 with h2 | ⟨g, cap, cur, rfl, hg, hh, r⟩
  · exact .inl h2
  · exact .inr ⟨g, cap, cur, rfl, hg, by rw [Below.heap_setCell _ _ _ _ (hne g rfl)]; exact hh, r⟩

/-- A function that holds ranges over functions returns: no mark is left, or one. -/
theorem leaves_ret {P : Program} {fn : Func} {R : Ending → World → Prop} {tmps : Array Value} {W : World} (v : Value) (hres : (results fn tmps).run P W = .ok v W) (hR : R (.returned v) W) :
    bodyPostM Fence.wide 0 P fn R .ret { tmps, defers := [] } W := ⟨v, hres, hR⟩
theorem leaves_mark {P : Program} {fn : Func} {R : Ending → World → Prop} {tmps : Array Value} {W : World} {r : Nat} (hK : W.heap[r]? = some (.deferred (some [])))
    (h : ∀ W', OffZ r (r + 1) W W' → ∃ v, (results fn tmps).run P W' = .ok v W' ∧ R (.returned v) W') :
    bodyPostM Fence.wide 0 P fn R .ret { tmps, defers := [{ target := .collected r, args := #[] }] } W :=
  ⟨by simp, .inl ⟨_, _, rfl, run_takeDeferred hK, h _ (OffZ.putObj _ (Nat.le_refl _) (by omega) _)⟩⟩

/-- Range's three results. -/
def rangeR (s : List Int) (o : Int) (d : List Int) : List Int × List Int × Int :=
  if checkN s o d ≠ 0 then ([], [], 100) else (joined min d o.toNat (prodI s).toNat, joined max d o.toNat (prodI s).toNat, 0)

theorem wpIn_named {F : Fence} {n : Nat} {P : Program} {c : Code} {Q : Exit → Act → World → Prop} {a : Act} {w : World} (h : ∀ w', w' = w → c.wpIn F n P Q a w') : c.wpIn F n P Q a w := h w rfl

theorem wp_frame {P : Program} {c : Code} {Q : Exit → Act → World → Prop} {T : Array Value} {w : World} (h : ∀ T', T' = T → c.wp P Q { tmps := T', defers := [] } w) : c.wp P Q { tmps := T, defers := [] } w := h T rfl

theorem fold_one (T : Array Value) (p : Nat) (v : Value) : (#[p].zip #[v]).foldl (fun t (p, v) => t.setIfInBounds p v) T = T.setIfInBounds p v := by simp

theorem allPos_some {s : List Nat} {k : Nat} {x : Array Value} (h : (allPos s)[k]? = some x) : k < pr s ∧ x = #[posN (dg s k)] := by
  have hk : k < pr s := by have := (List.getElem?_eq_some_iff.1 h).1; rwa [allPos_length] at this
  rw [allPos_at hk] at h
  exact ⟨hk, (Option.some.inj h).symm⟩

/-- A variable's cell holds a row that lies outside of z0 .. z1. -/
def RowI (cell base z0 z1 o : Nat) (xs : List Int) (W : World) : Prop :=
  ∃ A k, Blk W cell [.slice A o k] 22 ∧ Own W base (.slice A o k) xs ∧ ∀ g, (Value.slice A o k).ownBlock = some g → g < z0 ∨ z1 ≤ g
theorem RowI.offZ {cell base z0 z1 o : Nat} {xs : List Int} {A B : World} (h : RowI cell base z0 z1 o xs A) (hz : OffZ z0 z1 A B) (hc : cell < z0) : RowI cell base z0 z1 o xs B := by
  obtain ⟨a, k, h1, h2, h3⟩ := h
  exact ⟨a, k, h1.offZ hz (.inl hc), h2.offZ hz h3, h3⟩

/-- What holds in Range's loop ahead of the n-th round. -/
structure RangeI (w0 : World) (cl ch ct cf base z0 z1 on : Nat) (F : Value) (TT : List Value) (d : List Int) (n : Nat) (W : World) : Prop where
  lo : RowI cl base z0 z1 on (joined min d on n) W
  hi : RowI ch base z0 z1 on (joined max d on n) W
  tb : Blk W ct TT 67
  fn : Blk W cf [F] 76
  below : Below w0.heap.size w0 W
theorem RangeI.offZ {w0 : World} {cl ch ct cf base z0 z1 on : Nat} {F : Value} {TT : List Value} {d : List Int} {n : Nat} {A B : World} (h : RangeI w0 cl ch ct cf base z0 z1 on F TT d n A) (hz : OffZ z0 z1 A B)
    (h1 : cl < z0) (h2 : ch < z0) (h3 : ct < z0) (h4 : cf < z0) (h5 : w0.heap.size ≤ z0) : RangeI w0 cl ch ct cf base z0 z1 on F TT d n B :=
  ⟨h.lo.offZ hz h1, h.hi.offZ hz h2, h.tb.offZ hz (.inl h3), h.fn.offZ hz (.inl h4), Below.offZ h.below (Nat.le_refl _) hz h5⟩

set_option maxHeartbeats 800000 in
theorem range_calls (A B : Option Addr) (c e : Nat) (s d : List Int) (o : Int) (w : World) (hs : Cs w .i64 A s) (hd : Cs w .i64 B d)
    (ls : s.length ≤ 9223372036854775807) (ld : d.length ≤ e) (le : e ≤ 9223372036854775807) :
    Calls Try.prog 27 #[.agg #[.slice A s.length c, .int .i64 o, .slice B d.length e]] w fun r w' => ∃ v1 v2, r = .returned (.tuple #[v1, v2, .int .i64 (rangeR s o d).2.2]) ∧
      Own w' w.heap.size v1 (rangeR s o d).1 ∧ Own w' w.heap.size v2 (rangeR s o d).2.1 ∧ Below w.heap.size w w' := by
  have HS := Lib.hid hs
  have HD := Lib.hid hd
  clear hs hd
  refine (callsIn_wide (n := 0)).1 (callsIn_of_wp_marks Try.func27 rfl trivial (wpIn_wide.2 ?_) rfl)
  simp only [Try.ntmps27, List.size_toArray, List.length_cons, List.length_nil, Nat.reduceAdd, Nat.reduceSub, Array.replicate_succ, Array.replicate_zero, List.push_toArray, List.append_toArray, List.nil_append, List.cons_append]
  go_wp2_with fail
  refine calls_named ?_
  intro w1 hw1
  have hb1 : Below w.heap.size w w1 := by rw [hw1]; repeat (first | exact below_alloc _ | refine below_trans ?_ (below_alloc _))
  have b0 : Blk w1 w.heap.size [.slice A s.length c, .int .i64 o, .slice B d.length e] 24 := by rw [hw1]; exact ((Blk.at rfl).alloc _).alloc _
  have b1 : Blk w1 (w.heap.size + 1) [.slice none 0 0] 22 := by rw [hw1]; exact (Blk.at (by simp)).alloc _
  have b2 : Blk w1 (w.heap.size + 1 + 1) [.slice none 0 0] 22 := by rw [hw1]; exact Blk.at (by simp)
  clear hw1
  refine (check_calls A B c e s d o w1 (HS.out.kept hb1) (HD.out.kept hb1) ls (by omega)).mono ?_
  rintro r w2 ⟨rfl, hb2⟩
  have hb12 := below_trans hb1 hb2
  replace b0 := b0.kept hb2
  replace b1 := b1.kept hb2
  replace b2 := b2.kept hb2
  have c00 := b0.cell (i := 0) rfl
  have c01 := b0.cell (i := 1) rfl
  have c02 := b0.cell (i := 2) rfl
  have c1 := b1.cell (i := 0) rfl
  have c2 := b2.cell (i := 0) rfl
  have f1 := b1.free 0
  have f2 := b2.free 0
  have HB := Lib.hid hb12
  have HBB := Lib.hid (And.intro b0 (And.intro b1 b2))
  clear hb1 hb2 hb12 b0 b1 b2
  by_cases hc : checkN s o d = 0
  · have hv := (checkN_iff s o d).1 hc
    have HC := Lib.hid hc
    rw [hc]
    clear hc
    have HV := Lib.hid hv
    clear hv
    obtain ⟨sN, rfl, hsN⟩ := nat_sizes HV.out.sizes
    have HSN := Lib.hid hsN
    clear hsN
    obtain ⟨on, rfl⟩ := Int.eq_ofNat_of_zero_le (show 0 ≤ o by have := HV.out.out1; omega)
    have fm := HV.out.most
    have fo := HV.out.out1
    have fo4 := HV.out.out4
    have hfit : on ≤ d.length := by
      have h1 := HV.out.data
      obtain ⟨p1, p2, p3⟩ := prodW_eq HV.out.sizes HV.out.len4
      have h3 : 1 * (on : Int) ≤ prodI (ints sN) * on := Int.mul_le_mul_of_nonneg_right (by omega) (by omega)
      omega
    obtain ⟨b, off, hB⟩ : ∃ b off, B = some ⟨b, off, none⟩ := by
      obtain ⟨_, b, off, _, h, _⟩ := HD.out.at (i := 0) (by omega)
      exact ⟨b, off, h⟩
    subst hB
    go_wp2_with fail
    refine wp_named ?_
    intro w3 hw3
    obtain ⟨b0, b1, b2⟩ := HBB.out
    have b3 : Blk w3 w2.heap.size [.slice A (ints sN).length c, .int .i64 on, .slice (some ⟨b, off, none⟩) d.length e] 67 := by rw [hw3]; exact Blk.at rfl
    have hb23 : Below w2.heap.size w2 w3 := by rw [hw3]; exact below_alloc _
    have hsz3 : w3.heap.size = w2.heap.size + 1 := by rw [hw3]; simp
    clear hw3
    replace b1 := b1.kept hb23
    replace b2 := b2.kept hb23
    have hb3 := below_trans HB.out hb23
    have hb2s : w.heap.size + 3 ≤ w2.heap.size := by have := HBB.out.2.2.lt; omega
    clear b0 c00 c01 c02 c1 c2 f1 f2 HBB HB hb23
    have c30 := b3.cell (i := 0) rfl
    have c31 := b3.cell (i := 1) rfl
    have c32 := b3.cell (i := 2) rfl
    have c1 := b1.cell (i := 0) rfl
    have c2 := b2.cell (i := 0) rfl
    have f1 := b1.free 0
    have f2 := b2.free 0
    have HB := Lib.hid hb3
    have HBB := Lib.hid (And.intro b1 (And.intro b2 b3))
    clear hb3 b1 b2 b3
    have hcl : ∀ W, Below w3.heap.size w3 W → Calls Try.prog 12 #[.slice (some ⟨b, off, none⟩) on e] W fun r w' => ∃ v, r = .returned v ∧ Own w' w3.heap.size v (d.take on) ∧ Below W.heap.size W w' := by
      intro W hW
      have hcs := (HD.out.kept (below_trans HB.out hW)).sub 0 on
      have hl : ((d.drop 0).take on).length = on := by rw [List.length_take, List.length_drop]; omega
      have h := clone_calls (some ⟨b, off + 0, none⟩) e ((d.drop 0).take on) W hcs (fun h => by cases h) (by rw [hl]; omega)
      rw [hl] at h
      refine h.mono ?_
      rintro r w' ⟨v, rfl, ho, hb⟩
      exact ⟨v, rfl, ho.lower hW.size, hb⟩
    have HCL := Lib.hid hcl
    clear hcl
    refine wp_seq_tail 16 (fun k => k == 7 || k == 15) (fun _ x => x.v) (fun _ x W => Own W w3.heap.size x.v (d.take on)) (by kernel_rfl) (by kernel_rfl) (by decide) (fun _ _ _ _ hb h => h.kept hb) ?_
    have hoe : on ≤ e := by omega
    repeat (first | (refine seq_skip (by rfl) ?_; simp only [Act.put, List.setIfInBounds_toArray, List.set_cons_zero, List.set_cons_succ, Nat.reduceAdd]) | (refine seq_pure (v := ?_) (by rfl) (by rfl) (fun W hW hC => ?_) ?_; rotate_left; (go_simp <;> with_reducible rfl); simp only [Act.put, List.setIfInBounds_toArray, List.set_cons_zero, List.set_cons_succ, Nat.reduceAdd]))
    refine seq_made (by rfl) (by rfl) (fun W hW hC hF R hR => ?_) (fun x1 => ?_)
    · unfold Gives; go_simp; refine (HCL.out W hW).mono ?_; rintro r w4 ⟨v, rfl, ho, hb⟩; exact ⟨_, rfl, hR {v := v} _ hb ho⟩
    simp only [Act.put, List.setIfInBounds_toArray, List.set_cons_zero, List.set_cons_succ, Nat.reduceAdd]
    repeat (first | (refine seq_skip (by rfl) ?_; simp only [Act.put, List.setIfInBounds_toArray, List.set_cons_zero, List.set_cons_succ, Nat.reduceAdd]) | (refine seq_pure (v := ?_) (by rfl) (by rfl) (fun W hW hC => ?_) ?_; rotate_left; (go_simp <;> with_reducible rfl); simp only [Act.put, List.setIfInBounds_toArray, List.set_cons_zero, List.set_cons_succ, Nat.reduceAdd]))
    refine seq_made (by rfl) (by rfl) (fun W hW hC hF R hR => ?_) (fun x2 => ?_)
    · unfold Gives; go_simp; refine (HCL.out W hW).mono ?_; rintro r w4 ⟨v, rfl, ho, hb⟩; exact ⟨_, rfl, hR {v := v} _ hb ho⟩
    simp only [Act.put, List.setIfInBounds_toArray, List.set_cons_zero, List.set_cons_succ, Nat.reduceAdd]
    repeat (first | (refine seq_skip (by rfl) ?_; simp only [Act.put, List.setIfInBounds_toArray, List.set_cons_zero, List.set_cons_succ, Nat.reduceAdd]) | (refine seq_pure (v := ?_) (by rfl) (by rfl) (fun W hW hC => ?_) ?_; rotate_left; (go_simp <;> with_reducible rfl); simp only [Act.put, List.setIfInBounds_toArray, List.set_cons_zero, List.set_cons_succ, Nat.reduceAdd]))
    refine seq_nil ?_
    intro W hW hF
    obtain ⟨v1, hv1⟩ : ∃ v, x1.v = v := ⟨_, rfl⟩
    obtain ⟨v2, hv2⟩ : ∃ v, x2.v = v := ⟨_, rfl⟩
    have o1 : Own W w3.heap.size v1 (d.take on) := by rw [← hv1]; exact hF _ _ (List.mem_cons_of_mem _ (List.mem_cons_self ..))
    have o2 : Own W w3.heap.size v2 (d.take on) := by rw [← hv2]; exact hF _ _ (List.mem_cons_self ..)
    rw [hv1, hv2]
    clear hv1 hv2 hF
    have hl0 : (d.take on).length = on := by rw [List.length_take]; omega
    obtain ⟨A1, k1, hv1, _, _, _, _⟩ := o1.cs
    obtain ⟨A2, k2, hv2, _, _, _, _⟩ := o2.cs
    rw [hl0] at hv1 hv2
    subst hv1 hv2
    obtain ⟨b1, b2, b3⟩ := HBB.out
    replace b1 := b1.kept hW
    replace b2 := b2.kept hW
    replace b3 := b3.kept hW
    have hWs := hW.size
    have hbW := below_trans HB.out hW
    clear HB HBB c30 c31 c32 c1 c2 f1 f2 hW HCL
    have e1 := ((b1.set 0 (.slice A1 on k1)).other (a := ⟨w.heap.size + 1 + 1, 0, none⟩) (by simp) (.slice A2 on k2))
    have e2 := ((b2.other (a := ⟨w.heap.size + 1, 0, none⟩) (by simp) (.slice A1 on k1)).set 0 (.slice A2 on k2))
    have e3 := ((b3.other (a := ⟨w.heap.size + 1, 0, none⟩) (by dsimp only; omega) (.slice A1 on k1)).other (a := ⟨w.heap.size + 1 + 1, 0, none⟩) (by dsimp only; omega) (.slice A2 on k2))
    have p1 := (o1.other (a := ⟨w.heap.size + 1, 0, none⟩) (fun g hg => by have := (o1.block_ge g hg).1; dsimp only; omega) (.slice A1 on k1)).other (a := ⟨w.heap.size + 1 + 1, 0, none⟩) (fun g hg => by have := (o1.block_ge g hg).1; dsimp only; omega) (.slice A2 on k2)
    have p2 := (o2.other (a := ⟨w.heap.size + 1, 0, none⟩) (fun g hg => by have := (o2.block_ge g hg).1; dsimp only; omega) (.slice A1 on k1)).other (a := ⟨w.heap.size + 1 + 1, 0, none⟩) (fun g hg => by have := (o2.block_ge g hg).1; dsimp only; omega) (.slice A2 on k2)
    have hbZ := (hbW.setCell (p := ⟨w.heap.size + 1, 0, none⟩) (by dsimp only; omega) (.slice A1 on k1)).setCell (p := ⟨w.heap.size + 1 + 1, 0, none⟩) (by dsimp only; omega) (.slice A2 on k2)
    have c1 := b1.cell (i := 0) rfl
    have c2 := b2.cell (i := 0) rfl
    have f1 := b1.free 0
    have f2 := b2.free 0
    have c30 := b3.cell (i := 0) rfl
    have c31 := b3.cell (i := 1) rfl
    have c32 := b3.cell (i := 2) rfl
    have HX := Lib.hid (And.intro e1 (And.intro e2 (And.intro e3 (And.intro p1 (And.intro p2 hbZ)))))
    clear e1 e2 e3 p1 p2 hbZ o1 o2 hbW b1 b2 b3
    go_upto_region 6 with fail
    refine wp_named ?_
    intro w4 hw4
    rw [← hw4] at HX
    have hws4 : w4.heap.size = W.heap.size := by rw [hw4]; simp
    clear hw4 c1 c2 f1 f2 c30 c31 c32
    have c40 := HX.out.2.2.1.cell (i := 0) rfl
    have c41 := HX.out.2.2.1.cell (i := 1) rfl
    have c42 := HX.out.2.2.1.cell (i := 2) rfl
    go_upto_region 7 with fail
    refine wp_named ?_
    intro w5 hw5
    obtain ⟨b1, b2, b3, o1, o2, hb⟩ := HX.out
    clear HX c40 c41 c42
    have hb45 : Below w4.heap.size w4 w5 := by rw [hw5]; exact below_alloc _
    have b4 : Blk w5 W.heap.size [.func (.func 38) #[.agg #[.slice A (ints sN).length c, .int .i64 on, .slice (some ⟨b, off, none⟩) d.length e]] #[]] 76 := by rw [hw5, ← hws4]; exact Blk.at rfl
    have hws5 : w5.heap.size = W.heap.size + 1 := by rw [hw5, ← hws4]; simp
    clear hw5
    replace b1 := b1.kept hb45
    replace b2 := b2.kept hb45
    replace b3 := b3.kept hb45
    replace o1 := o1.kept hb45
    replace o2 := o2.kept hb45
    replace hb := below_trans hb hb45
    have c40 := b3.cell (i := 0) rfl
    have c41 := b3.cell (i := 1) rfl
    have c42 := b3.cell (i := 2) rfl
    simp only [List.set_cons_zero] at b1 b2
    have HX := Lib.hid (And.intro b1 (And.intro b2 (And.intro b3 (And.intro b4 (And.intro o1 (And.intro o2 hb))))))
    clear b1 b2 b3 b4 o1 o2 hb hb45 hws4
    go_wp2_with fail
    clear c40 c41 c42
    refine wp_frame ?_
    intro T hT
    have hsp : ∀ x ∈ sN, 0 < x := fun x hx => by have := HSN.out x hx; omega
    have hl1 := HV.out.len1
    have hl4 := HV.out.len4
    rw [ints_length] at hl1 hl4
    have hit := indices_iter A (some ⟨b, off, none⟩) c e d.length sN on w HS.out hl1 hl4 HSN.out
    rw [← ints_length sN] at hit
    obtain ⟨z0, hz0⟩ : ∃ z, w5.heap.size = z := ⟨_, rfl⟩
    obtain ⟨h1, h2, h3, h4, h5, h6, h7⟩ := HX.out
    refine wp_range (c := 3) (by rw [hT]; rfl) (fun _ _ => rfl) hit h7 ?_
      (RangeI w (w.heap.size + 1) (w.heap.size + 1 + 1) w2.heap.size W.heap.size w3.heap.size w5.heap.size (w5.heap.size + 2 + 3) on (.func (.func 38) #[.agg #[.slice A (ints sN).length c, .int .i64 on, .slice (some ⟨b, off, none⟩) d.length e]] #[]) [.slice A (ints sN).length c, .int .i64 on, .slice (some ⟨b, off, none⟩) d.length e] d)
      (fun k A B h hz => h.offZ hz (by omega) (by omega) (by omega) (by omega) (by omega))
      ⟨⟨A1, k1, h1, h5, fun g hg => .inl ?_⟩, ⟨A2, k2, h2, h6, fun g hg => .inl ?_⟩, h3, h4, h7⟩
      (fun k x a' AW => ∃ b8, w5.heap.size + 2 + 3 ≤ b8 ∧ a' = { tmps := (T.setIfInBounds 36 (posN (dg sN k))).setIfInBounds 8 (.pointer (some ⟨b8, 0, none⟩)), defers := [] } ∧ Blk AW b8 ((pad4 (dg sN k)).map (Value.int .i64)) 69 ∧
        RangeI w (w.heap.size + 1) (w.heap.size + 1 + 1) w2.heap.size W.heap.size w3.heap.size w5.heap.size (w5.heap.size + 2 + 3) on (.func (.func 38) #[.agg #[.slice A (ints sN).length c, .int .i64 on, .slice (some ⟨b, off, none⟩) d.length e]] #[]) [.slice A (ints sN).length c, .int .i64 on, .slice (some ⟨b, off, none⟩) d.length e] d k AW) ?_ ?_ ?_ ?_
    · intro k x hx
      rw [(allPos_some hx).2]; rfl
    · have := (h5.block_ge g hg).2; omega
    · have := (h6.block_ge g hg).2; omega
    · rintro k x a' AW BW ⟨b8, hb8, rfl, hq, hi⟩ hz
      exact ⟨b8, hb8, rfl, hq.offZ hz (.inr hb8), hi.offZ hz (by omega) (by omega) (by omega) (by omega) (by omega)⟩
    · intro l n k x AW hx hI hsz K hK
      obtain ⟨hk, rfl⟩ := allPos_some hx
      have hK' := fun b8 h1 h2 h3 h4 h5 => hK { tmps := (T.setIfInBounds 36 (posN (dg sN k))).setIfInBounds 8 (.pointer (some ⟨b8, 0, none⟩)), defers := [] } (AW.alloc (.cells ((pad4 (dg sN k)).map (Value.int .i64)).toArray 69)) h1 ⟨b8, h2, h3, h4, h5⟩
      have HK := Lib.hid hK'
      clear hK hK'
      rw [fold_one]
      subst hT
      unfold posN
      simp only [List.setIfInBounds_toArray, List.set_cons_succ, List.set_cons_zero]
      gi_wp2
      exact HK.out AW.heap.size (KeepZ.alloc _ (by omega)) (by omega) trivial (Blk.new _ _ _) (hI.offZ (OffZ.alloc _) (by omega) (by omega) (by omega) (by omega) (by omega))
    · intro l n k x a' AW hx hA hsz
      obtain ⟨b8, hb8, rfl, hq, hi⟩ := hA
      obtain ⟨hk, rfl⟩ := allPos_some hx
      subst hT
      unfold posN
      simp only [List.setIfInBounds_toArray, List.set_cons_succ, List.set_cons_zero]
      obtain ⟨⟨A1', k1', r1, q1, g1⟩, ⟨A2', k2', r2, q2, g2⟩, htb, hfn, hbw⟩ := hi
      have c1 := r1.cell (i := 0) rfl
      have cf := hfn.cell (i := 0) rfl
      have p0 := hq.cell (i := 0) rfl
      have p1 := hq.cell (i := 1) rfl
      have p2 := hq.cell (i := 2) rfl
      have p3 := hq.cell (i := 3) rfl
      have HR := Lib.hid (And.intro r1 (And.intro r2 (And.intro q1 (And.intro q2 (And.intro g1 (And.intro g2 (And.intro htb (And.intro hfn (And.intro hq hbw)))))))))
      clear r1 r2 q1 q2 g1 g2 htb hfn hq hbw hx h1 h2 h3 h4 h5 h6 h7 hit HX
      gi_wp2_with fail
      have hdat := data_nat HV.out
      have hPl := place_dg HV.out hsp hk
      have hval : ∀ W', Below w.heap.size w W' → Calls Try.prog 38 #[.agg #[.slice A (ints sN).length c, .int .i64 on, .slice (some ⟨b, off, none⟩) d.length e], posN (dg sN k)] W' fun r w' =>
          r = .returned (.slice (some ⟨b, off + k * on, none⟩) on (e - k * on)) ∧ Below W'.heap.size W' w' := fun W' hW' =>
        values_calls A b off c e (ints sN) d on _ _ _ _ (k * on) W' (HS.out.kept hW') (by rw [ints_length]; exact hl4) hPl.1 hPl.2 ld le (by omega)
      have hcom : ∀ W0 W' (fid : FuncId) (g : Int → Int → Int) (A1 : Option Addr) (k1 base : Nat), (∀ (x y : Int) (w : World), Calls Try.prog fid #[.int .i64 x, .int .i64 y] w fun r w' => r = .returned (.int .i64 (g x y)) ∧ w' = w) →
          (∀ args w, (callFunc fid args).run Try.prog w = .ok (.enter fid args) w) → Own W0 base (.slice A1 on k1) (joined g d on k) →
          Below w.heap.size w W0 → Below W0.heap.size W0 W' → Calls Try.prog 50 #[.slice A1 on k1, .slice (some ⟨b, off + k * on, none⟩) on (e - k * on), .func (.func fid) #[] #[]] W' fun r w' =>
          ∃ v, r = .returned v ∧ Own w' W0.heap.size v (joined g d on (k + 1)) ∧ Below W'.heap.size W' w' := by
        intro W0 W' fid g A1 k1 base hf ef ho hwW hW'
        obtain ⟨A', c', hv, _, _, hA, hcs⟩ := (ho.kept hW').cs
        have hjl : (joined g d on k).length = on := joined_length hdat (by omega) (Nat.le_of_lt hk)
        rw [hjl] at hv
        injection hv with e1 e2 e3
        subst e1 e3
        have hrl : (rowAt d on k).length = on := rowAt_length hk hdat
        have h := combined_calls fid g hf ef A1 (some ⟨b, off + k * on, none⟩) k1 (e - k * on) (joined g d on k) (rowAt d on k) W' hcs ((HD.out.kept (below_trans hwW hW')).sub (k * on) on) hA (by rw [hjl, hrl]) (by rw [hjl]; omega)
        rw [hjl, hrl] at h
        refine h.mono ?_
        rintro r w' ⟨v, rfl, ho', hb'⟩
        rw [← joined_succ] at ho'
        exact ⟨v, rfl, ho'.lower hW'.size, hb'⟩
      have HVC := Lib.hid hval
      have HCC := Lib.hid hcom
      unfold posN at HVC
      clear hval hcom hPl hdat
      refine wpIn_seq_tail 5 (fun k => k == 3 || k == 4) (fun i x => if i = 3 then .slice (some ⟨b, off + k * on, none⟩) on (e - k * on) else x.v) (fun i x W' => i = 4 → Own W' AW.heap.size x.v (joined min d on (k + 1))) (by kernel_rfl) (by kernel_rfl) (by kernel_rfl) (by decide) (by rintro ⟨_, _, h⟩; exact absurd (And.left (a := Exit.outgrown = Exit.normal) h) (by simp)) (fun _ _ _ _ hb h e => (h e).kept hb) ?_
      repeat (first | (refine seq_skip (by rfl) ?_; simp only [Act.put, List.setIfInBounds_toArray, List.set_cons_zero, List.set_cons_succ, Nat.reduceAdd]) | (refine seq_pure (v := ?_) (by rfl) (by rfl) (fun W hW hC => ?_) ?_; rotate_left; (go_simp <;> with_reducible rfl); simp only [Act.put, List.setIfInBounds_toArray, List.set_cons_zero, List.set_cons_succ, Nat.reduceAdd]))
      refine seq_made (by rfl) (by rfl) (fun W' hW' hC hF R hR => ?_) (fun y1 => ?_)
      · unfold Gives; go_simp; refine (HVC.out W' (below_trans HR.out.2.2.2.2.2.2.2.2.2 hW')).mono ?_; rintro r w' ⟨rfl, hb'⟩; exact ⟨_, rfl, hR {} _ hb' (fun e => absurd e (by decide))⟩
      simp only [↓reduceIte, Nat.reduceEqDiff]; simp only [Act.put, List.setIfInBounds_toArray, List.set_cons_zero, List.set_cons_succ, Nat.reduceAdd]
      refine seq_made (by rfl) (by rfl) (fun W' hW' hC hF R hR => ?_) (fun y2 => ?_)
      · unfold Gives; go_simp; refine (HCC.out AW W' 51 min A1' k1' _ lesser_calls (fun _ _ => rfl) HR.out.2.2.1 HR.out.2.2.2.2.2.2.2.2.2 hW').mono ?_; rintro r w' ⟨v, rfl, ho, hb'⟩; exact ⟨_, rfl, hR {v := v} _ hb' (fun _ => ho)⟩
      simp only [↓reduceIte, Nat.reduceEqDiff]; simp only [Act.put, List.setIfInBounds_toArray, List.set_cons_zero, List.set_cons_succ, Nat.reduceAdd]
      refine seq_nil ?_
      intro W3 hW3 hF
      obtain ⟨v1, hv1⟩ : ∃ v, y2.v = v := ⟨_, rfl⟩
      have q1 : Own W3 AW.heap.size v1 (joined min d on (k + 1)) := by rw [← hv1]; exact hF _ _ (List.mem_cons_self ..) trivial
      rw [hv1]
      clear hv1 hF
      obtain ⟨A3, k3, hv1, _, _, _, _⟩ := q1.cs
      rw [joined_length (data_nat HV.out) (by omega) hk] at hv1
      subst hv1
      obtain ⟨r1, r2, _, q2, _, g2, htb, hfn, hq, hbw⟩ := HR.out
      have hW3s := hW3.size
      have hcl := r1.lt
      have hch := r2.lt
      have hbw3 := below_trans hbw hW3
      have hkz3 : KeepZ w5.heap.size (w5.heap.size + 2 + 3) AW W3 := KeepZ.of_below hW3 hsz
      replace r1 := r1.kept hW3
      replace r2 := r2.kept hW3
      replace htb := htb.kept hW3
      replace hfn := hfn.kept hW3
      replace hq := hq.kept hW3
      replace q2 := q2.kept hW3
      have hg2 := fun g hg => g2 g hg
      have c1 := r1.cell (i := 0) rfl
      have f1 := r1.free 0
      have HR3 := Lib.hid (And.intro r1 (And.intro r2 (And.intro q1 (And.intro q2 (And.intro g2 (And.intro htb (And.intro hfn (And.intro hq (And.intro hbw3 hkz3)))))))))
      clear r1 r2 q1 q2 g2 hg2 htb hfn hq hbw3 hkz3 hbw hW3
      go_wp2_with fail
      refine wpIn_named ?_
      intro W4 hW4
      obtain ⟨r1, r2, q1, q2, g2, htb, hfn, hq, hbw, hkz⟩ := HR3.out
      clear HR3 HR c1 cf p0 p1 p2 p3 f1
      have hz1 := fun g hg => (q1.block_ge g hg).1
      replace q1 := q1.other (a := ⟨w.heap.size + 1, 0, none⟩) (fun g hg => by have := hz1 g hg; dsimp only; omega) (.slice A3 on k3)
      replace q2 := q2.other (a := ⟨w.heap.size + 1, 0, none⟩) (fun g hg => by have := (q2.block_ge g hg).1; dsimp only; omega) (.slice A3 on k3)
      replace r1 := r1.set 0 (.slice A3 on k3)
      replace r2 := r2.other (a := ⟨w.heap.size + 1, 0, none⟩) (by dsimp only; omega) (.slice A3 on k3)
      replace htb := htb.other (a := ⟨w.heap.size + 1, 0, none⟩) (by dsimp only; omega) (.slice A3 on k3)
      replace hfn := hfn.other (a := ⟨w.heap.size + 1, 0, none⟩) (by dsimp only; omega) (.slice A3 on k3)
      replace hq := hq.other (a := ⟨w.heap.size + 1, 0, none⟩) (by dsimp only; omega) (.slice A3 on k3)
      replace hbw := hbw.setCell (p := ⟨w.heap.size + 1, 0, none⟩) (by dsimp only; omega) (.slice A3 on k3)
      replace hkz := hkz.trans (KeepZ.setCell W3 (p := ⟨w.heap.size + 1, 0, none⟩) (.inl (by dsimp only; omega)) (.slice A3 on k3))
      have hs4 : W4.heap.size = W3.heap.size := by rw [hW4]; simp
      rw [← hW4] at r1 r2 q1 q2 htb hfn hq hbw hkz
      clear hW4
      have c1 := r2.cell (i := 0) rfl
      have cf := hfn.cell (i := 0) rfl
      have p0 := hq.cell (i := 0) rfl
      have p1 := hq.cell (i := 1) rfl
      have p2 := hq.cell (i := 2) rfl
      have p3 := hq.cell (i := 3) rfl
      have HR := Lib.hid (And.intro r1 (And.intro r2 (And.intro q1 (And.intro q2 (And.intro g2 (And.intro htb (And.intro hfn (And.intro hq (And.intro hbw (And.intro hkz hz1))))))))))
      clear r1 r2 q1 q2 g2 htb hfn hq hbw hkz hz1 y1 y2
      refine wpIn_seq_tail 5 (fun k => k == 3 || k == 4) (fun i x => if i = 3 then .slice (some ⟨b, off + k * on, none⟩) on (e - k * on) else x.v) (fun i x W' => i = 4 → Own W' W4.heap.size x.v (joined max d on (k + 1))) (by kernel_rfl) (by kernel_rfl) (by kernel_rfl) (by decide) (by rintro ⟨_, _, h⟩; exact absurd (And.left (a := Exit.outgrown = Exit.normal) h) (by simp)) (fun _ _ _ _ hb h e => (h e).kept hb) ?_
      repeat (first | (refine seq_skip (by rfl) ?_; simp only [Act.put, List.setIfInBounds_toArray, List.set_cons_zero, List.set_cons_succ, Nat.reduceAdd]) | (refine seq_pure (v := ?_) (by rfl) (by rfl) (fun W hW hC => ?_) ?_; rotate_left; (go_simp <;> with_reducible rfl); simp only [Act.put, List.setIfInBounds_toArray, List.set_cons_zero, List.set_cons_succ, Nat.reduceAdd]))
      refine seq_made (by rfl) (by rfl) (fun W' hW' hC hF R hR => ?_) (fun y1 => ?_)
      · unfold Gives; go_simp; refine (HVC.out W' (below_trans HR.out.2.2.2.2.2.2.2.2.1 hW')).mono ?_; rintro r w' ⟨rfl, hb'⟩; exact ⟨_, rfl, hR {} _ hb' (fun e => absurd e (by decide))⟩
      simp only [↓reduceIte, Nat.reduceEqDiff]; simp only [Act.put, List.setIfInBounds_toArray, List.set_cons_zero, List.set_cons_succ, Nat.reduceAdd]
      refine seq_made (by rfl) (by rfl) (fun W' hW' hC hF R hR => ?_) (fun y2 => ?_)
      · unfold Gives; go_simp; refine (HCC.out W4 W' 52 max A2' k2' _ greater_calls (fun _ _ => rfl) HR.out.2.2.2.1 HR.out.2.2.2.2.2.2.2.2.1 hW').mono ?_; rintro r w' ⟨v, rfl, ho, hb'⟩; exact ⟨_, rfl, hR {v := v} _ hb' (fun _ => ho)⟩
      simp only [↓reduceIte, Nat.reduceEqDiff]; simp only [Act.put, List.setIfInBounds_toArray, List.set_cons_zero, List.set_cons_succ, Nat.reduceAdd]
      refine seq_nil ?_
      intro W5 hW5 hF
      obtain ⟨v2, hv2⟩ : ∃ v, y2.v = v := ⟨_, rfl⟩
      have q2 : Own W5 W4.heap.size v2 (joined max d on (k + 1)) := by rw [← hv2]; exact hF _ _ (List.mem_cons_self ..) trivial
      rw [hv2]
      clear hv2 hF
      obtain ⟨A4, k4, hv2, _, _, _, _⟩ := q2.cs
      rw [joined_length (data_nat HV.out) (by omega) hk] at hv2
      subst hv2
      obtain ⟨r1, r2, q1, _, _, htb, hfn, hq, hbw, hkz, hz1⟩ := HR.out
      have hW5s := hW5.size
      replace hbw := below_trans hbw hW5
      replace hkz := hkz.trans (KeepZ.of_below hW5 (by omega))
      replace r1 := r1.kept hW5
      replace r2 := r2.kept hW5
      replace htb := htb.kept hW5
      replace hfn := hfn.kept hW5
      replace q1 := q1.kept hW5
      have c1 := r2.cell (i := 0) rfl
      have f1 := r2.free 0
      have hz2 := fun g hg => (q2.block_ge g hg).1
      replace q1 := q1.other (a := ⟨w.heap.size + 1 + 1, 0, none⟩) (fun g hg => by have := hz1 g hg; dsimp only; omega) (.slice A4 on k4)
      replace q2 := q2.other (a := ⟨w.heap.size + 1 + 1, 0, none⟩) (fun g hg => by have := hz2 g hg; dsimp only; omega) (.slice A4 on k4)
      replace r2 := r2.set 0 (.slice A4 on k4)
      replace r1 := r1.other (a := ⟨w.heap.size + 1 + 1, 0, none⟩) (by dsimp only; omega) (.slice A4 on k4)
      replace htb := htb.other (a := ⟨w.heap.size + 1 + 1, 0, none⟩) (by dsimp only; omega) (.slice A4 on k4)
      replace hfn := hfn.other (a := ⟨w.heap.size + 1 + 1, 0, none⟩) (by dsimp only; omega) (.slice A4 on k4)
      replace hbw := hbw.setCell (p := ⟨w.heap.size + 1 + 1, 0, none⟩) (by dsimp only; omega) (.slice A4 on k4)
      replace hkz := hkz.trans (KeepZ.setCell W5 (p := ⟨w.heap.size + 1 + 1, 0, none⟩) (.inl (by dsimp only; omega)) (.slice A4 on k4))
      have HE := Lib.hid (And.intro r1 (And.intro r2 (And.intro q1 (And.intro q2 (And.intro htb (And.intro hfn (And.intro hbw (And.intro hkz (And.intro hz1 hz2)))))))))
      clear r1 r2 q1 q2 htb hfn hbw hkz hz1 hz2 hq
      go_wp2_with fail
      obtain ⟨r1, r2, q1, q2, htb, hfn, hbw, hkz, hz1, hz2⟩ := HE.out
      rw [← hws5, ← hsz3]
      exact ⟨hkz, ⟨⟨A3, k3, r1, q1.lower (by omega), fun g hg => .inr (by have := hz1 g hg; omega)⟩, ⟨A4, k4, r2, q2.lower (by omega), fun g hg => .inr (by have := hz2 g hg; omega)⟩, htb, hfn, hbw⟩⟩
    · intro W6 hI hK6
      rw [allPos_length] at hI
      obtain ⟨⟨A5, k5, r1, q1, g1⟩, ⟨A6, k6, r2, q2, g2⟩, htb, hfn, hbw⟩ := hI
      have c1 := r1.cell (i := 0) rfl
      have c2 := r2.cell (i := 0) rfl
      have f1 := r1.free 0
      have f2 := r2.free 0
      have HE := Lib.hid (And.intro r1 (And.intro r2 (And.intro q1 (And.intro q2 (And.intro g1 (And.intro g2 (And.intro hbw hK6)))))))
      clear r1 r2 q1 q2 g1 g2 htb hfn hbw hK6 h1 h2 h3 h4 h5 h6 h7 HX hit
      subst hT
      go_wp2_with fail
      go_region
      obtain ⟨r1, r2, q1, q2, g1, g2, hbw, hK6⟩ := HE.out
      have n1 := fun g hg => (q1.block_ge g hg).1
      have n2 := fun g hg => (q2.block_ge g hg).1
      replace q1 := (q1.other (a := ⟨w.heap.size + 1, 0, none⟩) (fun g hg => by have := n1 g hg; dsimp only; omega) (.slice A5 on k5)).other (a := ⟨w.heap.size + 1 + 1, 0, none⟩) (fun g hg => by have := n1 g hg; dsimp only; omega) (.slice A6 on k6)
      replace q2 := (q2.other (a := ⟨w.heap.size + 1, 0, none⟩) (fun g hg => by have := n2 g hg; dsimp only; omega) (.slice A5 on k5)).other (a := ⟨w.heap.size + 1 + 1, 0, none⟩) (fun g hg => by have := n2 g hg; dsimp only; omega) (.slice A6 on k6)
      replace r1 := (r1.set 0 (.slice A5 on k5)).other (a := ⟨w.heap.size + 1 + 1, 0, none⟩) (by simp) (.slice A6 on k6)
      replace r2 := (r2.other (a := ⟨w.heap.size + 1, 0, none⟩) (by simp) (.slice A5 on k5)).set 0 (.slice A6 on k6)
      replace hbw := (hbw.setCell (p := ⟨w.heap.size + 1, 0, none⟩) (by dsimp only; omega) (.slice A5 on k5)).setCell (p := ⟨w.heap.size + 1 + 1, 0, none⟩) (by dsimp only; omega) (.slice A6 on k6)
      have hK7 : ((W6.setCell ⟨w.heap.size + 1, 0, none⟩ (.slice A5 on k5)).setCell ⟨w.heap.size + 1 + 1, 0, none⟩ (.slice A6 on k6)).heap[w5.heap.size]? = some (.deferred (some [])) := by
        rw [Below.heap_setCell _ _ _ _ (by dsimp only; omega), Below.heap_setCell _ _ _ _ (by dsimp only; omega)]; exact hK6
      have HE2 := Lib.hid (And.intro r1 (And.intro r2 (And.intro q1 (And.intro q2 (And.intro g1 (And.intro g2 (And.intro hbw hK7)))))))
      clear r1 r2 q1 q2 g1 g2 hbw hK6 hK7 HE n1 n2
      go_wp2_with fail
      obtain ⟨r1, r2, q1, q2, g1, g2, hbw, hK7⟩ := HE2.out
      replace r1 := r1.drew
      replace r2 := r2.drew
      replace hbw := hbw.drew
      replace q1 := q1.drew
      replace q2 := q2.drew
      have HR : rangeR (ints sN) on d = (joined min d on (pr sN), joined max d on (pr sN), 0) := by
        unfold rangeR; rw [if_neg (by rw [HC.out]; simp), prodI_ints]; simp
      rw [HR]
      refine leaves_mark (r := w5.heap.size) hK7 fun W8 hW8 => ?_
      have d1 := (r1.offZ hW8 (.inl (by omega))).cell (i := 0) rfl
      have d2 := (r2.offZ hW8 (.inl (by omega))).cell (i := 0) rfl
      exact ⟨.tuple #[.slice A5 on k5, .slice A6 on k6, .int .i64 0], by simp [results, Try.results27, go_sem, d1, d2], _, _, rfl, (q1.offZ hW8 (fun g hg => by have := g1 g hg; omega)).lower (by omega), (q2.offZ hW8 (fun g hg => by have := g2 g hg; omega)).lower (by omega), Below.offZ hbw (Nat.le_refl _) hW8 (by omega)⟩
  · have hc100 : checkN s o d = 100 := (checkN_or s o d).resolve_left hc
    have HR := Lib.hid (show rangeR s o d = ([], [], 100) by unfold rangeR; rw [if_pos hc])
    rw [hc100]
    clear hc hc100
    go_wp2_with fail
    obtain ⟨b0, b1, b2⟩ := HBB.out
    have d1 := ((b1.set 0 (.slice none 0 0)).other (a := ⟨w.heap.size + 1 + 1, 0, none⟩) (by simp) (.slice none 0 0)).cell (i := 0) rfl
    have d2 := ((b2.other (a := ⟨w.heap.size + 1, 0, none⟩) (by simp) (.slice none 0 0)).set 0 (.slice none 0 0)).cell (i := 0) rfl
    refine leaves_ret (.tuple #[.slice none 0 0, .slice none 0 0, .int .i64 100]) (by simp [results, Try.results27, go_sem, d1, d2]) ⟨_, _, by rw [HR.out], by rw [HR.out]; exact Own.nil _ _, by rw [HR.out]; exact Own.nil _ _, ?_⟩
    exact (HB.out.setCell (by dsimp only; omega) _).setCell (by dsimp only; omega) _
end Go.Proofs.Ytkkohelbidmkdaa
