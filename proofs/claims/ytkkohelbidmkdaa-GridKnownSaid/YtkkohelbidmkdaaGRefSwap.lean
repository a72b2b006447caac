/-
  The reference's Swap.
-/
import Derived.Test.YtkkohelbidmkdaaGFour
namespace Go.Proofs.Ytkkohelbidmkdaa
set_option linter.unusedVariables false
set_option linter.unusedSimpArgs false
open Go Go.RowKit

/-- append to an empty row: a new row. -/
theorem gives_append_zero {o : Oper} {a : Act} {W : World} {R : Value → World → Prop} (s x : Operand)
    (ho : o.op = .call { callee := .builtin .append, args := #[s, x], argTypes := #[22, 22] }) {g : Nat} (hs : a.eval s = .slice (some ⟨g, 0, none⟩) 0 0) (hg : Blk W g [] 3)
    {ad : Addr} {c : Nat} {ys : List Int} (hx : a.eval x = .slice (some ad) ys.length c) (hy : Cs W .i64 (some ad) ys) (h0 : 0 < ys.length) (hlen : ys.length * 8 ≤ 140737488355328)
    (h : ∀ k W', Below W.heap.size W W' → Own W' W.heap.size (.slice (some ⟨W.heap.size, 0, none⟩) ys.length k) ys → R (.slice (some ⟨W.heap.size, 0, none⟩) ys.length k) W') : Gives Try.prog o a W R := by
  obtain ⟨i0, hi, hz0, hz1, hz2⟩ := info_parts info_int
  have hown : Own W g (.slice (some ⟨g, 0, none⟩) 0 0) [] := ⟨rfl, .inr ⟨g, 0, #[], rfl, Nat.le_refl _, hg, Nat.le_refl _, Nat.zero_le _, rfl, rfl⟩⟩
  have hnews : ∀ j u, (ys.map (Value.int .i64))[j]? = some u → W.cell? (ad.add j) = some u := by
    intro j u hu
    rw [List.getElem?_map] at hu
    obtain ⟨y, hy1, rfl⟩ := Option.map_eq_some_iff.1 hu
    obtain ⟨b, o, e, hc⟩ := hy j y hy1
    cases e
    unfold Addr.add
    split
    · rename_i hj; subst hj; exact hc
    · exact hc
  have h3 := run_append_grow (P := Try.prog) W 22 o.type 3 i0 (.int .i64 0) Try.underlying22 hi hz0 ⟨g, 0, none⟩ 0 0 [] (by simp) (fun j u hu => by simp at hu) ad ys.length c (ys.map (Value.int .i64)) (by simp [hz1]) hnews (by omega) (by omega) (growslice_fits (by omega) (by rw [hz2]; omega))
  simp only [Nat.zero_add] at h3
  unfold Gives execOp
  simp only [ho, resolve, invoke, builtin, Sem.run_bind, Sem.run_pure, Result.andThen_ok, List.map_toArray, List.map_cons, List.map_nil, hs, hx, h3]
  have hcap := grownCap_ge W ys.length 0 3
  refine h (grownCap W ys.length 0 3) _ ⟨rfl, rfl, rfl, by simp, fun b hb => heap_alloc_old W.drew _ hb⟩ ⟨by simp, .inr ⟨W.heap.size, _, _, rfl, Nat.le_refl _, heap_alloc_new W.drew _, hcap, grownCap_le_maxLen W ys.length 0 3 (by simp only [maxLen]; omega), ?_, ?_⟩⟩
  · simp [size_zeroCells]
    show ys.length + (grownCap W ys.length 0 3 - ys.length) * 1 = _
    omega
  · simp

theorem inputB_inI (s : List Int) (a : Int) : inI 0 ((s.length : Int) - 1) a = inputB s a := by
  rw [inI_inB]; rfl

/-- What stands at the head of a round of the reference's Swap. -/
structure RSw (w0 : World) (b0 b1 b8 : Nat) (GC : List Value) (gs k1 ns : Nat) (on : Nat) (sz : List Int) (Ad : Option Addr) (m kd : Nat) (data : List Int) (W : World) : Prop where
  grid : Blk W b0 GC 24
  res : Blk W b1 [.slice none 0 0, .int .i64 0, .slice none 0 0] 24
  out : Blk W b8 [.slice (some ⟨gs, 0, none⟩) ns k1, .int .i64 on, .slice Ad m kd] 24
  sizes : Own W w0.heap.size (.slice (some ⟨gs, 0, none⟩) ns k1) sz
  data : Own W w0.heap.size (.slice Ad m kd) data
  apart : ∀ g, (Value.slice Ad m kd).ownBlock = some g → g ≠ gs
  below : Below w0.heap.size w0 W

theorem RSw.kept {w0 : World} {b0 b1 b8 : Nat} {GC : List Value} {gs k1 ns on : Nat} {sz : List Int} {Ad : Option Addr} {m kd : Nat} {data : List Int} {W W' : World} (h : RSw w0 b0 b1 b8 GC gs k1 ns on sz Ad m kd data W) (hb : Below W.heap.size W W') : RSw w0 b0 b1 b8 GC gs k1 ns on sz Ad m kd data W' :=
  ⟨h.grid.kept hb, h.res.kept hb, h.out.kept hb, h.sizes.kept hb, h.data.kept hb, h.apart, below_trans h.below hb⟩

set_option maxRecDepth 100000 in
set_option maxHeartbeats 3200000 in
theorem refSwap_calls (A B : Option Addr) (c e : Nat) (s d : List Int) (o a b : Int) (w : World) (hs : Cs w .i64 A s) (hd : Cs w .i64 B d)
    (ls : s.length ≤ 9223372036854775807) (ld : d.length ≤ e) (le : e ≤ 9223372036854775807) :
    Calls Try.prog 19 #[.agg #[.slice A s.length c, .int .i64 o, .slice B d.length e], .int .i64 a, .int .i64 b] w fun r w' => ∃ v1 v2, r = .returned (.tuple #[.agg #[v1, .int .i64 (swapR s o d a b).2.1, v2], .int .i64 (swapR s o d a b).2.2.2]) ∧
      Own w' w.heap.size v1 (swapR s o d a b).1 ∧ Own w' w.heap.size v2 (swapR s o d a b).2.2.1 ∧ Below w.heap.size w w' := by
  have HS := Lib.hid hs
  have HD := Lib.hid hd
  clear hs hd
  go_enter Try.func19, Try.ntmps19
  go_wp2_with fail
  refine calls_named ?_
  intro w1 hw1
  have p0 : Blk w1 w.heap.size [.slice A s.length c, .int .i64 o, .slice B d.length e] 24 := by rw [hw1]; exact (Blk.new _ _ _).alloc _
  have p1 : Blk w1 (w.heap.size + 1) [.slice none 0 0, .int .i64 0, .slice none 0 0] 24 := by rw [hw1]; exact Blk.at (by simp)
  have hb1 : Below w.heap.size w w1 := by rw [hw1]; repeat (first | exact below_alloc _ | refine below_trans ?_ (below_alloc _))
  clear hw1
  refine (right_calls A B c e s d o w1 (HS.out.kept hb1) (HD.out.kept hb1) ls (by omega)).mono ?_
  rintro r w2 ⟨rfl, hb2⟩
  replace p0 := p0.kept hb2
  replace p1 := p1.kept hb2
  have hb12 := below_trans hb1 hb2
  have c0 := p0.cell (i := 0) rfl
  have c1 := p0.cell (i := 1) rfl
  have c2 := p0.cell (i := 2) rfl
  have r0 := p1.cell (i := 0) rfl
  have r1 := p1.cell (i := 1) rfl
  have r2 := p1.cell (i := 2) rfl
  have f0 := p1.free 0
  have f1 := p1.free 1
  have f2 := p1.free 2
  have HB := Lib.hid (And.intro p0 (And.intro p1 hb12))
  clear p0 p1 hb1 hb2 hb12
  by_cases hc : checkN s o d = 0
  · have hv := (checkN_iff s o d).1 hc
    obtain ⟨sN, rfl, hsz⟩ := nat_sizes hv.sizes
    obtain ⟨on, rfl⟩ := Int.eq_ofNat_of_zero_le (show 0 ≤ o by have := hv.out1; omega)
    have HSN := Lib.hid (And.intro hv (And.intro hc hsz))
    rw [decide_eq_true hc]
    have l1 := hv.len1
    have l4 := hv.len4
    rw [ints_length] at l1 l4
    clear hc hv hsz
    go_wp2_with fail
    refine (within_calls _ _ _ _).mono ?_
    rintro r w3 ⟨rfl, rfl⟩
    rw [inputB_inI]
    by_cases ha : inputB (ints sN) a = true
    · rw [ha]
      go_wp2_with fail
      refine (within_calls _ _ _ _).mono ?_
      rintro r w4 ⟨rfl, rfl⟩
      rw [inputB_inI]
      by_cases hb : inputB (ints sN) b = true
      · have ha' := ha
        have hb' := hb
        unfold inputB at ha hb
        simp only [Bool.and_eq_true, decide_eq_true_eq] at ha hb
        obtain ⟨an, rfl⟩ := Int.eq_ofNat_of_zero_le ha.1
        obtain ⟨bn, rfl⟩ := Int.eq_ofNat_of_zero_le hb.1
        rw [hb']
        have han : an < sN.length := by have := ha.2; rw [ints_length] at this; omega
        have hbn : bn < sN.length := by have := hb.2; rw [ints_length] at this; omega
        have HAB := Lib.hid (And.intro ha' hb')
        have han' : (an : Int) < ((ints sN).length : Int) := ha.2
        have hbn' : (bn : Int) < ((ints sN).length : Int) := hb.2
        clear ha hb ha' hb'
        obtain ⟨xa, bA, oA, hxa, rfl, hca⟩ := HS.out.at (i := an) (by rw [ints_length]; exact han)
        obtain ⟨xb, bA', oA', hxb, hAb, hcb⟩ := HS.out.at (i := bn) (by rw [ints_length]; exact hbn)
        cases hAb
        have hll : 0 < (ints sN).length := by rw [ints_length]; omega
        have HX := Lib.hid (And.intro hxa (And.intro hxb (And.intro hca hcb)))
        clear hxa hxb hca hcb
        go_upto_region 5 with fail
        refine wp_seq_tail 8 (fun k => k == 0 || k == 3 || k == 7) (fun k y => if k = 0 then .slice (some ⟨y.i, 0, none⟩) 0 0 else if k = 3 then .slice (some ⟨y.i, 0, none⟩) (ints sN).length y.k else .pointer (some ⟨y.i, 0, none⟩)) (fun k y W => (k = 0 → Blk W y.i [] 3) ∧ (k = 3 → Own W w.heap.size (.slice (some ⟨y.i, 0, none⟩) (ints sN).length y.k) (ints sN)) ∧ (k = 7 → w.heap.size + 1 < y.i ∧ Blk W y.i [.slice none 0 0, .int .i64 0, .slice none 0 0] 24)) (by kernel_rfl) (by kernel_rfl) (by decide) (fun k y A B hb h => ⟨fun e => (h.1 e).kept hb, fun e => (h.2.1 e).kept hb, fun e => ⟨(h.2.2 e).1, (h.2.2 e).2.kept hb⟩⟩) ?_
        refine seq_made (by rfl) (by rfl) (fun W hW hC hF R hR => ?_) (fun y0 => ?_)
        · unfold Gives; go_simp; exact hR {i := W.heap.size} _ (below_alloc _) ⟨fun _ => Blk.new W [] 3, (fun e => absurd e (by decide)), (fun e => absurd e (by decide))⟩
        simp only [↓reduceIte, Nat.reduceEqDiff]; simp only [Act.put, List.setIfInBounds_toArray, List.set_cons_zero, List.set_cons_succ, Nat.reduceAdd]
        repeat (first | (refine seq_skip (by rfl) ?_; simp only [Act.put, List.setIfInBounds_toArray, List.set_cons_zero, List.set_cons_succ, Nat.reduceAdd]) | (refine seq_pure (v := ?_) (by rfl) (by rfl) (fun W hW hC => ?_) ?_; rotate_left; (go_simp <;> with_reducible rfl); simp only [Act.put, List.setIfInBounds_toArray, List.set_cons_zero, List.set_cons_succ, Nat.reduceAdd]))
        refine seq_made (by rfl) (by rfl) (fun W hW hC hF R hR => ?_) (fun y3 => ?_)
        · have hg := (hF _ _ (List.mem_cons_self ..) (by kernel_rfl)).1 (by simp)
          exact gives_append_zero (.tmp 35) (.tmp 37) rfl rfl hg rfl (HS.out.kept (below_trans HB.out.2.2 hW)) hll (by rw [ints_length]; omega) (fun k W' hb' ho' => hR {i := W.heap.size, k := k} _ hb' ⟨(fun e => absurd e (by decide)), fun _ => ho'.lower (Nat.le_trans HB.out.2.2.size hW.size), (fun e => absurd e (by decide))⟩)
        simp only [↓reduceIte, Nat.reduceEqDiff]; simp only [Act.put, List.setIfInBounds_toArray, List.set_cons_zero, List.set_cons_succ, Nat.reduceAdd]
        repeat (first | (refine seq_skip (by rfl) ?_; simp only [Act.put, List.setIfInBounds_toArray, List.set_cons_zero, List.set_cons_succ, Nat.reduceAdd]) | (refine seq_pure (v := ?_) (by rfl) (by rfl) (fun W hW hC => ?_) ?_; rotate_left; (go_simp <;> with_reducible rfl); simp only [Act.put, List.setIfInBounds_toArray, List.set_cons_zero, List.set_cons_succ, Nat.reduceAdd]))
        refine seq_made (by rfl) (by rfl) (fun W hW hC hF R hR => ?_) (fun y7 => ?_)
        · unfold Gives; go_simp; exact hR {i := W.heap.size} _ (below_alloc _) ⟨(fun e => absurd e (by decide)), (fun e => absurd e (by decide)), fun _ => ⟨by have h1 := HB.out.2.1.lt; have h2 := hW.size; dsimp only; omega, Blk.new W _ _⟩⟩
        simp only [↓reduceIte, Nat.reduceEqDiff]; simp only [Act.put, List.setIfInBounds_toArray, List.set_cons_zero, List.set_cons_succ, Nat.reduceAdd]
        repeat (first | (refine seq_skip (by rfl) ?_; simp only [Act.put, List.setIfInBounds_toArray, List.set_cons_zero, List.set_cons_succ, Nat.reduceAdd]) | (refine seq_pure (v := ?_) (by rfl) (by rfl) (fun W hW hC => ?_) ?_; rotate_left; (go_simp <;> with_reducible rfl); simp only [Act.put, List.setIfInBounds_toArray, List.set_cons_zero, List.set_cons_succ, Nat.reduceAdd]))
        refine seq_nil ?_; intro W hW hF
        obtain ⟨h70, h7⟩ := (hF _ _ (List.mem_cons_self ..)).2.2 (by simp)
        have h3 := (hF _ _ (List.mem_cons_of_mem _ (List.mem_cons_self ..))).2.1 (by simp)
        obtain ⟨b8, hb8⟩ : ∃ g, y7.i = g := ⟨_, rfl⟩
        obtain ⟨gs, hgs⟩ : ∃ g, y3.i = g := ⟨_, rfl⟩
        obtain ⟨k1, hk1⟩ : ∃ g, y3.k = g := ⟨_, rfl⟩
        obtain ⟨g0, hg0⟩ : ∃ g, y0.i = g := ⟨_, rfl⟩
        rw [hb8] at h7 h70
        rw [hgs, hk1] at h3
        rw [hb8, hgs, hk1, hg0]
        clear hF hb8 hgs hk1 hg0 y0 y3 y7
        obtain ⟨p0, p1, hbw⟩ := HB.out
        replace p0 := p0.kept hW
        replace p1 := p1.kept hW
        have hbW := hbw.trans (hW.mono hbw.size)
        have hlt1 := p1.lt
        have k80 := h7.cell (i := 0) rfl
        have k81 := h7.cell (i := 1) rfl
        have k82 := h7.cell (i := 2) rfl
        have f80 := h7.free 0
        have f81 := h7.free 1
        have f82 := h7.free 2
        have hgsb := h3.ne_blk (g := gs) rfl h7 (by decide)
        have HI := Lib.hid (show ∀ V, V = (((W.setCell ⟨b8, 0, none⟩ (.slice (some ⟨gs, 0, none⟩) (ints sN).length k1)).setCell ⟨b8, 1, none⟩ (.int .i64 on)).setCell ⟨b8, 2, none⟩ (.slice none 0 0)) →
            RSw w w.heap.size (w.heap.size + 1) b8 [.slice (some ⟨bA, oA, none⟩) (ints sN).length c, .int .i64 on, .slice B d.length e] gs k1 (ints sN).length on (ints sN) none 0 0 [] V from by
          rintro V rfl
          exact ⟨p0.other3 (by have := h7.lt; omega) _ _ _, p1.other3 (by omega) _ _ _, h7.set3 _ _ _, h3.other3 (fun g hg => by cases hg; exact hgsb) _ _ _, Own.nil _ _, (fun g hg => by cases hg), below_set3 hbW (by omega) _ _ _⟩)
        clear p0 p1 hbw hbW hW h3 h7 c0 c1 c2 r0 r1 r2 f0 f1 f2
        go_upto_region 6 with fail
        refine wp_named ?_
        intro w5 hw5
        have HJ := Lib.hid (HI.out w5 hw5)
        clear HI hw5 k80 k81 k82 f80 f81 f82
        have hanN : an < (ints sN).length := by rw [ints_length]; exact han
        have hbnN : bn < (ints sN).length := by rw [ints_length]; exact hbn
        have k80 := HJ.out.out.cell (i := 0) rfl
        have c0 := HJ.out.grid.cell (i := 0) rfl
        have hca := Ytkkohelbidmkdaa.kept HJ.out.below HX.out.2.2.1
        have hcb := Ytkkohelbidmkdaa.kept HJ.out.below HX.out.2.2.2
        obtain ⟨y, hy⟩ : ∃ y, (ints sN)[an]? = some y := ⟨_, List.getElem?_eq_getElem (by omega)⟩
        obtain ⟨p1, q1⟩ := HJ.out.sizes.cell hy
        clear hy
        refine wp_seq_tail 9 (fun _ => false) (fun _ _ => undef) (fun _ _ _ => True) (by kernel_rfl) (by kernel_rfl) (by decide) (fun _ _ _ _ _ _ => trivial) ?_
        repeat (first | (refine seq_skip (by rfl) ?_; simp only [Act.put, List.setIfInBounds_toArray, List.set_cons_zero, List.set_cons_succ, Nat.reduceAdd]) | (refine seq_pure (v := ?_) (by rfl) (by rfl) (fun W hW hC => ?_) ?_; rotate_left; (go_simp <;> with_reducible rfl); simp only [Act.put, List.setIfInBounds_toArray, List.set_cons_zero, List.set_cons_succ, Nat.reduceAdd]))
        refine seq_nil ?_; intro W6 hW6 hF
        clear hF
        replace q1 := keptF hW6 p1 q1
        replace p1 := Ytkkohelbidmkdaa.kept hW6 p1
        have HK := Lib.hid (HJ.out.kept hW6)
        clear hW6 k80 c0 hca hcb HJ
        go_upto_region 7 with fail
        refine wp_named ?_
        intro w6 hw6
        have HJ := Lib.hid (show RSw w w.heap.size (w.heap.size + 1) b8 [.slice (some ⟨bA, oA, none⟩) (ints sN).length c, .int .i64 on, .slice B d.length e] gs k1 (ints sN).length on ((ints sN).set an xb) none 0 0 [] w6 from by
          obtain ⟨q0, q1, q2, q3, q4, q5, q6⟩ := HK.out
          have hb := q3.block_ge gs rfl
          rw [hw6]
          exact ⟨q0.other (fun h => q3.ne_blk (g := gs) rfl q0 (by decide) h.symm) _, q1.other (fun h => q3.ne_blk (g := gs) rfl q1 (by decide) h.symm) _, q2.other (fun h => q3.ne_blk (g := gs) rfl q2 (by decide) h.symm) _, q3.put hanN xb, Own.nil _ _, q5, q6.setCell (by dsimp only; omega) _⟩)
        clear hw6 p1 q1 HK
        have k80 := HJ.out.out.cell (i := 0) rfl
        have c0 := HJ.out.grid.cell (i := 0) rfl
        have hca := Ytkkohelbidmkdaa.kept HJ.out.below HX.out.2.2.1
        have hcb := Ytkkohelbidmkdaa.kept HJ.out.below HX.out.2.2.2
        obtain ⟨y, hy⟩ : ∃ y, ((ints sN).set an xb)[bn]? = some y := ⟨_, List.getElem?_eq_getElem (by simp; omega)⟩
        obtain ⟨p1, q1⟩ := HJ.out.sizes.cell hy
        clear hy
        refine wp_seq_tail 9 (fun _ => false) (fun _ _ => undef) (fun _ _ _ => True) (by kernel_rfl) (by kernel_rfl) (by decide) (fun _ _ _ _ _ _ => trivial) ?_
        repeat (first | (refine seq_skip (by rfl) ?_; simp only [Act.put, List.setIfInBounds_toArray, List.set_cons_zero, List.set_cons_succ, Nat.reduceAdd]) | (refine seq_pure (v := ?_) (by rfl) (by rfl) (fun W hW hC => ?_) ?_; rotate_left; (go_simp <;> with_reducible rfl); simp only [Act.put, List.setIfInBounds_toArray, List.set_cons_zero, List.set_cons_succ, Nat.reduceAdd]))
        refine seq_nil ?_; intro W7 hW7 hF
        clear hF
        replace q1 := keptF hW7 p1 q1
        replace p1 := Ytkkohelbidmkdaa.kept hW7 p1
        have HK := Lib.hid (HJ.out.kept hW7)
        clear hW7 k80 c0 hca hcb HJ
        go_wp2_with fail
        refine wp_named ?_
        intro w7 hw7
        have hsw : ((ints sN).set an xb).set bn xa = ints (swapN sN an bn) := by
          rw [ints_swap]; unfold swapL; rw [HX.out.1, HX.out.2.1]; rfl
        have HJ := Lib.hid (show RSw w w.heap.size (w.heap.size + 1) b8 [.slice (some ⟨bA, oA, none⟩) (ints sN).length c, .int .i64 on, .slice B d.length e] gs k1 (ints sN).length on (ints (swapN sN an bn)) none 0 0 [] w7 from by
          obtain ⟨q0, q1, q2, q3, q4, q5, q6⟩ := HK.out
          have hb := q3.block_ge gs rfl
          rw [hw7]
          exact ⟨q0.other (fun h => q3.ne_blk (g := gs) rfl q0 (by decide) h.symm) _, q1.other (fun h => q3.ne_blk (g := gs) rfl q1 (by decide) h.symm) _, q2.other (fun h => q3.ne_blk (g := gs) rfl q2 (by decide) h.symm) _, by rw [← hsw]; exact q3.put (by simp; omega) xa, Own.nil _ _, q5, q6.setCell (by dsimp only; omega) _⟩)
        clear hw7 p1 q1 HK hsw
        obtain ⟨bD, oD, hBD⟩ : ∃ b off, B = some ⟨b, off, none⟩ := by
          have h1 := HSN.out.1.data
          have h2 := HSN.out.1.out1
          have h3 := (prodW_eq HSN.out.1.sizes HSN.out.1.len4).2.1
          have h4 : 1 * 1 ≤ prodI (ints sN) * on := Int.mul_le_mul h3 h2 (by omega) (by omega)
          obtain ⟨_, b, off, _, h, _⟩ := HD.out.at (i := 0) (by omega)
          exact ⟨b, off, h⟩
        subst hBD
        have hsp : ∀ x ∈ sN, 0 < x := fun x hx => by have := HSN.out.2.2 x hx; omega
        have hP : prodW (ints sN) = (pr sN : Int) := by rw [← prodI_ints]; exact (prodW_eq HSN.out.1.sizes HSN.out.1.len4).1
        have hpr : pr (swapN sN an bn) = pr sN := pr_swap l4 han hbn
        have hpr2 : pr sN ≤ 6561 := by have h := (prodW_eq HSN.out.1.sizes HSN.out.1.len4).2.2; rw [prodI_ints] at h; omega
        have hsw2 : ∀ x ∈ swapN sN an bn, 2 ≤ x ∧ x ≤ 9 := swapN_all han hbn HSN.out.2.2
        have ho4 : on ≤ 4 := by have := HSN.out.1.out4; omega
        have ho1 : 1 ≤ on := by have := HSN.out.1.out1; omega
        have hdm := HSN.out.1.most
        have HPP := Lib.hid (And.intro hP (And.intro hpr (And.intro hsw2 hsp)))
        clear hP hpr hsw2 hsp
        go_loopw [9] (fun i wr => ∃ n Ad kd, n ≤ pr sN ∧ i = .int .i64 (n : Nat) ∧ RSw w w.heap.size (w.heap.size + 1) b8 [.slice (some ⟨bA, oA, none⟩) (ints sN).length c, .int .i64 on, .slice (some ⟨bD, oD, none⟩) d.length e] gs k1 (ints sN).length on (ints (swapN sN an bn)) Ad (n * on) kd (gathered (swapD sN d on an bn) n) wr) (fun i _ => pr sN - (intOf i).toNat)
        case atStart => exact ⟨0, none, 0, Nat.zero_le _, rfl, by rw [Nat.zero_mul]; exact HJ.out⟩
        case round =>
          clear HJ
          obtain ⟨n, Ad, kd, hn, rfl, hI⟩ := hrel
          have HI := Lib.hid hI
          have c0 := hI.grid.cell (i := 0) rfl
          clear hI
          go_wp2_with fail
          refine (points_calls (some ⟨bA, oA, none⟩) c (ints sN) _ (HS.out.kept HI.out.below) ls).mono ?_
          rintro r w8 ⟨rfl, rfl⟩
          rw [HPP.out.1]
          by_cases hlt : n < pr sN
          · have k80 := HI.out.out.cell (i := 0) rfl
            go_wp2_with fail
            have hidx := refIndex_calls (some ⟨gs, 0, none⟩) k1 (swapN sN an bn) n w8 HI.out.sizes.length.2.2.2.2 (by rw [swapN_length]; exact l1) (by rw [swapN_length]; omega) HPP.out.2.2.1 (by rw [HPP.out.2.1]; exact hlt) (by omega)
            rw [ints_length, swapN_length, ← ints_length sN] at hidx
            refine hidx.mono ?_
            rintro r w9 ⟨gi, ki, rfl, hoi, hb9⟩
            clear hidx c0 k80
            have hl0 : (ints (dg (swapN sN an bn) n)).length = sN.length := by rw [ints_length, dg_length, swapN_length]
            obtain ⟨ya, hya⟩ : ∃ y, (ints (dg (swapN sN an bn) n))[an]? = some y := ⟨_, List.getElem?_eq_getElem (by omega)⟩
            obtain ⟨yb, hyb⟩ : ∃ y, (ints (dg (swapN sN an bn) n))[bn]? = some y := ⟨_, List.getElem?_eq_getElem (by omega)⟩
            obtain ⟨pa, qa⟩ := hoi.cell hya
            obtain ⟨pb, qb⟩ := hoi.cell hyb
            have ho2 := hoi.put (m := an) (by omega) yb
            obtain ⟨yc, hyc⟩ : ∃ y, ((ints (dg (swapN sN an bn) n)).set an yb)[bn]? = some y := ⟨_, List.getElem?_eq_getElem (by simp; omega)⟩
            obtain ⟨pc, qc⟩ := ho2.cell hyc
            have ho3 := ho2.put (m := bn) (by simp; omega) ya
            have hgi := (hoi.block_ge gi rfl).1
            have hsw : ((ints (dg (swapN sN an bn) n)).set an yb).set bn ya = ints (swapN (dg (swapN sN an bn) n) an bn) := by
              rw [ints_swap]; unfold swapL; rw [hya, hyb]; rfl
            rw [hsw] at ho3
            have hb10 : Below w8.heap.size w8 ((w9.setCell ⟨gi, an, none⟩ (.int .i64 yb)).setCell ⟨gi, bn, none⟩ (.int .i64 ya)) := (hb9.setCell (p := ⟨gi, an, none⟩) hgi _).setCell (p := ⟨gi, bn, none⟩) hgi _
            have HY := Lib.hid (And.intro ho3 hb10)
            clear hl0 hya hyb ho2 hyc ho3 hgi hsw hb10 hoi hb9
            go_upto_region 15 with fail
            refine wp_named ?_
            intro w10 hw10
            have hx : Own w10 w8.heap.size (.slice (some ⟨gi, 0, none⟩) (ints sN).length ki) (ints (swapN (dg (swapN sN an bn) n) an bn)) ∧ Below w8.heap.size w8 w10 := by rw [hw10]; exact HY.out
            have HI10 := Lib.hid (And.intro (HI.out.kept hx.2) hx.1)
            clear hw10 HY pa qa pb qb pc qc hx HI
            have c0 := HI10.out.1.grid.cell (i := 0) rfl
            have c1 := HI10.out.1.grid.cell (i := 1) rfl
            have c2 := HI10.out.1.grid.cell (i := 2) rfl
            go_wp2_with fail
            have hpc := refPlace_calls (some ⟨bA, oA, none⟩) (some ⟨bD, oD, none⟩) (some ⟨gi, 0, none⟩) c e ki (ints sN) d (ints (swapN (dg (swapN sN an bn) n) an bn)) on w10 (HS.out.kept HI10.out.1.below) HI10.out.2.length.2.2.2.2 HSN.out.1.sizes ls (by rw [ints_length]; simp; omega)
            rw [show (ints (swapN (dg (swapN sN an bn) n) an bn)).length = (ints sN).length by rw [ints_length, ints_length, swapN_length, dg_length, swapN_length]] at hpc
            refine hpc.mono ?_
            rintro r w11 ⟨rfl, hb11⟩
            clear hpc
            obtain ⟨hil, hix⟩ := swap_within (a := an) (b := bn) HPP.out.2.2.2 han hbn (by rw [HPP.out.2.1]; exact hlt)
            obtain ⟨_, hp2, hp3, hp4⟩ := place_ix HSN.out.1 hil hix
            have hid : idxB (ints sN) (ints (swapN (dg (swapN sN an bn) n) an bn)) = true := by
              rw [idxB_iff]
              refine ⟨by rw [ints_length, ints_length, hil], fun i x n hx hn => ?_⟩
              obtain ⟨x', hx', rfl⟩ := ints_at hx
              obtain ⟨n', hn', rfl⟩ := ints_at hn
              have := hix i x' n' hx' hn'
              omega
            rw [refPl_eq HSN.out.1 hid, hid, hp4, ← Int.natCast_mul]
            obtain ⟨P, hP⟩ : ∃ P, plN sN (swapN (dg (swapN sN an bn) n) an bn) * on = P := ⟨_, rfl⟩
            rw [hP] at hp2
            rw [hP]
            have hys : (swapD sN d on an bn n).length = on ∧ swapD sN d on an bn n = (d.drop P).take on := by
              unfold swapD rowAt
              rw [hP]
              exact ⟨by rw [List.length_take, List.length_drop]; omega, rfl⟩
            have hgl : (gathered (swapD sN d on an bn) n).length = n * on := HI10.out.1.data.length.1
            have hnl : n * on ≤ 26244 := by
              have h1 : n * on ≤ 6561 * 4 := Nat.mul_le_mul (by omega) ho4
              omega
            obtain ⟨Q, hQ⟩ : ∃ Q, P + on = Q := ⟨_, rfl⟩
            have hw1 : IntKind.i64.wrap ((P : Int) + (on : Int)) = (Q : Int) := by
              rw [IntWalk.i64_left, ← hQ, Int.natCast_add]; exact wrap64_id (by omega) (by omega)
            have hPe : Q ≤ e := by omega
            have hPP : P ≤ Q := by omega
            have hPn : ¬ e = P := by omega
            have hQP : Q - P = on := by omega
            clear hQ
            have HI11 := Lib.hid (And.intro (HI10.out.1.kept hb11) (And.intro hys (And.intro hgl hnl)))
            clear hil hix hp2 hp3 hp4 hid hP hys hb11 HI10 hgl hnl c0 c1 c2
            have c1 := HI11.out.1.grid.cell (i := 1) rfl
            have c2 := HI11.out.1.grid.cell (i := 2) rfl
            have k82 := HI11.out.1.out.cell (i := 2) rfl
            go_wp2_with fail
            refine wp_seq_tail 10 (fun _ => false) (fun _ _ => undef) (fun _ _ _ => True) (by kernel_rfl) (by kernel_rfl) (by decide) (fun _ _ _ _ _ _ => trivial) ?_
            repeat (first | (refine seq_skip (by rfl) ?_; simp only [Act.put, List.setIfInBounds_toArray, List.set_cons_zero, List.set_cons_succ, Nat.reduceAdd]) | (refine seq_pure (v := ?_) (by rfl) (by rfl) (fun W hW hC => ?_) ?_; rotate_left; (go_simp <;> with_reducible rfl); simp only [Act.put, List.setIfInBounds_toArray, List.set_cons_zero, List.set_cons_succ, Nat.reduceAdd]))
            refine seq_nil ?_; intro W12 hW12 hF
            clear hF
            have HI12 := Lib.hid (And.intro (HI11.out.1.kept hW12) HI11.out.2)
            clear hW12 HI11 c1 c2 k82
            refine append_ints2 (by rfl) (.tmp 93) (.tmp 101) rfl w.heap.size (.slice Ad (n * on) kd) (gathered (swapD sN d on an bn) n) rfl HI12.out.1.data (some ⟨bD, oD + P, none⟩) (e - P) (swapD sN d on an bn n) (by rw [HI12.out.2.1.1]; rfl) (by rw [HI12.out.2.1.2]; exact (HD.out.kept HI12.out.1.below).sub P on) (fun h => by cases h) (by rw [HI12.out.2.1.1, HI12.out.2.2.1]; have := HI12.out.2.2.2; omega) HI12.out.1.below.size ?_
            intro v' w13 how hgr hfr
            obtain ⟨q0, q1, q2, q3, q4, q5, q6⟩ := HI12.out.1
            have g0 := Blk.grown q4 hgr q0 (by decide)
            have g1 := Blk.grown q4 hgr q1 (by decide)
            have g2 := Blk.grown q4 hgr q2 (by decide)
            have hb4 := q4.below hgr (Nat.le_refl _) q6
            have hoo := q3.grown hgr (fun g hg he => q5 g he (by cases hg; rfl))
            have hap : ∀ g, v'.ownBlock = some g → g ≠ gs := by
              intro g hg
              rcases hfr g hg with h | h
              · exact q5 g h
              · have := (q3.block_ge gs rfl).2; omega
            obtain ⟨A'', k'', hv', _, _, _, _⟩ := how.cs
            rw [List.length_append, HI12.out.2.2.1, HI12.out.2.1.1, ← Nat.succ_mul] at hv'
            subst hv'
            have k82 := g2.cell (i := 2) rfl
            have f82 := g2.free 2
            have HG := Lib.hid (And.intro g0 (And.intro g1 (And.intro g2 (And.intro how (And.intro hb4 (And.intro hoo hap))))))
            clear q0 q1 q2 q3 q4 q5 q6 g0 g1 g2 how hb4 hoo hap hgr hfr HI12
            simp only [Act.put, List.setIfInBounds_toArray, List.set_cons_zero, List.set_cons_succ, Nat.reduceAdd]
            go_wp2
            go_roundw
            case rel =>
              obtain ⟨g0, g1, g2, how, hb4, hoo, hap⟩ := HG.out
              exact ⟨n + 1, A'', k'', by omega, by go_num, g0.other (by dsimp only; omega) _, g1.other (by dsimp only; omega) _, g2.set 2 _, hoo.other (fun g hg => hoo.ne_blk hg g2 (by decide)) _, how.other (fun g hg => how.ne_blk hg g2 (by decide)) _, hap, hb4.setCell (by dsimp only; omega) _⟩
            case measure => simp [intOf]; omega
          · have hne : n = pr sN := by omega
            subst hne
            have k80 := HI.out.out.cell (i := 0) rfl
            have k81 := HI.out.out.cell (i := 1) rfl
            have k82 := HI.out.out.cell (i := 2) rfl
            have r0 := HI.out.res.cell (i := 0) rfl
            have r1 := HI.out.res.cell (i := 1) rfl
            have r2 := HI.out.res.cell (i := 2) rfl
            have f0 := HI.out.res.free 0
            have f1 := HI.out.res.free 1
            have f2 := HI.out.res.free 2
            have hR : swapR (ints sN) on d an bn = (swapL (ints sN) an bn, (on : Int), gathered (swapD sN d on an bn) (pr sN), 0) := by
              unfold swapR
              rw [if_neg (by rw [HSN.out.2.1]; simp), if_neg (by rw [HAB.out.1, HAB.out.2]; simp), toN_ints]; simp
            have HR := Lib.hid hR
            clear hR
            go_wp2_with fail
            refine bodyPost_ret (v := .tuple #[.agg #[.slice (some ⟨gs, 0, none⟩) (ints sN).length k1, .int .i64 on, .slice Ad (pr sN * on) kd], .int .i64 0]) (by simp [results, Try.results19, go_sem, *]) rfl ⟨_, _, by rw [HR.out], ?_, ?_, below_set3 HI.out.below (by omega) _ _ _⟩
            · rw [HR.out]
              have h := HI.out.sizes.other3 (b := w.heap.size + 1) (fun g hg => HI.out.sizes.ne_blk hg HI.out.res (by decide)) (.slice (some ⟨gs, 0, none⟩) (ints sN).length k1) (.int .i64 on) (.slice Ad (pr sN * on) kd)
              rw [ints_swap] at h
              exact h
            · rw [HR.out]
              exact HI.out.data.other3 (b := w.heap.size + 1) (fun g hg => HI.out.data.ne_blk hg HI.out.res (by decide)) (.slice (some ⟨gs, 0, none⟩) (ints sN).length k1) (.int .i64 on) (.slice Ad (pr sN * on) kd)
      · have hR : swapR (ints sN) on d a b = ([], 0, [], 2) := by
          have hb' : inputB (ints sN) b = false := by simpa using hb
          unfold swapR; rw [if_neg (by rw [HSN.out.2.1]; simp), if_pos (by rw [hb', Bool.and_false])]
        have HR := Lib.hid hR
        rw [show inputB (ints sN) b = false by simpa using hb]
        clear ha hb hR
        go_wp2_with fail
        refine bodyPost_ret (v := .tuple #[.agg #[.slice none 0 0, .int .i64 0, .slice none 0 0], .int .i64 2]) (by simp [results, Try.results19, go_sem, *]) rfl ⟨.slice none 0 0, .slice none 0 0, by rw [HR.out], by rw [HR.out]; exact Own.nil _ _, by rw [HR.out]; exact Own.nil _ _, below_set3 HB.out.2.2 (by omega) _ _ _⟩
    · have hR : swapR (ints sN) on d a b = ([], 0, [], 2) := by
        have ha' : inputB (ints sN) a = false := by simpa using ha
        unfold swapR; rw [if_neg (by rw [HSN.out.2.1]; simp), if_pos (by rw [ha', Bool.false_and])]
      have HR := Lib.hid hR
      rw [show inputB (ints sN) a = false by simpa using ha]
      clear ha hR
      go_wp2_with fail
      refine bodyPost_ret (v := .tuple #[.agg #[.slice none 0 0, .int .i64 0, .slice none 0 0], .int .i64 2]) (by simp [results, Try.results19, go_sem, *]) rfl ⟨.slice none 0 0, .slice none 0 0, by rw [HR.out], by rw [HR.out]; exact Own.nil _ _, by rw [HR.out]; exact Own.nil _ _, below_set3 HB.out.2.2 (by omega) _ _ _⟩
  · have hR : swapR s o d a b = ([], 0, [], 100) := by unfold swapR; rw [if_pos hc]
    have HR := Lib.hid hR
    rw [decide_eq_false hc]
    clear hc hR
    go_wp2_with fail
    refine bodyPost_ret (v := .tuple #[.agg #[.slice none 0 0, .int .i64 0, .slice none 0 0], .int .i64 100]) (by simp [results, Try.results19, go_sem, *]) rfl ⟨.slice none 0 0, .slice none 0 0, by rw [HR.out], by rw [HR.out]; exact Own.nil _ _, by rw [HR.out]; exact Own.nil _ _, below_set3 HB.out.2.2 (by omega) _ _ _⟩
end Go.Proofs.Ytkkohelbidmkdaa
