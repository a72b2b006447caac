/-
  The law's four: four grids that can be read.
-/
import Derived.Test.YtkkohelbidmkdaaGOf
namespace Go.Proofs.Ytkkohelbidmkdaa
set_option linter.unusedVariables false
set_option linter.unusedSimpArgs false
open Go Go.RowKit

/-- A grid that can be read. -/
structure GridV (W : World) (v : Value) (A : Option Addr) (c : Nat) (s : List Int) (o : Int) (B : Option Addr) (e : Nat) (d : List Int) : Prop where
  eq : v = .agg #[.slice A s.length c, .int .i64 o, .slice B d.length e]
  cs : Cs W .i64 A s
  cd : Cs W .i64 B d
  ls : s.length ≤ c
  lc : c ≤ 9223372036854775807
  hA : A = none → c = 0
  ld : d.length ≤ e
  le : e ≤ 9223372036854775807
  hB : B = none → e = 0

def IsGrid (W : World) (v : Value) : Prop := ∃ A c s o B e d, GridV W v A c s o B e d

theorem GridV.kept {W W' : World} {v : Value} {A : Option Addr} {c : Nat} {s : List Int} {o : Int} {B : Option Addr} {e : Nat} {d : List Int} (h : GridV W v A c s o B e d) (hb : Below W.heap.size W W') : GridV W' v A c s o B e d :=
  ⟨h.eq, h.cs.kept hb, h.cd.kept hb, h.ls, h.lc, h.hA, h.ld, h.le, h.hB⟩
theorem IsGrid.kept {W W' : World} {v : Value} (h : IsGrid W v) (hb : Below W.heap.size W W') : IsGrid W' v := by
  obtain ⟨A, c, s, o, B, e, d, h⟩ := h
  exact ⟨A, c, s, o, B, e, d, h.kept hb⟩

theorem IsGrid.own {W : World} {b1 b2 : Nat} {v1 v2 : Value} {s d : List Int} {o : Int} (h1 : Own W b1 v1 s) (h2 : Own W b2 v2 d) : IsGrid W (.agg #[v1, .int .i64 o, v2]) := by
  obtain ⟨A, c, rfl, p1, p2, p3, p4⟩ := h1.cs
  obtain ⟨B, e, rfl, q1, q2, q3, q4⟩ := h2.cs
  simp only [maxLen] at p2 q2
  exact ⟨A, c, s, o, B, e, d, rfl, p4, q4, p1, by omega, p3, q1, by omega, q3⟩

/-- A grid whose lists the call has made. -/
def OwnG (W : World) (base : Nat) (v1 : Value) (_o : Int) (v2 : Value) : Prop := ∃ s d, Own W base v1 s ∧ Own W base v2 d
theorem OwnG.grid {W : World} {base : Nat} {v1 v2 : Value} {o : Int} (h : OwnG W base v1 o v2) : IsGrid W (.agg #[v1, .int .i64 o, v2]) := by
  obtain ⟨s, d, h1, h2⟩ := h
  exact .own h1 h2
theorem OwnG.kept {W W' : World} {base : Nat} {v1 v2 : Value} {o : Int} (h : OwnG W base v1 o v2) (hb : Below W.heap.size W W') : OwnG W' base v1 o v2 := by
  obtain ⟨s, d, h1, h2⟩ := h
  exact ⟨s, d, h1.kept hb, h2.kept hb⟩
theorem OwnG.lower {W : World} {base base' : Nat} {v1 v2 : Value} {o : Int} (h : OwnG W base v1 o v2) (hb : base' ≤ base) : OwnG W base' v1 o v2 := by
  obtain ⟨s, d, h1, h2⟩ := h
  exact ⟨s, d, h1.lower hb, h2.lower hb⟩
theorem OwnG.put {W : World} {base : Nat} {v1 v2 : Value} {o : Int} (h : OwnG W base v1 o v2) {b : Nat} {cs : List Value} {t : TypeId} (hb : Blk W b cs t) (ht : t ≠ 3) (i : Nat) (v : Value) : OwnG (W.setCell ⟨b, i, none⟩ v) base v1 o v2 := by
  obtain ⟨s, d, h1, h2⟩ := h
  exact ⟨s, d, h1.other (fun g hg => h1.ne_blk hg hb ht) _, h2.other (fun g hg => h2.ne_blk hg hb ht) _⟩
theorem OwnG.shape {W : World} {base : Nat} {v1 v2 : Value} {o : Int} (h : OwnG W base v1 o v2) : ∃ A n c B m e, v1 = .slice A n c ∧ v2 = .slice B m e := by
  obtain ⟨s, d, h1, h2⟩ := h
  obtain ⟨A, c, rfl, _⟩ := h1.cs
  obtain ⟨B, e, rfl, _⟩ := h2.cs
  exact ⟨A, _, c, B, _, e, rfl, rfl⟩

theorem of_parts {v : Value} {x a n : Int} {w : World} (h : IsGrid w v) (hx0 : 0 ≤ x) (hx1 : x ≤ 255) (ha0 : 0 ≤ a) (ha1 : a ≤ 255) :
    Calls Try.prog 32 #[.agg #[.int .u8 x, .int .u8 a, .int .i64 n], v] w fun r w' => ∃ v1 o v2, r = .returned (.agg #[v1, .int .i64 o, v2]) ∧ OwnG w' w.heap.size v1 o v2 ∧ Below w.heap.size w w' := by
  obtain ⟨A, c, s, o, B, e, d, h⟩ := h
  obtain ⟨an, rfl⟩ := Int.eq_ofNat_of_zero_le ha0
  rw [h.eq]
  refine (of_calls A B c e s d o x n w h.cs h.cd h.ls h.lc h.hA h.ld h.le h.hB hx0 hx1 an (by omega)).mono ?_
  rintro r w' ⟨v1, v2, s', d', o', rfl, o1, o2, _, _, hb⟩
  exact ⟨_, _, _, rfl, ⟨_, _, o1, o2⟩, hb⟩

theorem copied_parts {v : Value} {w : World} (h : IsGrid w v) :
    Calls Try.prog 33 #[v] w fun r w' => ∃ v1 o v2, r = .returned (.agg #[v1, .int .i64 o, v2]) ∧ OwnG w' w.heap.size v1 o v2 ∧ Below w.heap.size w w' := by
  obtain ⟨A, c, s, o, B, e, d, h⟩ := h
  rw [h.eq]
  refine (copied_calls A B c e s d o w h.cs h.cd h.ls h.lc h.hA h.ld h.le h.hB).mono ?_
  rintro r w' ⟨v1, v2, rfl, o1, o2, _, hb⟩
  exact ⟨_, _, _, rfl, ⟨_, _, o1, o2⟩, hb⟩

/-- A draft that can be read. -/
structure DraftV (W : World) (v : Value) : Prop where
  is : ∃ S cs ss du V cv vs sm, v = .agg #[.slice S (ss : List Int).length cs, .int .u8 du, .slice V (vs : List Int).length cv, .bool sm] ∧ Cs W .u8 S ss ∧ Cs W .u16 V vs ∧ 0 ≤ du ∧ du ≤ 255 ∧ (∀ x ∈ ss, 0 ≤ x ∧ x ≤ 255) ∧
    ss.length ≤ 9223372036854775807 ∧ Full vs ∧ vs.length ≤ 9223372036854775807

theorem DraftV.kept {W W' : World} {v : Value} (h : DraftV W v) (hb : Below W.heap.size W W') : DraftV W' v := by
  obtain ⟨S, cs, ss, du, V, cv, vs, sm, h1, h2, h3, h4⟩ := h.is
  exact ⟨S, cs, ss, du, V, cv, vs, sm, h1, h2.kept hb, h3.kept hb, h4⟩

theorem draft_calls {v : Value} {w : World} (h : DraftV w v) : Calls Try.prog 23 #[v] w fun r w' => ∃ A c sN on Ad kd data, r = .returned (.agg #[.slice A (sN : List Nat).length c, .int .i64 (on : Nat), .slice Ad (data : List Int).length kd]) ∧ Drafted w A c sN on Ad kd data w' := by
  obtain ⟨S, cs, ss, du, V, cv, vs, sm, rfl, h2, h3, h4, h5, h6, h7, h8, h9⟩ := h.is
  exact draftGrid_calls S V cs cv du sm ss vs w h2 h3 h4 h5 h6 h7 h8 h9

theorem Drafted.grid {w0 W : World} {A : Option Addr} {c : Nat} {sN : List Nat} {on : Nat} {Ad : Option Addr} {kd : Nat} {data : List Int} (h : Drafted w0 A c sN on Ad kd data W) : IsGrid W (.agg #[.slice A sN.length c, .int .i64 on, .slice Ad data.length kd]) := .own h.size h.own

theorem draft_parts {v : Value} {w : World} (h : DraftV w v) : Calls Try.prog 23 #[v] w fun r w' => ∃ v1 o v2, r = .returned (.agg #[v1, .int .i64 o, v2]) ∧ OwnG w' w.heap.size v1 o v2 ∧ Below w.heap.size w w' := by
  refine (draft_calls h).mono ?_
  rintro r w' ⟨A, c, sN, on, Ad, kd, data, rfl, hd⟩
  exact ⟨_, _, _, rfl, ⟨_, _, hd.size, hd.own⟩, hd.below⟩

/-- A cell that holds one value. -/
theorem IsGrid.shape {W : World} {v1 v2 : Value} {o : Int} (h : IsGrid W (.agg #[v1, .int .i64 o, v2])) : ∃ A n c B m e, v1 = .slice A n c ∧ v2 = .slice B m e := by
  obtain ⟨A, c, s, o, B, e, d, h⟩ := h
  have := h.eq
  injection this with h1
  have h2 := congrArg Array.toList h1
  simp at h2
  exact ⟨A, _, c, B, _, e, h2.1, h2.2.2⟩

set_option maxHeartbeats 1600000 in
theorem four_calls (v1 v2 : Value) (ro : Int) (d : Value) (x a n x' a' n' : Int) (w : World) (hr : IsGrid w (.agg #[v1, .int .i64 ro, v2])) (hd : DraftV w d) (hx0 : 0 ≤ x) (hx1 : x ≤ 255) (ha0 : 0 ≤ a) (ha1 : a ≤ 255) (hx0' : 0 ≤ x') (hx1' : x' ≤ 255) (ha0' : 0 ≤ a') (ha1' : a' ≤ 255) :
    Calls Try.prog 11 #[.agg #[v1, .int .i64 ro, v2], d, .agg #[.int .u8 x, .int .u8 a, .int .i64 n, .int .u8 x', .int .u8 a', .int .i64 n']] w fun r w' => ∃ a0 o0 b0 a1 o1 b1 a2 o2 b2 a3 o3 b3,
      r = .returned (.agg #[a0, .int .i64 o0, b0, a1, .int .i64 o1, b1, a2, .int .i64 o2, b2, a3, .int .i64 o3, b3]) ∧
      IsGrid w' (.agg #[a0, .int .i64 o0, b0]) ∧ IsGrid w' (.agg #[a1, .int .i64 o1, b1]) ∧ IsGrid w' (.agg #[a2, .int .i64 o2, b2]) ∧ IsGrid w' (.agg #[a3, .int .i64 o3, b3]) ∧ Below w.heap.size w w' := by
  obtain ⟨RA, rn, rc, RB, rm, re, rfl, rfl⟩ := hr.shape
  have HD := Lib.hid hd
  obtain ⟨S, cs, ss, du, V, cv, vs, sm, rfl, _⟩ := hd.is
  have HR := Lib.hid hr
  clear hd hr
  go_enter Try.func11, Try.ntmps11
  go_wp2_with fail
  refine calls_named ?_
  intro w1 hw1
  have p0 : Blk w1 w.heap.size [.slice RA rn rc, .int .i64 ro, .slice RB rm re] 24 := by rw [hw1]; exact (((Blk.new _ _ _).alloc _).alloc _).alloc _
  have p1 : Blk w1 (w.heap.size + 1) [.slice S ss.length cs, .int .u8 du, .slice V vs.length cv, .bool sm] 28 := by rw [hw1]; exact ((Blk.at (by simp)).alloc _).alloc _
  have p2 : Blk w1 (w.heap.size + 1 + 1) [.int .u8 x, .int .u8 a, .int .i64 n, .int .u8 x', .int .u8 a', .int .i64 n'] 31 := by rw [hw1]; exact (Blk.at (by simp)).alloc _
  have p3 : Blk w1 (w.heap.size + 1 + 1 + 1) [.slice none 0 0, .int .i64 0, .slice none 0 0, .slice none 0 0, .int .i64 0, .slice none 0 0, .slice none 0 0, .int .i64 0, .slice none 0 0, .slice none 0 0, .int .i64 0, .slice none 0 0] 34 := by rw [hw1]; exact Blk.at (by simp)
  have hb1 : Below w.heap.size w w1 := by rw [hw1]; repeat (first | exact below_alloc _ | refine below_trans ?_ (below_alloc _))
  clear hw1
  refine (draft_parts (HD.out.kept hb1)).mono ?_
  rintro r w2 ⟨g1, o0, g2, rfl, hg0, hb2⟩
  obtain ⟨A0, n0, c0, B0, m0, e0, rfl, rfl⟩ := hg0.shape
  have HX := Lib.hid (And.intro (p0.kept hb2) (And.intro (p1.kept hb2) (And.intro (p2.kept hb2) (And.intro (p3.kept hb2) (And.intro (below_trans hb1 hb2) (hg0.lower (base' := w.heap.size) hb1.size))))))
  clear p0 p1 p2 p3 hb1 hb2 hg0
  go_upto_region 2 with fail
  refine wp_named ?_
  intro w3 hw3
  have q4 : Blk w3 w2.heap.size [.slice A0 n0 c0, .int .i64 o0, .slice B0 m0 e0] 24 := by rw [hw3]; exact Blk.at rfl
  have hb3 : Below w2.heap.size w2 w3 := by rw [hw3]; repeat (first | exact below_alloc _ | refine below_trans ?_ (below_alloc _))
  clear hw3
  obtain ⟨p0, p1, p2, p3, hb, hg0⟩ := HX.out
  replace p0 := p0.kept hb3
  replace p1 := p1.kept hb3
  replace p2 := p2.kept hb3
  replace p3 := p3.kept hb3
  replace hb := below_trans hb hb3
  replace hg0 := hg0.kept hb3
  have k0 := p2.cell (i := 0) rfl
  have k1 := p2.cell (i := 1) rfl
  have k2 := p2.cell (i := 2) rfl
  have k3 := q4.cell (i := 0) rfl
  have k4 := q4.cell (i := 1) rfl
  have k5 := q4.cell (i := 2) rfl
  clear HX
  have HX := Lib.hid (And.intro p0 (And.intro p1 (And.intro p2 (And.intro p3 (And.intro q4 (And.intro hb hg0))))))
  clear p0 p1 p2 p3 q4 hb hb3 hg0
  go_wp2_with fail
  refine (of_parts HX.out.2.2.2.2.2.2.grid hx0 hx1 ha0 ha1).mono ?_
  rintro r w4 ⟨g1, o1, g2, rfl, hg1, hb4⟩
  obtain ⟨A1, n1, c1, B1, m1, e1, rfl, rfl⟩ := hg1.shape
  clear k0 k1 k2 k3 k4 k5
  have HY := Lib.hid (And.intro (HX.out.1.kept hb4) (And.intro (HX.out.2.1.kept hb4) (And.intro (HX.out.2.2.1.kept hb4) (And.intro (HX.out.2.2.2.1.kept hb4) (And.intro (HX.out.2.2.2.2.1.kept hb4) (And.intro (below_trans HX.out.2.2.2.2.2.1 hb4) (And.intro (HX.out.2.2.2.2.2.2.kept hb4) (hg1.lower (base' := w.heap.size) HX.out.2.2.2.2.2.1.size))))))))
  clear HX hb4 hg1
  go_upto_region 3 with fail
  refine wp_named ?_
  intro w5 hw5
  have q5 : Blk w5 w4.heap.size [.slice A1 n1 c1, .int .i64 o1, .slice B1 m1 e1] 24 := by rw [hw5]; exact Blk.at rfl
  have hb5 : Below w4.heap.size w4 w5 := by rw [hw5]; repeat (first | exact below_alloc _ | refine below_trans ?_ (below_alloc _))
  clear hw5
  obtain ⟨p0, p1, p2, p3, q4, hb, hg0, hg1⟩ := HY.out
  replace p0 := p0.kept hb5
  replace p2 := p2.kept hb5
  replace p3 := p3.kept hb5
  replace q4 := q4.kept hb5
  replace hb := below_trans hb hb5
  replace hg0 := hg0.kept hb5
  replace hg1 := hg1.kept hb5
  have k0 := p0.cell (i := 0) rfl
  have k1 := p0.cell (i := 1) rfl
  have k2 := p0.cell (i := 2) rfl
  have k3 := q4.cell (i := 0) rfl
  have k4 := q4.cell (i := 1) rfl
  have k5 := q4.cell (i := 2) rfl
  have k6 := q5.cell (i := 0) rfl
  have k7 := q5.cell (i := 1) rfl
  have k8 := q5.cell (i := 2) rfl
  have k9 := p2.cell (i := 3) rfl
  have k10 := p2.cell (i := 4) rfl
  have k11 := p2.cell (i := 5) rfl
  have HR5 := Lib.hid (HR.out.kept hb)
  clear HY
  have HX := Lib.hid (And.intro p3 (And.intro hb (And.intro hg0 hg1)))
  clear p0 p1 p2 p3 q4 q5 hb hb5 hg0 hg1
  refine wp_seq_tail 9 (fun k => k == 5 || k == 7) (fun k y => .agg #[.slice y.A y.i y.j, .int .i64 y.n, .slice y.B y.k y.l]) (fun k y W => OwnG W w.heap.size (.slice y.A y.i y.j) y.n (.slice y.B y.k y.l)) (by kernel_rfl) (by kernel_rfl) (by decide) (fun _ _ _ _ hb h => h.kept hb) ?_
  repeat (first | (refine seq_skip (by rfl) ?_; simp only [Act.put, List.setIfInBounds_toArray, List.set_cons_zero, List.set_cons_succ, Nat.reduceAdd]) | (refine seq_pure (v := ?_) (by rfl) (by rfl) (fun W hW hC => ?_) ?_; rotate_left; (go_simp <;> with_reducible rfl); simp only [Act.put, List.setIfInBounds_toArray, List.set_cons_zero, List.set_cons_succ, Nat.reduceAdd]))
  refine seq_made (by rfl) (by rfl) (fun W hW hC hF R hR => ?_) (fun y2 => ?_)
  · unfold Gives; go_simp; refine (of_parts (HX.out.2.2.2.kept hW).grid hx0' hx1' ha0' ha1').mono ?_
    rintro r w6 ⟨g1, o2, g2, rfl, hg2, hb6⟩
    obtain ⟨A2, n2, c2, B2, m2, e2, rfl, rfl⟩ := hg2.shape
    exact ⟨_, rfl, hR {A := A2, i := n2, j := c2, n := o2, B := B2, k := m2, l := e2} _ hb6 (hg2.lower (Nat.le_trans HX.out.2.1.size hW.size))⟩
  simp only [Act.put, List.setIfInBounds_toArray, List.set_cons_zero, List.set_cons_succ, Nat.reduceAdd]
  repeat (first | (refine seq_skip (by rfl) ?_; simp only [Act.put, List.setIfInBounds_toArray, List.set_cons_zero, List.set_cons_succ, Nat.reduceAdd]) | (refine seq_pure (v := ?_) (by rfl) (by rfl) (fun W hW hC => ?_) ?_; rotate_left; (go_simp <;> with_reducible rfl); simp only [Act.put, List.setIfInBounds_toArray, List.set_cons_zero, List.set_cons_succ, Nat.reduceAdd]))
  refine seq_made (by rfl) (by rfl) (fun W hW hC hF R hR => ?_) (fun y3 => ?_)
  · unfold Gives; go_simp; refine (copied_parts (HR5.out.kept hW)).mono ?_
    rintro r w6 ⟨g1, o2, g2, rfl, hg2, hb6⟩
    obtain ⟨A2, n2, c2, B2, m2, e2, rfl, rfl⟩ := hg2.shape
    exact ⟨_, rfl, hR {A := A2, i := n2, j := c2, n := o2, B := B2, k := m2, l := e2} _ hb6 (hg2.lower (Nat.le_trans HX.out.2.1.size hW.size))⟩
  simp only [Act.put, List.setIfInBounds_toArray, List.set_cons_zero, List.set_cons_succ, Nat.reduceAdd]
  repeat (first | (refine seq_skip (by rfl) ?_; simp only [Act.put, List.setIfInBounds_toArray, List.set_cons_zero, List.set_cons_succ, Nat.reduceAdd]) | (refine seq_pure (v := ?_) (by rfl) (by rfl) (fun W hW hC => ?_) ?_; rotate_left; (go_simp <;> with_reducible rfl); simp only [Act.put, List.setIfInBounds_toArray, List.set_cons_zero, List.set_cons_succ, Nat.reduceAdd]))
  refine seq_nil ?_; intro W hW hF
  have hg3 := hF _ _ (List.mem_cons_self ..)
  have hg2 := hF _ _ (List.mem_cons_of_mem _ (List.mem_cons_self ..))
  clear hF
  obtain ⟨p3, hb, hg0, hg1⟩ := HX.out
  replace p3 := p3.kept hW
  have r0 := p3.cell (i := 0) rfl
  have r1 := p3.cell (i := 1) rfl
  have r2 := p3.cell (i := 2) rfl
  have r3 := p3.cell (i := 3) rfl
  have r4 := p3.cell (i := 4) rfl
  have r5 := p3.cell (i := 5) rfl
  have r6 := p3.cell (i := 6) rfl
  have r7 := p3.cell (i := 7) rfl
  have r8 := p3.cell (i := 8) rfl
  have r9 := p3.cell (i := 9) rfl
  have r10 := p3.cell (i := 10) rfl
  have r11 := p3.cell (i := 11) rfl
  have f0 := p3.free 0
  have f1 := p3.free 1
  have f2 := p3.free 2
  have f3 := p3.free 3
  have f4 := p3.free 4
  have f5 := p3.free 5
  have f6 := p3.free 6
  have f7 := p3.free 7
  have f8 := p3.free 8
  have f9 := p3.free 9
  have f10 := p3.free 10
  have f11 := p3.free 11
  have HX := Lib.hid (And.intro p3 (And.intro (hb.trans (hW.mono hb.size)) (And.intro (hg0.kept hW) (And.intro (hg1.kept hW) (And.intro hg2 hg3)))))
  clear hg0 hg1 hg2 hg3 hb hW p3 k0 k1 k2 k3 k4 k5 k6 k7 k8 k9 k10 k11
  have bset : ∀ {V : World} {cs : List Value}, Blk V (w.heap.size + 1 + 1 + 1) cs 34 → ∀ i v, ∃ cs', Blk (V.setCell ⟨w.heap.size + 1 + 1 + 1, i, none⟩ v) (w.heap.size + 1 + 1 + 1) cs' 34 := fun h i v => ⟨_, h.set i v⟩
  have HP : ∀ (V : World) (cs : List Value) (i : Nat) (v : Value), (Blk V (w.heap.size + 1 + 1 + 1) cs 34 ∧ OwnG V w.heap.size (.slice A0 n0 c0) o0 (.slice B0 m0 e0) ∧ OwnG V w.heap.size (.slice A1 n1 c1) o1 (.slice B1 m1 e1) ∧ OwnG V w.heap.size (.slice y2.A y2.i y2.j) y2.n (.slice y2.B y2.k y2.l) ∧ OwnG V w.heap.size (.slice y3.A y3.i y3.j) y3.n (.slice y3.B y3.k y3.l) ∧ Below w.heap.size w V) →
      (Blk (V.setCell ⟨w.heap.size + 1 + 1 + 1, i, none⟩ v) (w.heap.size + 1 + 1 + 1) (cs.set i v) 34 ∧ OwnG (V.setCell ⟨w.heap.size + 1 + 1 + 1, i, none⟩ v) w.heap.size (.slice A0 n0 c0) o0 (.slice B0 m0 e0) ∧ OwnG (V.setCell ⟨w.heap.size + 1 + 1 + 1, i, none⟩ v) w.heap.size (.slice A1 n1 c1) o1 (.slice B1 m1 e1) ∧ OwnG (V.setCell ⟨w.heap.size + 1 + 1 + 1, i, none⟩ v) w.heap.size (.slice y2.A y2.i y2.j) y2.n (.slice y2.B y2.k y2.l) ∧ OwnG (V.setCell ⟨w.heap.size + 1 + 1 + 1, i, none⟩ v) w.heap.size (.slice y3.A y3.i y3.j) y3.n (.slice y3.B y3.k y3.l) ∧ Below w.heap.size w (V.setCell ⟨w.heap.size + 1 + 1 + 1, i, none⟩ v)) := by
    rintro V cs i v ⟨h1, h2, h3, h4, h5, h6⟩
    exact ⟨h1.set i v, h2.put h1 (by decide) _ _, h3.put h1 (by decide) _ _, h4.put h1 (by decide) _ _, h5.put h1 (by decide) _ _, h6.setCell (by dsimp only; omega) _⟩
  have HPP := Lib.hid HP
  clear bset HP
  go_wp2_with fail
  have h12 := HPP.out _ _ 11 (.slice y3.B y3.k y3.l) (HPP.out _ _ 10 (.int .i64 y3.n) (HPP.out _ _ 9 (.slice y3.A y3.i y3.j) (HPP.out _ _ 8 (.slice y2.B y2.k y2.l) (HPP.out _ _ 7 (.int .i64 y2.n) (HPP.out _ _ 6 (.slice y2.A y2.i y2.j) (HPP.out _ _ 5 (.slice B1 m1 e1) (HPP.out _ _ 4 (.int .i64 o1) (HPP.out _ _ 3 (.slice A1 n1 c1)
    (HPP.out _ _ 2 (.slice B0 m0 e0) (HPP.out _ _ 1 (.int .i64 o0) (HPP.out _ _ 0 (.slice A0 n0 c0) ⟨HX.out.1, HX.out.2.2.1, HX.out.2.2.2.1, HX.out.2.2.2.2.1, HX.out.2.2.2.2.2, HX.out.2.1⟩)))))))))))
  have H12 := Lib.hid h12
  clear h12
  refine bodyPost_ret (v := .agg #[.slice A0 n0 c0, .int .i64 o0, .slice B0 m0 e0, .slice A1 n1 c1, .int .i64 o1, .slice B1 m1 e1, .slice y2.A y2.i y2.j, .int .i64 y2.n, .slice y2.B y2.k y2.l, .slice y3.A y3.i y3.j, .int .i64 y3.n, .slice y3.B y3.k y3.l]) (by simp [results, Try.results11, go_sem, *]) rfl
    ⟨_, _, _, _, _, _, _, _, _, _, _, _, rfl, H12.out.2.1.grid, H12.out.2.2.1.grid, H12.out.2.2.2.1.grid, H12.out.2.2.2.2.1.grid, H12.out.2.2.2.2.2⟩
end Go.Proofs.Ytkkohelbidmkdaa
