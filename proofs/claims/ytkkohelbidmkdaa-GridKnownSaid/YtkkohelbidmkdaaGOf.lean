/-
  The law's Bend.of: a changed grid has lists of its own, none long.
-/
import Derived.Test.YtkkohelbidmkdaaGCopied
namespace Go.Proofs.Ytkkohelbidmkdaa
set_option linter.unusedVariables false
set_option linter.unusedSimpArgs false
open Go Go.RowKit

theorem Own.cut {w : World} {base : Nat} {A : Option Addr} {n k : Nat} {xs : List Int} (h : Own w base (.slice A n k) xs) {m : Nat} (hm : m ≤ n) : Own w base (.slice A m k) (xs.take m) := by
  obtain ⟨A', c', hv, hc1, hc2, hA, _⟩ := h.cs
  injection hv with e1 e2 e3
  subst e1 e2 e3
  have hl : (xs.take m).length = m := by rw [List.length_take]; omega
  unfold Own
  rw [hl]
  refine ⟨by simp; omega, ?_⟩
  rcases h.2 with ⟨hv, h2⟩ | ⟨g, cap, cur, hv, hg, hh, hn, hc, hsz, htk⟩
  · injection hv with e1 e2 e3
    subst e1 e3
    exact .inl ⟨by rw [show m = 0 by omega], by omega⟩
  · injection hv with e1 e2 e3
    subst e1 e3
    refine .inr ⟨g, k, cur, rfl, hg, hh, by omega, hc, hsz, ?_⟩
    rw [Nat.mul_one] at htk ⊢
    rw [List.map_take, ← htk, List.take_take, Nat.min_eq_left hm]

/-- The grid while it is changed. -/
structure OfI (w0 : World) (b2 b3 b4 : Nat) (bc : List Value) (A : Option Addr) (c ns : Nat) (B : Option Addr) (e nd : Nat) (o : Int) (s d : List Int) (W : World) : Prop where
  bend : Blk W b2 bc 30
  g : Blk W b3 [.slice A ns c, .int .i64 o, .slice B nd e] 24
  res : Blk W b4 [.slice none 0 0, .int .i64 0, .slice none 0 0] 24
  o1 : Own W w0.heap.size (.slice A ns c) s
  o2 : Own W w0.heap.size (.slice B nd e) d
  apart : ∀ g, (Value.slice A ns c).ownBlock = some g → (Value.slice B nd e).ownBlock ≠ some g
  below : Below w0.heap.size w0 W

theorem OfI.kept {w0 : World} {b2 b3 b4 : Nat} {bc : List Value} {A : Option Addr} {c ns : Nat} {B : Option Addr} {e nd : Nat} {o : Int} {s d : List Int} {W W' : World} (h : OfI w0 b2 b3 b4 bc A c ns B e nd o s d W) (hb : Below W.heap.size W W') : OfI w0 b2 b3 b4 bc A c ns B e nd o s d W' :=
  ⟨h.bend.kept hb, h.g.kept hb, h.res.kept hb, h.o1.kept hb, h.o2.kept hb, h.apart, below_trans h.below hb⟩

theorem OfI.put {w0 : World} {b2 b3 b4 : Nat} {bc : List Value} {A : Option Addr} {c ns : Nat} {B : Option Addr} {e nd : Nat} {o : Int} {s d : List Int} {W : World} (h : OfI w0 b2 b3 b4 bc A c ns B e nd o s d W) (hb : w0.heap.size ≤ b4) (x y z : Value) :
    Own (((W.setCell ⟨b4, 0, none⟩ x).setCell ⟨b4, 1, none⟩ y).setCell ⟨b4, 2, none⟩ z) w0.heap.size (.slice A ns c) s ∧ Own (((W.setCell ⟨b4, 0, none⟩ x).setCell ⟨b4, 1, none⟩ y).setCell ⟨b4, 2, none⟩ z) w0.heap.size (.slice B nd e) d ∧
      Below w0.heap.size w0 (((W.setCell ⟨b4, 0, none⟩ x).setCell ⟨b4, 1, none⟩ y).setCell ⟨b4, 2, none⟩ z) :=
  ⟨h.o1.other3 (fun _ hg => h.o1.ne_blk hg h.res (by decide)) _ _ _, h.o2.other3 (fun _ hg => h.o2.ne_blk hg h.res (by decide)) _ _ _,
    ((h.below.setCell (p := ⟨b4, 0, none⟩) hb _).setCell (p := ⟨b4, 1, none⟩) hb _).setCell (p := ⟨b4, 2, none⟩) hb _⟩

theorem Own.length {w : World} {base : Nat} {A : Option Addr} {n k : Nat} {xs : List Int} (h : Own w base (.slice A n k) xs) : xs.length = n ∧ n ≤ k ∧ k ≤ 9223372036854775807 ∧ (A = none → k = 0) ∧ Cs w .i64 A xs := by
  obtain ⟨A', c', hv, hc1, hc2, hA, hcs⟩ := h.cs
  injection hv with e1 e2 e3
  subst e1 e2 e3
  simp only [maxLen] at hc2
  exact ⟨rfl, hc1, by omega, hA, hcs⟩

set_option maxHeartbeats 3200000 in
theorem of_calls (A B : Option Addr) (c e : Nat) (s d : List Int) (o : Int) (x n : Int) (w : World) (hs : Cs w .i64 A s) (hd : Cs w .i64 B d)
    (ls : s.length ≤ c) (lc : c ≤ 9223372036854775807) (hA : A = none → c = 0) (ld : d.length ≤ e) (le : e ≤ 9223372036854775807) (hB : B = none → e = 0)
    (hx0 : 0 ≤ x) (hx1 : x ≤ 255) (an : Nat) (ha1 : an ≤ 255) :
    Calls Try.prog 32 #[.agg #[.int .u8 x, .int .u8 an, .int .i64 n], .agg #[.slice A s.length c, .int .i64 o, .slice B d.length e]] w fun r w' => ∃ v1 v2 s' d' o', r = .returned (.agg #[v1, .int .i64 o', v2]) ∧
      Own w' w.heap.size v1 s' ∧ Own w' w.heap.size v2 d' ∧ s'.length ≤ 16 ∧ d'.length ≤ 70000 ∧ Below w.heap.size w w' := by
  have HS := Lib.hid hs
  have HD := Lib.hid hd
  clear hs hd
  go_enter Try.func32, Try.ntmps32
  go_wp2_with fail
  refine calls_named ?_
  intro w1 hw1
  have b2 : Blk w1 w.heap.size [.int .u8 x, .int .u8 an, .int .i64 n] 30 := by rw [hw1]; exact ((Blk.new _ _ _).alloc _).alloc _
  have b3 : Blk w1 (w.heap.size + 1) [.slice A s.length c, .int .i64 o, .slice B d.length e] 24 := by rw [hw1]; exact (Blk.at (by simp)).alloc _
  have b4 : Blk w1 (w.heap.size + 1 + 1) [.slice none 0 0, .int .i64 0, .slice none 0 0] 24 := by rw [hw1]; exact Blk.at (by simp)
  have hb1 : Below w.heap.size w w1 := by rw [hw1]; repeat (first | exact below_alloc _ | refine below_trans ?_ (below_alloc _))
  clear hw1
  refine (copied_calls A B c e s d o w1 (HS.out.kept hb1) (HD.out.kept hb1) ls lc hA ld le hB).mono ?_
  rintro r w2 ⟨v1, v2, rfl, o1, o2, hap, hb2⟩
  obtain ⟨A1, k1, rfl, _, _, _, _⟩ := o1.cs
  obtain ⟨A2, k2, rfl, _, _, _, _⟩ := o2.cs
  have l1 : (s.take 8).length ≤ 8 := by rw [List.length_take]; omega
  have l2 : (d.take 5000).length ≤ 5000 := by rw [List.length_take]; omega
  obtain ⟨s1, hs1⟩ : ∃ l, s.take 8 = l := ⟨_, rfl⟩
  obtain ⟨d1, hd1⟩ : ∃ l, d.take 5000 = l := ⟨_, rfl⟩
  rw [hs1] at o1 hap l1 ⊢
  rw [hd1] at o2 hap l2 ⊢
  clear hs1 hd1 HS HD
  replace b2 := b2.kept hb2
  replace b3 := b3.kept hb2
  replace b4 := b4.kept hb2
  have hb12 := below_trans hb1 hb2
  have c30 := b3.cell (i := 0) rfl
  have c31 := b3.cell (i := 1) rfl
  have c32 := b3.cell (i := 2) rfl
  have f30 := b3.free 0
  have f31 := b3.free 1
  have f32 := b3.free 2
  have HI := Lib.hid (show ∀ W, W = (((w2.setCell ⟨w.heap.size + 1, 0, none⟩ (.slice A1 s1.length k1)).setCell ⟨w.heap.size + 1, 1, none⟩ (.int .i64 o)).setCell ⟨w.heap.size + 1, 2, none⟩ (.slice A2 d1.length k2)) →
      OfI w w.heap.size (w.heap.size + 1) (w.heap.size + 1 + 1) [.int .u8 x, .int .u8 an, .int .i64 n] A1 k1 s1.length A2 k2 d1.length o s1 d1 W from by
    rintro W rfl
    exact ⟨b2.other3 (by omega) _ _ _, b3.set3 _ _ _, b4.other3 (by omega) _ _ _, (o1.other3 (fun g hg => o1.ne_blk hg b3 (by decide)) _ _ _).lower hb1.size, (o2.other3 (fun g hg => o2.ne_blk hg b3 (by decide)) _ _ _).lower hb1.size, hap,
      ((hb12.setCell (p := ⟨w.heap.size + 1, 0, none⟩) (by dsimp only; omega) _).setCell (p := ⟨w.heap.size + 1, 1, none⟩) (by dsimp only; omega) _).setCell (p := ⟨w.heap.size + 1, 2, none⟩) (by dsimp only; omega) _⟩)
  clear b2 b3 b4 hb1 hb2 hb12 o1 o2 hap
  go_upto_region 2 with fail
  refine wp_named ?_
  intro w3 hw3
  have HJ := Lib.hid (HI.out w3 hw3)
  clear HI hw3 c30 c31 c32 f30 f31 f32
  have e0 := HJ.out.bend.cell (i := 0) rfl
  have e1 := HJ.out.bend.cell (i := 1) rfl
  have e2 := HJ.out.bend.cell (i := 2) rfl
  have hcase : x % 8 = 0 ∨ x % 8 = 1 ∨ x % 8 = 2 ∨ x % 8 = 3 ∨ x % 8 = 4 ∨ x % 8 = 5 ∨ x % 8 = 6 ∨ x % 8 = 7 := by omega
  rcases hcase with hk | hk | hk | hk | hk | hk | hk | hk
  · have c31 := HJ.out.g.cell (i := 1) rfl
    have f31 := HJ.out.g.free 1
    go_upto_region 24 with fail
    refine wp_named ?_
    intro wz hz
    have HZ := Lib.hid (show OfI w w.heap.size (w.heap.size + 1) (w.heap.size + 1 + 1) [.int .u8 x, .int .u8 an, .int .i64 n] A1 k1 s1.length A2 k2 d1.length n s1 d1 wz from by
      obtain ⟨q0, q1, q2, q3, q4, q5, q6⟩ := HJ.out
      rw [hz]
      exact ⟨q0.other (by dsimp only; omega) _, q1.set 1 _, q2.other (by dsimp only; omega) _, q3.other (fun g hg => q3.ne_blk hg q1 (by decide)) _, q4.other (fun g hg => q4.ne_blk hg q1 (by decide)) _, q5, q6.setCell (by dsimp only; omega) _⟩)
    clear hz c31 f31 HJ e0 e1 e2
    have k0 := HZ.out.g.cell (i := 0) rfl
    have k1' := HZ.out.g.cell (i := 1) rfl
    have k2' := HZ.out.g.cell (i := 2) rfl
    have r0 := HZ.out.res.cell (i := 0) rfl
    have r1 := HZ.out.res.cell (i := 1) rfl
    have r2 := HZ.out.res.cell (i := 2) rfl
    have f0 := HZ.out.res.free 0
    have f1 := HZ.out.res.free 1
    have f2 := HZ.out.res.free 2
    go_wp2_with fail
    refine bodyPost_ret (v := .agg #[.slice A1 s1.length k1, .int .i64 n, .slice A2 d1.length k2]) (by simp [results, Try.results32, go_sem, *]) rfl ⟨_, _, s1, d1, n, rfl, (HZ.out.put (by omega) _ _ _).1, (HZ.out.put (by omega) _ _ _).2.1, (by omega), (by omega), (HZ.out.put (by omega) _ _ _).2.2⟩
  · have c3 := HJ.out.g.cell (i := 0) rfl
    by_cases hl0 : 0 < s1.length
    · have hjl : an % s1.length < s1.length := Nat.mod_lt _ hl0
      have htm : Int.tmod (an : Int) (s1.length : Int) = ((an % s1.length : Nat) : Int) := by rw [Int.tmod_eq_emod_of_nonneg (by omega)]; simp
      obtain ⟨jj, hjj⟩ : ∃ q, an % s1.length = q := ⟨_, rfl⟩
      rw [hjj] at hjl htm
      clear hjj
      obtain ⟨ga, hga⟩ : ∃ g, A1 = some ⟨g, 0, none⟩ := by
        rcases HJ.out.o1.2 with ⟨h, h2⟩ | ⟨g, _, _, h, _⟩
        · omega
        · injection h with h; exact ⟨g, h⟩
      subst hga
      have hz0 : ¬ s1.length = 0 := by omega
      obtain ⟨y, hy⟩ : ∃ y, s1[jj]? = some y := ⟨_, List.getElem?_eq_getElem hjl⟩
      obtain ⟨p1, q1⟩ := HJ.out.o1.cell hy
      clear hy
      go_upto_region 9 with fail
      refine wp_seq_tail 8 (fun _ => false) (fun _ _ => undef) (fun _ _ _ => True) (by kernel_rfl) (by kernel_rfl) (by decide) (fun _ _ _ _ _ _ => trivial) ?_
      repeat (first | (refine seq_skip (by rfl) ?_; simp only [Act.put, List.setIfInBounds_toArray, List.set_cons_zero, List.set_cons_succ, Nat.reduceAdd]) | (refine seq_pure (v := ?_) (by rfl) (by rfl) (fun W hW hC => ?_) ?_; rotate_left; (go_simp <;> with_reducible rfl); simp only [Act.put, List.setIfInBounds_toArray, List.set_cons_zero, List.set_cons_succ, Nat.reduceAdd]))
      refine seq_nil ?_; intro W hW hF
      clear hF
      replace q1 := keptF hW p1 q1
      replace p1 := Ytkkohelbidmkdaa.kept hW p1
      have HW := Lib.hid (HJ.out.kept hW)
      clear hW c3 e0 e1 e2
      go_upto_region 24 with fail
      refine wp_named ?_
      intro wz hz
      have HZ := Lib.hid (show OfI w w.heap.size (w.heap.size + 1) (w.heap.size + 1 + 1) [.int .u8 x, .int .u8 an, .int .i64 n] (some ⟨ga, 0, none⟩) k1 s1.length A2 k2 d1.length o (s1.set jj n) d1 wz from by
        obtain ⟨q0, q1, q2, q3, q4, q5, q6⟩ := HW.out
        have hgb := q3.block_ge ga rfl
        have hg3 := q3.ne_blk (g := ga) rfl q1 (by decide)
        have hg4 := q3.ne_blk (g := ga) rfl q2 (by decide)
        have hg2 := q3.ne_blk (g := ga) rfl q0 (by decide)
        rw [hz]
        exact ⟨q0.other (fun h => hg2 h.symm) _, q1.other (fun h => hg3 h.symm) _, q2.other (fun h => hg4 h.symm) _, q3.put hjl n, q4.other (fun g hg => fun h => q5 ga rfl (by rw [hg, h])) _, q5, q6.setCell (by dsimp only; omega) _⟩)
      clear hz p1 q1 HW HJ
      have k0 := HZ.out.g.cell (i := 0) rfl
      have k1' := HZ.out.g.cell (i := 1) rfl
      have k2' := HZ.out.g.cell (i := 2) rfl
      have r0 := HZ.out.res.cell (i := 0) rfl
      have r1 := HZ.out.res.cell (i := 1) rfl
      have r2 := HZ.out.res.cell (i := 2) rfl
      have f0 := HZ.out.res.free 0
      have f1 := HZ.out.res.free 1
      have f2 := HZ.out.res.free 2
      go_wp2_with fail
      refine bodyPost_ret (v := .agg #[.slice (some ⟨ga, 0, none⟩) s1.length k1, .int .i64 o, .slice A2 d1.length k2]) (by simp [results, Try.results32, go_sem, *]) rfl ⟨_, _, (s1.set jj n), d1, o, rfl, (HZ.out.put (by omega) _ _ _).1, (HZ.out.put (by omega) _ _ _).2.1, (by simp; omega), (by omega), (HZ.out.put (by omega) _ _ _).2.2⟩
    · go_upto_region 24 with fail
      refine wp_named ?_
      intro wz hz
      have HZ := Lib.hid (show OfI w w.heap.size (w.heap.size + 1) (w.heap.size + 1 + 1) [.int .u8 x, .int .u8 an, .int .i64 n] A1 k1 s1.length A2 k2 d1.length o s1 d1 wz from by rw [hz]; exact HJ.out)
      clear hz c3 HJ e0 e1 e2
      have k0 := HZ.out.g.cell (i := 0) rfl
      have k1' := HZ.out.g.cell (i := 1) rfl
      have k2' := HZ.out.g.cell (i := 2) rfl
      have r0 := HZ.out.res.cell (i := 0) rfl
      have r1 := HZ.out.res.cell (i := 1) rfl
      have r2 := HZ.out.res.cell (i := 2) rfl
      have f0 := HZ.out.res.free 0
      have f1 := HZ.out.res.free 1
      have f2 := HZ.out.res.free 2
      go_wp2_with fail
      refine bodyPost_ret (v := .agg #[.slice A1 s1.length k1, .int .i64 o, .slice A2 d1.length k2]) (by simp [results, Try.results32, go_sem, *]) rfl ⟨_, _, s1, d1, o, rfl, (HZ.out.put (by omega) _ _ _).1, (HZ.out.put (by omega) _ _ _).2.1, (by omega), (by omega), (HZ.out.put (by omega) _ _ _).2.2⟩
  · have c3 := HJ.out.g.cell (i := 2) rfl
    by_cases hl0 : 0 < d1.length
    · have hjl : an % d1.length < d1.length := Nat.mod_lt _ hl0
      have htm : Int.tmod (an : Int) (d1.length : Int) = ((an % d1.length : Nat) : Int) := by rw [Int.tmod_eq_emod_of_nonneg (by omega)]; simp
      obtain ⟨jj, hjj⟩ : ∃ q, an % d1.length = q := ⟨_, rfl⟩
      rw [hjj] at hjl htm
      clear hjj
      obtain ⟨ga, hga⟩ : ∃ g, A2 = some ⟨g, 0, none⟩ := by
        rcases HJ.out.o2.2 with ⟨h, h2⟩ | ⟨g, _, _, h, _⟩
        · omega
        · injection h with h; exact ⟨g, h⟩
      subst hga
      have hz0 : ¬ d1.length = 0 := by omega
      obtain ⟨y, hy⟩ : ∃ y, d1[jj]? = some y := ⟨_, List.getElem?_eq_getElem hjl⟩
      obtain ⟨p1, q1⟩ := HJ.out.o2.cell hy
      clear hy
      go_upto_region 13 with fail
      refine wp_seq_tail 8 (fun _ => false) (fun _ _ => undef) (fun _ _ _ => True) (by kernel_rfl) (by kernel_rfl) (by decide) (fun _ _ _ _ _ _ => trivial) ?_
      repeat (first | (refine seq_skip (by rfl) ?_; simp only [Act.put, List.setIfInBounds_toArray, List.set_cons_zero, List.set_cons_succ, Nat.reduceAdd]) | (refine seq_pure (v := ?_) (by rfl) (by rfl) (fun W hW hC => ?_) ?_; rotate_left; (go_simp <;> with_reducible rfl); simp only [Act.put, List.setIfInBounds_toArray, List.set_cons_zero, List.set_cons_succ, Nat.reduceAdd]))
      refine seq_nil ?_; intro W hW hF
      clear hF
      replace q1 := keptF hW p1 q1
      replace p1 := Ytkkohelbidmkdaa.kept hW p1
      have HW := Lib.hid (HJ.out.kept hW)
      clear hW c3 e0 e1 e2
      go_upto_region 24 with fail
      refine wp_named ?_
      intro wz hz
      have HZ := Lib.hid (show OfI w w.heap.size (w.heap.size + 1) (w.heap.size + 1 + 1) [.int .u8 x, .int .u8 an, .int .i64 n] A1 k1 s1.length (some ⟨ga, 0, none⟩) k2 d1.length o s1 (d1.set jj n) wz from by
        obtain ⟨q0, q1, q2, q3, q4, q5, q6⟩ := HW.out
        have hgb := q4.block_ge ga rfl
        have hg3 := q4.ne_blk (g := ga) rfl q1 (by decide)
        have hg4 := q4.ne_blk (g := ga) rfl q2 (by decide)
        have hg2 := q4.ne_blk (g := ga) rfl q0 (by decide)
        rw [hz]
        exact ⟨q0.other (fun h => hg2 h.symm) _, q1.other (fun h => hg3 h.symm) _, q2.other (fun h => hg4 h.symm) _, q3.other (fun g hg => fun h => q5 g hg (by rw [h]; rfl)) _, q4.put hjl n, q5, q6.setCell (by dsimp only; omega) _⟩)
      clear hz p1 q1 HW HJ
      have k0 := HZ.out.g.cell (i := 0) rfl
      have k1' := HZ.out.g.cell (i := 1) rfl
      have k2' := HZ.out.g.cell (i := 2) rfl
      have r0 := HZ.out.res.cell (i := 0) rfl
      have r1 := HZ.out.res.cell (i := 1) rfl
      have r2 := HZ.out.res.cell (i := 2) rfl
      have f0 := HZ.out.res.free 0
      have f1 := HZ.out.res.free 1
      have f2 := HZ.out.res.free 2
      go_wp2_with fail
      refine bodyPost_ret (v := .agg #[.slice A1 s1.length k1, .int .i64 o, .slice (some ⟨ga, 0, none⟩) d1.length k2]) (by simp [results, Try.results32, go_sem, *]) rfl ⟨_, _, s1, (d1.set jj n), o, rfl, (HZ.out.put (by omega) _ _ _).1, (HZ.out.put (by omega) _ _ _).2.1, (by omega), (by simp; omega), (HZ.out.put (by omega) _ _ _).2.2⟩
    · go_upto_region 24 with fail
      refine wp_named ?_
      intro wz hz
      have HZ := Lib.hid (show OfI w w.heap.size (w.heap.size + 1) (w.heap.size + 1 + 1) [.int .u8 x, .int .u8 an, .int .i64 n] A1 k1 s1.length A2 k2 d1.length o s1 d1 wz from by rw [hz]; exact HJ.out)
      clear hz c3 HJ e0 e1 e2
      have k0 := HZ.out.g.cell (i := 0) rfl
      have k1' := HZ.out.g.cell (i := 1) rfl
      have k2' := HZ.out.g.cell (i := 2) rfl
      have r0 := HZ.out.res.cell (i := 0) rfl
      have r1 := HZ.out.res.cell (i := 1) rfl
      have r2 := HZ.out.res.cell (i := 2) rfl
      have f0 := HZ.out.res.free 0
      have f1 := HZ.out.res.free 1
      have f2 := HZ.out.res.free 2
      go_wp2_with fail
      refine bodyPost_ret (v := .agg #[.slice A1 s1.length k1, .int .i64 o, .slice A2 d1.length k2]) (by simp [results, Try.results32, go_sem, *]) rfl ⟨_, _, s1, d1, o, rfl, (HZ.out.put (by omega) _ _ _).1, (HZ.out.put (by omega) _ _ _).2.1, (by omega), (by omega), (HZ.out.put (by omega) _ _ _).2.2⟩
  · have c3 := HJ.out.g.cell (i := 0) rfl
    have f3 := HJ.out.g.free 0
    obtain ⟨m, hm⟩ : ∃ m, min s1.length (an % 2) = m := ⟨_, rfl⟩
    have hmi : (if (an : Int) % 2 < (s1.length : Int) then (an : Int) % 2 else (s1.length : Int)) = (m : Int) := by omega
    have hms : m ≤ s1.length := by omega
    have hlk := HJ.out.o1.length.2.1
    have hmk : m ≤ k1 := by omega
    clear hm
    go_upto_region 24 with fail
    refine wp_named ?_
    intro wz hz
    have HZ := Lib.hid (show OfI w w.heap.size (w.heap.size + 1) (w.heap.size + 1 + 1) [.int .u8 x, .int .u8 an, .int .i64 n] A1 k1 m A2 k2 d1.length o (s1.take m) d1 wz from by
      obtain ⟨q0, q1, q2, q3, q4, q5, q6⟩ := HJ.out
      rw [hz]
      exact ⟨q0.other (by dsimp only; omega) _, q1.set 0 _, q2.other (by dsimp only; omega) _, (q3.cut hms).other (fun g hg => (q3.cut hms).ne_blk hg q1 (by decide)) _, q4.other (fun g hg => q4.ne_blk hg q1 (by decide)) _, (fun g hg => q5 g (by cases A1 <;> exact hg)), q6.setCell (by dsimp only; omega) _⟩)
    clear hz c3 f3 hmi HJ e0 e1 e2
    have k0 := HZ.out.g.cell (i := 0) rfl
    have k1' := HZ.out.g.cell (i := 1) rfl
    have k2' := HZ.out.g.cell (i := 2) rfl
    have r0 := HZ.out.res.cell (i := 0) rfl
    have r1 := HZ.out.res.cell (i := 1) rfl
    have r2 := HZ.out.res.cell (i := 2) rfl
    have f0 := HZ.out.res.free 0
    have f1 := HZ.out.res.free 1
    have f2 := HZ.out.res.free 2
    go_wp2_with fail
    refine bodyPost_ret (v := .agg #[.slice A1 m k1, .int .i64 o, .slice A2 d1.length k2]) (by simp [results, Try.results32, go_sem, *]) rfl ⟨_, _, (s1.take m), d1, o, rfl, (HZ.out.put (by omega) _ _ _).1, (HZ.out.put (by omega) _ _ _).2.1, (by rw [List.length_take]; omega), (by omega), (HZ.out.put (by omega) _ _ _).2.2⟩
  · have c3 := HJ.out.g.cell (i := 0) rfl
    have hlt3 := HJ.out.g.lt
    have hlt2 := HJ.out.bend.lt
    have HA := Lib.hid (And.intro (HJ.out.o1.kept (below_alloc (.cells #[.int .i64 2] 3))) (one_cs w3 2))
    have hpush : ∀ v' w4, Own w4 w.heap.size v' (s1 ++ [2]) → (w3.alloc (.cells #[.int .i64 2] 3)).grownBy w4 (Value.slice A1 s1.length k1).ownBlock →
        (∀ g, v'.ownBlock = some g → (Value.slice A1 s1.length k1).ownBlock = some g ∨ (w3.alloc (.cells #[.int .i64 2] 3)).heap.size ≤ g) →
        ∃ A' k', v' = .slice A' (s1.length + 1) k' ∧ w4.cell? ⟨w.heap.size + 1, 0, none⟩ = some (.slice A1 s1.length k1) ∧ w4.frozen? ⟨w.heap.size + 1, 0, none⟩ = false ∧
          ∀ W, W = w4.setCell ⟨w.heap.size + 1, 0, none⟩ (.slice A' (s1.length + 1) k') → OfI w w.heap.size (w.heap.size + 1) (w.heap.size + 1 + 1) [.int .u8 x, .int .u8 an, .int .i64 n] A' k' (s1.length + 1) A2 k2 d1.length o (s1 ++ [2]) d1 W := by
      intro v' w4 how hgr hfr
      obtain ⟨q0, q1, q2, q3, q4, q5, q6⟩ := HJ.out
      have g0 := Blk.grown HA.out.1 hgr (q0.alloc _) (by decide)
      have g1 := Blk.grown HA.out.1 hgr (q1.alloc _) (by decide)
      have g2 := Blk.grown HA.out.1 hgr (q2.alloc _) (by decide)
      have hb4 := HA.out.1.below hgr (Nat.le_refl _) (below_trans q6 (below_alloc _))
      have hoo := (q4.kept (below_alloc (.cells #[.int .i64 2] 3))).grown hgr (fun g hg he => q5 g he hg)
      obtain ⟨A', k', hv', _, _, _, _⟩ := how.cs
      rw [List.length_append, List.length_singleton] at hv'
      subst hv'
      refine ⟨A', k', rfl, g1.cell (i := 0) rfl, g1.free 0, ?_⟩
      rintro W rfl
      have hown := how.other (fun g hg => how.ne_blk hg g1 (by decide)) (a := ⟨w.heap.size + 1, 0, none⟩) (.slice A' (s1.length + 1) k')
      have hoth := hoo.other (fun g hg => hoo.ne_blk hg g1 (by decide)) (a := ⟨w.heap.size + 1, 0, none⟩) (.slice A' (s1.length + 1) k')
      refine ⟨g0.other (by dsimp only; omega) _, g1.set 0 _, g2.other (by dsimp only; omega) _, hown, hoth, ?_, hb4.setCell (by dsimp only; omega) _⟩
      intro g hg he
      rcases hfr g hg with h | h
      · exact q5 g h he
      · have := (q4.block_ge g he).2
        simp only [World.size_alloc] at h
        omega
    have HPU := Lib.hid hpush
    have HSZ := Lib.hid HJ.out.below.size
    clear hpush
    go_upto_region 24 with (at_builtin; go_loud (refine append_ints2 rfl _ _ rfl w.heap.size (.slice A1 s1.length k1) s1 rfl HA.out.1 (some ⟨w3.heap.size, 0, none⟩) 1 [2] rfl HA.out.2 (fun h => by cases h) (by simp only [List.length_singleton]; omega) (by have := HSZ.out; simp only [World.size_alloc]; omega) ?_); intro v' w4 how hgr hfr; obtain ⟨A', k', rfl, k2', kf', hI⟩ := HPU.out v' w4 how hgr hfr; have HI2 := Lib.hid hI; clear how hgr hfr hI c3)
    refine wp_named ?_
    intro wz hz
    have HZ := Lib.hid (HI2.out wz hz)
    clear HI2 k2' kf' hz HPU HA HJ e0 e1 e2
    have k0 := HZ.out.g.cell (i := 0) rfl
    have k1' := HZ.out.g.cell (i := 1) rfl
    have k2' := HZ.out.g.cell (i := 2) rfl
    have r0 := HZ.out.res.cell (i := 0) rfl
    have r1 := HZ.out.res.cell (i := 1) rfl
    have r2 := HZ.out.res.cell (i := 2) rfl
    have f0 := HZ.out.res.free 0
    have f1 := HZ.out.res.free 1
    have f2 := HZ.out.res.free 2
    go_wp2_with fail
    refine bodyPost_ret (v := .agg #[.slice A' (s1.length + 1) k', .int .i64 o, .slice A2 d1.length k2]) (by simp [results, Try.results32, go_sem, *]) rfl ⟨_, _, (s1 ++ [2]), d1, o, rfl, (HZ.out.put (by omega) _ _ _).1, (HZ.out.put (by omega) _ _ _).2.1, (by simp; omega), (by omega), (HZ.out.put (by omega) _ _ _).2.2⟩
  · have c3 := HJ.out.g.cell (i := 2) rfl
    have hlt3 := HJ.out.g.lt
    have hlt2 := HJ.out.bend.lt
    have HA := Lib.hid (And.intro (HJ.out.o2.kept (below_alloc (.cells #[.int .i64 n] 3))) (one_cs w3 n))
    have hpush : ∀ v' w4, Own w4 w.heap.size v' (d1 ++ [n]) → (w3.alloc (.cells #[.int .i64 n] 3)).grownBy w4 (Value.slice A2 d1.length k2).ownBlock →
        (∀ g, v'.ownBlock = some g → (Value.slice A2 d1.length k2).ownBlock = some g ∨ (w3.alloc (.cells #[.int .i64 n] 3)).heap.size ≤ g) →
        ∃ A' k', v' = .slice A' (d1.length + 1) k' ∧ w4.cell? ⟨w.heap.size + 1, 2, none⟩ = some (.slice A2 d1.length k2) ∧ w4.frozen? ⟨w.heap.size + 1, 2, none⟩ = false ∧
          ∀ W, W = w4.setCell ⟨w.heap.size + 1, 2, none⟩ (.slice A' (d1.length + 1) k') → OfI w w.heap.size (w.heap.size + 1) (w.heap.size + 1 + 1) [.int .u8 x, .int .u8 an, .int .i64 n] A1 k1 s1.length A' k' (d1.length + 1) o s1 (d1 ++ [n]) W := by
      intro v' w4 how hgr hfr
      obtain ⟨q0, q1, q2, q3, q4, q5, q6⟩ := HJ.out
      have g0 := Blk.grown HA.out.1 hgr (q0.alloc _) (by decide)
      have g1 := Blk.grown HA.out.1 hgr (q1.alloc _) (by decide)
      have g2 := Blk.grown HA.out.1 hgr (q2.alloc _) (by decide)
      have hb4 := HA.out.1.below hgr (Nat.le_refl _) (below_trans q6 (below_alloc _))
      have hoo := (q3.kept (below_alloc (.cells #[.int .i64 n] 3))).grown hgr (fun g hg he => q5 g hg he)
      obtain ⟨A', k', hv', _, _, _, _⟩ := how.cs
      rw [List.length_append, List.length_singleton] at hv'
      subst hv'
      refine ⟨A', k', rfl, g1.cell (i := 2) rfl, g1.free 2, ?_⟩
      rintro W rfl
      have hown := how.other (fun g hg => how.ne_blk hg g1 (by decide)) (a := ⟨w.heap.size + 1, 2, none⟩) (.slice A' (d1.length + 1) k')
      have hoth := hoo.other (fun g hg => hoo.ne_blk hg g1 (by decide)) (a := ⟨w.heap.size + 1, 2, none⟩) (.slice A' (d1.length + 1) k')
      refine ⟨g0.other (by dsimp only; omega) _, g1.set 2 _, g2.other (by dsimp only; omega) _, hoth, hown, ?_, hb4.setCell (by dsimp only; omega) _⟩
      intro g hg he
      rcases hfr g he with h | h
      · exact q5 g hg h
      · have := (q3.block_ge g hg).2
        simp only [World.size_alloc] at h
        omega
    have HPU := Lib.hid hpush
    have HSZ := Lib.hid HJ.out.below.size
    clear hpush
    go_upto_region 24 with (at_builtin; go_loud (refine append_ints2 rfl _ _ rfl w.heap.size (.slice A2 d1.length k2) d1 rfl HA.out.1 (some ⟨w3.heap.size, 0, none⟩) 1 [n] rfl HA.out.2 (fun h => by cases h) (by simp only [List.length_singleton]; omega) (by have := HSZ.out; simp only [World.size_alloc]; omega) ?_); intro v' w4 how hgr hfr; obtain ⟨A', k', rfl, k2', kf', hI⟩ := HPU.out v' w4 how hgr hfr; have HI2 := Lib.hid hI; clear how hgr hfr hI c3)
    refine wp_named ?_
    intro wz hz
    have HZ := Lib.hid (HI2.out wz hz)
    clear HI2 k2' kf' hz HPU HA HJ e0 e1 e2
    have k0 := HZ.out.g.cell (i := 0) rfl
    have k1' := HZ.out.g.cell (i := 1) rfl
    have k2' := HZ.out.g.cell (i := 2) rfl
    have r0 := HZ.out.res.cell (i := 0) rfl
    have r1 := HZ.out.res.cell (i := 1) rfl
    have r2 := HZ.out.res.cell (i := 2) rfl
    have f0 := HZ.out.res.free 0
    have f1 := HZ.out.res.free 1
    have f2 := HZ.out.res.free 2
    go_wp2_with fail
    refine bodyPost_ret (v := .agg #[.slice A1 s1.length k1, .int .i64 o, .slice A' (d1.length + 1) k']) (by simp [results, Try.results32, go_sem, *]) rfl ⟨_, _, s1, (d1 ++ [n]), o, rfl, (HZ.out.put (by omega) _ _ _).1, (HZ.out.put (by omega) _ _ _).2.1, (by omega), (by simp; omega), (HZ.out.put (by omega) _ _ _).2.2⟩
  · have hpp : (an : Int) % 2 = ((an % 2 : Nat) : Int) := by simp
    obtain ⟨p, hp⟩ : ∃ q, an % 2 = q := ⟨_, rfl⟩
    rw [hp] at hpp
    have hp1 : p ≤ 1 := by omega
    clear hp
    go_wp2_with fail
    clear e0 e1 e2 hk
    go_loopg [] 5 (fun gk wr => ∃ A c ns B e nd s d, OfI w w.heap.size (w.heap.size + 1) (w.heap.size + 1 + 1) [.int .u8 x, .int .u8 an, .int .i64 n] A c ns B e nd o s d wr ∧ 5 ≤ gk + ns ∧ ns ≤ 8 ∧ nd ≤ 5000 + 4096 * ns)
    case atStart => exact ⟨A1, k1, s1.length, A2, k2, d1.length, s1, d1, HJ.out, by omega, by omega, by omega⟩
    case round =>
      clear HJ
      obtain ⟨A1, k1, ns, A2, k2, nd, s1, d1, hI, hg5, hn8, hnd⟩ := hrel
      have c30 := hI.g.cell (i := 0) rfl
      have f30 := hI.g.free 0
      have hlt3 := hI.g.lt
      have HI := Lib.hid hI
      clear hI
      by_cases ht : ns < 4 + p
      · have htb : decide ((ns : Int) < 4 + (p : Int)) = true := decide_eq_true (by omega)
        obtain ⟨hl1, hk1, hm1, hz1, hcs1⟩ := HI.out.o1.length
        have how0 : Own (wr.alloc (.cells #[.int .i64 2] 3)) wr.heap.size (.slice (some ⟨wr.heap.size, 0, none⟩) 1 1) [2] :=
          ⟨rfl, .inr ⟨wr.heap.size, 1, #[.int .i64 2], rfl, Nat.le_refl _, heap_alloc_new wr _, Nat.le_refl _, by simp [maxLen], rfl, rfl⟩⟩
        have HA := Lib.hid (And.intro how0 (hcs1.kept (below_alloc (.cells #[.int .i64 2] 3))))
        have HL := Lib.hid hl1
        have hpush : ∀ v' w4, Own w4 wr.heap.size v' ([2] ++ s1) → (wr.alloc (.cells #[.int .i64 2] 3)).grownBy w4 (Value.slice (some ⟨wr.heap.size, 0, none⟩) 1 1).ownBlock →
            ∃ A' k', v' = .slice A' (ns + 1) k' ∧ w4.cell? ⟨w.heap.size + 1, 0, none⟩ = some (.slice A1 ns k1) ∧ w4.frozen? ⟨w.heap.size + 1, 0, none⟩ = false ∧
              ∀ W, W = w4.setCell ⟨w.heap.size + 1, 0, none⟩ (.slice A' (ns + 1) k') → OfI w w.heap.size (w.heap.size + 1) (w.heap.size + 1 + 1) [.int .u8 x, .int .u8 an, .int .i64 n] A' k' (ns + 1) A2 k2 nd o ([2] ++ s1) d1 W := by
          intro v' w4 how hgr
          obtain ⟨q0, q1, q2, q3, q4, q5, q6⟩ := HI.out
          have g0 := Blk.grown HA.out.1 hgr (q0.alloc _) (by decide)
          have g1 := Blk.grown HA.out.1 hgr (q1.alloc _) (by decide)
          have g2 := Blk.grown HA.out.1 hgr (q2.alloc _) (by decide)
          have hb4 := (HA.out.1.lower q6.size).below hgr (Nat.le_refl _) (below_trans q6 (below_alloc _))
          have hoo := (q4.kept (below_alloc (.cells #[.int .i64 2] 3))).grown hgr (fun g hg he => by
            have := (q4.block_ge g hg).2
            simp only [Value.ownBlock, Option.some.injEq] at he; omega)
          obtain ⟨A', k', hv', _, _, _, _⟩ := how.cs
          rw [List.length_append, HL.out, List.length_singleton, Nat.add_comm] at hv'
          subst hv'
          refine ⟨A', k', rfl, g1.cell (i := 0) rfl, g1.free 0, ?_⟩
          rintro W rfl
          exact ⟨g0.other (by dsimp only; omega) _, g1.set 0 _, g2.other (by dsimp only; omega) _, (how.other (fun g hg => how.ne_blk hg g1 (by decide)) _).lower q6.size, hoo.other (fun g hg => hoo.ne_blk hg g1 (by decide)) _,
            (fun g hg he => by have := (how.block_ge g hg).1; have := (q4.block_ge g he).2; omega), hb4.setCell (by dsimp only; omega) _⟩
        have HPU := Lib.hid hpush
        have HSZ := Lib.hid (And.intro hk1 hz1)
        clear hpush hl1 hk1 hm1 hz1 hcs1 how0
        go_upto_region 23 with (at_builtin; go_loud (refine append_ints2 rfl _ _ rfl wr.heap.size (.slice (some ⟨wr.heap.size, 0, none⟩) 1 1) [2] rfl HA.out.1 A1 k1 s1 (by rw [HL.out]; rfl) HA.out.2 HSZ.out.2 (by rw [HL.out]; simp only [List.length_singleton]; omega) (by simp) ?_); intro v' w4 how hgr hfr; obtain ⟨A', k', rfl, k2', kf', hI⟩ := HPU.out v' w4 how hgr; have HI2 := Lib.hid hI; clear how hgr hfr hI c30 f30)
        refine wp_named ?_
        intro w5 hw5
        have HI5 := Lib.hid (HI2.out w5 hw5)
        clear HI2 k2' kf' hw5 HPU HA HI hlt3 HL
        have c32 := HI5.out.g.cell (i := 2) rfl
        obtain ⟨hl2, hk2, hm2, hz2, hcs2⟩ := HI5.out.o2.length
        obtain ⟨md, hmd⟩ : ∃ m, min nd 4096 = m := ⟨_, rfl⟩
        have hmi : (if (4096 : Int) < (nd : Int) then (4096 : Int) else (nd : Int)) = (md : Int) := by omega
        have hmd1 : md ≤ k2 := by omega
        have hmd2 : md ≤ nd := by omega
        have hmd3 : md ≤ 4096 := by omega
        have HL := Lib.hid (And.intro hl2 (And.intro hz2 (And.intro hcs2 (show (d1.take md).length = md by rw [List.length_take]; omega))))
        clear hl2 hk2 hm2 hz2 hcs2 hmd
        refine wp_seq_tail 9 (fun _ => false) (fun _ _ => undef) (fun _ _ _ => True) (by kernel_rfl) (by kernel_rfl) (by decide) (fun _ _ _ _ _ _ => trivial) ?_
        repeat (first | (refine seq_skip (by rfl) ?_; simp only [Act.put, List.setIfInBounds_toArray, List.set_cons_zero, List.set_cons_succ, Nat.reduceAdd]) | (refine seq_pure (v := ?_) (by rfl) (by rfl) (fun W hW hC => ?_) ?_; rotate_left; (go_simp <;> with_reducible rfl); simp only [Act.put, List.setIfInBounds_toArray, List.set_cons_zero, List.set_cons_succ, Nat.reduceAdd]))
        refine seq_nil ?_; intro W hW hF
        clear hF
        have HI6 := Lib.hid (HI5.out.kept hW)
        have HC := Lib.hid ((HL.out.2.2.1.kept hW).head md)
        clear hW HI5 c32
        refine append_ints2 (by rfl) (.tmp 94) (.tmp 101) rfl w.heap.size (.slice A2 nd k2) d1 rfl HI6.out.o2 A2 k2 (d1.take md) (by rw [HL.out.2.2.2]; rfl) HC.out HL.out.2.1 (by rw [HL.out.1, HL.out.2.2.2]; omega) HI6.out.below.size ?_
        intro v' w7 how hgr hfr
        obtain ⟨q0, q1, q2, q3, q4, q5, q6⟩ := HI6.out
        have g0 := Blk.grown q4 hgr q0 (by decide)
        have g1 := Blk.grown q4 hgr q1 (by decide)
        have g2 := Blk.grown q4 hgr q2 (by decide)
        have hb4 := q4.below hgr (Nat.le_refl _) q6
        have hoo := q3.grown hgr (fun g hg he => q5 g hg he)
        have hap : ∀ g, (Value.slice A' (ns + 1) k').ownBlock = some g → v'.ownBlock ≠ some g := by
          intro g hg he
          rcases hfr g he with h | h
          · exact q5 g hg h
          · have := (q3.block_ge g hg).2; omega
        obtain ⟨A'', k'', hv', _, _, _, _⟩ := how.cs
        rw [List.length_append, HL.out.1, HL.out.2.2.2] at hv'
        subst hv'
        have c32 := g1.cell (i := 2) rfl
        have f32 := g1.free 2
        have HG := Lib.hid (And.intro g0 (And.intro g1 (And.intro g2 (And.intro how (And.intro hb4 (And.intro hoo hap))))))
        clear q0 q1 q2 q3 q4 q5 q6 g0 g1 g2 how hb4 hoo hap hgr hfr HI6 HC HL
        simp only [Act.put, List.setIfInBounds_toArray, List.set_cons_zero, List.set_cons_succ, Nat.reduceAdd]
        go_wp2
        go_roundg (gk - 1)
        case measure => omega
        case rel =>
          obtain ⟨g0, g1, g2, how, hb4, hoo, hap⟩ := HG.out
          exact ⟨A', k', ns + 1, A'', k'', nd + md, [2] ++ s1, d1 ++ d1.take md, ⟨g0.other (by dsimp only; omega) _, g1.set 2 _, g2.other (by dsimp only; omega) _, hoo.other (fun g hg => hoo.ne_blk hg g1 (by decide)) _, how.other (fun g hg => how.ne_blk hg g1 (by decide)) _, hap, hb4.setCell (by dsimp only; omega) _⟩, by omega, by omega, by omega⟩
      · have htb : decide ((ns : Int) < 4 + (p : Int)) = false := decide_eq_false (by omega)
        have hl1 := Lib.hid HI.out.o1.length.1
        have hl2 := Lib.hid HI.out.o2.length.1
        go_upto_region 24 with fail
        refine wp_named ?_
        intro wz hz
        have HZ := Lib.hid (show OfI w w.heap.size (w.heap.size + 1) (w.heap.size + 1 + 1) [.int .u8 x, .int .u8 an, .int .i64 n] A1 k1 ns A2 k2 nd o s1 d1 wz from by rw [hz]; exact HI.out)
        clear hz HI c30 f30
        have k0 := HZ.out.g.cell (i := 0) rfl
        have k1' := HZ.out.g.cell (i := 1) rfl
        have k2' := HZ.out.g.cell (i := 2) rfl
        have r0 := HZ.out.res.cell (i := 0) rfl
        have r1 := HZ.out.res.cell (i := 1) rfl
        have r2 := HZ.out.res.cell (i := 2) rfl
        have f0 := HZ.out.res.free 0
        have f1 := HZ.out.res.free 1
        have f2 := HZ.out.res.free 2
        go_wp2_with fail
        refine bodyPost_ret (v := .agg #[.slice A1 ns k1, .int .i64 o, .slice A2 nd k2]) (by simp [results, Try.results32, go_sem, *]) rfl ⟨_, _, s1, d1, o, rfl, (HZ.out.put (by omega) _ _ _).1, (HZ.out.put (by omega) _ _ _).2.1, (by have := hl1.out; omega), (by have := hl2.out; omega), (HZ.out.put (by omega) _ _ _).2.2⟩
  · go_upto_region 24 with fail
    refine wp_named ?_
    intro wz hz
    have HZ := Lib.hid (show OfI w w.heap.size (w.heap.size + 1) (w.heap.size + 1 + 1) [.int .u8 x, .int .u8 an, .int .i64 n] A1 k1 s1.length A2 k2 d1.length o s1 d1 wz from by rw [hz]; exact HJ.out)
    clear hz HJ e0 e1 e2
    have k0 := HZ.out.g.cell (i := 0) rfl
    have k1' := HZ.out.g.cell (i := 1) rfl
    have k2' := HZ.out.g.cell (i := 2) rfl
    have r0 := HZ.out.res.cell (i := 0) rfl
    have r1 := HZ.out.res.cell (i := 1) rfl
    have r2 := HZ.out.res.cell (i := 2) rfl
    have f0 := HZ.out.res.free 0
    have f1 := HZ.out.res.free 1
    have f2 := HZ.out.res.free 2
    go_wp2_with fail
    refine bodyPost_ret (v := .agg #[.slice A1 s1.length k1, .int .i64 o, .slice A2 d1.length k2]) (by simp [results, Try.results32, go_sem, *]) rfl ⟨_, _, s1, d1, o, rfl, (HZ.out.put (by omega) _ _ _).1, (HZ.out.put (by omega) _ _ _).2.1, (by omega), (by omega), (HZ.out.put (by omega) _ _ _).2.2⟩
end Go.Proofs.Ytkkohelbidmkdaa
