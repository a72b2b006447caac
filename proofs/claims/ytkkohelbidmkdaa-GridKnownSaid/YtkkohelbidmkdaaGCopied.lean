/-
  The law's copied.
-/
import Derived.Test.YtkkohelbidmkdaaGDraft
namespace Go.Proofs.Ytkkohelbidmkdaa
set_option linter.unusedVariables false
set_option linter.unusedSimpArgs false
open Go Go.RowKit

theorem Own.empty (w : World) : Own (w.alloc (.cells #[] 3)) w.heap.size (.slice (some ⟨w.heap.size, 0, none⟩) 0 0) [] :=
  ⟨rfl, .inr ⟨w.heap.size, 0, #[], rfl, Nat.le_refl _, heap_alloc_new w _, Nat.le_refl _, Nat.zero_le _, rfl, rfl⟩⟩

theorem Cs.head {w : World} {q : IntKind} {A : Option Addr} {xs : List Int} (h : Cs w q A xs) (n : Nat) : Cs w q A (xs.take n) := by
  intro i x hx
  rw [List.getElem?_take] at hx
  split at hx
  · exact h i x hx
  · cases hx

set_option maxHeartbeats 1600000 in
theorem copied_calls (A B : Option Addr) (c e : Nat) (s d : List Int) (o : Int) (w : World) (hs : Cs w .i64 A s) (hd : Cs w .i64 B d)
    (ls : s.length ≤ c) (lc : c ≤ 9223372036854775807) (hA : A = none → c = 0) (ld : d.length ≤ e) (le : e ≤ 9223372036854775807) (hB : B = none → e = 0) :
    Calls Try.prog 33 #[.agg #[.slice A s.length c, .int .i64 o, .slice B d.length e]] w fun r w' => ∃ v1 v2, r = .returned (.agg #[v1, .int .i64 o, v2]) ∧
      Own w' w.heap.size v1 (s.take 8) ∧ Own w' w.heap.size v2 (d.take 5000) ∧ (∀ g, v1.ownBlock = some g → v2.ownBlock ≠ some g) ∧ Below w.heap.size w w' := by
  have HS := Lib.hid hs
  have HD := Lib.hid hd
  clear hs hd
  obtain ⟨ms, hms⟩ : ∃ m, min s.length 8 = m := ⟨_, rfl⟩
  obtain ⟨md, hmd⟩ : ∃ m, min d.length 5000 = m := ⟨_, rfl⟩
  have hms1 : ms ≤ c := by omega
  have hmd1 : md ≤ e := by omega
  have hms8 : ms ≤ 8 := by omega
  have hmd8 : md ≤ 5000 := by omega
  have hmi : (if (8 : Int) < (s.length : Int) then (8 : Int) else (s.length : Int)) = (ms : Int) := by omega
  have hmj : (if (5000 : Int) < (d.length : Int) then (5000 : Int) else (d.length : Int)) = (md : Int) := by omega
  have hls : (s.take 8).length = ms := by rw [List.length_take]; omega
  have hld : (d.take 5000).length = md := by rw [List.length_take]; omega
  have HL := Lib.hid (And.intro hls hld)
  clear hms hmd hls hld
  go_enter Try.func33, Try.ntmps33
  go_upto_region 1 with fail
  refine wp_named ?_
  intro w1 hw1
  have b0 : Blk w1 w.heap.size [.slice A s.length c, .int .i64 o, .slice B d.length e] 24 := by rw [hw1]; exact (Blk.new _ _ _).alloc _
  have b1 : Blk w1 (w.heap.size + 1) [.slice none 0 0, .int .i64 0, .slice none 0 0] 24 := by rw [hw1]; exact Blk.at (by simp)
  have hb1 : Below w.heap.size w w1 := by rw [hw1]; repeat (first | exact below_alloc _ | refine below_trans ?_ (below_alloc _))
  clear hw1
  have hlt1 := b1.lt
  have hlt0 := b0.lt
  have c0 := b0.cell (i := 0) rfl
  have f0 := b0.free 0
  have HA := Lib.hid (And.intro ((Own.empty w1).lower (base' := w.heap.size) (by omega)) ((HS.out.kept (below_trans hb1 (below_alloc (.cells #[] 3)))).head 8))
  have HB := Lib.hid (And.intro b0 (And.intro b1 hb1))
  clear b0 b1 hb1
  have hpush : ∀ v' w2, Own w2 w.heap.size v' ([] ++ s.take 8) → (w1.alloc (.cells #[] 3)).grownBy w2 (Value.slice (some ⟨w1.heap.size, 0, none⟩) 0 0).ownBlock →
      ∃ A1 k1, v' = .slice A1 ms k1 ∧ w2.cell? ⟨w.heap.size, 0, none⟩ = some (.slice A s.length c) ∧ w2.frozen? ⟨w.heap.size, 0, none⟩ = false ∧
        ∀ W, W = w2.setCell ⟨w.heap.size, 0, none⟩ (.slice A1 ms k1) → Blk W w.heap.size [.slice A1 ms k1, .int .i64 o, .slice B d.length e] 24 ∧ Blk W (w.heap.size + 1) [.slice none 0 0, .int .i64 0, .slice none 0 0] 24 ∧
          Own W w.heap.size (.slice A1 ms k1) (s.take 8) ∧ Below w.heap.size w W := by
    intro v' w2 how hgr
    obtain ⟨b0, b1, hb1⟩ := HB.out
    have g0 := Blk.grown HA.out.1 hgr (b0.alloc _) (by decide)
    have g1 := Blk.grown HA.out.1 hgr (b1.alloc _) (by decide)
    have hb4 := HA.out.1.below hgr (Nat.le_refl _) (below_trans hb1 (below_alloc _))
    rw [List.nil_append] at how
    obtain ⟨A1, k1, hv', _, _, _, _⟩ := how.cs
    rw [HL.out.1] at hv'
    subst hv'
    refine ⟨A1, k1, rfl, g0.cell (i := 0) rfl, g0.free 0, ?_⟩
    rintro W rfl
    exact ⟨g0.set 0 _, g1.other (by dsimp only; omega) _, how.other (fun g hg => how.ne_blk hg g0 (by decide)) _, hb4.setCell (by dsimp only; omega) _⟩
  have HPU := Lib.hid hpush
  clear hpush
  go_upto_region 2 with (at_builtin; (refine append_ints2 rfl _ _ rfl w.heap.size (.slice (some ⟨w1.heap.size, 0, none⟩) 0 0) [] rfl HA.out.1 A c (s.take 8) (by rw [HL.out.1]; rfl) HA.out.2 hA (by rw [HL.out.1]; simp; omega) (by simp; omega) ?_); intro v1 w2 ho1 hg1 hf1; obtain ⟨A1, k1, rfl, k2', kf', hI⟩ := HPU.out v1 w2 ho1 hg1; have HI2 := Lib.hid hI; clear ho1 hg1 hf1 hI c0 f0)
  refine wp_named ?_
  intro w3 hw3
  have HI3 := Lib.hid (HI2.out _ hw3)
  clear HI2 k2' kf' hw3 HPU HA HB hlt0 hlt1
  have hlt3 := HI3.out.2.1.lt
  have hlt30 := HI3.out.1.lt
  have c2 := HI3.out.1.cell (i := 2) rfl
  have f2 := HI3.out.1.free 2
  have HA := Lib.hid (And.intro (Own.empty w3) ((HD.out.kept (below_trans HI3.out.2.2.2 (below_alloc (.cells #[] 3)))).head 5000))
  have hpush : ∀ v' w4, Own w4 w3.heap.size v' ([] ++ d.take 5000) → (w3.alloc (.cells #[] 3)).grownBy w4 (Value.slice (some ⟨w3.heap.size, 0, none⟩) 0 0).ownBlock →
      ∃ A2 k2, v' = .slice A2 md k2 ∧ w4.cell? ⟨w.heap.size, 2, none⟩ = some (.slice B d.length e) ∧ w4.frozen? ⟨w.heap.size, 2, none⟩ = false ∧
        ∀ W, W = w4.setCell ⟨w.heap.size, 2, none⟩ (.slice A2 md k2) → Blk W w.heap.size [.slice A1 ms k1, .int .i64 o, .slice A2 md k2] 24 ∧ Blk W (w.heap.size + 1) [.slice none 0 0, .int .i64 0, .slice none 0 0] 24 ∧
          Own W w.heap.size (.slice A1 ms k1) (s.take 8) ∧ Own W w.heap.size (.slice A2 md k2) (d.take 5000) ∧ (∀ g, (Value.slice A1 ms k1).ownBlock = some g → (Value.slice A2 md k2).ownBlock ≠ some g) ∧ Below w.heap.size w W := by
    intro v' w2 how hgr
    obtain ⟨b0, b1, ho1, hb1⟩ := HI3.out
    have g0 := Blk.grown HA.out.1 hgr (b0.alloc _) (by decide)
    have g1 := Blk.grown HA.out.1 hgr (b1.alloc _) (by decide)
    have hb4 := (HA.out.1.lower (base' := w.heap.size) (by omega)).below hgr (Nat.le_refl _) (below_trans hb1 (below_alloc _))
    have ho1' := (ho1.kept (below_alloc (.cells #[] 3))).grown hgr (fun g hg he => by
      have := (ho1.block_ge g hg).2
      simp only [Value.ownBlock, Option.some.injEq] at he; omega)
    rw [List.nil_append] at how
    obtain ⟨A1, k1, hv', _, _, _, _⟩ := how.cs
    rw [HL.out.2] at hv'
    subst hv'
    refine ⟨A1, k1, rfl, g0.cell (i := 2) rfl, g0.free 2, ?_⟩
    rintro W rfl
    exact ⟨g0.set 2 _, g1.other (by dsimp only; omega) _, ho1'.other (fun g hg => ho1'.ne_blk hg g0 (by decide)) _, (how.other (fun g hg => how.ne_blk hg g0 (by decide)) _).lower (by omega),
      (fun g hg he => by have := (ho1.block_ge g hg).2; have := (how.block_ge g he).1; omega), hb4.setCell (by dsimp only; omega) _⟩
  have HPU := Lib.hid hpush
  clear hpush
  go_upto_region 3 with (at_builtin; (refine append_ints2 rfl _ _ rfl w3.heap.size (.slice (some ⟨w3.heap.size, 0, none⟩) 0 0) [] rfl HA.out.1 B e (d.take 5000) (by rw [HL.out.2]; rfl) HA.out.2 hB (by rw [HL.out.2]; simp; omega) (by simp) ?_); intro v1 w4 ho1 hg1 hf1; obtain ⟨A2, k2, rfl, k2', kf', hI⟩ := HPU.out v1 w4 ho1 hg1; have HI2 := Lib.hid hI; clear ho1 hg1 hf1 hI c2 f2)
  refine wp_named ?_
  intro w5 hw5
  have HI5 := Lib.hid (HI2.out _ hw5)
  clear HI2 k2' kf' hw5 HPU HA HI3 hlt3 hlt30
  have k0 := HI5.out.1.cell (i := 0) rfl
  have k1' := HI5.out.1.cell (i := 1) rfl
  have k2' := HI5.out.1.cell (i := 2) rfl
  have r0 := HI5.out.2.1.cell (i := 0) rfl
  have r1 := HI5.out.2.1.cell (i := 1) rfl
  have r2 := HI5.out.2.1.cell (i := 2) rfl
  have f0 := HI5.out.2.1.free 0
  have f1 := HI5.out.2.1.free 1
  have f2 := HI5.out.2.1.free 2
  go_wp2_with fail
  refine bodyPost_ret (v := .agg #[.slice A1 ms k1, .int .i64 o, .slice A2 md k2]) (by simp [results, Try.results33, go_sem, *]) rfl ⟨_, _, rfl, ?_, ?_, HI5.out.2.2.2.2.1, ?_⟩
  · exact HI5.out.2.2.1.other3 (fun g hg => HI5.out.2.2.1.ne_blk hg HI5.out.2.1 (by decide)) _ _ _
  · exact HI5.out.2.2.2.1.other3 (fun g hg => HI5.out.2.2.2.1.ne_blk hg HI5.out.2.1 (by decide)) _ _ _
  · exact ((HI5.out.2.2.2.2.2.setCell (p := ⟨w.heap.size + 1, 0, none⟩) (by dsimp only; omega) _).setCell (p := ⟨w.heap.size + 1, 1, none⟩) (by dsimp only; omega) _).setCell (p := ⟨w.heap.size + 1, 2, none⟩) (by dsimp only; omega) _
end Go.Proofs.Ytkkohelbidmkdaa
