/-
  The reference's Range.
-/
import Derived.Test.YtkkohelbidmkdaaGRefAt
namespace Go.Proofs.Ytkkohelbidmkdaa
set_option linter.unusedVariables false
set_option linter.unusedSimpArgs false
open Go Go.RowKit

theorem go_min (x y : Int) : (if x < y then x else y) = min y x := by omega
theorem go_max (x y : Int) : (if y < x then x else y) = max y x := by omega

theorem Own.cell {w : World} {base g n k : Nat} {xs : List Int} (h : Own w base (.slice (some ⟨g, 0, none⟩) n k) xs) {m : Nat} {y : Int} (hy : xs[m]? = some y) : w.cell? ⟨g, m, none⟩ = some (.int .i64 y) ∧ w.frozen? ⟨g, m, none⟩ = false := by
  obtain ⟨hm, rfl⟩ := List.getElem?_eq_some_iff.1 hy
  obtain ⟨g', cap, hv, _, _, _, h1, h2, _, _⟩ := h.set hm 0
  injection hv with hv
  injection hv with hv
  injection hv with hv
  subst hv
  exact ⟨h1, h2⟩

theorem Own.put {w : World} {base g n k : Nat} {xs : List Int} (h : Own w base (.slice (some ⟨g, 0, none⟩) n k) xs) {m : Nat} (hm : m < xs.length) (z : Int) : Own (w.setCell ⟨g, m, none⟩ (.int .i64 z)) base (.slice (some ⟨g, 0, none⟩) n k) (xs.set m z) := by
  obtain ⟨g', cap, hv, _, _, _, _, _, _, h3⟩ := h.set hm z
  injection hv with hv
  injection hv with hv
  injection hv with hv
  subst hv
  exact h3

/-- The rows joined number by number, up to number n of the data. -/
def foldAt (g : Int → Int → Int) (d : List Int) (o n : Nat) : List Int := (List.range n).foldl (fun acc j => acc.set (j % o) (g (acc.getD (j % o) 0) (d.getD j 0))) (d.take o)

theorem foldAt_succ (g : Int → Int → Int) (d : List Int) (o n : Nat) : foldAt g d o (n + 1) = (foldAt g d o n).set (n % o) (g ((foldAt g d o n).getD (n % o) 0) (d.getD n 0)) := by
  unfold foldAt; rw [List.range_succ, List.foldl_append]; rfl

theorem foldAt_length (g : Int → Int → Int) (d : List Int) (o : Nat) : ∀ n, (foldAt g d o n).length = (d.take o).length
  | 0 => rfl
  | n + 1 => by rw [foldAt_succ, List.length_set]; exact foldAt_length g d o n

theorem foldAt_row (g : Int → Int → Int) (d : List Int) (o p : Nat) (ho : 0 < o) (hd : d.length = p * o) (hp : 0 < p) : ∀ k, k ≤ p → foldAt g d o (k * o) = joined g d o k
  | 0, _ => by rw [Nat.zero_mul]; rfl
  | k + 1, hk => by
    have ih := foldAt_row g d o p ho hd hp k (by omega)
    have hj : (joined g d o k).length = o := joined_length hd hp (by omega)
    have hr : (rowAt d o k).length = o := rowAt_length (by omega) hd
    have step : ∀ j, j ≤ o → foldAt g d o (k * o + j) = mix g (joined g d o k) (rowAt d o k) j := by
      intro j
      induction j with
      | zero => intro _; rw [Nat.add_zero, ih, mix_zero]
      | succ j ihj =>
        intro hjo
        have h1 := ihj (by omega)
        rw [← Nat.add_assoc, foldAt_succ, h1]
        have hm : (k * o + j) % o = j := by rw [Nat.mul_comm, Nat.mul_add_mod]; exact Nat.mod_eq_of_lt (by omega)
        rw [hm]
        obtain ⟨x, hx⟩ : ∃ x, (joined g d o k)[j]? = some x := ⟨_, List.getElem?_eq_getElem (by omega)⟩
        obtain ⟨y, hy⟩ : ∃ y, (rowAt d o k)[j]? = some y := ⟨_, List.getElem?_eq_getElem (by omega)⟩
        have hml : (mix g (joined g d o k) (rowAt d o k) j)[j]? = some x := by
          unfold mix
          rw [List.getElem?_append_right (by simp; omega)]
          have : (List.zipWith g ((joined g d o k).take j) ((rowAt d o k).take j)).length = j := by simp; omega
          rw [this, List.getElem?_drop, Nat.sub_self, Nat.add_zero]; exact hx
        have hdj : d[k * o + j]? = some y := by
          unfold rowAt at hy
          rw [List.getElem?_take, if_pos (by omega), List.getElem?_drop] at hy
          exact hy
        rw [← mix_step g _ _ (by omega) hx hy]
        congr 2
        · rw [List.getD_eq_getElem?_getD, hml]; rfl
        · rw [List.getD_eq_getElem?_getD, hdj]; rfl
    have h2 := step o (Nat.le_refl _)
    rw [Nat.succ_mul, h2, joined_succ]
    rw [show mix g (joined g d o k) (rowAt d o k) o = mix g (joined g d o k) (rowAt d o k) (joined g d o k).length by rw [hj]]
    exact mix_all g _ _ (by omega)

set_option maxHeartbeats 1600000 in
theorem refRange_calls (A B : Option Addr) (c e : Nat) (s d : List Int) (o : Int) (w : World) (hs : Cs w .i64 A s) (hd : Cs w .i64 B d)
    (ls : s.length ≤ 9223372036854775807) (ld : d.length ≤ e) (le : e ≤ 9223372036854775807) :
    Calls Try.prog 29 #[.agg #[.slice A s.length c, .int .i64 o, .slice B d.length e]] w fun r w' => ∃ v1 v2, r = .returned (.tuple #[v1, v2, .int .i64 (rangeR s o d).2.2]) ∧
      Own w' w.heap.size v1 (rangeR s o d).1 ∧ Own w' w.heap.size v2 (rangeR s o d).2.1 ∧ Below w.heap.size w w' := by
  have HS := Lib.hid hs
  have HD := Lib.hid hd
  clear hs hd
  go_enter Try.func29, Try.ntmps29
  go_wp2_with fail
  refine calls_named ?_
  intro w1 hw1
  have hb1 : Below w.heap.size w w1 := by rw [hw1]; repeat (first | exact below_alloc _ | refine below_trans ?_ (below_alloc _))
  have b0 : Blk w1 w.heap.size [.slice A s.length c, .int .i64 o, .slice B d.length e] 24 := by rw [hw1]; exact Blk.new _ _ _
  clear hw1
  refine (right_calls A B c e s d o w1 (HS.out.kept hb1) (HD.out.kept hb1) ls (by omega)).mono ?_
  rintro r w2 ⟨rfl, hb2⟩
  replace b0 := b0.kept hb2
  have hlt0 := b0.lt
  have hb12 := below_trans hb1 hb2
  by_cases hc : checkN s o d = 0
  · have hcb : decide (checkN s o d = 0) = true := decide_eq_true hc
    have hv := (checkN_iff s o d).1 hc
    obtain ⟨on, rfl⟩ := Int.eq_ofNat_of_zero_le (show 0 ≤ o by have := hv.out1; omega)
    obtain ⟨hp1, hp2, hp3⟩ := prodW_eq hv.sizes hv.len4
    obtain ⟨pn, hpn⟩ := Int.eq_ofNat_of_zero_le (show 0 ≤ prodI s by omega)
    have hdp : d.length = pn * on := by have := hv.data; rw [hpn, ← Int.natCast_mul] at this; exact Int.ofNat.inj this
    have hpn0 : 0 < pn := by omega
    have fo := hv.out1
    have fo4 := hv.out4
    have hon : 0 < on := by omega
    have fm := hv.most
    have hod : on ≤ d.length := by rw [hdp]; exact Nat.le_mul_of_pos_left on hpn0
    have hR : rangeR s on d = (foldAt min d on d.length, foldAt max d on d.length, 0) := by
      unfold rangeR; rw [if_neg (by omega), hdp, foldAt_row min d on pn hon hdp hpn0 pn (Nat.le_refl _), foldAt_row max d on pn hon hdp hpn0 pn (Nat.le_refl _), hpn]; rfl
    have HR := Lib.hid hR
    rw [hcb]
    obtain ⟨b, off, hB⟩ : ∃ b off, B = some ⟨b, off, none⟩ := by
      obtain ⟨_, b, off, _, h, _⟩ := HD.out.at (i := 0) (by omega)
      exact ⟨b, off, h⟩
    subst hB
    clear hc hcb hv hp1 hp2 hp3 hpn hdp hpn0 hR
    have hoe : on ≤ e := by omega
    have hown : Own (w2.alloc (.cells #[] 3)) w2.heap.size (.slice (some ⟨w2.heap.size, 0, none⟩) 0 0) [] :=
      ⟨rfl, .inr ⟨w2.heap.size, 0, #[], rfl, Nat.le_refl _, heap_alloc_new w2 _, Nat.le_refl _, Nat.zero_le _, rfl, rfl⟩⟩
    have hcs : Cs (w2.alloc (.cells #[] 3)) .i64 (some ⟨b, off, none⟩) (d.take on) := ((HD.out.kept hb12).kept (below_alloc (.cells #[] 3))).sub 0 on
    have hlen : (d.take on).length = on := by rw [List.length_take]; omega
    have HL := Lib.hid hlen
    have HO := Lib.hid (And.intro hown hcs)
    have HB := Lib.hid (And.intro b0 hb12)
    have c0 := b0.cell (i := 0) rfl
    have c1 := b0.cell (i := 1) rfl
    have c2 := b0.cell (i := 2) rfl
    clear hown hcs hlen b0 hb12 hb1 hb2
    go_upto_region 4 with (at_builtin; refine append_ints rfl _ _ rfl w2.heap.size _ [] rfl HO.out.1 (some ⟨b, off, none⟩) e (d.take on) (by rw [HL.out]; rfl) HO.out.2 (fun h => by cases h) (by rw [HL.out]; simp; omega) (by simp) ?_; intro v1 w3 ho1 hg1; have HB3 := Lib.hid (HO.out.1.below hg1 (Nat.le_refl _) (below_alloc _)); clear hg1)
    clear HO c0 c1 c2
    obtain ⟨A1, k1, rfl, _, _, _, _⟩ := ho1.cs
    simp only [List.nil_append] at ho1
    rw [List.nil_append, HL.out]
    rw [HL.out] at ho1
    obtain ⟨b0, hb12⟩ := HB.out
    replace b0 := b0.kept HB3.out
    replace hb12 := below_trans hb12 HB3.out
    have hlt3 := HB3.out.size
    have hlt03 := b0.lt
    have hcs : Cs (w3.alloc (.cells #[] 3)) .i64 (some ⟨b, off, none⟩) (d.take on) := ((HD.out.kept hb12).kept (below_alloc (.cells #[] 3))).sub 0 on
    have hown : Own (w3.alloc (.cells #[] 3)) w3.heap.size (.slice (some ⟨w3.heap.size, 0, none⟩) 0 0) [] :=
      ⟨rfl, .inr ⟨w3.heap.size, 0, #[], rfl, Nat.le_refl _, heap_alloc_new w3 _, Nat.le_refl _, Nat.zero_le _, rfl, rfl⟩⟩
    have HO := Lib.hid (And.intro hown hcs)
    have HB := Lib.hid (And.intro b0 (And.intro hb12 ho1))
    have c0 := b0.cell (i := 0) rfl
    have c1 := b0.cell (i := 1) rfl
    have c2 := b0.cell (i := 2) rfl
    clear hown hcs b0 hb12 ho1
    go_upto_region 5 with (at_builtin; (refine append_ints rfl _ _ rfl w3.heap.size _ [] rfl HO.out.1 (some ⟨b, off, none⟩) e (d.take on) (by rw [HL.out]; rfl) HO.out.2 (fun h => by cases h) (by rw [HL.out]; simp; omega) (by simp) ?_); intro v2 w4 ho2 hg2; have HB4 := Lib.hid (HO.out.1.below hg2 (Nat.le_refl _) (below_alloc _)); clear hg2)
    clear HO c0 c1 c2
    obtain ⟨A2, k2, rfl, _, _, _, _⟩ := ho2.cs
    simp only [List.nil_append] at ho2
    rw [List.nil_append, HL.out]
    rw [HL.out] at ho2
    obtain ⟨b0, hb12, ho1⟩ := HB.out
    replace b0 := b0.kept HB4.out
    replace hb12 := below_trans hb12 HB4.out
    have hlt4 := HB4.out.size
    replace ho1 := ho1.kept HB4.out
    obtain ⟨g1, rfl⟩ : ∃ g, A1 = some ⟨g, 0, none⟩ := by
      rcases ho1.2 with ⟨h, h2⟩ | ⟨g, _, _, h, _⟩
      · rw [HL.out] at h2; omega
      · injection h with h; exact ⟨g, h⟩
    obtain ⟨g2, rfl⟩ : ∃ g, A2 = some ⟨g, 0, none⟩ := by
      rcases ho2.2 with ⟨h, h2⟩ | ⟨g, _, _, h, _⟩
      · rw [HL.out] at h2; omega
      · injection h with h; exact ⟨g, h⟩
    have hg1 : w2.heap.size ≤ g1 ∧ g1 < w3.heap.size := by
      obtain ⟨_, _, ho⟩ := HB.out
      exact ho.block_ge g1 rfl
    have hg2 := ho2.block_ge g2 rfl
    have hne : g1 ≠ g2 := by omega
    have HX := Lib.hid (And.intro b0 (And.intro hb12 (And.intro ho1 ho2)))
    clear b0 hb12 ho1 ho2 HB HB3 HB4
    go_wp2_with fail
    go_loopw [7] (fun i wr => ∃ n : Nat, n ≤ d.length ∧ i = .int .i64 n ∧ Own wr w2.heap.size (.slice (some ⟨g1, 0, none⟩) on k1) (foldAt min d on n) ∧ Own wr w2.heap.size (.slice (some ⟨g2, 0, none⟩) on k2) (foldAt max d on n) ∧
      Blk wr w.heap.size [.slice A s.length c, .int .i64 on, .slice (some ⟨b, off, none⟩) d.length e] 24 ∧ Below w.heap.size w wr ∧ w4.heap.size ≤ wr.heap.size) (fun i _ => d.length - (intOf i).toNat)
    case atStart => exact ⟨0, Nat.zero_le _, rfl, HX.out.2.2.1, HX.out.2.2.2.lower (by omega), HX.out.1, HX.out.2.1, Nat.le_refl _⟩
    case round =>
      clear HX
      obtain ⟨n, hn, rfl, ho1, ho2, b0, hbr, hsz⟩ := hrel
      have c0 := b0.cell (i := 0) rfl
      have c1 := b0.cell (i := 1) rfl
      have c2 := b0.cell (i := 2) rfl
      by_cases hlt : n < d.length
      · obtain ⟨x, b', off', hx, hB, hc⟩ := HD.out.at hlt
        cases hB
        replace hc := kept hbr hc
        have hmlt : n % on < on := Nat.mod_lt _ hon
        obtain ⟨m, hm⟩ : ∃ m, n % on = m := ⟨_, rfl⟩
        rw [hm] at hmlt
        have hmod : (n : Int) % (on : Int) = (m : Int) := by rw [← hm]; simp
        obtain ⟨y1, hy1⟩ : ∃ y, (foldAt min d on n)[m]? = some y := ⟨_, List.getElem?_eq_getElem (by rw [foldAt_length, HL.out]; exact hmlt)⟩
        obtain ⟨y2, hy2⟩ : ∃ y, (foldAt max d on n)[m]? = some y := ⟨_, List.getElem?_eq_getElem (by rw [foldAt_length, HL.out]; exact hmlt)⟩
        obtain ⟨p1, q1⟩ := ho1.cell hy1
        have HN := Lib.hid (And.intro hx (And.intro hm (And.intro hy1 hy2)))
        have HX := Lib.hid (And.intro ho1 (And.intro ho2 (And.intro b0 (And.intro hbr hsz))))
        clear hx hm hy1 hy2 ho1 ho2 b0 hbr hsz
        go_wp2_with fail
        refine wp_seq_tail 13 (fun _ => false) (fun _ _ => undef) (fun _ _ _ => True) (by kernel_rfl) (by kernel_rfl) (by decide) (fun _ _ _ _ _ _ => trivial) ?_
        repeat (first | (refine seq_skip (by rfl) ?_; simp only [Act.put, List.setIfInBounds_toArray, List.set_cons_zero, List.set_cons_succ, Nat.reduceAdd]) | (refine seq_pure (v := ?_) (by rfl) (by rfl) (fun W hW hC => ?_) ?_; rotate_left; (go_simp <;> with_reducible rfl); simp only [Act.put, List.setIfInBounds_toArray, List.set_cons_zero, List.set_cons_succ, Nat.reduceAdd]))
        refine seq_nil ?_; intro W hW hF
        clear hF
        replace q1 := keptF hW p1 q1
        replace p1 := Ytkkohelbidmkdaa.kept hW p1
        obtain ⟨ho1, ho2, b0, hbr, hsz⟩ := HX.out
        replace ho1 := ho1.kept hW
        replace ho2 := ho2.kept hW
        replace b0 := b0.kept hW
        replace hbr := hbr.trans (hW.mono hbr.size)
        replace hsz := Nat.le_trans hsz hW.size
        replace hc := Ytkkohelbidmkdaa.kept hW hc
        clear HX c0 c1 c2 hW
        have HX := Lib.hid (And.intro ho1 (And.intro ho2 (And.intro b0 (And.intro hbr hsz))))
        have hcn : (⟨b, off + n, none⟩ : Addr) ≠ ⟨g1, m, none⟩ := by
          intro h
          injection h with h _ _
          have h1 := (HD.out.at (i := n) hlt)
          obtain ⟨_, b1, o1, _, e1, hc1⟩ := h1
          cases e1
          have := block_lt hc1
          dsimp only at this
          omega
        have HCN := Lib.hid hcn
        clear ho1 ho2 b0 hbr hsz hcn
        go_upto_region 10 with fail
        refine wp_named ?_
        intro W2 hW2
        obtain ⟨ho1, ho2, b0, hbr, hsz⟩ := HX.out
        have o1 : Own W2 w2.heap.size (.slice (some ⟨g1, 0, none⟩) on k1) (foldAt min d on (n + 1)) := by
          rw [hW2, foldAt_succ, HN.out.2.1, List.getD_eq_getElem?_getD, HN.out.2.2.1, List.getD_eq_getElem?_getD, HN.out.1, go_min]
          exact ho1.put (by rw [foldAt_length, HL.out]; exact hmlt) _
        have o2 : Own W2 w2.heap.size (.slice (some ⟨g2, 0, none⟩) on k2) (foldAt max d on n) := by
          rw [hW2]; exact ho2.other (a := ⟨g1, m, none⟩) (fun g hg => by cases hg; exact fun h => hne h.symm) _
        replace b0 : Blk W2 w.heap.size [.slice A s.length c, .int .i64 on, .slice (some ⟨b, off, none⟩) d.length e] 24 := by
          rw [hW2]; exact b0.other (a := ⟨g1, m, none⟩) (by dsimp only; omega) _
        replace hbr : Below w.heap.size w W2 := by rw [hW2]; exact hbr.setCell (p := ⟨g1, m, none⟩) (by dsimp only; omega) _
        replace hsz : w4.heap.size ≤ W2.heap.size := by rw [hW2]; simpa using hsz
        replace hc : W2.cell? ⟨b, off + n, none⟩ = some (.int .i64 x) := by rw [hW2, World.cell?_setCell_other _ _ _ _ (fun h => HCN.out h.symm)]; exact hc
        clear hW2 ho1 ho2 HX p1 q1 HCN
        have c0 := b0.cell (i := 0) rfl
        have c1 := b0.cell (i := 1) rfl
        have c2 := b0.cell (i := 2) rfl
        obtain ⟨p2, q2⟩ := o2.cell HN.out.2.2.2
        have HX := Lib.hid (And.intro o1 (And.intro o2 (And.intro b0 (And.intro hbr hsz))))
        clear o1 o2 b0 hbr hsz
        refine wp_seq_tail 13 (fun _ => false) (fun _ _ => undef) (fun _ _ _ => True) (by kernel_rfl) (by kernel_rfl) (by decide) (fun _ _ _ _ _ _ => trivial) ?_
        repeat (first | (refine seq_skip (by rfl) ?_; simp only [Act.put, List.setIfInBounds_toArray, List.set_cons_zero, List.set_cons_succ, Nat.reduceAdd]) | (refine seq_pure (v := ?_) (by rfl) (by rfl) (fun W hW hC => ?_) ?_; rotate_left; (go_simp <;> with_reducible rfl); simp only [Act.put, List.setIfInBounds_toArray, List.set_cons_zero, List.set_cons_succ, Nat.reduceAdd]))
        refine seq_nil ?_; intro W3 hW3 hF
        clear hF
        replace q2 := keptF hW3 p2 q2
        replace p2 := Ytkkohelbidmkdaa.kept hW3 p2
        obtain ⟨o1, o2, b0, hbr, hsz⟩ := HX.out
        have HX := Lib.hid (And.intro (o1.kept hW3) (And.intro (o2.kept hW3) (And.intro (b0.kept hW3) (And.intro (hbr.trans (hW3.mono hbr.size)) (Nat.le_trans hsz hW3.size)))))
        clear o1 o2 b0 hbr hsz hW3 c0 c1 c2
        go_wp2
        go_roundw
        case rel =>
          obtain ⟨ho1, ho2, b0, hbr, hsz⟩ := HX.out
          refine ⟨n + 1, by omega, by go_num, ?_, ?_, ?_, ?_, by simpa using hsz⟩
          · exact ho1.other (a := ⟨g2, m, none⟩) (fun g hg => by cases hg; exact hne) _
          · rw [foldAt_succ, HN.out.2.1, List.getD_eq_getElem?_getD, HN.out.2.2.2, List.getD_eq_getElem?_getD, HN.out.1, go_max]
            exact ho2.put (by rw [foldAt_length, HL.out]; exact hmlt) _
          · exact b0.other (a := ⟨g2, m, none⟩) (by dsimp only; omega) _
          · exact hbr.setCell (p := ⟨g2, m, none⟩) (by dsimp only; omega) _
        case measure => simp [intOf]; omega
      · have hnd : n = d.length := by omega
        rw [hnd] at ho1 ho2
        have HX := Lib.hid (And.intro ho1 (And.intro ho2 hbr))
        clear ho1 ho2 hbr b0 hnd
        go_wp2
        go_ret3
        exact ⟨_, _, by simp [HR.out]; exact ⟨rfl, rfl⟩, by rw [HR.out]; exact HX.out.1.lower (by omega), by rw [HR.out]; exact HX.out.2.1.lower (by omega), HX.out.2.2⟩
  · have hcb : decide (checkN s o d = 0) = false := decide_eq_false hc
    have hR : rangeR s o d = ([], [], 100) := by unfold rangeR; rw [if_pos hc]
    have HR := Lib.hid hR
    have HB := Lib.hid hb12
    rw [hcb]
    clear hc hcb hR hb1 hb2 hb12 b0
    go_wp2
    go_ret3
    exact ⟨.slice none 0 0, .slice none 0 0, by simp [HR.out], by rw [HR.out]; exact Own.nil _ _, by rw [HR.out]; exact Own.nil _ _, HB.out⟩
end Go.Proofs.Ytkkohelbidmkdaa
