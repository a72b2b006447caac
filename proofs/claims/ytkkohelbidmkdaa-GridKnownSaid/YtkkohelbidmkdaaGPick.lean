/-
  grid.Pick: what each call returns.
-/
import Derived.Test.YtkkohelbidmkdaaGSwap
namespace Go.Proofs.Ytkkohelbidmkdaa
set_option linter.unusedVariables false
set_option linter.unusedSimpArgs false
open Go Go.RowKit
attribute [local go_sem] Oper.semAt_some run_store_func

def colsB (o : Int) (cs : List Int) : Bool := cs.all fun c => decide (0 ≤ c) && decide (c < o)
def pickD (d : List Int) (on : Nat) (cs : List Int) : Nat → List Int := fun k => cs.map fun c => (rowAt d on k).getD c.toNat 0

/-- Pick's results: the grid's three parts, the code. -/
def pickR (s : List Int) (o : Int) (d cs : List Int) : List Int × Int × List Int × Int :=
  if checkN s o d ≠ 0 then ([], 0, [], 100) else if cs.length = 0 ∨ 4 < cs.length then ([], 0, [], 2) else if colsB o cs = false then ([], 0, [], 2)
  else if 4096 < prodI s * cs.length then ([], 0, [], 3) else (s, cs.length, gathered (pickD d o.toNat cs) (prodI s).toNat, 0)

/-- What holds in Pick's loops: the new grid's values so far are xs. -/
structure PickJ (w0 : World) (cI cr ct co base z1 : Nat) (IV SZ : Value) (TT : List Value) (m : Int) (sz : List Int) (xs : List Int) (W : World) : Prop where
  i : Blk W cI [IV] 22
  r : Blk W cr [.slice none 0 0, .int .i64 0, .slice none 0 0] 24
  tb : Blk W ct TT 67
  out : ∃ Av kv, Blk W co [SZ, .int .i64 m, .slice Av xs.length kv] 24 ∧ Own W z1 (.slice Av xs.length kv) xs
  sz : Own W base SZ sz
  below : Below w0.heap.size w0 W
theorem PickJ.kept {w0 : World} {cI cr ct co base z1 : Nat} {IV SZ : Value} {TT : List Value} {m : Int} {sz xs : List Int} {A B : World} (h : PickJ w0 cI cr ct co base z1 IV SZ TT m sz xs A) (hb : Below A.heap.size A B) : PickJ w0 cI cr ct co base z1 IV SZ TT m sz xs B := by
  obtain ⟨Av, kv, h1, h2⟩ := h.out
  exact ⟨h.i.kept hb, h.r.kept hb, h.tb.kept hb, ⟨Av, kv, h1.kept hb, h2.kept hb⟩, h.sz.kept hb, below_trans h.below hb⟩
theorem PickJ.offZ {w0 : World} {cI cr ct co base z1 : Nat} {IV SZ : Value} {TT : List Value} {m : Int} {sz xs : List Int} {z0 : Nat} {A B : World} (h : PickJ w0 cI cr ct co base z1 IV SZ TT m sz xs A) (hz : OffZ z0 z1 A B)
    (h1 : cI < z0) (h2 : cr < z0) (h3 : ct < z0) (h4 : co < z0) (h5 : ∀ g, SZ.ownBlock = some g → g < z0) (h6 : w0.heap.size ≤ z0) : PickJ w0 cI cr ct co base z1 IV SZ TT m sz xs B := by
  obtain ⟨Av, kv, e1, e2⟩ := h.out
  exact ⟨h.i.offZ hz (.inl h1), h.r.offZ hz (.inl h2), h.tb.offZ hz (.inl h3), ⟨Av, kv, e1.offZ hz (.inl h4), e2.offZ hz (fun g hg => .inr (e2.block_ge g hg).1)⟩, h.sz.offZ hz (fun g hg => .inl (h5 g hg)), Below.offZ h.below (Nat.le_refl _) hz h6⟩

set_option maxHeartbeats 1600000 in
theorem pick_calls (A B I : Option Addr) (c e ci : Nat) (s d cs : List Int) (o : Int) (w : World) (hs : Cs w .i64 A s) (hd : Cs w .i64 B d) (hi : Cs w .i64 I cs)
    (ls : s.length ≤ 9223372036854775807) (hA : A = none → c = 0) (ld : d.length ≤ e) (le : e ≤ 9223372036854775807) (li : cs.length ≤ 9223372036854775807) :
    Calls Try.prog 21 #[.agg #[.slice A s.length c, .int .i64 o, .slice B d.length e], .slice I cs.length ci] w fun r w' => ∃ v1 v2, r = .returned (.tuple #[.agg #[v1, .int .i64 (pickR s o d cs).2.1, v2], .int .i64 (pickR s o d cs).2.2.2]) ∧
      Own w' w.heap.size v1 (pickR s o d cs).1 ∧ Own w' w.heap.size v2 (pickR s o d cs).2.2.1 ∧ Below w.heap.size w w' := by
  have HS := Lib.hid hs
  have HD := Lib.hid hd
  have HI := Lib.hid hi
  clear hs hd hi
  refine (callsIn_wide (n := 0)).1 (callsIn_of_wp_marks Try.func21 rfl trivial (wpIn_wide.2 ?_) rfl)
  simp only [Try.ntmps21, List.size_toArray, List.length_cons, List.length_nil, Nat.reduceAdd, Nat.reduceSub, Array.replicate_succ, Array.replicate_zero, List.push_toArray, List.append_toArray, List.nil_append, List.cons_append]
  go_wp2_with fail
  go_step3
  go_wp2_with fail
  refine calls_named ?_
  intro w1 hw1
  have hb1 : Below w.heap.size w w1 := by rw [hw1]; repeat (first | exact below_alloc _ | refine below_trans ?_ (below_alloc _))
  have b0 : Blk w1 w.heap.size [.slice A s.length c, .int .i64 o, .slice B d.length e] 24 := by rw [hw1]; exact ((Blk.at rfl).alloc _).alloc _
  have b1 : Blk w1 (w.heap.size + 1) [.slice I cs.length ci] 22 := by rw [hw1]; exact (Blk.at (by simp)).alloc _
  have b3 : Blk w1 (w.heap.size + 1 + 1) [.slice none 0 0, .int .i64 0, .slice none 0 0] 24 := by rw [hw1]; exact Blk.at (by simp)
  clear hw1
  refine (check_calls A B c e s d o w1 (HS.out.kept hb1) (HD.out.kept hb1) ls (by omega)).mono ?_
  rintro r w2 ⟨rfl, hb2⟩
  have hb12 := below_trans hb1 hb2
  replace b0 := b0.kept hb2
  replace b1 := b1.kept hb2
  replace b3 := b3.kept hb2
  have c00 := b0.cell (i := 0) rfl
  have c01 := b0.cell (i := 1) rfl
  have c02 := b0.cell (i := 2) rfl
  have c1 := b1.cell (i := 0) rfl
  have c30 := b3.cell (i := 0) rfl
  have c31 := b3.cell (i := 1) rfl
  have c32 := b3.cell (i := 2) rfl
  have f30 := b3.free 0
  have f31 := b3.free 1
  have f32 := b3.free 2
  have hlt3 := b3.lt
  have HB := Lib.hid hb12
  have HBB := Lib.hid (And.intro b0 (And.intro b1 b3))
  clear hb1 hb2 hb12 b0 b1 b3
  have fin : ∀ (n : Int), pickR s o d cs = ([], 0, [], n) → ∀ W, Below w.heap.size w W → ∃ v1 v2, Ending.returned (.tuple #[.agg #[.slice none 0 0, .int .i64 0, .slice none 0 0], .int .i64 n]) = .returned (.tuple #[.agg #[v1, .int .i64 (pickR s o d cs).2.1, v2], .int .i64 (pickR s o d cs).2.2.2]) ∧
      Own W w.heap.size v1 (pickR s o d cs).1 ∧ Own W w.heap.size v2 (pickR s o d cs).2.2.1 ∧ Below w.heap.size w W := fun n hR W hW => by
    rw [hR]; exact ⟨_, _, rfl, Own.nil _ _, Own.nil _ _, hW⟩
  have FIN := Lib.hid fin
  clear fin
  by_cases hc : checkN s o d = 0
  · have HC := Lib.hid hc
    rw [hc]
    have HV := Lib.hid ((checkN_iff s o d).1 hc)
    clear hc
    by_cases hl : cs.length = 0 ∨ 4 < cs.length
    · have HR := Lib.hid (show pickR s o d cs = ([], 0, [], 2) by unfold pickR; rw [if_neg (by rw [HC.out]; simp), if_pos hl])
      by_cases hl0 : cs.length = 0
      · have hb0 : ((cs.length : Int) == 0) = true := by simp [hl0]
        have HL := Lib.hid hl0
        clear hl hl0
        go_wp2_with fail
        have hz := HBB.out.2.2.set3 (.slice none 0 0) (.int .i64 0) (.slice none 0 0)
        have d0 := hz.cell (i := 0) rfl
        have d1 := hz.cell (i := 1) rfl
        have d2 := hz.cell (i := 2) rfl
        exact leaves_ret (.tuple #[.agg #[.slice none 0 0, .int .i64 0, .slice none 0 0], .int .i64 2]) (by simp [results, Try.results21, go_sem, d0, d1, d2]) (FIN.out _ HR.out _ (below_set3 HB.out (by omega) _ _ _))
      · have hb0 : ((cs.length : Int) == 0) = false := by rw [beq_eq_false_iff_ne]; omega
        have hb4 : decide ((4 : Int) < (cs.length : Int)) = true := decide_eq_true (by omega)
        clear hl hl0
        go_wp2_with fail
        have hz := HBB.out.2.2.set3 (.slice none 0 0) (.int .i64 0) (.slice none 0 0)
        have d0 := hz.cell (i := 0) rfl
        have d1 := hz.cell (i := 1) rfl
        have d2 := hz.cell (i := 2) rfl
        exact leaves_ret (.tuple #[.agg #[.slice none 0 0, .int .i64 0, .slice none 0 0], .int .i64 2]) (by simp [results, Try.results21, go_sem, d0, d1, d2]) (FIN.out _ HR.out _ (below_set3 HB.out (by omega) _ _ _))
    · have hb0 : ((cs.length : Int) == 0) = false := by rw [beq_eq_false_iff_ne]; omega
      have hb4 : decide ((4 : Int) < (cs.length : Int)) = false := decide_eq_false (by omega)
      have HL := Lib.hid (show 1 ≤ cs.length ∧ cs.length ≤ 4 by omega)
      have HL' := Lib.hid hl
      clear hl
      go_upto_region 7 with fail
      refine wp_named ?_
      intro w3 hw3
      have hb23 : Below w2.heap.size w2 w3 := by rw [hw3]; exact below_alloc _
      have b4 : Blk w3 w2.heap.size [.slice A s.length c, .int .i64 o, .slice B d.length e] 67 := by rw [hw3]; exact Blk.at rfl
      have hsz3 : w3.heap.size = w2.heap.size + 1 := by rw [hw3]; simp
      clear hw3 c00 c01 c02 c30 c31 c32 f30 f31 f32 c1
      obtain ⟨b0, b1, b3⟩ := HBB.out
      replace b1 := b1.kept hb23
      replace b3 := b3.kept hb23
      have hb3 := below_trans HB.out hb23
      have c1 := b1.cell (i := 0) rfl
      have c40 := b4.cell (i := 0) rfl
      have c41 := b4.cell (i := 1) rfl
      have c42 := b4.cell (i := 2) rfl
      have c30 := b3.cell (i := 0) rfl
      have c31 := b3.cell (i := 1) rfl
      have c32 := b3.cell (i := 2) rfl
      have f30 := b3.free 0
      have f31 := b3.free 1
      have f32 := b3.free 2
      have HBB := Lib.hid (And.intro b1 (And.intro b3 b4))
      have HB := Lib.hid hb3
      clear b0 b1 b3 b4 hb3 hb23
      have hI3 := HI.out.kept HB.out
      have HI3 := Lib.hid hI3
      clear hI3
      go_wp2_with fail
      go_step3
      go_wp2_with fail
      go_loop [34] (fun i => ∃ k : Nat, k ≤ cs.length ∧ i = .int .i64 k ∧ colsB o (cs.take k) = true) (fun i => cs.length - (intOf i).toNat)
      case atStart => exact ⟨0, Nat.zero_le _, rfl, rfl⟩
      case round =>
        obtain ⟨k, hk, rfl, hcb⟩ := hrel
        have HCB := Lib.hid hcb
        clear hcb
        by_cases hlt : k < cs.length
        · obtain ⟨x, bb, oo, hx, rfl, hcx⟩ := HI3.out.at hlt
          have HX := Lib.hid hx
          clear hx
          by_cases hin : 0 ≤ x ∧ x < o
          · have h1 : decide (0 ≤ x) = true := decide_eq_true hin.1
            have h2 : decide (x < o) = true := decide_eq_true hin.2
            have HIN := Lib.hid hin
            clear hin
            clear c30 c31 c32 f30 f31 f32
            go_wp2
            go_round
            case rel => exact ⟨k + 1, by omega, by go_num, by unfold colsB; rw [take_at HX.out, List.all_append]; have := HCB.out; unfold colsB at this; simp [this, HIN.out.1, HIN.out.2]⟩
            case measure => simp [intOf]; omega
          · have hcf : colsB o cs = false := by
              cases hcf : colsB o cs with
              | false => rfl
              | true =>
                unfold colsB at hcf
                have := List.all_eq_true.1 hcf x (List.mem_of_getElem? HX.out)
                simp at this
                exact absurd this hin
            have HR := Lib.hid (show pickR s o d cs = ([], 0, [], 2) by unfold pickR; rw [if_neg (by rw [HC.out]; simp), if_neg HL'.out, if_pos hcf])
            clear hcf
            by_cases h0 : 0 ≤ x
            · have h1 : decide (0 ≤ x) = true := decide_eq_true h0
              have h2 : decide (x < o) = false := decide_eq_false (fun h => hin ⟨h0, h⟩)
              clear hin h0
              go_wp2_with fail
              have hz := HBB.out.2.1.set3 (.slice none 0 0) (.int .i64 0) (.slice none 0 0)
              have d0 := hz.cell (i := 0) rfl
              have d1 := hz.cell (i := 1) rfl
              have d2 := hz.cell (i := 2) rfl
              exact leaves_ret (.tuple #[.agg #[.slice none 0 0, .int .i64 0, .slice none 0 0], .int .i64 2]) (by simp [results, Try.results21, go_sem, d0, d1, d2]) (FIN.out _ HR.out _ (below_set3 HB.out (by omega) _ _ _))
            · have h1 : decide (0 ≤ x) = false := decide_eq_false h0
              clear hin h0
              go_wp2_with fail
              have hz := HBB.out.2.1.set3 (.slice none 0 0) (.int .i64 0) (.slice none 0 0)
              have d0 := hz.cell (i := 0) rfl
              have d1 := hz.cell (i := 1) rfl
              have d2 := hz.cell (i := 2) rfl
              exact leaves_ret (.tuple #[.agg #[.slice none 0 0, .int .i64 0, .slice none 0 0], .int .i64 2]) (by simp [results, Try.results21, go_sem, d0, d1, d2]) (FIN.out _ HR.out _ (below_set3 HB.out (by omega) _ _ _))
        · have hcf : colsB o cs = true := by have := HCB.out; rwa [List.take_of_length_le (by omega)] at this
          have HCF := Lib.hid hcf
          clear hcf HCB
          go_wp2_with fail
          have hwr : IntKind.i64.wrap (prodW s * (cs.length : Int)) = wrap64 (prodW s * cs.length) := IntWalk.i64_left _
          obtain ⟨p1, p2, p3⟩ := prodW_eq HV.out.sizes HV.out.len4
          have hp4 : prodI s * cs.length ≤ 6561 * 4 := Int.mul_le_mul p3 (by have := HL.out; omega) (by omega) (by omega)
          have hp5 : 0 ≤ prodI s * cs.length := Int.mul_nonneg (by omega) (by omega)
          have hpw : wrap64 (prodW s * cs.length) = prodI s * cs.length := by rw [p1, wrap64_id (by omega) (by omega)]
          rw [hpw] at hwr
          obtain ⟨P, hP⟩ : ∃ P, prodI s * (cs.length : Int) = P := ⟨_, rfl⟩
          rw [hP] at hwr hp4 hp5
          have HP := Lib.hid hP
          clear hpw p1 p2 p3 hP
          by_cases hbig : 4096 < P
          · have hbb : decide ((4096 : Int) < P) = true := decide_eq_true hbig
            have HR := Lib.hid (show pickR s o d cs = ([], 0, [], 3) by unfold pickR; rw [if_neg (by rw [HC.out]; simp), if_neg HL'.out, if_neg (by rw [HCF.out]; simp), HP.out, if_pos hbig])
            clear hbig
            refine wp_seq_all (fun k => k == 3) (fun _ _ => .int .i64 (prodW s)) (fun _ _ _ => True) (by kernel_rfl) (by kernel_rfl) (fun _ _ _ _ _ _ => trivial) ?_
            repeat (first | (refine seq_skip (by rfl) ?_; simp only [Act.put, List.setIfInBounds_toArray, List.set_cons_zero, List.set_cons_succ, Nat.reduceAdd]) | (refine seq_pure (v := ?_) (by rfl) (by rfl) (fun W hW hC => ?_) ?_; rotate_left; (go_simp <;> with_reducible rfl); simp only [Act.put, List.setIfInBounds_toArray, List.set_cons_zero, List.set_cons_succ, Nat.reduceAdd]))
            refine seq_made (by rfl) (by rfl) (fun W hW hC hF R hR => ?_) (fun _ => ?_)
            · unfold Gives; go_simp; refine (product_calls _ _ _ _ (HS.out.kept (below_trans HB.out hW)) ls).mono ?_; rintro e w2 ⟨rfl, rfl⟩; exact ⟨_, rfl, hR {} _ (Below.refl _ _) trivial⟩
            simp only [Act.put, List.setIfInBounds_toArray, List.set_cons_zero, List.set_cons_succ, Nat.reduceAdd]
            repeat (first | (refine seq_skip (by rfl) ?_; simp only [Act.put, List.setIfInBounds_toArray, List.set_cons_zero, List.set_cons_succ, Nat.reduceAdd]) | (refine seq_pure (v := ?_) (by rfl) (by rfl) (fun W hW hC => ?_) ?_; rotate_left; (go_simp <;> with_reducible rfl); simp only [Act.put, List.setIfInBounds_toArray, List.set_cons_zero, List.set_cons_succ, Nat.reduceAdd]))
            refine seq_nil ?_
            intro W hW hF
            have hb3 := (HBB.out.2.1).kept hW
            clear c1 c40 c41 c42 c30 c31 c32 f30 f31 f32
            have c30 := hb3.cell (i := 0) rfl
            have c31 := hb3.cell (i := 1) rfl
            have c32 := hb3.cell (i := 2) rfl
            have f30 := hb3.free 0
            have f31 := hb3.free 1
            have f32 := hb3.free 2
            have HB3 := Lib.hid (And.intro hb3 (below_trans HB.out hW))
            clear hb3 hW hF
            go_wp2_with fail
            have hz := HB3.out.1.set3 (.slice none 0 0) (.int .i64 0) (.slice none 0 0)
            have d0 := hz.cell (i := 0) rfl
            have d1 := hz.cell (i := 1) rfl
            have d2 := hz.cell (i := 2) rfl
            exact leaves_ret (.tuple #[.agg #[.slice none 0 0, .int .i64 0, .slice none 0 0], .int .i64 3]) (by simp [results, Try.results21, go_sem, d0, d1, d2]) (FIN.out _ HR.out _ (below_set3 HB3.out.2 (by omega) _ _ _))
          · have hbb : decide ((4096 : Int) < P) = false := decide_eq_false hbig
            clear c30 c31 c32 f30 f31 f32
            refine wp_seq_all (fun k => k == 3) (fun _ _ => .int .i64 (prodW s)) (fun _ _ _ => True) (by kernel_rfl) (by kernel_rfl) (fun _ _ _ _ _ _ => trivial) ?_
            repeat (first | (refine seq_skip (by rfl) ?_; simp only [Act.put, List.setIfInBounds_toArray, List.set_cons_zero, List.set_cons_succ, Nat.reduceAdd]) | (refine seq_pure (v := ?_) (by rfl) (by rfl) (fun W hW hC => ?_) ?_; rotate_left; (go_simp <;> with_reducible rfl); simp only [Act.put, List.setIfInBounds_toArray, List.set_cons_zero, List.set_cons_succ, Nat.reduceAdd]))
            refine seq_made (by rfl) (by rfl) (fun W hW hC hF R hR => ?_) (fun _ => ?_)
            · unfold Gives; go_simp; refine (product_calls _ _ _ _ (HS.out.kept (below_trans HB.out hW)) ls).mono ?_; rintro e w2 ⟨rfl, rfl⟩; exact ⟨_, rfl, hR {} _ (Below.refl _ _) trivial⟩
            simp only [Act.put, List.setIfInBounds_toArray, List.set_cons_zero, List.set_cons_succ, Nat.reduceAdd]
            repeat (first | (refine seq_skip (by rfl) ?_; simp only [Act.put, List.setIfInBounds_toArray, List.set_cons_zero, List.set_cons_succ, Nat.reduceAdd]) | (refine seq_pure (v := ?_) (by rfl) (by rfl) (fun W hW hC => ?_) ?_; rotate_left; (go_simp <;> with_reducible rfl); simp only [Act.put, List.setIfInBounds_toArray, List.set_cons_zero, List.set_cons_succ, Nat.reduceAdd]))
            refine seq_nil ?_
            intro W4 hW4 hF
            clear hF hwr hbb c1 c40 c41 c42
            obtain ⟨b1, b3, b4⟩ := HBB.out
            replace b1 := b1.kept hW4
            replace b3 := b3.kept hW4
            replace b4 := b4.kept hW4
            have hb4 := below_trans HB.out hW4
            have hW4s := hW4.size
            have c1 := b1.cell (i := 0) rfl
            have c40 := b4.cell (i := 0) rfl
            have c41 := b4.cell (i := 1) rfl
            have c42 := b4.cell (i := 2) rfl
            have HBB4 := Lib.hid (And.intro b1 (And.intro b3 b4))
            have HB4 := Lib.hid hb4
            clear b1 b3 b4 hb4 hW4
            obtain ⟨sN, rfl, hsN⟩ := nat_sizes HV.out.sizes
            have HSN := Lib.hid hsN
            clear hsN
            obtain ⟨on, rfl⟩ := Int.eq_ofNat_of_zero_le (show 0 ≤ o by have := HV.out.out1; omega)
            have fm := HV.out.most
            have fo := HV.out.out1
            have fo4 := HV.out.out4
            have hl4 : sN.length ≤ 4 := by have := HV.out.len4; rw [ints_length] at this; exact this
            have hl1 : 1 ≤ sN.length := by have := HV.out.len1; rw [ints_length] at this; exact this
            have hdat := data_nat HV.out
            have hsp : ∀ x ∈ sN, 0 < x := fun x hx => by have := HSN.out x hx; omega
            have hpp := pr_pos hsp
            have hdl : 1 ≤ d.length := by rw [hdat]; exact Nat.mul_pos hpp (by omega)
            have HDAT := Lib.hid hdat
            clear hdat
            obtain ⟨bd, off, hB⟩ : ∃ b off, B = some ⟨b, off, none⟩ := by
              obtain ⟨_, b, off, _, h, _⟩ := HD.out.at (i := 0) (by omega)
              exact ⟨b, off, h⟩
            subst hB
            go_wp2_with fail
            refine wp_seq_tail 8 (fun k => k == 3 || k == 7) (fun k x => if k = 3 then .slice x.A (ints sN).length x.k else .pointer (some ⟨x.i, 0, none⟩))
              (fun k x W => if k = 3 then Own W W4.heap.size (.slice x.A (ints sN).length x.k) (ints sN) else Blk W x.i [.slice none 0 0, .int .i64 0, .slice none 0 0] 24 ∧ W4.heap.size ≤ x.i)
              (by kernel_rfl) (by kernel_rfl) (by decide) (fun k x A B hb h => ?_) ?_
            · split at h
              · rw [if_pos (by assumption)]; exact h.kept hb
              · rw [if_neg (by assumption)]; exact ⟨h.1.kept hb, h.2⟩
            repeat (first | (refine seq_skip (by rfl) ?_; simp only [Act.put, List.setIfInBounds_toArray, List.set_cons_zero, List.set_cons_succ, Nat.reduceAdd]) | (refine seq_pure (v := ?_) (by rfl) (by rfl) (fun W hW hC => ?_) ?_; rotate_left; (go_simp <;> with_reducible rfl); simp only [Act.put, List.setIfInBounds_toArray, List.set_cons_zero, List.set_cons_succ, Nat.reduceAdd]))
            refine seq_made (by rfl) (by rfl) (fun W hW hC hF R hR => ?_) (fun x1 => ?_)
            · unfold Gives; go_simp
              refine (clone_calls A c (ints sN) W (HS.out.kept (below_trans HB4.out hW)) hA (by rw [ints_length]; omega)).mono ?_
              rintro r w6 ⟨v, rfl, ho, hb⟩
              obtain ⟨A6, c6, rfl, _⟩ := ho.cs
              exact ⟨_, rfl, hR {A := A6, k := c6} _ hb (ho.lower hW.size)⟩
            simp only [↓reduceIte]; simp only [Act.put, List.setIfInBounds_toArray, List.set_cons_zero, List.set_cons_succ, Nat.reduceAdd]
            repeat (first | (refine seq_skip (by rfl) ?_; simp only [Act.put, List.setIfInBounds_toArray, List.set_cons_zero, List.set_cons_succ, Nat.reduceAdd]) | (refine seq_pure (v := ?_) (by rfl) (by rfl) (fun W hW hC => ?_) ?_; rotate_left; (go_simp <;> with_reducible rfl); simp only [Act.put, List.setIfInBounds_toArray, List.set_cons_zero, List.set_cons_succ, Nat.reduceAdd]))
            refine seq_made (by rfl) (by rfl) (fun W hW hC hF R hR => ?_) (fun x2 => ?_)
            · unfold Gives; go_simp
              exact hR {i := W.heap.size} _ (below_alloc _) ⟨Blk.new _ _ _, hW.size⟩
            simp only [↓reduceIte, Nat.reduceEqDiff]; simp only [Act.put, List.setIfInBounds_toArray, List.set_cons_zero, List.set_cons_succ, Nat.reduceAdd]
            repeat (first | (refine seq_skip (by rfl) ?_; simp only [Act.put, List.setIfInBounds_toArray, List.set_cons_zero, List.set_cons_succ, Nat.reduceAdd]) | (refine seq_pure (v := ?_) (by rfl) (by rfl) (fun W hW hC => ?_) ?_; rotate_left; (go_simp <;> with_reducible rfl); simp only [Act.put, List.setIfInBounds_toArray, List.set_cons_zero, List.set_cons_succ, Nat.reduceAdd]))
            refine seq_nil ?_
            intro W5 hW5 hF
            have q1 := hF _ _ (List.mem_cons_of_mem _ (List.mem_cons_self ..))
            have q3 := hF _ _ (List.mem_cons_self ..)
            clear hF
            obtain ⟨A1, hA1⟩ : ∃ A, x1.A = A := ⟨_, rfl⟩
            obtain ⟨k1, hk1⟩ : ∃ k, x1.k = k := ⟨_, rfl⟩
            obtain ⟨gt, hgt⟩ : ∃ g, x2.i = g := ⟨_, rfl⟩
            rw [hA1, hk1] at q1 ⊢
            rw [hgt] at q3 ⊢
            clear hA1 hk1 hgt x1 x2
            have c50 := q3.1.cell (i := 0) rfl
            have c51 := q3.1.cell (i := 1) rfl
            have c52 := q3.1.cell (i := 2) rfl
            have f50 := q3.1.free 0
            have f51 := q3.1.free 1
            have f52 := q3.1.free 2
            obtain ⟨b1, b3, b4⟩ := HBB4.out
            have hlt4 := b4.lt
            have hgtl := q3.2
            have hgt3 : ∀ g, (Value.slice A1 (ints sN).length k1).ownBlock = some g → g ≠ gt := by
              rintro g hg rfl
              obtain ⟨_, hh⟩ := q1
              rcases hh with ⟨hh, _⟩ | ⟨g', cap, cur, hh, _, hh2, _⟩
              · rw [hh] at hg; simp [Value.ownBlock] at hg
              · rw [hh] at hg
                simp [Value.ownBlock] at hg
                subst hg
                have := q3.1
                unfold Blk at this
                rw [hh2] at this
                simp at this
            have r1 := (b1.kept hW5).other3 (b := gt) (by omega) (.slice A1 (ints sN).length k1) (.int .i64 cs.length) (.slice none 0 0)
            have r3 := (b3.kept hW5).other3 (b := gt) (by omega) (.slice A1 (ints sN).length k1) (.int .i64 cs.length) (.slice none 0 0)
            have r4 := (b4.kept hW5).other3 (b := gt) (by omega) (.slice A1 (ints sN).length k1) (.int .i64 cs.length) (.slice none 0 0)
            have r5 := q3.1.set3 (.slice A1 (ints sN).length k1) (.int .i64 cs.length) (.slice none 0 0)
            have o1 := q1.other3 (b := gt) hgt3 (.slice A1 (ints sN).length k1) (.int .i64 cs.length) (.slice none 0 0)
            have hb6 := below_set3 (b := gt) (below_trans HB4.out hW5) (by omega) (.slice A1 (ints sN).length k1) (.int .i64 cs.length) (.slice none 0 0)
            have hW5s := hW5.size
            have HX := Lib.hid (And.intro r1 (And.intro r3 (And.intro r4 (And.intro r5 (And.intro o1 hb6)))))
            clear r1 r3 r4 r5 o1 hb6 b1 b3 b4 q1 q3 hW5 HBB HB c1 c40 c41 c42
            go_upto_region 16 with fail
            refine wp_named ?_
            intro w6 hw6
            rw [← hw6] at HX
            have hw6s : w6.heap.size = W5.heap.size := by rw [hw6]; simp
            clear hw6 c50 c51 c52 f50 f51 f52
            have c40 := HX.out.2.2.1.cell (i := 0) rfl
            have c41 := HX.out.2.2.1.cell (i := 1) rfl
            have c42 := HX.out.2.2.1.cell (i := 2) rfl
            go_wp2_with fail
            clear c40 c41 c42
            refine wp_frame ?_
            intro T hT
            obtain ⟨r1, r3, r4, r5, o1, hb6⟩ := HX.out
            have hit := indices_iter A (some ⟨bd, off, none⟩) c e d.length sN on w HS.out hl1 hl4 HSN.out
            rw [← ints_length sN] at hit
            have lr1 := r1.lt
            have lr3 := r3.lt
            have lr4 := r4.lt
            have lr5 := r5.lt
            have lgs := fun g hg => (o1.block_ge g hg).2
            have hIoff := fun (xs : List Int) A' B' (h : PickJ w (w.heap.size + 1) (w.heap.size + 1 + 1) w2.heap.size gt W4.heap.size (w6.heap.size + 2 + 3) (.slice I cs.length ci) (.slice A1 (ints sN).length k1) [.slice A (ints sN).length c, .int .i64 on, .slice (some ⟨bd, off, none⟩) d.length e] cs.length (ints sN) xs A') (hz : OffZ w6.heap.size (w6.heap.size + 2 + 3) A' B') => h.offZ hz lr1 lr3 lr4 lr5 lgs hb6.size
            refine wp_range (c := 3) (by rw [hT]; rfl) (fun _ _ => rfl) hit hb6 ?_
              (fun n W => PickJ w (w.heap.size + 1) (w.heap.size + 1 + 1) w2.heap.size gt W4.heap.size (w6.heap.size + 2 + 3) (.slice I cs.length ci) (.slice A1 (ints sN).length k1) [.slice A (ints sN).length c, .int .i64 on, .slice (some ⟨bd, off, none⟩) d.length e] cs.length (ints sN) (gathered (pickD d on cs) n) W)
              (fun n => hIoff _) ⟨r1, r3, r4, ⟨none, 0, r5, Own.nil _ _⟩, o1, hb6⟩
              (fun k x a' AW => ∃ b8, w6.heap.size + 2 + 3 ≤ b8 ∧ a' = { tmps := (T.setIfInBounds 67 (posN (dg sN k))).setIfInBounds 11 (.pointer (some ⟨b8, 0, none⟩)), defers := [] } ∧ Blk AW b8 ((pad4 (dg sN k)).map (Value.int .i64)) 69 ∧
                PickJ w (w.heap.size + 1) (w.heap.size + 1 + 1) w2.heap.size gt W4.heap.size (w6.heap.size + 2 + 3) (.slice I cs.length ci) (.slice A1 (ints sN).length k1) [.slice A (ints sN).length c, .int .i64 on, .slice (some ⟨bd, off, none⟩) d.length e] cs.length (ints sN) (gathered (pickD d on cs) k) AW) ?_ ?_ ?_ ?_
            · intro k x hx
              rw [(allPos_some hx).2]; rfl
            · rintro k x a' AW BW ⟨b8, hb8, rfl, hq, hi⟩ hz
              exact ⟨b8, hb8, rfl, hq.offZ hz (.inr hb8), hIoff _ _ _ hi hz⟩
            · intro l n k x AW hx hI hsz K hK
              obtain ⟨hk, rfl⟩ := allPos_some hx
              have hK' := fun b8 h1 h2 h3 h4 h5 => hK { tmps := (T.setIfInBounds 67 (posN (dg sN k))).setIfInBounds 11 (.pointer (some ⟨b8, 0, none⟩)), defers := [] } (AW.alloc (.cells ((pad4 (dg sN k)).map (Value.int .i64)).toArray 69)) h1 ⟨b8, h2, h3, h4, h5⟩
              have HK := Lib.hid hK'
              have HIO := Lib.hid hIoff
              clear hK hK' hIoff
              rw [fold_one]
              subst hT
              unfold posN
              simp only [List.setIfInBounds_toArray, List.set_cons_succ, List.set_cons_zero]
              gi_wp2
              exact HK.out AW.heap.size (KeepZ.alloc _ (by omega)) (by omega) trivial (Blk.new _ _ _) (HIO.out _ _ _ hI (OffZ.alloc _))
            · intro l n k x a' AW hx hA' hsz
              obtain ⟨b8, hb8, rfl, hq, hi⟩ := hA'
              obtain ⟨hk, rfl⟩ := allPos_some hx
              subst hT
              unfold posN
              simp only [List.setIfInBounds_toArray, List.set_cons_succ, List.set_cons_zero]
              have hPl := place_dg HV.out hsp hk
              have c40 := hi.tb.cell (i := 0) rfl
              have c41 := hi.tb.cell (i := 1) rfl
              have c42 := hi.tb.cell (i := 2) rfl
              have p0 := hq.cell (i := 0) rfl
              have p1 := hq.cell (i := 1) rfl
              have p2 := hq.cell (i := 2) rfl
              have p3 := hq.cell (i := 3) rfl
              have HPI := Lib.hid (And.intro hi hPl)
              clear hi hPl hq r1 r3 r4 r5 o1 hb6 hit hx
              gi_wp2_with fail
              refine ⟨trivial, fun hd => by simp [Fence.wide] at hd, CallsIn.inRound l (callsIn_wide.2 ((values_calls A bd off c e (ints sN) d on _ _ _ _ (k * on) AW (HS.out.kept HPI.out.1.below) (by rw [ints_length]; exact hl4) HPI.out.2.1 HPI.out.2.2 ld le (by omega)).mono ?_))⟩
              rintro r W7 ⟨rfl, hb7⟩
              dsimp only
              obtain ⟨hi, hPl⟩ := HPI.out
              have hi7 := hi.kept hb7
              have hs7 := hb7.size
              have hkz7 : KeepZ w6.heap.size (w6.heap.size + 2 + 3) AW W7 := KeepZ.of_below hb7 hsz
              have c1 := hi7.i.cell (i := 0) rfl
              have HI7 := Lib.hid (And.intro hi7 hkz7)
              clear hi hPl hi7 hkz7 hb7 c40 c41 c42 p0 p1 p2 p3
              gi_wp2_with fail
              gi_loopw [73] (fun i wr => ∃ j : Nat, j ≤ cs.length ∧ i = .int .i64 j ∧ PickJ w (w.heap.size + 1) (w.heap.size + 1 + 1) w2.heap.size gt W4.heap.size (w6.heap.size + 2 + 3) (.slice I cs.length ci) (.slice A1 (ints sN).length k1) [.slice A (ints sN).length c, .int .i64 on, .slice (some ⟨bd, off, none⟩) d.length e] cs.length (ints sN) (gathered (pickD d on cs) k ++ (cs.take j).map (fun c => (rowAt d on k).getD c.toNat 0)) wr ∧ KeepZ w6.heap.size (w6.heap.size + 2 + 3) AW wr ∧ AW.heap.size ≤ wr.heap.size) (fun i _ => cs.length - (intOf i).toNat)
              case atStart => exact ⟨0, Nat.zero_le _, rfl, by simpa using HI7.out.1, HI7.out.2, hs7⟩
              case round =>
                obtain ⟨j, hj, rfl, hpj, hkz, hsr⟩ := hrel
                clear c1
                obtain ⟨xs, hxs⟩ : ∃ xs, gathered (pickD d on cs) k ++ (cs.take j).map (fun c => (rowAt d on k).getD c.toNat 0) = xs := ⟨_, rfl⟩
                rw [hxs] at hpj
                have HXS := Lib.hid hxs
                clear hxs
                by_cases hlt : j < cs.length
                · obtain ⟨x, bb, oo, hx, rfl, hcx⟩ := HI.out.at hlt
                  have hxin : 0 ≤ x ∧ x < on := by
                    have h := HCF.out
                    unfold colsB at h
                    have := List.all_eq_true.1 h x (List.mem_of_getElem? hx)
                    simpa using this
                  obtain ⟨xn, rfl⟩ := Int.eq_ofNat_of_zero_le hxin.1
                  have hxn : xn < on := by omega
                  have hrl : (rowAt d on k).length = on := rowAt_length hk HDAT.out
                  obtain ⟨y, bv, ov, hy, hve, hcy⟩ := ((HD.out.kept hpj.below).sub (k * on) on : Cs wr .i64 _ (rowAt d on k)).at (i := xn) (by show xn < (rowAt d on k).length; rw [hrl]; exact hxn)
                  cases hve
                  replace hcx := kept hpj.below hcx
                  obtain ⟨Av, kv, e1, e2⟩ := hpj.out
                  have c52 := e1.cell (i := 2) rfl
                  have hxi : (xn : Int) < on := by omega
                  have HPJ := Lib.hid (And.intro hpj (And.intro hkz (And.intro e1 e2)))
                  have HXY := Lib.hid (And.intro hx hy)
                  clear hpj hkz e1 e2 hx hy hrl hxin
                  gi_wp2_with fail
                  refine wpIn_seq_tail 7 (fun k => k == 6) (fun _ x => .slice (some ⟨x.i, 0, none⟩) 1 1) (fun _ x W => Blk W x.i [.int .i64 y] 3) (by kernel_rfl) (by kernel_rfl) (by kernel_rfl) (by decide) ?_ (fun _ _ _ _ hb h => h.kept hb) ?_
                  · rintro ⟨_, _, h⟩; exact absurd (And.left (a := Exit.outgrown = Exit.normal) h) (by simp)
                  repeat (first | (refine seq_skip (by rfl) ?_; simp only [Act.put, List.setIfInBounds_toArray, List.set_cons_zero, List.set_cons_succ, Nat.reduceAdd]) | (refine seq_pure (v := ?_) (by rfl) (by rfl) (fun W hW hC => ?_) ?_; rotate_left; (go_simp <;> with_reducible rfl); simp only [Act.put, List.setIfInBounds_toArray, List.set_cons_zero, List.set_cons_succ, Nat.reduceAdd]))
                  refine seq_made (by rfl) (by rfl) (fun W' hW' hC hF R hR => ?_) (fun x1 => ?_)
                  · unfold Gives; go_simp; exact hR {i := W'.heap.size} _ (below_alloc _) (Blk.new _ _ _)
                  simp only [Act.put, List.setIfInBounds_toArray, List.set_cons_zero, List.set_cons_succ, Nat.reduceAdd]
                  refine seq_nil ?_
                  intro W8 hW8 hF
                  have hbl := hF _ _ (List.mem_cons_self ..)
                  clear hF
                  obtain ⟨gl, hgl⟩ : ∃ g, x1.i = g := ⟨_, rfl⟩
                  rw [hgl] at hbl ⊢
                  clear hgl x1
                  obtain ⟨hpj, hkz, e1, e2⟩ := HPJ.out
                  obtain ⟨hx, hy⟩ := HXY.out
                  have hs8 := hW8.size
                  replace hpj := hpj.kept hW8
                  replace hkz := hkz.trans (KeepZ.of_below hW8 (by omega))
                  replace e1 := e1.kept hW8
                  replace e2 := e2.kept hW8
                  clear c52 hcx hcy hW8 HPJ
                  have hcs1 : Cs W8 .i64 (some ⟨gl, 0, none⟩) [y] := by
                    intro q z hz
                    cases q with
                    | zero => simp at hz; subst hz; exact ⟨gl, 0, rfl, hbl.cell (i := 0) rfl⟩
                    | succ q => simp at hz
                  have hglen : xs.length ≤ 32768 := by
                    rw [← HXS.out, List.length_append, gathered_length (o := cs.length) (fun _ _ => by simp [pickD])]
                    have h1 := HP.out
                    rw [prodI_ints, ← Int.natCast_mul] at h1
                    have h2 : k * cs.length ≤ pr sN * cs.length := Nat.mul_le_mul_right _ (Nat.le_of_lt hk)
                    have h3 := HL.out
                    have h4 : ((cs.take j).map (fun c => (rowAt d on k).getD c.toNat 0)).length ≤ 4 := by simp; omega
                    omega
                  refine append_ints (by rfl) (.tmp 78) (.tmp 83) rfl (w6.heap.size + 2 + 3) (.slice Av xs.length kv) xs rfl e2 (some ⟨gl, 0, none⟩) 1 [y] rfl hcs1 (fun h => by cases h) (by simp only [List.length_singleton]; omega) (by omega) ?_
                  intro v' W9 how hgr
                  obtain ⟨Av', kv', rfl, _⟩ := how.cs
                  have hs9 := hgr.size
                  have hblk : ∀ g, (Value.slice Av xs.length kv).ownBlock = some g → w6.heap.size + 2 + 3 ≤ g := fun g hg => (e2.block_ge g hg).1
                  have hzz : OffZ (w6.heap.size + 2 + 3) W9.heap.size W8 W9 := ⟨hgr.os, hgr.tape, hgr.output, hgr.size, fun b hb hz => hgr.block b hb (fun e => by
                    have := hblk b e.symm
                    omega)⟩
                  replace hkz := hkz.trans (KeepZ.grown hgr (by omega) (fun b hb => .inr (hblk b hb)))
                  have i1 := hpj.i.offZ hzz (.inl (by omega))
                  have i2 := hpj.r.offZ hzz (.inl (by omega))
                  have i3 := hpj.tb.offZ hzz (.inl (by omega))
                  have i4 := e1.offZ hzz (.inl (by omega))
                  have i5 := hpj.sz.offZ hzz (fun g hg => .inl (by have := lgs g hg; omega))
                  have i6 := Below.offZ hpj.below (Nat.le_refl _) hzz (by omega)
                  have hxe : xs ++ [y] = gathered (pickD d on cs) k ++ (cs.take (j + 1)).map (fun c => (rowAt d on k).getD c.toNat 0) := by
                    have hy' : (rowAt d on k).getD (xn : Int).toNat 0 = y := by
                      rw [Int.toNat_natCast, List.getD_eq_getElem?_getD, show (rowAt d on k)[xn]? = some y from hy]; rfl
                    rw [take_at hx, List.map_append, ← List.append_assoc, HXS.out]
                    simp only [List.map_cons, List.map_nil, hy']
                  obtain ⟨ys, hys⟩ : ∃ ys, xs ++ [y] = ys := ⟨_, rfl⟩
                  rw [hys] at how hxe ⊢
                  have c52 := i4.cell (i := 2) rfl
                  have f52 := i4.free 2
                  have HF := Lib.hid (And.intro i1 (And.intro i2 (And.intro i3 (And.intro i4 (And.intro i5 (And.intro i6 (And.intro how (And.intro hkz hxe))))))))
                  clear i1 i2 i3 i4 i5 i6 how hkz hys hxe hgr hzz hblk hpj e1 e2 hx hy hcs1 hbl hglen
                  go_wp2_with fail
                  gi_wp2_with fail
                  go_roundw
                  case rel =>
                    obtain ⟨i1, i2, i3, i4, i5, i6, how, hkz, hxe⟩ := HF.out
                    have hgd' := fun g hg => (how.block_ge g hg).1
                    have m1 : w.heap.size + 1 ≠ gt := by omega
                    have m2 : w.heap.size + 1 + 1 ≠ gt := by omega
                    have m3 : w2.heap.size ≠ gt := by omega
                    have m4 : ∀ g, (Value.slice A1 (ints sN).length k1).ownBlock = some g → g ≠ gt := hgt3
                    have m5 : ∀ g, (Value.slice Av' ys.length kv').ownBlock = some g → g ≠ gt := fun g hg => by have := hgd' g hg; omega
                    have m6 : w.heap.size ≤ gt := by omega
                    have hz1 := hkz.trans (KeepZ.setCell W9 (p := ⟨gt, 2, none⟩) (.inl lr5) (.slice Av' ys.length kv'))
                    refine ⟨j + 1, by omega, by go_num, ?_, hz1, by simp only [World.size_setCell]; omega⟩
                    rw [← hxe]
                    exact ⟨i1.other m1 _, i2.other m2 _, i3.other m3 _, ⟨Av', kv', i4.set 2 _, how.other m5 _⟩, i5.other m4 _, i6.setCell m6 _⟩
                  case measure => simp [intOf]; omega
                · have hje : j = cs.length := by omega
                  subst hje
                  have HPJ := Lib.hid (And.intro hpj hkz)
                  clear hpj hkz
                  gi_wp2_with fail
                  rw [← hw6s]
                  refine ⟨HPJ.out.2, ?_⟩
                  have h := HPJ.out.1
                  rw [← HXS.out, List.take_of_length_le (Nat.le_refl _)] at h
                  exact h
            · intro W9 hI hK9
              rw [allPos_length] at hI
              obtain ⟨Av, kv, e1, e2⟩ := hI.out
              have c50 := e1.cell (i := 0) rfl
              have c51 := e1.cell (i := 1) rfl
              have c52 := e1.cell (i := 2) rfl
              have c60 := hI.r.cell (i := 0) rfl
              have c61 := hI.r.cell (i := 1) rfl
              have c62 := hI.r.cell (i := 2) rfl
              have f60 := hI.r.free 0
              have f61 := hI.r.free 1
              have f62 := hI.r.free 2
              have hrow1 := hI.sz.cs
              obtain ⟨A7, k7, hv7, _, _, _, _⟩ := hrow1
              have HE := Lib.hid (And.intro hI (And.intro hK9 (And.intro e1 e2)))
              clear hI hK9 r1 r3 r4 r5 o1 hb6 hit hIoff e1 e2 hv7
              subst hT
              go_wp2_with fail
              obtain ⟨hI, hK9, e1, e2⟩ := HE.out
              have hgsw := fun g hg => (hI.sz.block_ge g hg).1
              have hgdw := fun g hg => (e2.block_ge g hg).1
              have hR : pickR (ints sN) on d cs = (ints sN, (cs.length : Int), gathered (pickD d on cs) (pr sN), 0) := by
                unfold pickR
                rw [if_neg (by rw [HC.out]; simp), if_neg HL'.out, if_neg (by rw [HCF.out]; simp), HP.out, if_neg (by omega), prodI_ints]; simp
              have hlt9 : w6.heap.size < W9.heap.size := (Array.getElem?_eq_some_iff.1 hK9).1
              refine leaves_mark (r := w6.heap.size) ?_ fun W10 hW10 => ?_
              · rw [Below.heap_setCell _ _ _ _ (by dsimp only; omega), Below.heap_setCell _ _ _ _ (by dsimp only; omega), Below.heap_setCell _ _ _ _ (by dsimp only; omega)]; exact hK9
              have hz := (hI.r.set3 (.slice A1 (ints sN).length k1) (.int .i64 cs.length) (.slice Av (gathered (pickD d on cs) (pr sN)).length kv)).offZ hW10 (.inl (by omega))
              have d0 := hz.cell (i := 0) rfl
              have d1 := hz.cell (i := 1) rfl
              have d2 := hz.cell (i := 2) rfl
              have n1 : ∀ g, (Value.slice A1 (ints sN).length k1).ownBlock = some g → g ≠ w.heap.size + 1 + 1 := fun g hg => by have := hgsw g hg; omega
              have n2 : ∀ g, (Value.slice Av (gathered (pickD d on cs) (pr sN)).length kv).ownBlock = some g → g ≠ w.heap.size + 1 + 1 := fun g hg => by have := hgdw g hg; omega
              refine ⟨.tuple #[.agg #[.slice A1 (ints sN).length k1, .int .i64 cs.length, .slice Av (gathered (pickD d on cs) (pr sN)).length kv], .int .i64 0], by simp [results, Try.results21, go_sem, d0, d1, d2], _, _, by rw [hR], ?_, ?_, ?_⟩
              · rw [hR]; exact ((hI.sz.other3 n1 _ _ _).offZ hW10 (fun g hg => .inl (lgs g hg))).lower (by omega)
              · rw [hR]; exact ((e2.other3 n2 _ _ _).offZ hW10 (fun g hg => .inr (by have := hgdw g hg; omega))).lower (by omega)
              · exact Below.offZ (below_set3 hI.below (by omega) _ _ _) (Nat.le_refl _) hW10 (by omega)
  · have hc100 : checkN s o d = 100 := (checkN_or s o d).resolve_left hc
    have HR := Lib.hid (show pickR s o d cs = ([], 0, [], 100) by unfold pickR; rw [if_pos hc])
    rw [hc100]
    clear hc hc100
    go_wp2_with fail
    have hz := HBB.out.2.2.set3 (.slice none 0 0) (.int .i64 0) (.slice none 0 0)
    have d0 := hz.cell (i := 0) rfl
    have d1 := hz.cell (i := 1) rfl
    have d2 := hz.cell (i := 2) rfl
    exact leaves_ret (.tuple #[.agg #[.slice none 0 0, .int .i64 0, .slice none 0 0], .int .i64 100]) (by simp [results, Try.results21, go_sem, d0, d1, d2]) (FIN.out _ HR.out _ (below_set3 HB.out (by omega) _ _ _))
end Go.Proofs.Ytkkohelbidmkdaa
