/-
  The law GridTurns, walked.
-/
import Derived.Test.YtkkohelbidmkdaaGSpare
namespace Go.Proofs.Ytkkohelbidmkdaa
set_option linter.unusedVariables false
set_option linter.unusedSimpArgs false
open Go Go.RowKit

/-- One of three pairs. -/
theorem index_pairs (a0 b0 a1 b1 a2 b2 : Int) {k : Nat} (hk : k < 3) :
    ∃ a b : Int, ∀ w, (Instr.index 46 (.agg #[.int .i64 a0, .int .i64 b0, .int .i64 a1, .int .i64 b1, .int .i64 a2, .int .i64 b2]) (.int .i64 (k : Int))).run Try.prog w = .ok (.agg #[.int .i64 a, .int .i64 b]) w := by
  have hcase : k = 0 ∨ k = 1 ∨ k = 2 := by omega
  rcases hcase with rfl | rfl | rfl
  · exact ⟨a0, b0, fun w => by kernel_rfl⟩
  · exact ⟨a1, b1, fun w => by kernel_rfl⟩
  · exact ⟨a2, b2, fun w => by kernel_rfl⟩

/-- One of four rows. -/
theorem index_rows (l0 l1 l2 l3 : Value) {k : Nat} (hk : k < 4) {p : Value → Prop} (h0 : p l0) (h1 : p l1) (h2 : p l2) (h3 : p l3) :
    ∃ v, p v ∧ ∀ w, (Instr.index 50 (.agg #[l0, l1, l2, l3]) (.int .i64 (k : Int))).run Try.prog w = .ok v w := by
  have hcase : k = 0 ∨ k = 1 ∨ k = 2 ∨ k = 3 := by omega
  rcases hcase with rfl | rfl | rfl | rfl
  · exact ⟨l0, h0, fun w => by kernel_rfl⟩
  · exact ⟨l1, h1, fun w => by kernel_rfl⟩
  · exact ⟨l2, h2, fun w => by kernel_rfl⟩
  · exact ⟨l3, h3, fun w => by kernel_rfl⟩

/-- What Swap and Pick answer, by the plain results p. -/
def TurnRes (p : List Int × Int × List Int × Int) (w : World) (r : Ending) (w' : World) : Prop :=
  ∃ A1 k1 B1 k2, r = .returned (.tuple #[.agg #[.slice A1 p.1.length k1, .int .i64 p.2.1, .slice B1 p.2.2.1.length k2], .int .i64 p.2.2.2]) ∧ Own w' w.heap.size (.slice A1 p.1.length k1) p.1 ∧ Own w' w.heap.size (.slice B1 p.2.2.1.length k2) p.2.2.1 ∧ Below w.heap.size w w'
theorem turn_res {p : List Int × Int × List Int × Int} {w : World} {r : Ending} {w' : World} (h : ∃ v1 v2, r = .returned (.tuple #[.agg #[v1, .int .i64 p.2.1, v2], .int .i64 p.2.2.2]) ∧ Own w' w.heap.size v1 p.1 ∧ Own w' w.heap.size v2 p.2.2.1 ∧ Below w.heap.size w w') : TurnRes p w r w' := by
  obtain ⟨v1, v2, rfl, h1, h2, hb⟩ := h
  obtain ⟨A1, k1, rfl, _⟩ := h1.cs
  obtain ⟨B1, k2, rfl, _⟩ := h2.cs
  exact ⟨A1, k1, B1, k2, rfl, h1, h2, hb⟩
section
variable {w : World} {v : Value} {A : Option Addr} {c : Nat} {s : List Int} {o : Int} {B : Option Addr} {e : Nat} {d : List Int}
theorem swap_turn (h : GridV w v A c s o B e d) (a b : Int) : Calls Try.prog 18 #[.agg #[.slice A s.length c, .int .i64 o, .slice B d.length e], .int .i64 a, .int .i64 b] w fun r w' => TurnRes (swapR s o d a b) w r w' :=
  (swap_calls A B c e s d o a b w h.cs h.cd (by have := h.ls; have := h.lc; omega) h.hA h.ld h.le).mono fun _ _ h => turn_res h
theorem refSwap_turn (h : GridV w v A c s o B e d) (a b : Int) : Calls Try.prog 19 #[.agg #[.slice A s.length c, .int .i64 o, .slice B d.length e], .int .i64 a, .int .i64 b] w fun r w' => TurnRes (swapR s o d a b) w r w' :=
  (refSwap_calls A B c e s d o a b w h.cs h.cd (by have := h.ls; have := h.lc; omega) h.ld h.le).mono fun _ _ h => turn_res h
theorem pick_turn (h : GridV w v A c s o B e d) {I : Option Addr} {ci : Nat} {cs : List Int} (hi : Cs w .i64 I cs) (li : cs.length ≤ 4096) : Calls Try.prog 21 #[.agg #[.slice A s.length c, .int .i64 o, .slice B d.length e], .slice I cs.length ci] w fun r w' => TurnRes (pickR s o d cs) w r w' :=
  (pick_calls A B I c e ci s d cs o w h.cs h.cd hi (by have := h.ls; have := h.lc; omega) h.hA h.ld h.le (by omega)).mono fun _ _ h => turn_res h
theorem refPick_turn (h : GridV w v A c s o B e d) {I : Option Addr} {ci : Nat} {cs : List Int} (hi : Cs w .i64 I cs) (li : cs.length ≤ 4096) : Calls Try.prog 22 #[.agg #[.slice A s.length c, .int .i64 o, .slice B d.length e], .slice I cs.length ci] w fun r w' => TurnRes (pickR s o d cs) w r w' :=
  (refPick_calls A B I c e ci s d cs o w h.cs h.cd hi (by have := h.ls; have := h.lc; omega) h.ld h.le (by omega)).mono fun _ _ h => turn_res h
end
theorem refSame_same {w : World} {b1 b2 : Nat} {A : Option Addr} {c : Nat} {B : Option Addr} {e : Nat} {A' : Option Addr} {c' : Nat} {B' : Option Addr} {e' : Nat} {s d : List Int} {o : Int} (h1 : Own w b1 (.slice A s.length c) s) (h2 : Own w b1 (.slice B d.length e) d) (h3 : Own w b2 (.slice A' s.length c') s) (h4 : Own w b2 (.slice B' d.length e') d) :
    Calls Try.prog 20 #[.agg #[.slice A s.length c, .int .i64 o, .slice B d.length e], .agg #[.slice A' s.length c', .int .i64 o, .slice B' d.length e']] w fun r w' => r = .returned (.bool true) ∧ Below w.heap.size w w' := by
  obtain ⟨_, l1, l2, _, k1⟩ := h1.length
  obtain ⟨_, l3, l4, _, k2⟩ := h2.length
  refine (refSame_calls A B A' B' c e c' e' s d s d o o w k1 k2 h3.length.2.2.2.2 h4.length.2.2.2.2 (by omega) (by omega) (by omega) (by omega)).mono ?_
  rintro r w' ⟨rfl, hb⟩
  exact ⟨by simp, hb⟩

set_option maxRecDepth 100000 in
set_option maxHeartbeats 6400000 in
theorem gridTurns_calls (v1 v2 : Value) (ro : Int) (d : Value) (x a n x' a' n' : Int) (t0 t1 : Int) (I : Option Addr) (ci : Nat) (ixs : List Int) (s0 s1 s2 s3 : Int) (w : World) (hr : IsGrid w (.agg #[v1, .int .i64 ro, v2])) (hd : DraftV w d) (hx0 : 0 ≤ x) (hx1 : x ≤ 255) (ha0 : 0 ≤ a) (ha1 : a ≤ 255) (hx0' : 0 ≤ x') (hx1' : x' ≤ 255) (ha0' : 0 ≤ a') (ha1' : a' ≤ 255)
    (hi : Cs w .i64 I ixs) (li : ixs.length ≤ ci) (lc : ci ≤ 9223372036854775807) (hI : I = none → ci = 0) (hs0 : 0 ≤ s0 ∧ s0 ≤ 255) (hs1 : 0 ≤ s1 ∧ s1 ≤ 255) (hs2 : 0 ≤ s2 ∧ s2 ≤ 255) (hs3 : 0 ≤ s3 ∧ s3 ≤ 255) :
    Calls Try.prog 4 #[.agg #[v1, .int .i64 ro, v2], d, .agg #[.int .u8 x, .int .u8 a, .int .i64 n, .int .u8 x', .int .u8 a', .int .i64 n'], .agg #[.int .i64 t0, .int .i64 t1], .slice I ixs.length ci, .agg #[.int .u8 s0, .int .u8 s1, .int .u8 s2, .int .u8 s3]] w fun r w' => r = .returned (.bool true) ∧ Below w.heap.size w w' := by
  obtain ⟨RA, rn, rc, RB, rm, re, rfl, rfl⟩ := hr.shape
  have HD := Lib.hid hd
  obtain ⟨S, cs, ss, du, V, cv, vs, sm, rfl, -⟩ := hd.is
  have HR := Lib.hid hr
  have HI := Lib.hid (And.intro hi hI)
  have HSS := Lib.hid (And.intro hs0 (And.intro hs1 (And.intro hs2 hs3)))
  clear hd hr hi hI hs0 hs1 hs2 hs3
  obtain ⟨mi, hmi⟩ : ∃ m, min ixs.length 6 = m := ⟨_, rfl⟩
  have hmi1 : (if (6 : Int) < (ixs.length : Int) then (6 : Int) else (ixs.length : Int)) = (mi : Int) := by omega
  have hmc : mi ≤ ci := by omega
  have hm6 : mi ≤ 6 := by omega
  have HL := Lib.hid (show (ixs.take mi).length = mi by rw [List.length_take]; omega)
  clear hmi
  go_enter Try.func4, Try.ntmps4
  go_wp2_with fail
  refine calls_named ?_
  intro w1 hw1
  have p0 : Blk w1 w.heap.size [.slice RA rn rc, .int .i64 ro, .slice RB rm re] 24 := by rw [hw1]; exact ((((Blk.new _ _ _).alloc _).alloc _).alloc _).alloc _
  have p1 : Blk w1 (w.heap.size + 1) [.slice S ss.length cs, .int .u8 du, .slice V vs.length cv, .bool sm] 28 := by rw [hw1]; exact (((Blk.at (by simp)).alloc _).alloc _).alloc _
  have p2 : Blk w1 (w.heap.size + 1 + 1) [.int .u8 x, .int .u8 a, .int .i64 n, .int .u8 x', .int .u8 a', .int .i64 n'] 31 := by rw [hw1]; exact ((Blk.at (by simp)).alloc _).alloc _
  have p3 : Blk w1 (w.heap.size + 1 + 1 + 1) [.int .i64 t0, .int .i64 t1] 45 := by rw [hw1]; exact (Blk.at (by simp)).alloc _
  have p4 : Blk w1 (w.heap.size + 1 + 1 + 1 + 1) [.int .u8 s0, .int .u8 s1, .int .u8 s2, .int .u8 s3] 32 := by rw [hw1]; exact Blk.at (by simp)
  have hb1 : Below w.heap.size w w1 := by rw [hw1]; repeat (first | exact below_alloc _ | refine below_trans ?_ (below_alloc _))
  clear hw1
  refine (wakes_calls w1).mono ?_
  rintro r w2 ⟨rfl, hb2⟩
  replace p0 := p0.kept hb2
  replace p1 := p1.kept hb2
  replace p2 := p2.kept hb2
  replace p3 := p3.kept hb2
  replace p4 := p4.kept hb2
  have hb12 := below_trans hb1 hb2
  have c0 := p0.cell (i := 0) rfl
  have c1 := p0.cell (i := 1) rfl
  have c2 := p0.cell (i := 2) rfl
  have c3 := p1.cell (i := 0) rfl
  have c4 := p1.cell (i := 1) rfl
  have c5 := p1.cell (i := 2) rfl
  have c6 := p1.cell (i := 3) rfl
  have c7 := p2.cell (i := 0) rfl
  have c8 := p2.cell (i := 1) rfl
  have c9 := p2.cell (i := 2) rfl
  have c10 := p2.cell (i := 3) rfl
  have c11 := p2.cell (i := 4) rfl
  have c12 := p2.cell (i := 5) rfl
  have HB := Lib.hid (And.intro hb12 (And.intro p3 p4))
  clear p0 p1 p2 p3 p4 hb1 hb2 hb12
  go_wp2_with fail
  refine (four_calls _ _ _ _ _ _ _ _ _ _ _ (HR.out.kept HB.out.1) (HD.out.kept HB.out.1) hx0 hx1 ha0 ha1 hx0' hx1' ha0' ha1').mono ?_
  rintro r w3 ⟨a0, o0, b0, a1, o1, b1, a2, o2, b2, a3, o3, b3, rfl, g0, g1, g2, g3, hb3⟩
  have HG := Lib.hid (And.intro (And.intro g0 (And.intro g1 (And.intro g2 g3))) (And.intro (HB.out.2.1.kept hb3) (And.intro (HB.out.2.2.kept hb3) (below_trans HB.out.1 hb3))))
  clear c0 c1 c2 c3 c4 c5 c6 c7 c8 c9 c10 c11 c12 g0 g1 g2 g3 hb3 HB hmi1 hx0 hx1 ha0 ha1 hx0' hx1' ha0' ha1' lc HR HD
  go_wp2_with fail
  go_loopw [41] (fun i wr => ∃ k, k ≤ 4 ∧ i = .int .i64 (k : Nat) ∧ Below w3.heap.size w3 wr) (fun i _ => 4 - (intOf i).toNat)
  case atStart => exact ⟨0, Nat.zero_le _, rfl, Below.refl _ _⟩
  case round =>
    obtain ⟨k, hk, rfl, hbr⟩ := hrel
    by_cases hlt : k < 4
    · have hkb : decide ((k : Int) < 4) = true := decide_eq_true (by omega)
      obtain ⟨A, c, s, o, B, e, dd, hgv, hix⟩ := index_four a0 b0 a1 b1 a2 b2 a3 b3 o0 o1 o2 o3 (HG.out.1.1.kept hbr) (HG.out.1.2.1.kept hbr) (HG.out.1.2.2.1.kept hbr) (HG.out.1.2.2.2.kept hbr) hlt
      have HV := Lib.hid hgv
      have HBR := Lib.hid hbr
      clear hgv hbr
      go_upto_region 7 with fail
      refine wp_named ?_
      intro w4 hw4
      have b14 : Blk w4 wr.heap.size [.slice A s.length c, .int .i64 o, .slice B dd.length e] 24 := by rw [hw4]; exact Blk.at rfl
      have hb4 : Below wr.heap.size wr w4 := by rw [hw4]; repeat (first | exact below_alloc _ | refine below_trans ?_ (below_alloc _))
      clear hw4 hix hkb
      have hb34 := below_trans HBR.out hb4
      have HC := Lib.hid (And.intro b14 (And.intro (HV.out.kept hb4) (And.intro (HG.out.2.1.kept hb34) (And.intro (HG.out.2.2.1.kept hb34) (And.intro hb4 (below_trans HG.out.2.2.2 hb34))))))
      clear b14 hb4 hb34 HV
      have c0 := HC.out.1.cell (i := 0) rfl
      have c1 := HC.out.1.cell (i := 1) rfl
      obtain ⟨nn, hnn⟩ : ∃ q : Int, (if (s.length : Int) < 1 then 1 else (s.length : Int)) = q := ⟨_, rfl⟩
      obtain ⟨om, hom⟩ : ∃ q : Int, (if o < 1 then 1 else o) = q := ⟨_, rfl⟩
      obtain ⟨mm, hmm⟩ : ∃ q : Int, (if 8 < om then 8 else om) = q := ⟨_, rfl⟩
      have hnn0 : ¬ nn = 0 := by omega
      have hmm0 : ¬ mm = 0 := by omega
      refine wp_seq_all (fun _ => false) (fun _ _ => undef) (fun _ _ _ => True) (by kernel_rfl) (by kernel_rfl) (fun k x A B hb h => h) ?_
      repeat (first | (refine seq_skip (by rfl) ?_; simp only [Act.put, List.setIfInBounds_toArray, List.set_cons_zero, List.set_cons_succ, Nat.reduceAdd]) | (refine seq_pure (v := ?_) (by rfl) (by rfl) (fun W hW hC => ?_) ?_; rotate_left; (go_simp <;> with_reducible rfl); simp only [Act.put, List.setIfInBounds_toArray, List.set_cons_zero, List.set_cons_succ, Nat.reduceAdd]))
      refine seq_nil ?_; intro W hW hF
      clear hF
      have HD := Lib.hid (And.intro (HC.out.1.kept hW) (And.intro (HC.out.2.1.kept hW) (And.intro (HC.out.2.2.1.kept hW) (And.intro (HC.out.2.2.2.1.kept hW) (And.intro (below_trans HC.out.2.2.2.2.1 hW) (below_trans HC.out.2.2.2.2.2 hW))))))
      clear hnn hom hmm c0 c1 HC hW
      go_upto_region 8 with fail
      have k0 := HD.out.2.2.2.1.cell (i := 0) rfl
      have k1 := HD.out.2.2.2.1.cell (i := 1) rfl
      have k2 := HD.out.2.2.1.cell (i := 0) rfl
      have k3 := HD.out.2.2.1.cell (i := 1) rfl
      have hw0 : IntKind.i64.wrap s0 = s0 := by have := HSS.out.1; rw [IntWalk.i64_left]; exact wrap64_id (by omega) (by omega)
      have hw1 : IntKind.i64.wrap s1 = s1 := by have := HSS.out.2.1; rw [IntWalk.i64_left]; exact wrap64_id (by omega) (by omega)
      obtain ⟨r0, hr0⟩ : ∃ q : Int, Int.tmod s0 nn = q := ⟨_, rfl⟩
      obtain ⟨r1, hr1⟩ : ∃ q : Int, Int.tmod s1 nn = q := ⟨_, rfl⟩
      refine wp_seq_all (fun _ => false) (fun _ _ => undef) (fun _ _ _ => True) (by kernel_rfl) (by kernel_rfl) (fun k x A B hb h => h) ?_
      repeat (first | (refine seq_skip (by rfl) ?_; simp only [Act.put, List.setIfInBounds_toArray, List.set_cons_zero, List.set_cons_succ, Nat.reduceAdd]) | (refine seq_pure (v := ?_) (by rfl) (by rfl) (fun W hW hC => ?_) ?_; rotate_left; (go_simp <;> with_reducible rfl); simp only [Act.put, List.setIfInBounds_toArray, List.set_cons_zero, List.set_cons_succ, Nat.reduceAdd]))
      refine seq_nil ?_; intro W5 hW5 hF
      clear hF
      have HE := Lib.hid (And.intro (HD.out.1.kept hW5) (And.intro (HD.out.2.1.kept hW5) (And.intro (HD.out.2.2.2.1.kept hW5) (And.intro (below_trans HD.out.2.2.2.2.1 hW5) (below_trans HD.out.2.2.2.2.2 hW5)))))
      clear hr0 hr1 hw0 hw1 hnn0 k0 k1 k2 k3 HD hW5
      go_wp2_with fail
      go_loopw [73] (fun i wq => ∃ q, q ≤ 3 ∧ i = .int .i64 (q : Nat) ∧ Below W5.heap.size W5 wq) (fun i _ => 3 - (intOf i).toNat)
      case atStart => exact ⟨0, Nat.zero_le _, rfl, Below.refl _ _⟩
      case round =>
        obtain ⟨q, hq, rfl, hbq⟩ := hrel
        by_cases hlq : q < 3
        · have hqb : decide ((q : Int) < 3) = true := decide_eq_true (by omega)
          obtain ⟨aa, bb, hix⟩ := index_pairs t0 t1 r0 r1 r0 t1 hlq
          have HBQ := Lib.hid hbq
          clear hbq
          go_upto_region 11 with fail
          refine wp_named ?_
          intro w6 hw6
          have b18 : Blk w6 wr.heap.size [.int .i64 aa, .int .i64 bb] 45 := by rw [hw6]; exact Blk.at rfl
          have hb6 : Below wr.heap.size wr w6 := by rw [hw6]; repeat (first | exact below_alloc _ | refine below_trans ?_ (below_alloc _))
          clear hw6 hix hqb
          have hb56 := below_trans HBQ.out hb6
          have HF := Lib.hid (And.intro (HE.out.1.kept hb56) (And.intro (HE.out.2.1.kept hb56) (And.intro b18 hb56)))
          clear b18 hb6 hb56 HBQ
          have c0 := HF.out.1.cell (i := 0) rfl
          have c1 := HF.out.1.cell (i := 1) rfl
          have c2 := HF.out.1.cell (i := 2) rfl
          have d0 := HF.out.2.2.1.cell (i := 0) rfl
          have d1 := HF.out.2.2.1.cell (i := 1) rfl
          go_wp2_with fail
          obtain ⟨⟨z1, z2, z3, z4⟩, hp⟩ : ∃ p, swapR s o dd aa bb = p := ⟨_, rfl⟩
          have h18 := swap_turn HF.out.2.1 aa bb
          rw [hp] at h18
          refine h18.mono ?_
          rintro r w7 ⟨A7, k7, B7, e7, rfl, o71, o72, hb7⟩
          have HP := Lib.hid hp
          clear h18 c0 c1 c2 d0 d1 hp
          dsimp only at o71 o72 ⊢
          go_upto_region 12 with fail
          refine wp_named ?_
          intro w8 hw8
          have b19 : Blk w8 w7.heap.size [.slice A7 z1.length k7, .int .i64 z2, .slice B7 z3.length e7] 24 := by rw [hw8]; exact Blk.at rfl
          have hb8 : Below w7.heap.size w7 w8 := by rw [hw8]; repeat (first | exact below_alloc _ | refine below_trans ?_ (below_alloc _))
          have hb78 := below_trans hb7 hb8
          have HF8 := Lib.hid (And.intro (HF.out.1.kept hb78) (And.intro (HF.out.2.1.kept hb78) (And.intro (HF.out.2.2.1.kept hb78) (And.intro (below_trans HF.out.2.2.2 hb78) (And.intro b19 (And.intro (o71.kept hb8) (o72.kept hb8)))))))
          clear b19 hb8 hb7 hb78 hw8 o71 o72 HF
          have c0 := HF8.out.1.cell (i := 0) rfl
          have c1 := HF8.out.1.cell (i := 1) rfl
          have c2 := HF8.out.1.cell (i := 2) rfl
          have d0 := HF8.out.2.2.1.cell (i := 0) rfl
          have d1 := HF8.out.2.2.1.cell (i := 1) rfl
          go_wp2_with fail
          have h19 := refSwap_turn HF8.out.2.1 aa bb
          rw [HP.out] at h19
          refine h19.mono ?_
          rintro r w9 ⟨A9, k9, B9, e9, rfl, o91, o92, hb9⟩
          clear h19 c0 c1 c2 d0 d1
          dsimp only at o91 o92 ⊢
          go_upto_region 13 with fail
          refine wp_named ?_
          intro w10 hw10
          have b21 : Blk w10 w9.heap.size [.slice A9 z1.length k9, .int .i64 z2, .slice B9 z3.length e9] 24 := by rw [hw10]; exact Blk.at rfl
          have hb10 : Below w9.heap.size w9 w10 := by rw [hw10]; repeat (first | exact below_alloc _ | refine below_trans ?_ (below_alloc _))
          have hb := below_trans hb9 hb10
          have HF10 := Lib.hid (And.intro (below_trans HF8.out.2.2.2.1 hb) (And.intro (And.intro (HF8.out.2.2.2.2.1.kept hb) (And.intro (HF8.out.2.2.2.2.2.1.kept hb) (HF8.out.2.2.2.2.2.2.kept hb))) (And.intro b21 (And.intro (o91.kept hb10) (o92.kept hb10)))))
          clear b21 hb9 hb10 hb hw10 o91 o92 HF8 HP
          have c0 := HF10.out.2.1.1.cell (i := 0) rfl
          have c1 := HF10.out.2.1.1.cell (i := 1) rfl
          have c2 := HF10.out.2.1.1.cell (i := 2) rfl
          have d0 := HF10.out.2.2.1.cell (i := 0) rfl
          have d1 := HF10.out.2.2.1.cell (i := 1) rfl
          have d2 := HF10.out.2.2.1.cell (i := 2) rfl
          have hz : (z4 != z4) = false := by simp
          go_wp2_with fail
          refine (refSame_same HF10.out.2.1.2.1 HF10.out.2.1.2.2 HF10.out.2.2.2.1 HF10.out.2.2.2.2).mono ?_
          rintro r w11 ⟨rfl, hb11⟩
          have HZ := Lib.hid (below_trans HF10.out.1 hb11)
          clear c0 c1 c2 d0 d1 d2 hz HF10 hb11
          go_wp2
          go_roundw
          case rel => exact ⟨q + 1, by omega, by go_num, HZ.out⟩
          case measure => simp [intOf]; omega
        · have HF := Lib.hid (And.intro (HE.out.1.kept hbq) (And.intro (HE.out.2.1.kept hbq) (And.intro (HE.out.2.2.1.kept hbq) (And.intro (below_trans HE.out.2.2.2.1 hbq) (below_trans HE.out.2.2.2.2 hbq)))))
          clear hbq HE
          go_upto_region 16 with fail
          clear hlq hq
          have k2 := HF.out.2.2.1.cell (i := 2) rfl
          have k3 := HF.out.2.2.1.cell (i := 3) rfl
          have hw2 : IntKind.i64.wrap s2 = s2 := by have := HSS.out.2.2.1; rw [IntWalk.i64_left]; exact wrap64_id (by omega) (by omega)
          have hw3 : IntKind.i64.wrap s3 = s3 := by have := HSS.out.2.2.2; rw [IntWalk.i64_left]; exact wrap64_id (by omega) (by omega)
          obtain ⟨r2, hr2⟩ : ∃ q : Int, Int.tmod s2 mm = q := ⟨_, rfl⟩
          obtain ⟨r3, hr3⟩ : ∃ q : Int, Int.tmod s3 mm = q := ⟨_, rfl⟩
          refine wp_seq_all (fun k => k == 10) (fun _ y => .slice (some ⟨y.i, 0, none⟩) 2 2) (fun _ y W => Blk W y.i [.int .i64 r2, .int .i64 r3] 3) (by kernel_rfl) (by kernel_rfl) (fun k x A B hb h => h.kept hb) ?_
          repeat (first | (refine seq_skip (by rfl) ?_; simp only [Act.put, List.setIfInBounds_toArray, List.set_cons_zero, List.set_cons_succ, Nat.reduceAdd]) | (refine seq_pure (v := ?_) (by rfl) (by rfl) (fun W hW hC => ?_) ?_; rotate_left; (go_simp <;> with_reducible rfl); simp only [Act.put, List.setIfInBounds_toArray, List.set_cons_zero, List.set_cons_succ, Nat.reduceAdd]))
          refine seq_made (by rfl) (by rfl) (fun W hW hC hF R hR => ?_) (fun y => ?_)
          · unfold Gives; go_simp; exact hR {i := W.heap.size} _ (below_alloc _) (Blk.new W _ _)
          simp only [Act.put, List.setIfInBounds_toArray, List.set_cons_zero, List.set_cons_succ, Nat.reduceAdd]
          repeat (first | (refine seq_skip (by rfl) ?_; simp only [Act.put, List.setIfInBounds_toArray, List.set_cons_zero, List.set_cons_succ, Nat.reduceAdd]) | (refine seq_pure (v := ?_) (by rfl) (by rfl) (fun W hW hC => ?_) ?_; rotate_left; (go_simp <;> with_reducible rfl); simp only [Act.put, List.setIfInBounds_toArray, List.set_cons_zero, List.set_cons_succ, Nat.reduceAdd]))
          refine seq_nil ?_; intro W6 hW6 hF
          have hF1 := hF _ _ (List.mem_cons_self ..)
          clear hF
          obtain ⟨gs, hgs⟩ : ∃ g, y.i = g := ⟨_, rfl⟩
          rw [hgs] at hF1
          rw [hgs]
          clear hgs y
          have hgs2 := two_cs hF1
          have HJ := Lib.hid (And.intro (And.intro (HF.out.1.kept hW6) (And.intro (HF.out.2.1.kept hW6) (And.intro (below_trans HF.out.2.2.2.1 hW6) (below_trans HF.out.2.2.2.2 hW6)))) (And.intro ((HI.out.1.kept (below_trans HF.out.2.2.2.2 hW6)).head mi) hgs2))
          replace k2 := Ytkkohelbidmkdaa.kept hW6 k2
          replace k3 := Ytkkohelbidmkdaa.kept hW6 k3
          clear hF1 hgs2 HF hW6
          go_upto_region 17 with fail
          refine RT.wp_seq_all (T := Spare W6.heap.size) (fun k => k == 3 || k == 5 || k == 16) (fun k y => if k = 3 then .slice (some ⟨y.i, 0, none⟩) 2 y.k else if k = 5 then .slice (some ⟨y.i, 0, none⟩) (2 + mi) y.k else .slice (some ⟨y.i, 0, none⟩) 4 4)
            (fun k y W => (k = 3 → IntP W y.i y.k 2 ∧ y.k ≤ maxLen ∧ W6.heap.size ≤ y.i) ∧ (k = 5 → IntP W y.i y.k (2 + mi) ∧ y.k ≤ maxLen ∧ W6.heap.size ≤ y.i) ∧ (k = 16 → IntP W y.i 4 4 ∧ W6.heap.size ≤ y.i)) trivial (by kernel_rfl) (by kernel_rfl)
            (fun k y A B hT h => ⟨fun e => ⟨hT.ints _ _ _ (h.1 e).1, (h.1 e).2⟩, fun e => ⟨hT.ints _ _ _ (h.2.1 e).1, (h.2.1 e).2⟩, fun e => ⟨hT.ints _ _ _ (h.2.2 e).1, (h.2.2 e).2⟩⟩) ?_
          repeat (first | (refine RT.seq_skip (by rfl) ?_; simp only [Act.put, List.setIfInBounds_toArray, List.set_cons_zero, List.set_cons_succ, Nat.reduceAdd]) | (refine RT.seq_pure (v := ?_) (by rfl) (by rfl) (fun W hW hn => ?_) ?_; rotate_left; (have hC := Spare.cell0 hW; clear hW hn; go_simp <;> with_reducible rfl); simp only [Act.put, List.setIfInBounds_toArray, List.set_cons_zero, List.set_cons_succ, Nat.reduceAdd]))
          refine RT.seq_made (by rfl) (by rfl) (fun W hW hn hF R hR => ?_) (fun y3 => ?_)
          · clear hn hF
            unfold RT.Gives; go_simp
            refine (clone_calls (some ⟨gs, 0, none⟩) 2 [r2, r3] W (HJ.out.2.2.spare hW) (fun e => by cases e) (by simp)).mono ?_
            rintro r w7 ⟨v, rfl, ho, hb⟩
            rcases ho.2 with ⟨_, h0⟩ | ⟨g, cap, cur, rfl, hg, hh, r1, r2, r3, r4⟩
            · cases h0
            · have hP := Own.intP ho
              exact ⟨_, rfl, hR {i := g, k := cap} _ (Spare.of_below hb) ⟨fun _ => ⟨hP.1, hP.2.1, Nat.le_trans hW.size hP.2.2⟩, (fun e => absurd e (by decide)), (fun e => absurd e (by decide))⟩ (fun _ h => h)⟩
          simp only [↓reduceIte, Nat.reduceEqDiff]; simp only [Act.put, List.setIfInBounds_toArray, List.set_cons_zero, List.set_cons_succ, Nat.reduceAdd]
          repeat (first | (refine RT.seq_skip (by rfl) ?_; simp only [Act.put, List.setIfInBounds_toArray, List.set_cons_zero, List.set_cons_succ, Nat.reduceAdd]) | (refine RT.seq_pure (v := ?_) (by rfl) (by rfl) (fun W hW hn => ?_) ?_; rotate_left; (have hC := Spare.cell0 hW; clear hW hn; go_simp <;> with_reducible rfl); simp only [Act.put, List.setIfInBounds_toArray, List.set_cons_zero, List.set_cons_succ, Nat.reduceAdd]))
          refine RT.seq_made (by rfl) (by rfl) (fun W hW hn hF R hR => ?_) (fun y5 => ?_)
          · clear hn
            have hg := (hF _ _ (List.mem_cons_self ..) (by kernel_rfl)).1 (by simp)
            exact gives_append_spare (n := W6.heap.size) (.tmp 118) (.tmp 119) rfl rfl hg.1 hg.2.1 hg.2.2 (by rw [HL.out]; rfl) (HJ.out.2.1.spare hW) HI.out.2 (by rw [HL.out]; omega) (fun i k' W' hT hP hk hn => by rw [HL.out] at hP ⊢; exact hR {i := i, k := k'} _ hT ⟨(fun e => absurd e (by decide)), fun _ => ⟨hP, hk, hn⟩, (fun e => absurd e (by decide))⟩ (fun _ h => h))
          simp only [↓reduceIte, Nat.reduceEqDiff]; simp only [Act.put, List.setIfInBounds_toArray, List.set_cons_zero, List.set_cons_succ, Nat.reduceAdd]
          repeat (first | (refine RT.seq_skip (by rfl) ?_; simp only [Act.put, List.setIfInBounds_toArray, List.set_cons_zero, List.set_cons_succ, Nat.reduceAdd]) | (refine RT.seq_pure (v := ?_) (by rfl) (by rfl) (fun W hW hn => ?_) ?_; rotate_left; (have hC := Spare.cell0 hW; clear hW hn; go_simp <;> with_reducible rfl); simp only [Act.put, List.setIfInBounds_toArray, List.set_cons_zero, List.set_cons_succ, Nat.reduceAdd]))
          refine RT.seq_made (by rfl) (by rfl) (fun W hW hn hF R hR => ?_) (fun y16 => ?_)
          · clear hn hF
            unfold RT.Gives; go_simp
            exact hR {i := W.heap.size} _ (Spare.of_below (below_alloc _)) ⟨(fun e => absurd e (by decide)), (fun e => absurd e (by decide)), fun _ => ⟨intP_four W 0 0 r2 r3, hW.size⟩⟩ (fun _ h => h)
          simp only [↓reduceIte, Nat.reduceEqDiff]; simp only [Act.put, List.setIfInBounds_toArray, List.set_cons_zero, List.set_cons_succ, Nat.reduceAdd]
          repeat (first | (refine RT.seq_skip (by rfl) ?_; simp only [Act.put, List.setIfInBounds_toArray, List.set_cons_zero, List.set_cons_succ, Nat.reduceAdd]) | (refine RT.seq_pure (v := ?_) (by rfl) (by rfl) (fun W hW hn => ?_) ?_; rotate_left; (have hC := Spare.cell0 hW; clear hW hn; go_simp <;> with_reducible rfl); simp only [Act.put, List.setIfInBounds_toArray, List.set_cons_zero, List.set_cons_succ, Nat.reduceAdd]))
          refine RT.seq_nil ?_; intro W8 hW8 hF
          have h16 := (hF _ _ (List.mem_cons_self ..)).2.2 (by simp)
          have h5 := (hF _ _ (List.mem_cons_of_mem _ (List.mem_cons_self ..))).2.1 (by simp)
          clear hF
          obtain ⟨g5, hg5⟩ : ∃ g, y5.i = g := ⟨_, rfl⟩
          obtain ⟨q5, hq5⟩ : ∃ g, y5.k = g := ⟨_, rfl⟩
          obtain ⟨g3, hg3⟩ : ∃ g, y3.i = g := ⟨_, rfl⟩
          obtain ⟨q3, hq3⟩ : ∃ g, y3.k = g := ⟨_, rfl⟩
          obtain ⟨g16, hg16⟩ : ∃ g, y16.i = g := ⟨_, rfl⟩
          rw [hg5, hq5] at h5
          rw [hg16] at h16
          rw [hg5, hq5, hg3, hq3, hg16]
          clear hg5 hq5 hg3 hq3 hg16 y3 y5 y16
          have hb8 := hW8.below
          obtain ⟨zs5, hz5, o5⟩ := h5.1.own (base := 0) h5.2.1 (Nat.zero_le _)
          obtain ⟨zs16, hz16, o16⟩ := h16.1.own (base := 0) (by decide) (Nat.zero_le _)
          have HP4 := Lib.hid (show (∃ A c xs, (Value.slice I mi ci) = .slice A (xs : List Int).length c ∧ Cs W8 .i64 A xs ∧ xs.length ≤ 16) ∧ (∃ A c xs, (Value.slice (some ⟨gs, 0, none⟩) 2 2) = .slice A (xs : List Int).length c ∧ Cs W8 .i64 A xs ∧ xs.length ≤ 16) ∧
              (∃ A c xs, (Value.slice (some ⟨g5, 0, none⟩) (2 + mi) q5) = .slice A (xs : List Int).length c ∧ Cs W8 .i64 A xs ∧ xs.length ≤ 16) ∧ (∃ A c xs, (Value.slice (some ⟨g16, 0, none⟩) 4 4) = .slice A (xs : List Int).length c ∧ Cs W8 .i64 A xs ∧ xs.length ≤ 16) from
            ⟨⟨I, ci, ixs.take mi, by rw [HL.out], HJ.out.2.1.kept hb8, by rw [HL.out]; omega⟩, ⟨_, 2, [r2, r3], rfl, HJ.out.2.2.kept hb8, by simp⟩, ⟨_, q5, zs5, by rw [hz5], o5.length.2.2.2.2, by omega⟩, ⟨_, 4, zs16, by rw [hz16], o16.length.2.2.2.2, by omega⟩⟩)
          have HK := Lib.hid (And.intro (HJ.out.1.1.kept hb8) (And.intro (HJ.out.1.2.1.kept hb8) (And.intro (below_trans HJ.out.1.2.2.1 hb8) (below_trans HJ.out.1.2.2.2 hb8))))
          clear h5 h16 hW8 hb8 hz5 hz16 o5 o16 HJ hw2 hw3 hr2 hr3 k2 k3 hmm0
          go_wp2_with fail
          go_loopw [133] (fun i wq => ∃ q, q ≤ 4 ∧ i = .int .i64 (q : Nat) ∧ Below W8.heap.size W8 wq) (fun i _ => 4 - (intOf i).toNat)
          case atStart => exact ⟨0, Nat.zero_le _, rfl, Below.refl _ _⟩
          case round =>
            obtain ⟨q, hq, rfl, hbq⟩ := hrel
            by_cases hlq : q < 4
            · have hqb : decide ((q : Int) < 4) = true := decide_eq_true (by omega)
              obtain ⟨vl, ⟨AL, cL, xs, rfl, hxs, hlx⟩, hix⟩ := index_rows (.slice I mi ci) (.slice (some ⟨gs, 0, none⟩) 2 2) (.slice (some ⟨g5, 0, none⟩) (2 + mi) q5) (.slice (some ⟨g16, 0, none⟩) 4 4) hlq (p := fun v => ∃ A c xs, v = .slice A (xs : List Int).length c ∧ Cs W8 .i64 A xs ∧ xs.length ≤ 16) HP4.out.1 HP4.out.2.1 HP4.out.2.2.1 HP4.out.2.2.2
              have HF := Lib.hid (And.intro (HK.out.1.kept hbq) (And.intro (HK.out.2.1.kept hbq) (And.intro (hxs.kept hbq) hbq)))
              clear hxs hbq
              have c0 := HF.out.1.cell (i := 0) rfl
              have c1 := HF.out.1.cell (i := 1) rfl
              have c2 := HF.out.1.cell (i := 2) rfl
              go_wp2_with fail
              obtain ⟨⟨z1, z2, z3, z4⟩, hp⟩ : ∃ p, pickR s o dd xs = p := ⟨_, rfl⟩
              have h21 := pick_turn (ci := cL) HF.out.2.1 HF.out.2.2.1 (by omega)
              rw [hp] at h21
              refine h21.mono ?_
              rintro r w7 ⟨A7, k7, B7, e7, rfl, o71, o72, hb7⟩
              have HP := Lib.hid hp
              clear h21 c0 c1 c2 hp hix hqb
              dsimp only at o71 o72 ⊢
              go_upto_region 21 with fail
              refine wp_named ?_
              intro w8 hw8
              have b19 : Blk w8 w7.heap.size [.slice A7 z1.length k7, .int .i64 z2, .slice B7 z3.length e7] 24 := by rw [hw8]; exact Blk.at rfl
              have hb8 : Below w7.heap.size w7 w8 := by rw [hw8]; repeat (first | exact below_alloc _ | refine below_trans ?_ (below_alloc _))
              have hb78 := below_trans hb7 hb8
              have HF8 := Lib.hid (And.intro (HF.out.1.kept hb78) (And.intro (HF.out.2.1.kept hb78) (And.intro (HF.out.2.2.1.kept hb78) (And.intro (below_trans HF.out.2.2.2 hb78) (And.intro b19 (And.intro (o71.kept hb8) (o72.kept hb8)))))))
              clear b19 hb8 hb7 hb78 hw8 o71 o72 HF
              have c0 := HF8.out.1.cell (i := 0) rfl
              have c1 := HF8.out.1.cell (i := 1) rfl
              have c2 := HF8.out.1.cell (i := 2) rfl
              go_wp2_with fail
              have h22 := refPick_turn (ci := cL) HF8.out.2.1 HF8.out.2.2.1 (by omega)
              rw [HP.out] at h22
              refine h22.mono ?_
              rintro r w9 ⟨A9, k9, B9, e9, rfl, o91, o92, hb9⟩
              clear h22 c0 c1 c2
              dsimp only at o91 o92 ⊢
              go_upto_region 22 with fail
              refine wp_named ?_
              intro w10 hw10
              have b21 : Blk w10 w9.heap.size [.slice A9 z1.length k9, .int .i64 z2, .slice B9 z3.length e9] 24 := by rw [hw10]; exact Blk.at rfl
              have hb10 : Below w9.heap.size w9 w10 := by rw [hw10]; repeat (first | exact below_alloc _ | refine below_trans ?_ (below_alloc _))
              have hb := below_trans hb9 hb10
              have HF10 := Lib.hid (And.intro (below_trans HF8.out.2.2.2.1 hb) (And.intro (And.intro (HF8.out.2.2.2.2.1.kept hb) (And.intro (HF8.out.2.2.2.2.2.1.kept hb) (HF8.out.2.2.2.2.2.2.kept hb))) (And.intro b21 (And.intro (o91.kept hb10) (o92.kept hb10)))))
              clear b21 hb9 hb10 hb hw10 o91 o92 HF8 HP
              have c0 := HF10.out.2.1.1.cell (i := 0) rfl
              have c1 := HF10.out.2.1.1.cell (i := 1) rfl
              have c2 := HF10.out.2.1.1.cell (i := 2) rfl
              have d0 := HF10.out.2.2.1.cell (i := 0) rfl
              have d1 := HF10.out.2.2.1.cell (i := 1) rfl
              have d2 := HF10.out.2.2.1.cell (i := 2) rfl
              have hz : (z4 != z4) = false := by simp
              go_wp2_with fail
              refine (refSame_same HF10.out.2.1.2.1 HF10.out.2.1.2.2 HF10.out.2.2.2.1 HF10.out.2.2.2.2).mono ?_
              rintro r w11 ⟨rfl, hb11⟩
              have HZ := Lib.hid (below_trans HF10.out.1 hb11)
              clear c0 c1 c2 d0 d1 d2 hz HF10 hb11
              go_wp2
              go_roundw
              case rel => exact ⟨q + 1, by omega, by go_num, HZ.out⟩
              case measure => simp [intOf]; omega
            · have hq4 : q = 4 := by omega
              subst hq4
              have HZ := Lib.hid (below_trans HBR.out (below_trans HK.out.2.2.1 hbq))
              clear hbq hlq hq HK HP4
              go_wp2
              go_roundw
              case rel => exact ⟨k + 1, by omega, by go_num, HZ.out⟩
              case measure => simp [intOf]; omega
    · have hk4 : k = 4 := by omega
      subst hk4
      have HZ := Lib.hid (below_trans HG.out.2.2.2 hbr)
      clear hbr hlt hk HG
      go_wp2
      go_ret
      exact ⟨rfl, HZ.out⟩
end Go.Proofs.Ytkkohelbidmkdaa
