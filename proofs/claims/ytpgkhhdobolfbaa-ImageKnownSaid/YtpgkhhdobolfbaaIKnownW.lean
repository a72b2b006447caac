/-
  The law ImageKnown, walked.
-/
import Derived.Test.YtpgkhhdobolfbaaIShr
namespace Go.Proofs.Ytpgkhhdobolfbaa
set_option linter.unusedVariables false
set_option linter.unusedSimpArgs false
open Go Go.RowKit

/-- An image that lies in a block. -/
def imB (m : Im) : List Value := [.int .i64 m.W, .int .i64 m.H, .int .i64 m.C, .int .i64 m.B, .bool m.P, .int .i64 m.Pd, .string m.O]


theorem n_deep : shapeS SIX 16 false 8 = (⟨2, 1, 3, 16, false, 8, ⟨#[1, 1, 2, 2, 3, 3, 4, 4, 5, 5, 6, 6, 0, 0, 0, 0]⟩⟩, 0) := by kernel_rfl
theorem n_p1 : pasteS SIX ⟨2, 1, 3, 16, false, 8, ⟨#[1, 1, 2, 2, 3, 3, 4, 4, 5, 5, 6, 6, 0, 0, 0, 0]⟩⟩ 0 0 = (Im.zero, 2) := by kernel_rfl
theorem n_s1 : setS SIX 0 0 [0, 256, 0] = (Im.zero, 2) := by kernel_rfl
theorem n_s2 : setS SIX 0 0 [0, -1, 0] = (Im.zero, 2) := by kernel_rfl
theorem n_s3 : setS SIX 0 0 [0, 0] = (Im.zero, 2) := by kernel_rfl
theorem n_c1 : cutS SIX 1 0 2 1 = (Im.zero, 2) := by kernel_rfl
theorem n_c2 : cutS SIX 0 0 0 1 = (Im.zero, 2) := by kernel_rfl
theorem n_c3 : cutS SIX (-1) 0 1 1 = (Im.zero, 2) := by kernel_rfl
theorem n_p2 : pasteS SIX SIX 1 0 = (Im.zero, 2) := by kernel_rfl
theorem n_m1 : makeS 64 64 2 8 false 1 = (Im.zero, 2) := by kernel_rfl
theorem n_sh : shB 64 64 1 16 8 = true := by kernel_rfl
theorem n_m2 : makeS 64 64 1 16 true 8 = (img ⟨64, 64, 1, 2, true, 8⟩ (fun _ _ _ => 0), 0) := by
  unfold makeS
  rw [n_sh, if_pos rfl]
  rfl
theorem n_big : (img ⟨64, 64, 1, 2, true, 8⟩ (fun _ _ _ => 0)).O.size = 8192 := by
  show (octs _ _).toArray.size = 8192
  rw [List.size_toArray]
  unfold octs
  rw [List.length_map, List.length_range]
  rfl
theorem n_st : strideS ⟨2, 1, 3, 16, false, 8, ⟨#[1, 1, 2, 2, 3, 3, 4, 4, 5, 5, 6, 6, 0, 0, 0, 0]⟩⟩ = (16, 0) := by kernel_rfl
theorem n_m3 : makeS 2 1 1 16 false 1 = (⟨2, 1, 1, 16, false, 1, ⟨#[0, 0, 0, 0]⟩⟩, 0) := by kernel_rfl
theorem n_fl : shapeS ⟨2, 1, 1, 16, false, 1, ⟨#[0, 128, 0, 129]⟩⟩ 8 false 1 = (⟨2, 1, 1, 8, false, 1, ⟨#[0, 1]⟩⟩, 0) := by kernel_rfl
theorem n_m4 : makeS 3 1 1 8 true 4 = (⟨3, 1, 1, 8, true, 4, ⟨#[0, 0, 0, 0]⟩⟩, 0) := by kernel_rfl

theorem wpList_move {P : Program} {ops : Array Oper} {rest : List Oper} {o : Oper} {a : Act} {w : World} {Q : Exit → Act → World → Prop} (hg : o.guard = none) (x : Operand) (ho : o.op = .move x) (v : Value) (hx : a.eval x = v)
    (h : wpList P ops Q rest (a.put o.dst v) w) : wpList P ops Q (o :: rest) a w :=
  wpList_plain hg fun K hK => by
    unfold Oper.wp execOp
    simp only [ho, hx, Sem.run_bind, Sem.run_pure, Result.andThen_ok]
    exact hK _ _ h

set_option maxRecDepth 100000 in
set_option maxHeartbeats 6400000 in
theorem imageKnown_calls (w : World) : Calls Try.prog 3 #[] w fun e w' => e = .returned (.bool true) ∧ Below w.heap.size w w' := by
  go_enter Try.func3, Try.ntmps3
  go_wp2_with fail
  refine (wakes_calls w).mono ?_
  rintro r w1 ⟨rfl, hb1⟩
  have HB1 := Lib.hid hb1
  clear hb1
  go_wp2_with fail
  go_loopw [52] (fun i wr => ∃ k : Nat, k ≤ 12 ∧ i = .int .i64 k ∧ Below w.heap.size w wr) (fun i _ => 12 - (intOf i).toNat)
  case atStart => exact ⟨0, Nat.zero_le _, rfl, HB1.out⟩
  case round =>
    obtain ⟨k, hk, rfl, hbr⟩ := hrel
    have HR := Lib.hid hbr
    clear hbr
    by_cases hlt : k < 12
    · have hlti : (k : Int) < 12 := by omega
      have hwk : wrap64 ((k : Int) + 1) = ((k + 1 : Nat) : Int) := by unfold wrap64; omega
      go_wp2_with fail
      refine (six_calls _).mono ?_
      rintro r w2 ⟨rfl, hb2⟩
      have H2 := Lib.hid (below_trans HR.out hb2)
      clear hb2
      go_upto_region 7 with fail
      refine wp_named ?_
      intro w3 hw3
      have bm : Blk w3 w2.heap.size sixC 24 := by rw [hw3]; exact Blk.new _ _ _
      have hb3 : Below w.heap.size w w3 := by rw [hw3]; exact below_trans H2.out (below_alloc _)
      clear hw3
      have s0 := bm.cell (i := 0) rfl
      have s1 := bm.cell (i := 1) rfl
      have s2 := bm.cell (i := 2) rfl
      have s3 := bm.cell (i := 3) rfl
      have s4 := bm.cell (i := 4) rfl
      have s5 := bm.cell (i := 5) rfl
      have s6 := bm.cell (i := 6) rfl
      have f0 := bm.free 0
      have f1 := bm.free 1
      have f2 := bm.free 2
      have f3 := bm.free 3
      have f4 := bm.free 4
      have f5 := bm.free 5
      have f6 := bm.free 6
      have H3 := Lib.hid (And.intro bm hb3)
      clear bm hb3
      refine wp_region_open ?_
      refine wpList_move rfl (.tmp 1) rfl (.int .i64 (k : Nat)) rfl ?_
      simp only [Act.put, List.setIfInBounds_toArray, List.set_cons_zero, List.set_cons_succ, Nat.reduceAdd]
      refine wpList_nil ?_
      show _
      simp only [Exit.then]
      apply_assumption
      go_cut [] from 57 to 102 (fun wq => ∃ m : Im, m.good = false ∧ Blk wq w2.heap.size (imB m) 24 ∧ Below w.heap.size w wq)
      case first =>
        have hcases : k = 0 ∨ k = 1 ∨ k = 2 ∨ k = 3 ∨ k = 4 ∨ k = 5 ∨ k = 6 ∨ k = 7 ∨ k = 8 ∨ k = 9 ∨ k = 10 ∨ k = 11 := by omega
        rcases hcases with hj | hj | hj | hj | hj | hj | hj | hj | hj | hj | hj | hj
        · have hkj : k = 0 := hj
          have q0 : ((k : Int) == 0) = true := by simp; omega
          clear hkj hj hlt hlti hk
          go_wp2_with fail
          go_meet
          case rel => exact ⟨⟨0, 1, 3, 8, false, 4, ⟨#[1, 2, 3, 4, 5, 6, 0, 0]⟩⟩, by kernel_rfl, H3.out.1.set 0 _, H3.out.2.setCell (p := ⟨w2.heap.size, 0, none⟩) H2.out.size _⟩
        · have hkj : k = 1 := hj
          have q0 : ((k : Int) == 0) = false := by simp; omega
          have q1 : ((k : Int) == 1) = true := by simp; omega
          clear hkj hj hlt hlti hk
          go_wp2_with fail
          go_meet
          case rel => exact ⟨⟨2, 65, 3, 8, false, 4, ⟨#[1, 2, 3, 4, 5, 6, 0, 0]⟩⟩, by kernel_rfl, H3.out.1.set 1 _, H3.out.2.setCell (p := ⟨w2.heap.size, 1, none⟩) H2.out.size _⟩
        · have hkj : k = 2 := hj
          have q0 : ((k : Int) == 0) = false := by simp; omega
          have q1 : ((k : Int) == 1) = false := by simp; omega
          have q2 : ((k : Int) == 2) = true := by simp; omega
          clear hkj hj hlt hlti hk
          go_wp2_with fail
          go_meet
          case rel => exact ⟨⟨2, 1, 5, 8, false, 4, ⟨#[1, 2, 3, 4, 5, 6, 0, 0]⟩⟩, by kernel_rfl, H3.out.1.set 2 _, H3.out.2.setCell (p := ⟨w2.heap.size, 2, none⟩) H2.out.size _⟩
        · have hkj : k = 3 := hj
          have q0 : ((k : Int) == 0) = false := by simp; omega
          have q1 : ((k : Int) == 1) = false := by simp; omega
          have q2 : ((k : Int) == 2) = false := by simp; omega
          have q3 : ((k : Int) == 3) = true := by simp; omega
          clear hkj hj hlt hlti hk
          go_wp2_with fail
          go_meet
          case rel => exact ⟨⟨2, 1, 3, 12, false, 4, ⟨#[1, 2, 3, 4, 5, 6, 0, 0]⟩⟩, by kernel_rfl, H3.out.1.set 3 _, H3.out.2.setCell (p := ⟨w2.heap.size, 3, none⟩) H2.out.size _⟩
        · have hkj : k = 4 := hj
          have q0 : ((k : Int) == 0) = false := by simp; omega
          have q1 : ((k : Int) == 1) = false := by simp; omega
          have q2 : ((k : Int) == 2) = false := by simp; omega
          have q3 : ((k : Int) == 3) = false := by simp; omega
          have q4 : ((k : Int) == 4) = true := by simp; omega
          clear hkj hj hlt hlti hk
          go_wp2_with fail
          go_meet
          case rel => exact ⟨⟨2, 1, 3, 8, false, 3, ⟨#[1, 2, 3, 4, 5, 6, 0, 0]⟩⟩, by kernel_rfl, H3.out.1.set 5 _, H3.out.2.setCell (p := ⟨w2.heap.size, 5, none⟩) H2.out.size _⟩
        · have hkj : k = 5 := hj
          have q0 : ((k : Int) == 0) = false := by simp; omega
          have q1 : ((k : Int) == 1) = false := by simp; omega
          have q2 : ((k : Int) == 2) = false := by simp; omega
          have q3 : ((k : Int) == 3) = false := by simp; omega
          have q4 : ((k : Int) == 4) = false := by simp; omega
          have q5 : ((k : Int) == 5) = true := by simp; omega
          clear hkj hj hlt hlti hk
          go_wp2_with fail
          go_meet
          case rel => exact ⟨⟨2, 1, 3, 8, false, 0, ⟨#[1, 2, 3, 4, 5, 6, 0, 0]⟩⟩, by kernel_rfl, H3.out.1.set 5 _, H3.out.2.setCell (p := ⟨w2.heap.size, 5, none⟩) H2.out.size _⟩
        · have hkj : k = 6 := hj
          have q0 : ((k : Int) == 0) = false := by simp; omega
          have q1 : ((k : Int) == 1) = false := by simp; omega
          have q2 : ((k : Int) == 2) = false := by simp; omega
          have q3 : ((k : Int) == 3) = false := by simp; omega
          have q4 : ((k : Int) == 4) = false := by simp; omega
          have q5 : ((k : Int) == 5) = false := by simp; omega
          have q6 : ((k : Int) == 6) = true := by simp; omega
          clear hkj hj hlt hlti hk
          have hEx : (⟨#[1, 2, 3, 4, 5, 6, 0, 0]⟩ : ByteArray) ++ ⟨#[0]⟩ = ⟨#[1, 2, 3, 4, 5, 6, 0, 0, 0]⟩ := by kernel_rfl
          go_wp2_with fail
          go_meet
          case rel => exact ⟨⟨2, 1, 3, 8, false, 4, ⟨#[1, 2, 3, 4, 5, 6, 0, 0, 0]⟩⟩, by kernel_rfl, H3.out.1.set 6 _, H3.out.2.setCell (p := ⟨w2.heap.size, 6, none⟩) H2.out.size _⟩
        · have hkj : k = 7 := hj
          have q0 : ((k : Int) == 0) = false := by simp; omega
          have q1 : ((k : Int) == 1) = false := by simp; omega
          have q2 : ((k : Int) == 2) = false := by simp; omega
          have q3 : ((k : Int) == 3) = false := by simp; omega
          have q4 : ((k : Int) == 4) = false := by simp; omega
          have q5 : ((k : Int) == 5) = false := by simp; omega
          have q6 : ((k : Int) == 6) = false := by simp; omega
          have q7 : ((k : Int) == 7) = true := by simp; omega
          clear hkj hj hlt hlti hk
          have hEx : (⟨#[1, 2, 3, 4, 5, 6, 0, 0]⟩ : ByteArray).extract 0 7 = ⟨#[1, 2, 3, 4, 5, 6, 0]⟩ := by kernel_rfl
          go_wp2_with fail
          go_meet
          case rel => exact ⟨⟨2, 1, 3, 8, false, 4, ⟨#[1, 2, 3, 4, 5, 6, 0]⟩⟩, by kernel_rfl, H3.out.1.set 6 _, H3.out.2.setCell (p := ⟨w2.heap.size, 6, none⟩) H2.out.size _⟩
        · have hkj : k = 8 := hj
          have q0 : ((k : Int) == 0) = false := by simp; omega
          have q1 : ((k : Int) == 1) = false := by simp; omega
          have q2 : ((k : Int) == 2) = false := by simp; omega
          have q3 : ((k : Int) == 3) = false := by simp; omega
          have q4 : ((k : Int) == 4) = false := by simp; omega
          have q5 : ((k : Int) == 5) = false := by simp; omega
          have q6 : ((k : Int) == 6) = false := by simp; omega
          have q7 : ((k : Int) == 7) = false := by simp; omega
          have q8 : ((k : Int) == 8) = true := by simp; omega
          clear hkj hj hlt hlti hk
          go_wp2_with fail
          go_meet
          case rel => exact ⟨⟨2, 1, 3, 8, true, 4, ⟨#[1, 2, 3, 4, 5, 6, 0, 0]⟩⟩, by kernel_rfl, H3.out.1.set 4 _, H3.out.2.setCell (p := ⟨w2.heap.size, 4, none⟩) H2.out.size _⟩
        · have hkj : k = 9 := hj
          have q0 : ((k : Int) == 0) = false := by simp; omega
          have q1 : ((k : Int) == 1) = false := by simp; omega
          have q2 : ((k : Int) == 2) = false := by simp; omega
          have q3 : ((k : Int) == 3) = false := by simp; omega
          have q4 : ((k : Int) == 4) = false := by simp; omega
          have q5 : ((k : Int) == 5) = false := by simp; omega
          have q6 : ((k : Int) == 6) = false := by simp; omega
          have q7 : ((k : Int) == 7) = false := by simp; omega
          have q8 : ((k : Int) == 8) = false := by simp; omega
          have q9 : ((k : Int) == 9) = true := by simp; omega
          clear hkj hj hlt hlti hk
          go_wp2_with fail
          go_meet
          case rel => exact ⟨⟨2, 1, 3, 16, false, 4, ⟨#[1, 2, 3, 4, 5, 6, 0, 0]⟩⟩, by kernel_rfl, H3.out.1.set 3 _, H3.out.2.setCell (p := ⟨w2.heap.size, 3, none⟩) H2.out.size _⟩
        · have hkj : k = 10 := hj
          have q0 : ((k : Int) == 0) = false := by simp; omega
          have q1 : ((k : Int) == 1) = false := by simp; omega
          have q2 : ((k : Int) == 2) = false := by simp; omega
          have q3 : ((k : Int) == 3) = false := by simp; omega
          have q4 : ((k : Int) == 4) = false := by simp; omega
          have q5 : ((k : Int) == 5) = false := by simp; omega
          have q6 : ((k : Int) == 6) = false := by simp; omega
          have q7 : ((k : Int) == 7) = false := by simp; omega
          have q8 : ((k : Int) == 8) = false := by simp; omega
          have q9 : ((k : Int) == 9) = false := by simp; omega
          have q10 : ((k : Int) == 10) = true := by simp; omega
          clear hkj hj hlt hlti hk
          have hEx : (⟨#[1, 2, 3, 4, 5, 6, 0, 0]⟩ : ByteArray).extract 0 6 ++ ⟨#[1, 0]⟩ = ⟨#[1, 2, 3, 4, 5, 6, 1, 0]⟩ := by kernel_rfl
          go_wp2_with fail
          go_meet
          case rel => exact ⟨⟨2, 1, 3, 8, false, 4, ⟨#[1, 2, 3, 4, 5, 6, 1, 0]⟩⟩, by kernel_rfl, H3.out.1.set 6 _, H3.out.2.setCell (p := ⟨w2.heap.size, 6, none⟩) H2.out.size _⟩
        · have hkj : k = 11 := hj
          have q0 : ((k : Int) == 0) = false := by simp; omega
          have q1 : ((k : Int) == 1) = false := by simp; omega
          have q2 : ((k : Int) == 2) = false := by simp; omega
          have q3 : ((k : Int) == 3) = false := by simp; omega
          have q4 : ((k : Int) == 4) = false := by simp; omega
          have q5 : ((k : Int) == 5) = false := by simp; omega
          have q6 : ((k : Int) == 6) = false := by simp; omega
          have q7 : ((k : Int) == 7) = false := by simp; omega
          have q8 : ((k : Int) == 8) = false := by simp; omega
          have q9 : ((k : Int) == 9) = false := by simp; omega
          have q10 : ((k : Int) == 10) = false := by simp; omega
          have q11 : ((k : Int) == 11) = true := by simp; omega
          clear hkj hj hlt hlti hk
          go_wp2_with fail
          go_meet
          case rel => exact ⟨⟨-2, 1, 3, 8, false, 4, ⟨#[1, 2, 3, 4, 5, 6, 0, 0]⟩⟩, by kernel_rfl, H3.out.1.set 0 _, H3.out.2.setCell (p := ⟨w2.heap.size, 0, none⟩) H2.out.size _⟩
      case rest =>
        obtain ⟨m, hbad, bm, hbw⟩ := hcut
        clear s0 s1 s2 s3 s4 s5 s6 f0 f1 f2 f3 f4 f5 f6 hlti
        obtain ⟨mW, mH, mC, mB, mP, mPd, mO, hmm⟩ : ∃ a b c d e f g, m = ⟨a, b, c, d, e, f, g⟩ := ⟨_, _, _, _, _, _, _, rfl⟩
        have hv : m.v = .agg #[.int .i64 mW, .int .i64 mH, .int .i64 mC, .int .i64 mB, .bool mP, .int .i64 mPd, .string mO] := by rw [hmm]; rfl
        replace bm : Blk wc w2.heap.size [.int .i64 mW, .int .i64 mH, .int .i64 mC, .int .i64 mB, .bool mP, .int .i64 mPd, .string mO] 24 := by rw [hmm] at bm; exact bm
        have e1 : strideS m = (0, 420) := by unfold strideS; rw [hbad]; rfl
        have e2 : ∀ x y, getS m x y = ([], 420) := fun x y => by unfold getS; rw [hbad]; rfl
        have e3 : ∀ x y l, setS m x y l = (Im.zero, 420) := fun x y l => by unfold setS; rw [hbad]; rfl
        have e4 : ∀ a b c, shapeS m a b c = (Im.zero, 420) := fun a b c => by unfold shapeS; rw [hbad]; rfl
        have e5 : ∀ a b c d, cutS m a b c d = (Im.zero, 420) := fun a b c d => by unfold cutS; rw [hbad]; rfl
        have e6 : ∀ p a b, pasteS m p a b = (Im.zero, 420) := fun p a b => by unfold pasteS; rw [hbad]; rfl
        have e7 : ∀ p a b, pasteS p m a b = (Im.zero, 420) := fun p a b => by unfold pasteS; rw [hbad, Bool.and_false]; rfl
        have e8 : checkS m = 420 := by unfold checkS; rw [hbad]; rfl
        have hc1 := fun W => stridem_calls m W
        have hc2 := fun W => get_calls m 9 9 W
        have hc3 := fun W => set_calls m 9 9 none 0 [] W Cs.nil (by decide) (fun p e => by cases e)
        have hc4 := fun W => shape_calls m 9 true 9 W
        have hc5 := fun W => cut_calls m 9 9 9 9 W
        have hc6 := fun W => paste_calls m SIX 9 9 W
        have hc7 := fun W => paste_calls SIX m 9 9 W
        have hc8 := fun W => check_calls m W
        rw [e1] at hc1
        rw [e2] at hc2
        rw [e3] at hc3
        rw [e4] at hc4
        rw [e5] at hc5
        rw [e6] at hc6
        rw [e7] at hc7
        rw [e8] at hc8
        rw [hv] at hc1 hc2 hc3 hc4 hc5 hc6 hc7 hc8
        rw [zero_v] at hc3 hc4 hc5 hc6 hc7
        rw [six_v] at hc6 hc7
        have HC1 := Lib.hid hc1
        have HC2 := Lib.hid hc2
        have HC3 := Lib.hid hc3
        have HC4 := Lib.hid hc4
        have HC5 := Lib.hid hc5
        have HC6 := Lib.hid hc6
        have HC7 := Lib.hid hc7
        have HC8 := Lib.hid hc8
        clear hc1 hc2 hc3 hc4 hc5 hc6 hc7 hc8 e1 e2 e3 e4 e5 e6 e7 e8 hv hmm hbad H2 H3 m
        have c0 := bm.cell (i := 0) rfl
        have c1 := bm.cell (i := 1) rfl
        have c2 := bm.cell (i := 2) rfl
        have c3 := bm.cell (i := 3) rfl
        have c4 := bm.cell (i := 4) rfl
        have c5 := bm.cell (i := 5) rfl
        have c6 := bm.cell (i := 6) rfl
        have HB := Lib.hid (And.intro bm hbw)
        clear bm hbw
        go_wp2_with fail
        refine (HC1.out wc).mono ?_
        rintro r w5 ⟨rfl, hbk⟩
        replace HB := Lib.hid (And.intro (HB.out.1.kept hbk) (below_trans HB.out.2 hbk))
        have bm := HB.out.1
        clear c0 c1 c2 c3 c4 c5 c6 hbk
        have c0 := bm.cell (i := 0) rfl
        have c1 := bm.cell (i := 1) rfl
        have c2 := bm.cell (i := 2) rfl
        have c3 := bm.cell (i := 3) rfl
        have c4 := bm.cell (i := 4) rfl
        have c5 := bm.cell (i := 5) rfl
        have c6 := bm.cell (i := 6) rfl
        clear bm
        go_wp2_with fail
        refine (HC2.out w5).mono ?_
        rintro r w6 ⟨v, rfl, hrow, hbk⟩
        obtain ⟨A6, q6, rfl, _, _, _⟩ := hrow
        dsimp only
        replace HB := Lib.hid (And.intro (HB.out.1.kept hbk) (below_trans HB.out.2 hbk))
        have bm := HB.out.1
        clear c0 c1 c2 c3 c4 c5 c6 hbk
        have c0 := bm.cell (i := 0) rfl
        have c1 := bm.cell (i := 1) rfl
        have c2 := bm.cell (i := 2) rfl
        have c3 := bm.cell (i := 3) rfl
        have c4 := bm.cell (i := 4) rfl
        have c5 := bm.cell (i := 5) rfl
        have c6 := bm.cell (i := 6) rfl
        clear bm
        go_wp2_with fail
        refine (HC3.out w6).mono ?_
        rintro r w7 ⟨rfl, hbk⟩
        dsimp only
        replace HB := Lib.hid (And.intro (HB.out.1.kept hbk) (below_trans HB.out.2 hbk))
        have bm := HB.out.1
        clear c0 c1 c2 c3 c4 c5 c6 hbk
        have c0 := bm.cell (i := 0) rfl
        have c1 := bm.cell (i := 1) rfl
        have c2 := bm.cell (i := 2) rfl
        have c3 := bm.cell (i := 3) rfl
        have c4 := bm.cell (i := 4) rfl
        have c5 := bm.cell (i := 5) rfl
        have c6 := bm.cell (i := 6) rfl
        clear bm
        clear c0 c1 c2 c3 c4 c5 c6
        go_upto_region 35 with fail
        refine wp_named ?_
        intro w8 hw8
        have hbk : Below w7.heap.size w7 w8 := by rw [hw8]; exact below_alloc _
        replace HB := Lib.hid (And.intro (HB.out.1.kept hbk) (below_trans HB.out.2 hbk))
        have bm := HB.out.1
        clear hw8 hbk
        have c0 := bm.cell (i := 0) rfl
        have c1 := bm.cell (i := 1) rfl
        have c2 := bm.cell (i := 2) rfl
        have c3 := bm.cell (i := 3) rfl
        have c4 := bm.cell (i := 4) rfl
        have c5 := bm.cell (i := 5) rfl
        have c6 := bm.cell (i := 6) rfl
        clear bm
        go_wp2_with fail
        refine (HC4.out w8).mono ?_
        rintro r w9 ⟨rfl, hbk⟩
        dsimp only
        replace HB := Lib.hid (And.intro (HB.out.1.kept hbk) (below_trans HB.out.2 hbk))
        have bm := HB.out.1
        clear c0 c1 c2 c3 c4 c5 c6 hbk
        have c0 := bm.cell (i := 0) rfl
        have c1 := bm.cell (i := 1) rfl
        have c2 := bm.cell (i := 2) rfl
        have c3 := bm.cell (i := 3) rfl
        have c4 := bm.cell (i := 4) rfl
        have c5 := bm.cell (i := 5) rfl
        have c6 := bm.cell (i := 6) rfl
        clear bm
        clear c0 c1 c2 c3 c4 c5 c6
        go_upto_region 36 with fail
        refine wp_named ?_
        intro w10 hw10
        have hbk : Below w9.heap.size w9 w10 := by rw [hw10]; exact below_alloc _
        replace HB := Lib.hid (And.intro (HB.out.1.kept hbk) (below_trans HB.out.2 hbk))
        have bm := HB.out.1
        clear hw10 hbk
        have c0 := bm.cell (i := 0) rfl
        have c1 := bm.cell (i := 1) rfl
        have c2 := bm.cell (i := 2) rfl
        have c3 := bm.cell (i := 3) rfl
        have c4 := bm.cell (i := 4) rfl
        have c5 := bm.cell (i := 5) rfl
        have c6 := bm.cell (i := 6) rfl
        clear bm
        go_wp2_with fail
        refine (HC5.out w10).mono ?_
        rintro r w11 ⟨rfl, hbk⟩
        dsimp only
        replace HB := Lib.hid (And.intro (HB.out.1.kept hbk) (below_trans HB.out.2 hbk))
        have bm := HB.out.1
        clear c0 c1 c2 c3 c4 c5 c6 hbk
        have c0 := bm.cell (i := 0) rfl
        have c1 := bm.cell (i := 1) rfl
        have c2 := bm.cell (i := 2) rfl
        have c3 := bm.cell (i := 3) rfl
        have c4 := bm.cell (i := 4) rfl
        have c5 := bm.cell (i := 5) rfl
        have c6 := bm.cell (i := 6) rfl
        clear bm
        clear c0 c1 c2 c3 c4 c5 c6
        go_upto_region 37 with fail
        refine wp_named ?_
        intro w12 hw12
        have hbk : Below w11.heap.size w11 w12 := by rw [hw12]; exact below_alloc _
        replace HB := Lib.hid (And.intro (HB.out.1.kept hbk) (below_trans HB.out.2 hbk))
        have bm := HB.out.1
        clear hw12 hbk
        have c0 := bm.cell (i := 0) rfl
        have c1 := bm.cell (i := 1) rfl
        have c2 := bm.cell (i := 2) rfl
        have c3 := bm.cell (i := 3) rfl
        have c4 := bm.cell (i := 4) rfl
        have c5 := bm.cell (i := 5) rfl
        have c6 := bm.cell (i := 6) rfl
        clear bm
        go_wp2_with fail
        refine RT.wp_seq_all (T := ShT w12.heap.size) (fun k => k == 1 || k == 2 || k == 6 || k == 7) (fun k x => if k = 1 then .agg #[.int .i64 2, .int .i64 1, .int .i64 3, .int .i64 8, .bool false, .int .i64 4, .string ⟨#[1, 2, 3, 4, 5, 6, 0, 0]⟩] else if k = 2 then .tuple #[.agg #[.int .i64 0, .int .i64 0, .int .i64 0, .int .i64 0, .bool false, .int .i64 0, .string ⟨#[]⟩], .int .i64 420] else if k = 6 then .pointer (some ⟨x.i, 0, none⟩) else undef)
          (fun k x W => k = 6 → RowS W x.i ∧ w12.heap.size ≤ x.i) trivial (by kernel_rfl) (by kernel_rfl) (fun _ _ _ _ hT h e => ⟨hT.rows _ (h e).1, (h e).2⟩) ?_
        repeat (first | (refine RT.seq_skip (by rfl) ?_; simp only [Act.put, List.setIfInBounds_toArray, List.set_cons_zero, List.set_cons_succ, Nat.reduceAdd]) | (refine RT.seq_pure (v := ?_) (by rfl) (by rfl) (fun W hW hn => ?_) ?_; rotate_left; (have hC := ShT.cell0 hW; clear hW hn; go_simp <;> with_reducible rfl); simp only [Act.put, List.setIfInBounds_toArray, List.set_cons_zero, List.set_cons_succ, Nat.reduceAdd]))
        refine RT.seq_made (by rfl) (by rfl) (fun W hW hn hF R hR => ?_) (fun _ => ?_)
        · unfold RT.Gives; go_simp
          refine (six_calls W).mono ?_
          rintro r w8 ⟨rfl, hb8⟩
          refine ⟨_, rfl, ?_⟩
          exact hR {} _ (ShT.of_below hb8) (fun h => absurd h (by decide)) (fun _ h => h)
        simp only [Act.put, List.setIfInBounds_toArray, List.set_cons_zero, List.set_cons_succ, Nat.reduceAdd]
        repeat (first | (refine RT.seq_skip (by rfl) ?_; simp only [Act.put, List.setIfInBounds_toArray, List.set_cons_zero, List.set_cons_succ, Nat.reduceAdd]) | (refine RT.seq_pure (v := ?_) (by rfl) (by rfl) (fun W hW hn => ?_) ?_; rotate_left; (have hC := ShT.cell0 hW; clear hW hn; go_simp <;> with_reducible rfl); simp only [Act.put, List.setIfInBounds_toArray, List.set_cons_zero, List.set_cons_succ, Nat.reduceAdd]))
        refine RT.seq_made (by rfl) (by rfl) (fun W hW hn hF R hR => ?_) (fun _ => ?_)
        · unfold RT.Gives; go_simp
          refine (HC6.out W).mono ?_
          rintro r w8 ⟨rfl, hb8⟩
          refine ⟨_, rfl, ?_⟩
          exact hR {} _ (ShT.of_below hb8) (fun h => absurd h (by decide)) (fun _ h => h)
        simp only [Act.put, List.setIfInBounds_toArray, List.set_cons_zero, List.set_cons_succ, Nat.reduceAdd]
        repeat (first | (refine RT.seq_skip (by rfl) ?_; simp only [Act.put, List.setIfInBounds_toArray, List.set_cons_zero, List.set_cons_succ, Nat.reduceAdd]) | (refine RT.seq_pure (v := ?_) (by rfl) (by rfl) (fun W hW hn => ?_) ?_; rotate_left; (have hC := ShT.cell0 hW; clear hW hn; go_simp <;> with_reducible rfl); simp only [Act.put, List.setIfInBounds_toArray, List.set_cons_zero, List.set_cons_succ, Nat.reduceAdd]))
        refine RT.seq_made (by rfl) (by rfl) (fun W hW hn hF R hR => ?_) (fun y6 => ?_)
        · unfold RT.Gives; go_simp
          exact hR { i := W.heap.size } _ (ShT.of_below (below_alloc _)) (fun _ => ⟨row_alloc _ _ rfl, hW.size⟩) (fun _ h => h)
        simp only [Act.put, List.setIfInBounds_toArray, List.set_cons_zero, List.set_cons_succ, Nat.reduceAdd]
        repeat (first | (refine RT.seq_skip (by rfl) ?_; simp only [Act.put, List.setIfInBounds_toArray, List.set_cons_zero, List.set_cons_succ, Nat.reduceAdd]) | (refine RT.seq_pure (v := ?_) (by rfl) (by rfl) (fun W hW hn => ?_) ?_; rotate_left; (have hC := ShT.cell0 hW; clear hW hn; go_simp <;> with_reducible rfl); simp only [Act.put, List.setIfInBounds_toArray, List.set_cons_zero, List.set_cons_succ, Nat.reduceAdd]))
        refine RT.seq_made (by rfl) (by rfl) (fun W hW hn hF R hR => ?_) (fun _ => ?_)
        · have hrow := hF 6 _ (List.mem_cons_self ..) (by decide +kernel) (by first | rfl | trivial)
          exact gives_store _ _ rfl y6.i _ rfl rfl hrow.1 rfl (by kernel_rfl) w12.heap.size hrow.2 fun W2 hT => hR {} _ hT (fun h => absurd h (by decide)) (fun _ h => h)
        simp only [Act.put, List.setIfInBounds_toArray, List.set_cons_zero, List.set_cons_succ, Nat.reduceAdd]
        repeat (first | (refine RT.seq_skip (by rfl) ?_; simp only [Act.put, List.setIfInBounds_toArray, List.set_cons_zero, List.set_cons_succ, Nat.reduceAdd]) | (refine RT.seq_pure (v := ?_) (by rfl) (by rfl) (fun W hW hn => ?_) ?_; rotate_left; (have hC := ShT.cell0 hW; clear hW hn; go_simp <;> with_reducible rfl); simp only [Act.put, List.setIfInBounds_toArray, List.set_cons_zero, List.set_cons_succ, Nat.reduceAdd]))
        refine RT.seq_nil ?_; intro w13 hW hF
        clear hF c0 c1 c2 c3 c4 c5 c6
        have hbk := ShT.below hW
        clear hW
        replace HB := Lib.hid (And.intro (HB.out.1.kept hbk) (below_trans HB.out.2 hbk))
        have bm := HB.out.1
        clear hbk
        have c0 := bm.cell (i := 0) rfl
        have c1 := bm.cell (i := 1) rfl
        have c2 := bm.cell (i := 2) rfl
        have c3 := bm.cell (i := 3) rfl
        have c4 := bm.cell (i := 4) rfl
        have c5 := bm.cell (i := 5) rfl
        have c6 := bm.cell (i := 6) rfl
        clear bm
        go_wp2_with fail
        refine RT.wp_seq_all (T := ShT w13.heap.size) (fun k => k == 0 || k == 2 || k == 6 || k == 7) (fun k x => if k = 0 then .agg #[.int .i64 2, .int .i64 1, .int .i64 3, .int .i64 8, .bool false, .int .i64 4, .string ⟨#[1, 2, 3, 4, 5, 6, 0, 0]⟩] else if k = 2 then .tuple #[.agg #[.int .i64 0, .int .i64 0, .int .i64 0, .int .i64 0, .bool false, .int .i64 0, .string ⟨#[]⟩], .int .i64 420] else if k = 6 then .pointer (some ⟨x.i, 0, none⟩) else undef)
          (fun k x W => k = 6 → RowS W x.i ∧ w13.heap.size ≤ x.i) trivial (by kernel_rfl) (by kernel_rfl) (fun _ _ _ _ hT h e => ⟨hT.rows _ (h e).1, (h e).2⟩) ?_
        repeat (first | (refine RT.seq_skip (by rfl) ?_; simp only [Act.put, List.setIfInBounds_toArray, List.set_cons_zero, List.set_cons_succ, Nat.reduceAdd]) | (refine RT.seq_pure (v := ?_) (by rfl) (by rfl) (fun W hW hn => ?_) ?_; rotate_left; (have hC := ShT.cell0 hW; clear hW hn; go_simp <;> with_reducible rfl); simp only [Act.put, List.setIfInBounds_toArray, List.set_cons_zero, List.set_cons_succ, Nat.reduceAdd]))
        refine RT.seq_made (by rfl) (by rfl) (fun W hW hn hF R hR => ?_) (fun _ => ?_)
        · unfold RT.Gives; go_simp
          refine (six_calls W).mono ?_
          rintro r w8 ⟨rfl, hb8⟩
          refine ⟨_, rfl, ?_⟩
          exact hR {} _ (ShT.of_below hb8) (fun h => absurd h (by decide)) (fun _ h => h)
        simp only [Act.put, List.setIfInBounds_toArray, List.set_cons_zero, List.set_cons_succ, Nat.reduceAdd]
        repeat (first | (refine RT.seq_skip (by rfl) ?_; simp only [Act.put, List.setIfInBounds_toArray, List.set_cons_zero, List.set_cons_succ, Nat.reduceAdd]) | (refine RT.seq_pure (v := ?_) (by rfl) (by rfl) (fun W hW hn => ?_) ?_; rotate_left; (have hC := ShT.cell0 hW; clear hW hn; go_simp <;> with_reducible rfl); simp only [Act.put, List.setIfInBounds_toArray, List.set_cons_zero, List.set_cons_succ, Nat.reduceAdd]))
        refine RT.seq_made (by rfl) (by rfl) (fun W hW hn hF R hR => ?_) (fun _ => ?_)
        · unfold RT.Gives; go_simp
          refine (HC7.out W).mono ?_
          rintro r w8 ⟨rfl, hb8⟩
          refine ⟨_, rfl, ?_⟩
          exact hR {} _ (ShT.of_below hb8) (fun h => absurd h (by decide)) (fun _ h => h)
        simp only [Act.put, List.setIfInBounds_toArray, List.set_cons_zero, List.set_cons_succ, Nat.reduceAdd]
        repeat (first | (refine RT.seq_skip (by rfl) ?_; simp only [Act.put, List.setIfInBounds_toArray, List.set_cons_zero, List.set_cons_succ, Nat.reduceAdd]) | (refine RT.seq_pure (v := ?_) (by rfl) (by rfl) (fun W hW hn => ?_) ?_; rotate_left; (have hC := ShT.cell0 hW; clear hW hn; go_simp <;> with_reducible rfl); simp only [Act.put, List.setIfInBounds_toArray, List.set_cons_zero, List.set_cons_succ, Nat.reduceAdd]))
        refine RT.seq_made (by rfl) (by rfl) (fun W hW hn hF R hR => ?_) (fun y6 => ?_)
        · unfold RT.Gives; go_simp
          exact hR { i := W.heap.size } _ (ShT.of_below (below_alloc _)) (fun _ => ⟨row_alloc _ _ rfl, hW.size⟩) (fun _ h => h)
        simp only [Act.put, List.setIfInBounds_toArray, List.set_cons_zero, List.set_cons_succ, Nat.reduceAdd]
        repeat (first | (refine RT.seq_skip (by rfl) ?_; simp only [Act.put, List.setIfInBounds_toArray, List.set_cons_zero, List.set_cons_succ, Nat.reduceAdd]) | (refine RT.seq_pure (v := ?_) (by rfl) (by rfl) (fun W hW hn => ?_) ?_; rotate_left; (have hC := ShT.cell0 hW; clear hW hn; go_simp <;> with_reducible rfl); simp only [Act.put, List.setIfInBounds_toArray, List.set_cons_zero, List.set_cons_succ, Nat.reduceAdd]))
        refine RT.seq_made (by rfl) (by rfl) (fun W hW hn hF R hR => ?_) (fun _ => ?_)
        · have hrow := hF 6 _ (List.mem_cons_self ..) (by decide +kernel) (by first | rfl | trivial)
          exact gives_store _ _ rfl y6.i _ rfl rfl hrow.1 rfl (by kernel_rfl) w13.heap.size hrow.2 fun W2 hT => hR {} _ hT (fun h => absurd h (by decide)) (fun _ h => h)
        simp only [Act.put, List.setIfInBounds_toArray, List.set_cons_zero, List.set_cons_succ, Nat.reduceAdd]
        repeat (first | (refine RT.seq_skip (by rfl) ?_; simp only [Act.put, List.setIfInBounds_toArray, List.set_cons_zero, List.set_cons_succ, Nat.reduceAdd]) | (refine RT.seq_pure (v := ?_) (by rfl) (by rfl) (fun W hW hn => ?_) ?_; rotate_left; (have hC := ShT.cell0 hW; clear hW hn; go_simp <;> with_reducible rfl); simp only [Act.put, List.setIfInBounds_toArray, List.set_cons_zero, List.set_cons_succ, Nat.reduceAdd]))
        refine RT.seq_nil ?_; intro w14 hW hF
        clear hF c0 c1 c2 c3 c4 c5 c6
        have hbk := ShT.below hW
        clear hW
        replace HB := Lib.hid (And.intro (HB.out.1.kept hbk) (below_trans HB.out.2 hbk))
        have bm := HB.out.1
        clear hbk
        have c0 := bm.cell (i := 0) rfl
        have c1 := bm.cell (i := 1) rfl
        have c2 := bm.cell (i := 2) rfl
        have c3 := bm.cell (i := 3) rfl
        have c4 := bm.cell (i := 4) rfl
        have c5 := bm.cell (i := 5) rfl
        have c6 := bm.cell (i := 6) rfl
        clear bm
        go_wp2_with fail
        refine (HC8.out w14).mono ?_
        rintro r w15 ⟨rfl, hbk⟩
        replace HB := Lib.hid (And.intro (HB.out.1.kept hbk) (below_trans HB.out.2 hbk))
        clear c0 c1 c2 c3 c4 c5 c6 hbk HC1 HC2 HC3 HC4 HC5 HC6 HC7 HC8
        go_wp2_with fail
        go_roundw
        case rel => exact ⟨k + 1, by omega, by go_num, HB.out.2⟩
        case measure => exact meas rfl (by go_num) hlt
    · have HH := HR
      go_wp2_with fail
      refine (six_calls wr).mono ?_
      rintro r w20 ⟨rfl, hbk⟩
      have hbw := below_trans HR.out hbk
      clear hbk
      have HB := Lib.hid hbw
      clear  hbw
      try rw [imgV_eq]
      dsimp only
      go_upto_region 43 with fail
      refine wp_named ?_
      intro w21 hw21
      have hbw := HB.out
      clear HB
      have hbk : Below w20.heap.size w20 w21 := by rw [hw21]; exact below_alloc _
      have bm' : Blk w21 w20.heap.size [.int .i64 2, .int .i64 1, .int .i64 3, .int .i64 8, .bool false, .int .i64 4, .string ⟨#[1, 2, 3, 4, 5, 6, 0, 0]⟩] 24 := by rw [hw21]; exact Blk.new _ _ _
      clear hw21
      replace hbw := below_trans hbw hbk
      clear hbk
      have bm := bm'
      clear bm'
      have c0 := bm.cell (i := 0) rfl
      have c1 := bm.cell (i := 1) rfl
      have c2 := bm.cell (i := 2) rfl
      have c3 := bm.cell (i := 3) rfl
      have c4 := bm.cell (i := 4) rfl
      have c5 := bm.cell (i := 5) rfl
      have c6 := bm.cell (i := 6) rfl
      have HB := Lib.hid (And.intro bm hbw)
      clear bm hbw
      go_wp2_with fail
      refine (shape_calls SIX 16 false 8 w21).mono ?_
      rintro r w22 ⟨rfl, hbk⟩
      rw [n_deep]
      clear c0 c1 c2 c3 c4 c5 c6
      obtain ⟨bm, hbw⟩ := HB.out
      clear HB
      replace bm := bm.kept hbk
      replace hbw := below_trans hbw hbk
      clear hbk
      have HB := Lib.hid (And.intro bm hbw)
      clear bm hbw
      try rw [imgV_eq]
      dsimp only
      go_upto_region 44 with fail
      refine wp_named ?_
      intro w23 hw23
      obtain ⟨bm, hbw⟩ := HB.out
      clear HB
      have hbk : Below w22.heap.size w22 w23 := by rw [hw23]; exact below_alloc _
      have bd' : Blk w23 w22.heap.size [.int .i64 2, .int .i64 1, .int .i64 3, .int .i64 16, .bool false, .int .i64 8, .string ⟨#[1, 1, 2, 2, 3, 3, 4, 4, 5, 5, 6, 6, 0, 0, 0, 0]⟩] 24 := by rw [hw23]; exact Blk.new _ _ _
      clear hw23
      replace bm := bm.kept hbk
      replace hbw := below_trans hbw hbk
      clear hbk
      have bd := bd'
      clear bd'
      have c0 := bm.cell (i := 0) rfl
      have c1 := bm.cell (i := 1) rfl
      have c2 := bm.cell (i := 2) rfl
      have c3 := bm.cell (i := 3) rfl
      have c4 := bm.cell (i := 4) rfl
      have c5 := bm.cell (i := 5) rfl
      have c6 := bm.cell (i := 6) rfl
      have d0 := bd.cell (i := 0) rfl
      have d1 := bd.cell (i := 1) rfl
      have d2 := bd.cell (i := 2) rfl
      have d3 := bd.cell (i := 3) rfl
      have d4 := bd.cell (i := 4) rfl
      have d5 := bd.cell (i := 5) rfl
      have d6 := bd.cell (i := 6) rfl
      have HB := Lib.hid (And.intro bm (And.intro bd hbw))
      clear bm bd hbw
      go_wp2_with fail
      refine (paste_calls SIX ⟨2, 1, 3, 16, false, 8, ⟨#[1, 1, 2, 2, 3, 3, 4, 4, 5, 5, 6, 6, 0, 0, 0, 0]⟩⟩ 0 0 w23).mono ?_
      rintro r w24 ⟨rfl, hbk⟩
      rw [n_p1]
      clear c0 c1 c2 c3 c4 c5 c6
      clear d0 d1 d2 d3 d4 d5 d6
      obtain ⟨bm, bd, hbw⟩ := HB.out
      clear HB
      replace bm := bm.kept hbk
      replace bd := bd.kept hbk
      replace hbw := below_trans hbw hbk
      clear hbk
      have HB := Lib.hid (And.intro bm (And.intro bd hbw))
      clear bm bd hbw
      try rw [imgV_eq]
      dsimp only
      go_upto_region 45 with fail
      refine wp_named ?_
      intro w25 hw25
      obtain ⟨bm, bd, hbw⟩ := HB.out
      clear HB
      have hbk : Below w24.heap.size w24 w25 := by rw [hw25]; exact below_alloc _
      clear hw25
      replace bm := bm.kept hbk
      replace bd := bd.kept hbk
      replace hbw := below_trans hbw hbk
      clear hbk
      have c0 := bm.cell (i := 0) rfl
      have c1 := bm.cell (i := 1) rfl
      have c2 := bm.cell (i := 2) rfl
      have c3 := bm.cell (i := 3) rfl
      have c4 := bm.cell (i := 4) rfl
      have c5 := bm.cell (i := 5) rfl
      have c6 := bm.cell (i := 6) rfl
      have HB := Lib.hid (And.intro bm (And.intro bd hbw))
      clear bm bd hbw
      go_wp2_with fail
      refine calls_named ?_
      intro ws hws
      have bsl : Blk ws w25.heap.size ([0, 256, 0].map (Value.int .i64)) 3 := by rw [hws]; exact Blk.new _ _ _
      have hbs : Below w25.heap.size w25 ws := by rw [hws]; exact below_alloc _
      clear hws
      refine (set_calls SIX 0 0 (some ⟨w25.heap.size, 0, none⟩) 3 [0, 256, 0] ws (blk_row bsl) (by simp) (fun p e => by cases e; exact bsl.lt)).mono ?_
      rintro r w26 ⟨rfl, hbk⟩
      rw [n_s1]
      replace hbk := below_trans hbs hbk
      clear hbs bsl
      clear c0 c1 c2 c3 c4 c5 c6
      obtain ⟨bm, bd, hbw⟩ := HB.out
      clear HB
      replace bm := bm.kept hbk
      replace bd := bd.kept hbk
      replace hbw := below_trans hbw hbk
      clear hbk
      have HB := Lib.hid (And.intro bm (And.intro bd hbw))
      clear bm bd hbw
      try rw [imgV_eq]
      dsimp only
      go_upto_region 46 with fail
      refine wp_named ?_
      intro w27 hw27
      obtain ⟨bm, bd, hbw⟩ := HB.out
      clear HB
      have hbk : Below w26.heap.size w26 w27 := by rw [hw27]; exact below_alloc _
      clear hw27
      replace bm := bm.kept hbk
      replace bd := bd.kept hbk
      replace hbw := below_trans hbw hbk
      clear hbk
      have c0 := bm.cell (i := 0) rfl
      have c1 := bm.cell (i := 1) rfl
      have c2 := bm.cell (i := 2) rfl
      have c3 := bm.cell (i := 3) rfl
      have c4 := bm.cell (i := 4) rfl
      have c5 := bm.cell (i := 5) rfl
      have c6 := bm.cell (i := 6) rfl
      have HB := Lib.hid (And.intro bm (And.intro bd hbw))
      clear bm bd hbw
      go_wp2_with fail
      refine calls_named ?_
      intro ws hws
      have bsl : Blk ws w27.heap.size ([0, -1, 0].map (Value.int .i64)) 3 := by rw [hws]; exact Blk.new _ _ _
      have hbs : Below w27.heap.size w27 ws := by rw [hws]; exact below_alloc _
      clear hws
      refine (set_calls SIX 0 0 (some ⟨w27.heap.size, 0, none⟩) 3 [0, -1, 0] ws (blk_row bsl) (by simp) (fun p e => by cases e; exact bsl.lt)).mono ?_
      rintro r w28 ⟨rfl, hbk⟩
      rw [n_s2]
      replace hbk := below_trans hbs hbk
      clear hbs bsl
      clear c0 c1 c2 c3 c4 c5 c6
      obtain ⟨bm, bd, hbw⟩ := HB.out
      clear HB
      replace bm := bm.kept hbk
      replace bd := bd.kept hbk
      replace hbw := below_trans hbw hbk
      clear hbk
      have HB := Lib.hid (And.intro bm (And.intro bd hbw))
      clear bm bd hbw
      try rw [imgV_eq]
      dsimp only
      go_upto_region 47 with fail
      refine wp_named ?_
      intro w29 hw29
      obtain ⟨bm, bd, hbw⟩ := HB.out
      clear HB
      have hbk : Below w28.heap.size w28 w29 := by rw [hw29]; exact below_alloc _
      clear hw29
      replace bm := bm.kept hbk
      replace bd := bd.kept hbk
      replace hbw := below_trans hbw hbk
      clear hbk
      have c0 := bm.cell (i := 0) rfl
      have c1 := bm.cell (i := 1) rfl
      have c2 := bm.cell (i := 2) rfl
      have c3 := bm.cell (i := 3) rfl
      have c4 := bm.cell (i := 4) rfl
      have c5 := bm.cell (i := 5) rfl
      have c6 := bm.cell (i := 6) rfl
      have HB := Lib.hid (And.intro bm (And.intro bd hbw))
      clear bm bd hbw
      go_wp2_with fail
      refine calls_named ?_
      intro ws hws
      have bsl : Blk ws w29.heap.size ([0, 0].map (Value.int .i64)) 3 := by rw [hws]; exact Blk.new _ _ _
      have hbs : Below w29.heap.size w29 ws := by rw [hws]; exact below_alloc _
      clear hws
      refine (set_calls SIX 0 0 (some ⟨w29.heap.size, 0, none⟩) 2 [0, 0] ws (blk_row bsl) (by simp) (fun p e => by cases e; exact bsl.lt)).mono ?_
      rintro r w30 ⟨rfl, hbk⟩
      rw [n_s3]
      replace hbk := below_trans hbs hbk
      clear hbs bsl
      clear c0 c1 c2 c3 c4 c5 c6
      obtain ⟨bm, bd, hbw⟩ := HB.out
      clear HB
      replace bm := bm.kept hbk
      replace bd := bd.kept hbk
      replace hbw := below_trans hbw hbk
      clear hbk
      have HB := Lib.hid (And.intro bm (And.intro bd hbw))
      clear bm bd hbw
      try rw [imgV_eq]
      dsimp only
      go_upto_region 48 with fail
      refine wp_named ?_
      intro w31 hw31
      obtain ⟨bm, bd, hbw⟩ := HB.out
      clear HB
      have hbk : Below w30.heap.size w30 w31 := by rw [hw31]; exact below_alloc _
      clear hw31
      replace bm := bm.kept hbk
      replace bd := bd.kept hbk
      replace hbw := below_trans hbw hbk
      clear hbk
      have c0 := bm.cell (i := 0) rfl
      have c1 := bm.cell (i := 1) rfl
      have c2 := bm.cell (i := 2) rfl
      have c3 := bm.cell (i := 3) rfl
      have c4 := bm.cell (i := 4) rfl
      have c5 := bm.cell (i := 5) rfl
      have c6 := bm.cell (i := 6) rfl
      have HB := Lib.hid (And.intro bm (And.intro bd hbw))
      clear bm bd hbw
      go_wp2_with fail
      refine (cut_calls SIX 1 0 2 1 w31).mono ?_
      rintro r w32 ⟨rfl, hbk⟩
      rw [n_c1]
      clear c0 c1 c2 c3 c4 c5 c6
      obtain ⟨bm, bd, hbw⟩ := HB.out
      clear HB
      replace bm := bm.kept hbk
      replace bd := bd.kept hbk
      replace hbw := below_trans hbw hbk
      clear hbk
      have HB := Lib.hid (And.intro bm (And.intro bd hbw))
      clear bm bd hbw
      try rw [imgV_eq]
      dsimp only
      go_upto_region 49 with fail
      refine wp_named ?_
      intro w33 hw33
      obtain ⟨bm, bd, hbw⟩ := HB.out
      clear HB
      have hbk : Below w32.heap.size w32 w33 := by rw [hw33]; exact below_alloc _
      clear hw33
      replace bm := bm.kept hbk
      replace bd := bd.kept hbk
      replace hbw := below_trans hbw hbk
      clear hbk
      have c0 := bm.cell (i := 0) rfl
      have c1 := bm.cell (i := 1) rfl
      have c2 := bm.cell (i := 2) rfl
      have c3 := bm.cell (i := 3) rfl
      have c4 := bm.cell (i := 4) rfl
      have c5 := bm.cell (i := 5) rfl
      have c6 := bm.cell (i := 6) rfl
      have HB := Lib.hid (And.intro bm (And.intro bd hbw))
      clear bm bd hbw
      go_wp2_with fail
      refine (cut_calls SIX 0 0 0 1 w33).mono ?_
      rintro r w34 ⟨rfl, hbk⟩
      rw [n_c2]
      clear c0 c1 c2 c3 c4 c5 c6
      obtain ⟨bm, bd, hbw⟩ := HB.out
      clear HB
      replace bm := bm.kept hbk
      replace bd := bd.kept hbk
      replace hbw := below_trans hbw hbk
      clear hbk
      have HB := Lib.hid (And.intro bm (And.intro bd hbw))
      clear bm bd hbw
      try rw [imgV_eq]
      dsimp only
      go_upto_region 50 with fail
      refine wp_named ?_
      intro w35 hw35
      obtain ⟨bm, bd, hbw⟩ := HB.out
      clear HB
      have hbk : Below w34.heap.size w34 w35 := by rw [hw35]; exact below_alloc _
      clear hw35
      replace bm := bm.kept hbk
      replace bd := bd.kept hbk
      replace hbw := below_trans hbw hbk
      clear hbk
      have c0 := bm.cell (i := 0) rfl
      have c1 := bm.cell (i := 1) rfl
      have c2 := bm.cell (i := 2) rfl
      have c3 := bm.cell (i := 3) rfl
      have c4 := bm.cell (i := 4) rfl
      have c5 := bm.cell (i := 5) rfl
      have c6 := bm.cell (i := 6) rfl
      have HB := Lib.hid (And.intro bm (And.intro bd hbw))
      clear bm bd hbw
      go_wp2_with fail
      refine (cut_calls SIX (-1) 0 1 1 w35).mono ?_
      rintro r w36 ⟨rfl, hbk⟩
      rw [n_c3]
      clear c0 c1 c2 c3 c4 c5 c6
      obtain ⟨bm, bd, hbw⟩ := HB.out
      clear HB
      replace bm := bm.kept hbk
      replace bd := bd.kept hbk
      replace hbw := below_trans hbw hbk
      clear hbk
      have HB := Lib.hid (And.intro bm (And.intro bd hbw))
      clear bm bd hbw
      try rw [imgV_eq]
      dsimp only
      go_upto_region 51 with fail
      refine wp_named ?_
      intro w37 hw37
      obtain ⟨bm, bd, hbw⟩ := HB.out
      clear HB
      have hbk : Below w36.heap.size w36 w37 := by rw [hw37]; exact below_alloc _
      clear hw37
      replace bm := bm.kept hbk
      replace bd := bd.kept hbk
      replace hbw := below_trans hbw hbk
      clear hbk
      have c0 := bm.cell (i := 0) rfl
      have c1 := bm.cell (i := 1) rfl
      have c2 := bm.cell (i := 2) rfl
      have c3 := bm.cell (i := 3) rfl
      have c4 := bm.cell (i := 4) rfl
      have c5 := bm.cell (i := 5) rfl
      have c6 := bm.cell (i := 6) rfl
      have HB := Lib.hid (And.intro bm (And.intro bd hbw))
      clear bm bd hbw
      go_wp2_with fail
      refine (paste_calls SIX SIX 1 0 w37).mono ?_
      rintro r w38 ⟨rfl, hbk⟩
      rw [n_p2]
      clear c0 c1 c2 c3 c4 c5 c6
      obtain ⟨bm, bd, hbw⟩ := HB.out
      clear HB
      replace bm := bm.kept hbk
      replace bd := bd.kept hbk
      replace hbw := below_trans hbw hbk
      clear hbk
      have HB := Lib.hid (And.intro bm (And.intro bd hbw))
      clear bm bd hbw
      try rw [imgV_eq]
      dsimp only
      go_upto_region 52 with fail
      refine wp_named ?_
      intro w39 hw39
      obtain ⟨bm, bd, hbw⟩ := HB.out
      clear HB
      have hbk : Below w38.heap.size w38 w39 := by rw [hw39]; exact below_alloc _
      clear hw39
      replace bm := bm.kept hbk
      replace bd := bd.kept hbk
      replace hbw := below_trans hbw hbk
      clear hbk
      have HB := Lib.hid (And.intro bm (And.intro bd hbw))
      clear bm bd hbw
      go_wp2_with fail
      refine (make_calls 64 64 2 8 false 1 w39).mono ?_
      rintro r w40 ⟨rfl, hbk⟩
      rw [n_m1]
      obtain ⟨bm, bd, hbw⟩ := HB.out
      clear HB
      replace bm := bm.kept hbk
      replace bd := bd.kept hbk
      replace hbw := below_trans hbw hbk
      clear hbk
      have HB := Lib.hid (And.intro bm (And.intro bd hbw))
      clear bm bd hbw
      try rw [imgV_eq]
      dsimp only
      go_upto_region 53 with fail
      refine wp_named ?_
      intro w41 hw41
      obtain ⟨bm, bd, hbw⟩ := HB.out
      clear HB
      have hbk : Below w40.heap.size w40 w41 := by rw [hw41]; exact below_alloc _
      clear hw41
      replace bm := bm.kept hbk
      replace bd := bd.kept hbk
      replace hbw := below_trans hbw hbk
      clear hbk
      have HB := Lib.hid (And.intro bm (And.intro bd hbw))
      clear bm bd hbw
      go_wp2_with fail
      refine (make_calls 64 64 1 16 true 8 w41).mono ?_
      rintro r w42 ⟨rfl, hbk⟩
      rw [n_m2]
      obtain ⟨bm, bd, hbw⟩ := HB.out
      clear HB
      replace bm := bm.kept hbk
      replace bd := bd.kept hbk
      replace hbw := below_trans hbw hbk
      clear hbk
      obtain ⟨R, hR⟩ : ∃ R, img ⟨64, 64, 1, 2, true, 8⟩ (fun _ _ _ => 0) = R := ⟨_, rfl⟩
      have HBig := Lib.hid (show R.O.size = 8192 by rw [← hR]; exact n_big)
      rw [hR]
      clear hR
      have HB := Lib.hid (And.intro bm (And.intro bd hbw))
      clear bm bd hbw
      try rw [imgV_eq]
      dsimp only
      go_upto_region 54 with fail
      refine wp_named ?_
      intro w43 hw43
      obtain ⟨bm, bd, hbw⟩ := HB.out
      clear HB
      have hbk : Below w42.heap.size w42 w43 := by rw [hw43]; exact below_alloc _
      have bg' : Blk w43 w42.heap.size [.int .i64 R.W, .int .i64 R.H, .int .i64 R.C, .int .i64 R.B, .bool R.P, .int .i64 R.Pd, .string R.O] 24 := by rw [hw43]; exact Blk.new _ _ _
      clear hw43
      replace bm := bm.kept hbk
      replace bd := bd.kept hbk
      replace hbw := below_trans hbw hbk
      clear hbk
      have bg := bg'
      clear bg'
      have d0 := bd.cell (i := 0) rfl
      have d1 := bd.cell (i := 1) rfl
      have d2 := bd.cell (i := 2) rfl
      have d3 := bd.cell (i := 3) rfl
      have d4 := bd.cell (i := 4) rfl
      have d5 := bd.cell (i := 5) rfl
      have d6 := bd.cell (i := 6) rfl
      have HB := Lib.hid (And.intro bm (And.intro bd (And.intro bg hbw)))
      clear bm bd bg hbw
      go_wp2_with fail
      refine (stridem_calls ⟨2, 1, 3, 16, false, 8, ⟨#[1, 1, 2, 2, 3, 3, 4, 4, 5, 5, 6, 6, 0, 0, 0, 0]⟩⟩ w43).mono ?_
      rintro r w44 ⟨rfl, hbk⟩
      rw [n_st]
      clear d0 d1 d2 d3 d4 d5 d6
      obtain ⟨bm, bd, bg, hbw⟩ := HB.out
      clear HB
      replace bm := bm.kept hbk
      replace bd := bd.kept hbk
      replace bg := bg.kept hbk
      replace hbw := below_trans hbw hbk
      clear hbk
      dsimp only
      have HB := Lib.hid (And.intro bm (And.intro bd (And.intro bg hbw)))
      clear bm bd bg hbw
      go_wp2_with fail
      refine (make_calls 2 1 1 16 false 1 w44).mono ?_
      rintro r w45 ⟨rfl, hbk⟩
      rw [n_m3]
      obtain ⟨bm, bd, bg, hbw⟩ := HB.out
      clear HB
      replace bm := bm.kept hbk
      replace bd := bd.kept hbk
      replace bg := bg.kept hbk
      replace hbw := below_trans hbw hbk
      clear hbk
      have HGL := Lib.hid bg.lt
      have HGW := Lib.hid hbw.size
      have HB := Lib.hid (And.intro bm (And.intro bd (And.intro bg hbw)))
      clear bm bd bg hbw
      try rw [imgV_eq]
      dsimp only
      go_upto_region 56 with fail
      refine wp_named ?_
      intro w46 hw46
      obtain ⟨bm, bd, bg, hbw⟩ := HB.out
      clear HB
      have hbk : Below w45.heap.size w45 w46 := by rw [hw46]; exact below_alloc _
      have bh' : Blk w46 w45.heap.size [.int .i64 2, .int .i64 1, .int .i64 1, .int .i64 16, .bool false, .int .i64 1, .string ⟨#[0, 0, 0, 0]⟩] 24 := by rw [hw46]; exact Blk.new _ _ _
      clear hw46
      replace bm := bm.kept hbk
      replace bd := bd.kept hbk
      replace bg := bg.kept hbk
      replace hbw := below_trans hbw hbk
      clear hbk
      have bh := bh'
      clear bh'
      have e6 := bh.cell (i := 6) rfl
      have g6 := bh.free 6
      have HLh := Lib.hid bh.lt
      have HB := Lib.hid (And.intro bm (And.intro bd (And.intro bg (And.intro bh hbw))))
      clear bm bd bg bh hbw
      go_upto_region 57 with fail
      refine wp_named ?_
      intro w47 hw47
      obtain ⟨bm, bd, bg, bh, hbw⟩ := HB.out
      clear HB
      have hh : Blk w47 w45.heap.size [.int .i64 2, .int .i64 1, .int .i64 1, .int .i64 16, .bool false, .int .i64 1, .string ⟨#[0, 128, 0, 129]⟩] 24 := by rw [hw47]; exact bh.set 6 _
      have bg2 : Blk w47 w42.heap.size [.int .i64 R.W, .int .i64 R.H, .int .i64 R.C, .int .i64 R.B, .bool R.P, .int .i64 R.Pd, .string R.O] 24 := by rw [hw47]; exact bg.other (by show w42.heap.size ≠ w45.heap.size; have := HGL.out; omega) _
      replace hbw : Below w.heap.size w w47 := by rw [hw47]; exact hbw.setCell (p := ⟨w45.heap.size, 6, none⟩) (by have := HGW.out; exact this) _
      clear hw47 bm bd bh bg e6 g6
      have bh := hh
      have bg := bg2
      clear hh bg2
      have c0 := bh.cell (i := 0) rfl
      have c1 := bh.cell (i := 1) rfl
      have c2 := bh.cell (i := 2) rfl
      have c3 := bh.cell (i := 3) rfl
      have c4 := bh.cell (i := 4) rfl
      have c5 := bh.cell (i := 5) rfl
      have c6 := bh.cell (i := 6) rfl
      have HB := Lib.hid (And.intro bg (And.intro bh hbw))
      clear bg bh hbw
      go_wp2_with fail
      refine (shape_calls ⟨2, 1, 1, 16, false, 1, ⟨#[0, 128, 0, 129]⟩⟩ 8 false 1 w47).mono ?_
      rintro r w48 ⟨rfl, hbk⟩
      rw [n_fl]
      clear c0 c1 c2 c3 c4 c5 c6
      obtain ⟨bg, bh, hbw⟩ := HB.out
      clear HB
      replace bg := bg.kept hbk
      replace bh := bh.kept hbk
      replace hbw := below_trans hbw hbk
      clear hbk
      have HB := Lib.hid (And.intro bg (And.intro bh hbw))
      clear bg bh hbw
      try rw [imgV_eq]
      dsimp only
      go_upto_region 58 with fail
      refine wp_named ?_
      intro w49 hw49
      obtain ⟨bg, bh, hbw⟩ := HB.out
      clear HB
      have hbk : Below w48.heap.size w48 w49 := by rw [hw49]; exact below_alloc _
      have bf' : Blk w49 w48.heap.size [.int .i64 2, .int .i64 1, .int .i64 1, .int .i64 8, .bool false, .int .i64 1, .string ⟨#[0, 1]⟩] 24 := by rw [hw49]; exact Blk.new _ _ _
      clear hw49
      replace bg := bg.kept hbk
      replace bh := bh.kept hbk
      replace hbw := below_trans hbw hbk
      clear hbk
      have bf := bf'
      clear bf'
      have HB := Lib.hid (And.intro bg (And.intro bh (And.intro bf hbw)))
      clear bg bh bf hbw
      go_wp2_with fail
      refine (make_calls 3 1 1 8 true 4 w49).mono ?_
      rintro r w50 ⟨rfl, hbk⟩
      rw [n_m4]
      obtain ⟨bg, bh, bf, hbw⟩ := HB.out
      clear HB
      replace bg := bg.kept hbk
      replace bh := bh.kept hbk
      replace bf := bf.kept hbk
      replace hbw := below_trans hbw hbk
      clear hbk
      try rw [imgV_eq]
      dsimp only
      have s1 := bg.cell (i := 6) rfl
      have s2 := bf.cell (i := 6) rfl
      have l1 := bg.lt
      have l2 := bf.lt
      have hsz : (R.O.size : Int) = 8192 := by have := HBig.out; omega
      have hszn : R.O.size = 8192 := HBig.out
      have HB := Lib.hid hbw
      clear bg bh bf hbw
      go_wp2_with fail
      go_ret
      exact ⟨rfl, by repeat (first | exact HB.out | refine below_trans ?_ (below_alloc _))⟩
end Go.Proofs.Ytpgkhhdobolfbaa
