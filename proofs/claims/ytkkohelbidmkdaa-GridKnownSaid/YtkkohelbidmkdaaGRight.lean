/-
  The reference's Right: the grid's form.
-/
import Derived.Test.YtkkohelbidmkdaaGRef
import Derived.Test.YtkkohelbidmkdaaGPlain
namespace Go.Proofs.Ytkkohelbidmkdaa
set_option linter.unusedVariables false
set_option linter.unusedSimpArgs false
open Go Go.RowKit

theorem inI_out (lo hi x : Int) : inI lo hi x = !outB lo hi x := by
  unfold inI outB
  by_cases c : lo ≤ x <;> by_cases d : x ≤ hi
  · have h1 : ¬ x < lo := by omega
    have h2 : ¬ hi < x := by omega
    simp [c, d, h1, h2]
  · have h2 : hi < x := by omega
    simp [c, d, h2]
  · have h1 : x < lo := by omega
    simp [c, h1]
  · have h1 : x < lo := by omega
    simp [c, h1]

set_option maxHeartbeats 800000 in
theorem right_calls (A B : Option Addr) (c e : Nat) (s d : List Int) (o : Int) (w : World) (hs : Cs w .i64 A s) (hd : Cs w .i64 B d) (ls : s.length ≤ 9223372036854775807) (ld : d.length ≤ 9223372036854775807) :
    Calls Try.prog 36 #[.agg #[.slice A s.length c, .int .i64 o, .slice B d.length e]] w fun r w' => r = .returned (.bool (decide (checkN s o d = 0))) ∧ Below w.heap.size w w' := by
  have HS := Lib.hid hs
  have HD := Lib.hid hd
  clear hs hd
  go_enter Try.func36, Try.ntmps36
  go_wp2_with fail
  refine calls_named ?_
  intro w1 hw1
  have hb1 : Below w.heap.size w w1 := by rw [hw1]; exact below_alloc _
  have b0 : Blk w1 w.heap.size [.slice A s.length c, .int .i64 o, .slice B d.length e] 24 := by rw [hw1]; exact Blk.new _ _ _
  clear hw1
  have c0 := b0.cell (i := 0) rfl
  have c1 := b0.cell (i := 1) rfl
  have c2 := b0.cell (i := 2) rfl
  have HB := Lib.hid (And.intro b0 hb1)
  clear b0 hb1
  refine (within_calls _ _ _ _).mono ?_
  rintro r w2 ⟨rfl, rfl⟩
  by_cases hA : inI 1 4 (s.length : Int) = true
  · by_cases hO : inI 1 4 o = true
    · have HA := Lib.hid (And.intro hA hO)
      go_wp2_with (go_at_call 41; refine (within_calls _ _ _ _).mono ?_; rintro r w4 ⟨rfl, rfl⟩)
      go_loop [3] (fun i => ∃ k : Nat, k ≤ s.length ∧ i = .int .i64 k ∧ (s.take k).any (outB 2 9) = false) (fun i => s.length - (intOf i).toNat)
      case atStart => exact ⟨0, Nat.zero_le _, rfl, rfl⟩
      case round =>
        obtain ⟨k, hk, rfl, hall⟩ := hrel
        have HALL := Lib.hid hall
        clear hall
        by_cases hlt : k < s.length
        · obtain ⟨x, bb, oo, hx, rfl, hcx⟩ := HS.out.at hlt
          replace hcx := kept HB.out.2 hcx
          have HX := Lib.hid hx
          clear hx
          by_cases hxi : inI 2 9 x = true
          · go_wp2_with (go_at_call 41; refine (within_calls _ _ _ _).mono ?_; rintro r w5 ⟨rfl, rfl⟩)
            go_round
            case rel =>
              refine ⟨k + 1, by omega, by go_num, ?_⟩
              rw [take_at HX.out, List.any_append, HALL.out]
              rw [inI_out] at hxi
              simpa using hxi
            case measure => simp [intOf]; omega
          · have hxf : inI 2 9 x = false := by simpa using hxi
            clear hxi
            go_wp2_with (go_at_call 41; refine (within_calls _ _ _ _).mono ?_; rintro r w5 ⟨rfl, rfl⟩)
            have hR := Lib.hid (show checkN s o d ≠ 0 by
              intro h0
              have := ((checkN_iff s o d).1 h0).sizes x (List.mem_of_getElem? HX.out)
              unfold inI at hxf; simp at hxf; omega)
            go_ret
            exact ⟨ret_bool (by simp [hR.out]), HB.out.2⟩
        · have hany : s.any (outB 2 9) = false := by have := HALL.out; rwa [List.take_of_length_le (by omega)] at this
          have HANY := Lib.hid hany
          clear hany HALL
          go_wp2_with fail
          have hwr : IntKind.i64.wrap (prodW s * o) = wrap64 (prodW s * o) := IntWalk.i64_left _
          obtain ⟨P, hP⟩ : ∃ P, wrap64 (prodW s * o) = P := ⟨_, rfl⟩
          rw [hP] at hwr
          have HP := Lib.hid hP
          clear hP
          by_cases hne : (d.length : Int) = P
          · have hq : ((d.length : Int) != P) = false := by simp [hne]
            have HNE := Lib.hid hne
            clear hne
            by_cases hbig : 4096 < d.length
            · have hbb : decide ((4096 : Int) < (d.length : Int)) = true := decide_eq_true (by omega)
              have HBIG := Lib.hid hbig
              clear hbig
              refine wp_seq_all (fun k => k == 5) (fun _ _ => .int .i64 (prodW s)) (fun _ _ _ => True) (by kernel_rfl) (by kernel_rfl) (fun _ _ _ _ _ _ => trivial) ?_
              repeat (first | (refine seq_skip (by rfl) ?_; simp only [Act.put, List.setIfInBounds_toArray, List.set_cons_zero, List.set_cons_succ, Nat.reduceAdd]) | (refine seq_pure (v := ?_) (by rfl) (by rfl) (fun W hW hC => ?_) ?_; rotate_left; (go_simp <;> with_reducible rfl); simp only [Act.put, List.setIfInBounds_toArray, List.set_cons_zero, List.set_cons_succ, Nat.reduceAdd]))
              refine seq_made (by rfl) (by rfl) (fun W hW hC hF R hR => ?_) (fun _ => ?_)
              · unfold Gives; go_simp; refine (points_calls _ _ _ _ (HS.out.kept (below_trans HB.out.2 hW)) ls).mono ?_; rintro r w5 ⟨rfl, rfl⟩; exact ⟨_, rfl, hR {} _ (Below.refl _ _) trivial⟩
              simp only [Act.put, List.setIfInBounds_toArray, List.set_cons_zero, List.set_cons_succ, Nat.reduceAdd]
              repeat (first | (refine seq_skip (by rfl) ?_; simp only [Act.put, List.setIfInBounds_toArray, List.set_cons_zero, List.set_cons_succ, Nat.reduceAdd]) | (refine seq_pure (v := ?_) (by rfl) (by rfl) (fun W hW hC => ?_) ?_; rotate_left; (go_simp <;> with_reducible rfl); simp only [Act.put, List.setIfInBounds_toArray, List.set_cons_zero, List.set_cons_succ, Nat.reduceAdd]))
              refine seq_nil ?_
              intro W hW hF
              clear hF
              go_wp2
              go_ret
              have hR : checkN s o d ≠ 0 := fun h0 => by have := ((checkN_iff s o d).1 h0).most; have := HBIG.out; omega
              exact ⟨ret_bool (by simp [hR]), below_trans HB.out.2 hW⟩
            · have hbb : decide ((4096 : Int) < (d.length : Int)) = false := decide_eq_false (by omega)
              have HBIG := Lib.hid hbig
              clear hbig
              refine wp_seq_all (fun k => k == 5) (fun _ _ => .int .i64 (prodW s)) (fun _ _ _ => True) (by kernel_rfl) (by kernel_rfl) (fun _ _ _ _ _ _ => trivial) ?_
              repeat (first | (refine seq_skip (by rfl) ?_; simp only [Act.put, List.setIfInBounds_toArray, List.set_cons_zero, List.set_cons_succ, Nat.reduceAdd]) | (refine seq_pure (v := ?_) (by rfl) (by rfl) (fun W hW hC => ?_) ?_; rotate_left; (go_simp <;> with_reducible rfl); simp only [Act.put, List.setIfInBounds_toArray, List.set_cons_zero, List.set_cons_succ, Nat.reduceAdd]))
              refine seq_made (by rfl) (by rfl) (fun W hW hC hF R hR => ?_) (fun _ => ?_)
              · unfold Gives; go_simp; refine (points_calls _ _ _ _ (HS.out.kept (below_trans HB.out.2 hW)) ls).mono ?_; rintro r w5 ⟨rfl, rfl⟩; exact ⟨_, rfl, hR {} _ (Below.refl _ _) trivial⟩
              simp only [Act.put, List.setIfInBounds_toArray, List.set_cons_zero, List.set_cons_succ, Nat.reduceAdd]
              repeat (first | (refine seq_skip (by rfl) ?_; simp only [Act.put, List.setIfInBounds_toArray, List.set_cons_zero, List.set_cons_succ, Nat.reduceAdd]) | (refine seq_pure (v := ?_) (by rfl) (by rfl) (fun W hW hC => ?_) ?_; rotate_left; (go_simp <;> with_reducible rfl); simp only [Act.put, List.setIfInBounds_toArray, List.set_cons_zero, List.set_cons_succ, Nat.reduceAdd]))
              refine seq_nil ?_
              intro W hW hF
              clear hF
              have hb5 := below_trans HB.out.2 hW
              have b5 := HB.out.1.kept hW
              clear c0 c1 c2 HB hW hwr hq hbb
              have c0 := b5.cell (i := 0) rfl
              have c1 := b5.cell (i := 1) rfl
              have c2 := b5.cell (i := 2) rfl
              have HB := Lib.hid hb5
              clear b5 hb5
              go_wp2_with fail
              go_loop [4] (fun i => ∃ k : Nat, k ≤ d.length ∧ i = .int .i64 k ∧ (d.take k).any (outB 0 65535) = false) (fun i => d.length - (intOf i).toNat)
              case atStart => exact ⟨0, Nat.zero_le _, rfl, rfl⟩
              case round =>
                obtain ⟨k, hk, rfl, hall⟩ := hrel
                have HALL := Lib.hid hall
                clear hall
                by_cases hlt : k < d.length
                · obtain ⟨x, bb, oo, hx, rfl, hcx⟩ := HD.out.at hlt
                  replace hcx := kept HB.out hcx
                  have HX := Lib.hid hx
                  clear hx
                  by_cases hxi : inI 0 65535 x = true
                  · go_wp2_with (go_at_call 41; refine (within_calls _ _ _ _).mono ?_; rintro r w5 ⟨rfl, rfl⟩)
                    go_round
                    case rel =>
                      refine ⟨k + 1, by omega, by go_num, ?_⟩
                      rw [take_at HX.out, List.any_append, HALL.out]
                      rw [inI_out] at hxi
                      simpa using hxi
                    case measure => simp [intOf]; omega
                  · have hxf : inI 0 65535 x = false := by simpa using hxi
                    clear hxi
                    go_wp2_with (go_at_call 41; refine (within_calls _ _ _ _).mono ?_; rintro r w5 ⟨rfl, rfl⟩)
                    have hR := Lib.hid (show checkN s o d ≠ 0 by
                      intro h0
                      have := ((checkN_iff s o d).1 h0).full x (List.mem_of_getElem? HX.out)
                      unfold inI at hxf; simp at hxf; omega)
                    go_ret
                    exact ⟨ret_bool (by simp [hR.out]), HB.out⟩
                · have hany : d.any (outB 0 65535) = false := by have := HALL.out; rwa [List.take_of_length_le (by omega)] at this
                  have hR : checkN s o d = 0 := by
                    have h1 : 1 ≤ s.length ∧ s.length ≤ 4 := by have := HA.out.1; unfold inI at this; simp at this; omega
                    have h2 := HA.out.2
                    rw [inI_out] at h2
                    have h3 : outB 1 4 o = false := by simpa using h2
                    unfold checkN
                    rw [if_neg (by omega), if_neg (by omega), if_neg (by rw [h3]; simp), if_neg (by rw [HANY.out]; simp), if_neg (by rw [HP.out, HNE.out]; simp), if_neg HBIG.out, if_neg (by rw [hany]; simp)]
                  have HR := Lib.hid hR
                  clear hany hR HALL
                  go_wp2
                  go_ret
                  exact ⟨ret_bool (by simp [HR.out]), HB.out⟩
          · have hq : ((d.length : Int) != P) = true := by simp [hne]
            have HNE := Lib.hid hne
            clear hne
            refine wp_seq_all (fun k => k == 5) (fun _ _ => .int .i64 (prodW s)) (fun _ _ _ => True) (by kernel_rfl) (by kernel_rfl) (fun _ _ _ _ _ _ => trivial) ?_
            repeat (first | (refine seq_skip (by rfl) ?_; simp only [Act.put, List.setIfInBounds_toArray, List.set_cons_zero, List.set_cons_succ, Nat.reduceAdd]) | (refine seq_pure (v := ?_) (by rfl) (by rfl) (fun W hW hC => ?_) ?_; rotate_left; (go_simp <;> with_reducible rfl); simp only [Act.put, List.setIfInBounds_toArray, List.set_cons_zero, List.set_cons_succ, Nat.reduceAdd]))
            refine seq_made (by rfl) (by rfl) (fun W hW hC hF R hR => ?_) (fun _ => ?_)
            · unfold Gives; go_simp; refine (points_calls _ _ _ _ (HS.out.kept (below_trans HB.out.2 hW)) ls).mono ?_; rintro r w5 ⟨rfl, rfl⟩; exact ⟨_, rfl, hR {} _ (Below.refl _ _) trivial⟩
            simp only [Act.put, List.setIfInBounds_toArray, List.set_cons_zero, List.set_cons_succ, Nat.reduceAdd]
            repeat (first | (refine seq_skip (by rfl) ?_; simp only [Act.put, List.setIfInBounds_toArray, List.set_cons_zero, List.set_cons_succ, Nat.reduceAdd]) | (refine seq_pure (v := ?_) (by rfl) (by rfl) (fun W hW hC => ?_) ?_; rotate_left; (go_simp <;> with_reducible rfl); simp only [Act.put, List.setIfInBounds_toArray, List.set_cons_zero, List.set_cons_succ, Nat.reduceAdd]))
            refine seq_nil ?_
            intro W hW hF
            clear hF
            go_wp2
            go_ret
            have hR : checkN s o d ≠ 0 := by
              intro h0
              have hv := (checkN_iff s o d).1 h0
              have h1 := HNE.out
              rw [← HP.out] at h1
              unfold checkN at h0
              repeat' split at h0
              all_goals simp_all
            exact ⟨ret_bool (by simp [hR]), below_trans HB.out.2 hW⟩
    · have hO' : inI 1 4 o = false := by simpa using hO
      have hR := Lib.hid (show checkN s o d ≠ 0 by
        unfold checkN; rw [inI_out] at hO'; repeat' split
        all_goals simp_all)
      clear hO
      go_wp2_with (go_at_call 41; refine (within_calls _ _ _ _).mono ?_; rintro r w4 ⟨rfl, rfl⟩)
      go_ret
      exact ⟨ret_bool (by simp [hR.out]), HB.out.2⟩
  · have hA' : inI 1 4 (s.length : Int) = false := by simpa using hA
    have hR := Lib.hid (show checkN s o d ≠ 0 by
      have h1 : ¬ (1 ≤ s.length ∧ s.length ≤ 4) := fun h => by unfold inI at hA'; simp at hA'; omega
      unfold checkN
      by_cases h2 : s.length = 0
      · rw [if_pos h2]; simp
      · rw [if_neg h2, if_pos (by omega)]; simp)
    clear hA
    go_wp2
    go_ret
    exact ⟨ret_bool (by simp [hR.out]), HB.out.2⟩
end Go.Proofs.Ytkkohelbidmkdaa
