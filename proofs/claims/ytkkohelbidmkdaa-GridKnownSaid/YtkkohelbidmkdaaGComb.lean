/-
  combined: two rows, joined element by element by a function that reads and writes no memory.
-/
import Derived.Test.YtkkohelbidmkdaaGStart
namespace Go.Proofs.Ytkkohelbidmkdaa
set_option linter.unusedVariables false
set_option linter.unusedSimpArgs false
open Go Go.RowKit

theorem Own.set {w : World} {base : Nat} {v : Value} {xs : List Int} (h : Own w base v xs) {k : Nat} (hk : k < xs.length) (y : Int) :
    ∃ g cap, v = .slice (some ⟨g, 0, none⟩) xs.length cap ∧ base ≤ g ∧ xs.length ≤ cap ∧ cap ≤ maxLen ∧ w.cell? ⟨g, k, none⟩ = some (.int .i64 (xs[k]'hk)) ∧ w.frozen? ⟨g, k, none⟩ = false ∧ g < w.heap.size ∧
      Own (w.setCell ⟨g, k, none⟩ (.int .i64 y)) base v (xs.set k y) := by
  obtain ⟨h1, h2⟩ := h
  rcases h2 with ⟨rfl, h2⟩ | ⟨g, cap, cur, rfl, hg, hh, hn, hc, hsz, htk⟩
  · omega
  · have hlt := (Array.getElem?_eq_some_iff.1 hh).1
    refine ⟨g, cap, rfl, hg, hn, hc, ?_, by simp [World.frozen?, hh], hlt, ?_, .inr ⟨g, cap, cur.setIfInBounds k (.int .i64 y), by simp, hg, ?_, by simpa using hn, hc, by simpa using hsz, ?_⟩⟩
    · have h3 : (cur.toList.take (xs.length * 1))[k]? = some (.int .i64 (xs[k]'hk)) := by rw [htk]; simp [hk]
      rw [List.getElem?_take, if_pos (by omega)] at h3
      simp only [World.cell?, hh]
      simpa using h3
    · simp
    · show (w.heap.modify g _)[g]? = _
      rw [Array.getElem?_eq_getElem (by rw [Array.size_modify]; exact hlt), Array.getElem_modify_self]
      rw [(Array.getElem?_eq_some_iff.1 hh).2]
      simp
    · simp only [List.length_set, Array.toList_setIfInBounds, List.take_set, htk, List.map_set]

def mix (g : Int → Int → Int) (xs ys : List Int) (k : Nat) : List Int := List.zipWith g (xs.take k) (ys.take k) ++ xs.drop k
theorem mix_zero (g : Int → Int → Int) (xs ys : List Int) : mix g xs ys 0 = xs := by simp [mix]
theorem mix_all (g : Int → Int → Int) (xs ys : List Int) (h : xs.length = ys.length) : mix g xs ys xs.length = List.zipWith g xs ys := by unfold mix; rw [List.take_of_length_le (Nat.le_refl _), List.take_of_length_le (by omega), List.drop_of_length_le (Nat.le_refl _), List.append_nil]
theorem mix_length (g : Int → Int → Int) (xs ys : List Int) (h : xs.length = ys.length) {k : Nat} (hk : k ≤ xs.length) : (mix g xs ys k).length = xs.length := by simp [mix]; omega
theorem mix_step (g : Int → Int → Int) (xs ys : List Int) (h : xs.length = ys.length) {k : Nat} {x y : Int} (hx : xs[k]? = some x) (hy : ys[k]? = some y) :
    (mix g xs ys k).set k (g x y) = mix g xs ys (k + 1) := by
  have hk : k < xs.length := (List.getElem?_eq_some_iff.1 hx).1
  have hk' : k < ys.length := by omega
  refine List.ext_getElem? fun j => ?_
  rw [List.getElem?_set, mix_length g xs ys h (by omega)]
  unfold mix
  have hl0 : (List.zipWith g (xs.take k) (ys.take k)).length = k := by simp; omega
  have hl1 : (List.zipWith g (xs.take (k + 1)) (ys.take (k + 1))).length = k + 1 := by simp; omega
  by_cases hjk : k = j
  · subst hjk
    rw [if_pos rfl, if_pos hk, List.getElem?_append_left (by omega), List.getElem?_zipWith, List.getElem?_take, List.getElem?_take, if_pos (by omega), if_pos (by omega), hx, hy]
  · rw [if_neg hjk]
    by_cases h1 : j < k
    · rw [List.getElem?_append_left (by omega), List.getElem?_append_left (by omega), List.getElem?_zipWith, List.getElem?_zipWith, List.getElem?_take, List.getElem?_take, List.getElem?_take, List.getElem?_take, if_pos h1, if_pos h1, if_pos (by omega), if_pos (by omega)]
    · rw [List.getElem?_append_right (by omega), List.getElem?_append_right (by omega), hl0, hl1, List.getElem?_drop, List.getElem?_drop]
      congr 1; omega

set_option maxHeartbeats 800000 in
theorem combined_calls (fid : FuncId) (g : Int → Int → Int) (hf : ∀ (x y : Int) (w : World), Calls Try.prog fid #[.int .i64 x, .int .i64 y] w fun r w' => r = .returned (.int .i64 (g x y)) ∧ w' = w)
    (ef : ∀ args w, (callFunc fid args).run Try.prog w = .ok (.enter fid args) w)
    (A B : Option Addr) (c e : Nat) (xs ys : List Int) (w : World) (hs : Cs w .i64 A xs) (hd : Cs w .i64 B ys) (hA : A = none → c = 0) (hl : xs.length = ys.length) (hlen : xs.length * 8 ≤ 140737488355328) :
    Calls Try.prog 50 #[.slice A xs.length c, .slice B ys.length e, .func (.func fid) #[] #[]] w fun r w' => ∃ v, r = .returned v ∧ Own w' w.heap.size v (List.zipWith g xs ys) ∧ Below w.heap.size w w' := by
  have HS := Lib.hid hs
  have HD := Lib.hid hd
  have HL := Lib.hid hl
  clear hs hd hl
  go_enter Try.func50, Try.ntmps50
  go_wp2_with fail
  refine (clone_calls A c xs w HS.out hA hlen).mono ?_
  rintro r w1 ⟨v, rfl, ho, hb⟩
  obtain ⟨A', c', hv, hc1, hc2, hA', _⟩ := ho.cs
  rw [hv] at ho ⊢
  clear hv hA'
  have HO := Lib.hid ho
  have HB := Lib.hid hb
  clear ho hb
  go_wp2_with fail
  go_loopw [13] (fun i wr => ∃ k : Nat, k ≤ xs.length ∧ i = .int .i64 k ∧ Own wr w.heap.size (.slice A' xs.length c') (mix g xs ys k) ∧ Below w.heap.size w wr) (fun i _ => xs.length - (intOf i).toNat)
  case atStart => exact ⟨0, Nat.zero_le _, rfl, by rw [mix_zero]; exact HO.out, HB.out⟩
  case round =>
    clear HO HB
    obtain ⟨k, hk, rfl, ho, hbr⟩ := hrel
    by_cases hlt : k < xs.length
    · obtain ⟨x, b, off, hx, rfl, hc⟩ := HS.out.at hlt
      obtain ⟨y, b', off', hy, rfl, hc'⟩ := HD.out.at (i := k) (by have := HL.out; omega)
      have hlt' : k < ys.length := by have := HL.out; omega
      replace hc := kept hbr hc
      replace hc' := kept hbr hc'
      have hset := mix_step g xs ys HL.out hx hy
      obtain ⟨gb, cap, hv, hg0, _, _, hcell, hfree, hgl, _⟩ := ho.set (k := k) (by rw [mix_length g xs ys HL.out hk]; exact hlt) (g x y)
      injection hv with hv1 hv2 hv3
      subst hv1 hv3
      have HOW := Lib.hid ho
      have HSET := Lib.hid hset
      have HBR := Lib.hid hbr
      have HF := Lib.hid hf
      have HG := Lib.hid hg0
      clear hx hy ho hset hbr hf hg0 hv2
      go_wp2_with fail
      refine wp_seq_tail 13 (fun k => k == 11) (fun _ _ => .int .i64 (g x y)) (fun _ _ _ => True) (by kernel_rfl) (by kernel_rfl) (by decide) (fun _ _ _ _ _ _ => trivial) ?_
      repeat (first | (refine seq_skip (by rfl) ?_; simp only [Act.put, List.setIfInBounds_toArray, List.set_cons_zero, List.set_cons_succ, Nat.reduceAdd]) | (refine seq_pure (v := ?_) (by rfl) (by rfl) (fun W hW hC => ?_) ?_; rotate_left; (go_simp <;> with_reducible rfl); simp only [Act.put, List.setIfInBounds_toArray, List.set_cons_zero, List.set_cons_succ, Nat.reduceAdd]))
      refine seq_made (by rfl) (by rfl) (fun W hW hC hF R hR => ?_) (fun _ => ?_)
      · unfold Gives; go_simp; refine (HF.out _ _ _).mono ?_; rintro e w2 ⟨rfl, rfl⟩; exact ⟨_, rfl, hR {} _ (Below.refl _ _) trivial⟩
      simp only [Act.put, List.setIfInBounds_toArray, List.set_cons_zero, List.set_cons_succ, Nat.reduceAdd]
      repeat (first | (refine seq_skip (by rfl) ?_; simp only [Act.put, List.setIfInBounds_toArray, List.set_cons_zero, List.set_cons_succ, Nat.reduceAdd]) | (refine seq_pure (v := ?_) (by rfl) (by rfl) (fun W hW hC => ?_) ?_; rotate_left; (go_simp <;> with_reducible rfl); simp only [Act.put, List.setIfInBounds_toArray, List.set_cons_zero, List.set_cons_succ, Nat.reduceAdd]))
      refine seq_nil ?_
      intro W hW hF
      have hcell' := kept hW hcell
      have hfree' := keptF hW hcell hfree
      clear hcell hfree hc hc'
      replace hbr := HBR.out.trans (hW.mono HBR.out.size)
      have hown : Own (W.setCell ⟨gb, k, none⟩ (.int .i64 (g x y))) w.heap.size (.slice (some ⟨gb, 0, none⟩) xs.length c') (mix g xs ys (k + 1)) := by
        obtain ⟨gb', cap', hv', _, _, _, _, _, _, hown⟩ := (HOW.out.kept hW).set (k := k) (by rw [mix_length g xs ys HL.out hk]; exact hlt) (g x y)
        injection hv' with hv1
        injection hv1 with hv1
        injection hv1 with hv1
        subst hv1
        rw [HSET.out] at hown
        exact hown
      have HOWN := Lib.hid hown
      have HBR' := Lib.hid hbr
      clear hown hbr hW HOW
      go_wp2
      go_roundw
      case rel => exact ⟨k + 1, by omega, by go_num, HOWN.out, HBR'.out.setCell HG.out _⟩
      case measure => simp [intOf]; omega
    · have hke : k = xs.length := by omega
      subst hke
      have HOW := Lib.hid ho
      have HBR := Lib.hid hbr
      clear ho hbr
      go_wp2
      go_ret
      exact ⟨_, rfl, by rw [← mix_all g xs ys HL.out]; exact HOW.out, HBR.out⟩
end Go.Proofs.Ytkkohelbidmkdaa
