/-
  The reference's Draft.Grid: a drafted grid is valid.
-/
import Derived.Test.YtkkohelbidmkdaaGMade
namespace Go.Proofs.Ytkkohelbidmkdaa
set_option linter.unusedVariables false
set_option linter.unusedSimpArgs false
open Go Go.RowKit

/-- A grid that a draft gives. -/
structure Drafted (w0 : World) (A : Option Addr) (c : Nat) (sN : List Nat) (on : Nat) (Ad : Option Addr) (kd : Nat) (data : List Int) (W : World) : Prop where
  size : Own W w0.heap.size (.slice A sN.length c) (ints sN)
  own : Own W w0.heap.size (.slice Ad data.length kd) data
  len1 : 1 ≤ sN.length
  len3 : sN.length ≤ 3
  sizes : ∀ x ∈ sN, 2 ≤ x ∧ x ≤ 4
  out1 : 1 ≤ on
  out3 : on ≤ 3
  len : data.length = pr sN * on
  full : Full data
  below : Below w0.heap.size w0 W

theorem Drafted.put3 {w0 : World} {A : Option Addr} {c : Nat} {sN : List Nat} {on : Nat} {Ad : Option Addr} {kd : Nat} {data : List Int} {W : World} (h : Drafted w0 A c sN on Ad kd data W) (b : Nat) (hb : w0.heap.size ≤ b) {cs : List Value} (hc : Blk W b cs 24) (x y z : Value) :
    Drafted w0 A c sN on Ad kd data (((W.setCell ⟨b, 0, none⟩ x).setCell ⟨b, 1, none⟩ y).setCell ⟨b, 2, none⟩ z) :=
  ⟨h.size.other3 (fun _ hg => h.size.ne_blk hg hc (by decide)) _ _ _, h.own.other3 (fun _ hg => h.own.ne_blk hg hc (by decide)) _ _ _, h.len1, h.len3, h.sizes, h.out1, h.out3, h.len, h.full,
    ((h.below.setCell (p := ⟨b, 0, none⟩) hb _).setCell (p := ⟨b, 1, none⟩) hb _).setCell (p := ⟨b, 2, none⟩) hb _⟩

theorem Drafted.kept {w0 : World} {A : Option Addr} {c : Nat} {sN : List Nat} {on : Nat} {Ad : Option Addr} {kd : Nat} {data : List Int} {W W' : World} (h : Drafted w0 A c sN on Ad kd data W) (hb : Below W.heap.size W W') : Drafted w0 A c sN on Ad kd data W' :=
  ⟨h.size.kept hb, h.own.kept hb, h.len1, h.len3, h.sizes, h.out1, h.out3, h.len, h.full, below_trans h.below hb⟩

set_option maxHeartbeats 1600000 in
theorem draftGrid_calls (S V : Option Addr) (cs cv : Nat) (du : Int) (sm : Bool) (ss vs : List Int) (w : World) (hs : Cs w .u8 S ss) (hv : Cs w .u16 V vs)
    (hd0 : 0 ≤ du) (hd1 : du ≤ 255) (hss : ∀ x ∈ ss, 0 ≤ x ∧ x ≤ 255) (ls : ss.length ≤ 9223372036854775807) (hvs : Full vs) (lv : vs.length ≤ 9223372036854775807) :
    Calls Try.prog 23 #[.agg #[.slice S ss.length cs, .int .u8 du, .slice V vs.length cv, .bool sm]] w fun r w' => ∃ A c sN on Ad kd data, r = .returned (.agg #[.slice A sN.length c, .int .i64 (on : Nat), .slice Ad data.length kd]) ∧
      Drafted w A c sN on Ad kd data w' := by
  have HS := Lib.hid hs
  have HV := Lib.hid hv
  have HSS := Lib.hid hss
  have HF := Lib.hid hvs
  clear hs hv hss hvs
  go_enter Try.func23, Try.ntmps23
  go_wp2_with fail
  refine wp_named ?_
  intro w1 hw1
  have b0 : Blk w1 w.heap.size [.slice S ss.length cs, .int .u8 du, .slice V vs.length cv, .bool sm] 28 := by rw [hw1]; exact (Blk.new _ _ _).alloc _
  have b1 : Blk w1 (w.heap.size + 1) [.slice none 0 0, .int .i64 0, .slice none 0 0] 24 := by rw [hw1]; exact Blk.at (by simp)
  have hb1 : Below w.heap.size w w1 := by rw [hw1]; repeat (first | exact below_alloc _ | refine below_trans ?_ (below_alloc _))
  have HX := Lib.hid (And.intro b0 (And.intro b1 hb1))
  clear b0 b1 hb1 hw1
  go_loopw [3, 4] (fun s i wr => ∃ k A ka szN, k ≤ ss.length ∧ k ≤ 3 ∧ i = .int .i64 (k : Nat) ∧ s = .slice A k ka ∧ szN.length = k ∧ Own wr w.heap.size (.slice A k ka) (ints szN) ∧ (∀ x ∈ szN, 2 ≤ x ∧ x ≤ 4) ∧
    Blk wr w.heap.size [.slice S ss.length cs, .int .u8 du, .slice V vs.length cv, .bool sm] 28 ∧ Blk wr (w.heap.size + 1) [.slice none 0 0, .int .i64 0, .slice none 0 0] 24 ∧ Below w.heap.size w wr) (fun _ i _ => ss.length - (intOf i).toNat)
  case atStart => exact ⟨0, none, 0, [], Nat.zero_le _, by omega, rfl, rfl, rfl, Own.nil _ _, (fun x hx => by cases hx), HX.out.1, HX.out.2.1, HX.out.2.2⟩
  case round =>
    clear HX
    obtain ⟨k, A, ka, szN, hk, hk3, rfl, rfl, hsl, how, hsz, b0, b1, hbr⟩ := hrel
    have c0 := b0.cell (i := 0) rfl
    by_cases hgo : k < ss.length ∧ k < 3
    · obtain ⟨hlt, hlt3⟩ := hgo
      obtain ⟨x, bs, os, hx, rfl, hcx⟩ := HS.out.at hlt
      replace hcx := Ytkkohelbidmkdaa.kept hbr hcx
      obtain ⟨hx0, hx1⟩ := HSS.out x (List.mem_of_getElem? hx)
      have hlt0 := b0.lt
      clear hx
      have HA := Lib.hid (And.intro (how.kept (below_alloc (.cells #[.int .i64 (2 + x % 3)] 3))) (one_cs wr (2 + x % 3)))
      have hpush : ∀ v' w4, Own w4 w.heap.size v' (ints szN ++ [2 + x % 3]) → (wr.alloc (.cells #[.int .i64 (2 + x % 3)] 3)).grownBy w4 (Value.slice A k ka).ownBlock →
          ∃ A' ka', v' = .slice A' (k + 1) ka' ∧ (Own w4 w.heap.size (.slice A' (k + 1) ka') (ints (szN ++ [(2 + x % 3).toNat])) ∧
            Blk w4 w.heap.size [.slice (some ⟨bs, os, none⟩) ss.length cs, .int .u8 du, .slice V vs.length cv, .bool sm] 28 ∧ Blk w4 (w.heap.size + 1) [.slice none 0 0, .int .i64 0, .slice none 0 0] 24 ∧ Below w.heap.size w w4) := by
        intro v' w4 ho hg
        have e : ints (szN ++ [(2 + x % 3).toNat]) = ints szN ++ [2 + x % 3] := by simp [ints]; omega
        obtain ⟨A', ka', hv', _, _, _, _⟩ := ho.cs
        rw [List.length_append, ints_length, hsl, List.length_singleton] at hv'
        subst hv'
        exact ⟨A', ka', rfl, by rw [e]; exact ho, Blk.grown HA.out.1 hg (b0.alloc _) (by decide), Blk.grown HA.out.1 hg (b1.alloc _) (by decide), HA.out.1.below hg (Nat.le_refl _) (below_trans hbr (below_alloc _))⟩
      have HPU := Lib.hid hpush
      have HH := Lib.hid (And.intro hsl (And.intro hsz hbr.size))
      clear hsl hsz how b0 b1 hbr hpush
      go_upto_region 4 with (at_builtin; (refine append_ints rfl _ _ rfl w.heap.size (.slice A k ka) (ints szN) rfl HA.out.1 (some ⟨wr.heap.size, 0, none⟩) 1 [2 + x % 3] rfl HA.out.2 (fun h => by cases h) (by rw [ints_length, HH.out.1]; simp only [List.length_singleton]; omega) (by have := HH.out.2.2; simp only [World.size_alloc]; omega) ?_); intro v' w4 ho hg; obtain ⟨A', ka', rfl, hI⟩ := HPU.out v' w4 ho hg; have HI := Lib.hid hI; clear ho hg hI)
      go_wp2
      go_roundw
      case rel => exact ⟨k + 1, A', ka', szN ++ [(2 + x % 3).toNat], by omega, by omega, by go_num, rfl, by simp [HH.out.1], HI.out.1, (fun y hy => by
        rcases List.mem_append.1 hy with h | h
        · exact HH.out.2.1 y h
        · rw [List.mem_singleton] at h; omega), HI.out.2.1, HI.out.2.2.1, HI.out.2.2.2⟩
      case measure => simp [intOf]; omega
    · obtain ⟨on, hon⟩ := Int.eq_ofNat_of_zero_le (show 0 ≤ 1 + du % 3 by omega)
      have hon1 : 1 ≤ on := by omega
      have hon3 : on ≤ 3 := by omega
      have fin : ∀ (A : Option Addr) (c : Nat) (sN : List Nat) (m : Nat) (W : World), sN.length = m → Own W w.heap.size (.slice A m c) (ints sN) → 1 ≤ sN.length → sN.length ≤ 3 → (∀ x ∈ sN, 2 ≤ x ∧ x ≤ 4) → Blk W (w.heap.size + 1) [.slice none 0 0, .int .i64 0, .slice none 0 0] 24 → Below w.heap.size w W →
          Calls Try.prog 46 #[.agg #[.slice S ss.length cs, .int .u8 du, .slice V vs.length cv, .bool sm], .slice A m c, .int .i64 on] W fun r w' => ∃ Ad kd data, r = .returned (.agg #[.slice A m c, .int .i64 on, .slice Ad (data : List Int).length kd]) ∧
            Drafted w A c sN on Ad kd data w' ∧ Blk w' (w.heap.size + 1) [.slice none 0 0, .int .i64 0, .slice none 0 0] 24 := by
        rintro A c sN m W rfl ho h1 h3 hz hb hbw
        obtain ⟨A', c', hv', _, _, _, hcs⟩ := ho.cs
        rw [ints_length] at hv'
        injection hv' with e1 e2 e3
        subst e1 e3
        have hm := made_calls S A V ss.length cs c cv du sm sN vs on W hcs (HV.out.kept hbw) h1 (by omega) (fun x hx => by have := hz x hx; omega) hon1 (by omega) HF.out lv
        rw [ints_length] at hm
        refine hm.mono ?_
        rintro r w' ⟨Ad, kd, data, rfl, ho2, hl, hf, hb2⟩
        refine ⟨Ad, kd, data, by rw [hl], ⟨ho.kept hb2, by rw [hl]; exact ho2.lower hbw.size, h1, h3, hz, hon1, hon3, hl, hf, below_trans hbw hb2⟩, hb.kept hb2⟩
      have FIN := Lib.hid fin
      have c1 := b0.cell (i := 1) rfl
      have c2 := b0.cell (i := 2) rfl
      have c3 := b0.cell (i := 3) rfl
      have hb0 := b0.lt
      have HH := Lib.hid (And.intro how (And.intro hsl (And.intro hsz (And.intro b1 hbr))))
      clear fin how hsl hsz b0 b1 hbr hon1 hon3
      by_cases hk0 : k = 0
      · have hlt' : ¬ (k < ss.length ∧ k < 3) := hgo
        subst hk0
        have hss0 : ¬ 0 < ss.length := by omega
        have how2 : Own (wr.alloc (.cells #[.int .i64 2] 3)) w.heap.size (.slice (some ⟨wr.heap.size, 0, none⟩) 1 1) (ints [2]) :=
          ⟨rfl, .inr ⟨wr.heap.size, 1, #[.int .i64 2], rfl, HH.out.2.2.2.2.size, heap_alloc_new wr _, Nat.le_refl _, by simp [maxLen], rfl, rfl⟩⟩
        have HO2 := Lib.hid how2
        clear how2 hgo hlt'
        go_wp2_with fail
        refine (FIN.out _ _ [2] _ _ (show ([2] : List Nat).length = 1 from rfl) HO2.out (by decide) (by decide) (fun x hx => by rw [List.mem_singleton] at hx; omega) (HH.out.2.2.2.1.alloc _) (below_trans HH.out.2.2.2.2 (below_alloc _))).mono ?_
        rintro r w5 ⟨Ad, kd, data, rfl, hD, hbR⟩
        have r0 := hbR.cell (i := 0) rfl
        have r1 := hbR.cell (i := 1) rfl
        have r2 := hbR.cell (i := 2) rfl
        have f0 := hbR.free 0
        have f1 := hbR.free 1
        have f2 := hbR.free 2
        have HD := Lib.hid (And.intro hD hbR)
        clear hD hbR
        go_wp2_with fail
        refine bodyPost_ret (v := .agg #[.slice (some ⟨wr.heap.size, 0, none⟩) 1 1, .int .i64 on, .slice Ad data.length kd]) (by simp [results, Try.results23, go_sem, *]) rfl ⟨_, _, [2], on, Ad, kd, data, by rw [(show ([2] : List Nat).length = 1 from rfl)], HD.out.1.put3 (w.heap.size + 1) (Nat.le_succ _) HD.out.2 _ _ _⟩
      · by_cases hlt : k < ss.length
        · have hk3' : ¬ k < 3 := by omega
          clear hgo
          go_wp2_with fail
          refine (FIN.out _ _ szN _ _ HH.out.2.1 HH.out.1 (by have := HH.out.2.1; omega) (by have := HH.out.2.1; omega) HH.out.2.2.1 HH.out.2.2.2.1 HH.out.2.2.2.2).mono ?_
          rintro r w5 ⟨Ad, kd, data, rfl, hD, hbR⟩
          have r0 := hbR.cell (i := 0) rfl
          have r1 := hbR.cell (i := 1) rfl
          have r2 := hbR.cell (i := 2) rfl
          have f0 := hbR.free 0
          have f1 := hbR.free 1
          have f2 := hbR.free 2
          have HD := Lib.hid (And.intro hD hbR)
          clear hD hbR
          go_wp2_with fail
          refine bodyPost_ret (v := .agg #[.slice A k ka, .int .i64 on, .slice Ad data.length kd]) (by simp [results, Try.results23, go_sem, *]) rfl ⟨_, _, szN, on, Ad, kd, data, by rw [HH.out.2.1], HD.out.1.put3 (w.heap.size + 1) (Nat.le_succ _) HD.out.2 _ _ _⟩
        · clear hgo
          go_wp2_with fail
          refine (FIN.out _ _ szN _ _ HH.out.2.1 HH.out.1 (by have := HH.out.2.1; omega) (by have := HH.out.2.1; omega) HH.out.2.2.1 HH.out.2.2.2.1 HH.out.2.2.2.2).mono ?_
          rintro r w5 ⟨Ad, kd, data, rfl, hD, hbR⟩
          have r0 := hbR.cell (i := 0) rfl
          have r1 := hbR.cell (i := 1) rfl
          have r2 := hbR.cell (i := 2) rfl
          have f0 := hbR.free 0
          have f1 := hbR.free 1
          have f2 := hbR.free 2
          have HD := Lib.hid (And.intro hD hbR)
          clear hD hbR
          go_wp2_with fail
          refine bodyPost_ret (v := .agg #[.slice A k ka, .int .i64 on, .slice Ad data.length kd]) (by simp [results, Try.results23, go_sem, *]) rfl ⟨_, _, szN, on, Ad, kd, data, by rw [HH.out.2.1], HD.out.1.put3 (w.heap.size + 1) (Nat.le_succ _) HD.out.2 _ _ _⟩
end Go.Proofs.Ytkkohelbidmkdaa
