/-
  The law GridOrder, walked.
-/
import Derived.Test.YtkkohelbidmkdaaGPlacesW
namespace Go.Proofs.Ytkkohelbidmkdaa
set_option linter.unusedVariables false
set_option linter.unusedSimpArgs false
open Go Go.RowKit

theorem pr_small : ∀ {s : List Nat}, (∀ x ∈ s, 2 ≤ x ∧ x ≤ 4) → s.length ≤ 3 → pr s ≤ 64 := by
  intro s hs hl
  match s, hl with
  | [], _ => simp [pr]
  | [x], _ => have := (hs x (by simp)).2; simp [pr]; omega
  | [x, y], _ =>
    have h1 := (hs x (by simp)).2
    have h2 := (hs y (by simp)).2
    have h3 : x * y ≤ 4 * 4 := Nat.mul_le_mul h1 h2
    simp [pr]; omega
  | [x, y, z], _ =>
    have h1 := (hs x (by simp)).2
    have h2 := (hs y (by simp)).2
    have h3 := (hs z (by simp)).2
    have h4 : y * z ≤ 4 * 4 := Nat.mul_le_mul h2 h3
    have h5 : x * (y * z) ≤ 4 * 16 := Nat.mul_le_mul h1 (by omega)
    simp [pr]; omega
  | _ :: _ :: _ :: _ :: _, h => simp at h

theorem Drafted.valid {w0 W : World} {A : Option Addr} {c : Nat} {sN : List Nat} {on : Nat} {Ad : Option Addr} {kd : Nat} {data : List Int} (h : Drafted w0 A c sN on Ad kd data W) : ValidG (ints sN) on data := by
  have hp := pr_small h.sizes h.len3
  have ho := h.out3
  have hl := h.len
  have hm : pr sN * on ≤ 64 * 3 := Nat.mul_le_mul hp ho
  refine ⟨by rw [ints_length]; exact h.len1, by rw [ints_length]; have := h.len3; omega, ?_, by have := h.out1; omega, by omega, ?_, by omega, h.full⟩
  · intro x hx
    obtain ⟨i, hi⟩ := List.mem_iff_getElem?.1 hx
    obtain ⟨m, hm', rfl⟩ := ints_at hi
    have := h.sizes m (List.mem_of_getElem? hm')
    omega
  · rw [prodI_ints, hl, Int.natCast_mul]

/-- Place and At at the index of point n. -/
theorem place_point {sN : List Nat} {on : Nat} {d : List Int} (hv : ValidG (ints sN) on d) {n : Nat} (hn : n < pr sN) : placeR (ints sN) on d (ints (dg sN n)) = (((n * on : Nat) : Int), 0) ∧ atR (ints sN) on d (ints (dg sN n)) = (rowAt d on n, 0) := by
  have hs : ∀ x ∈ sN, 0 < x := fun x hx => by
    have := hv.sizes x (List.mem_map.2 ⟨x, hx, rfl⟩)
    omega
  have hc := (checkN_iff _ _ _).2 hv
  have hi := idxB_dg hs hn
  have hp := placeI_dg hs hn
  unfold placeR atR rowAt
  rw [if_neg (by rw [hc]; simp), if_neg (by rw [hi]; simp), if_neg (by rw [hc]; simp), if_neg (by rw [hi]; simp), hp, ← Int.natCast_mul, Int.toNat_natCast, Int.toNat_natCast]
  exact ⟨rfl, rfl⟩

theorem take_row (d : List Int) (o k : Nat) : d.take (k * o) ++ rowAt d o k = d.take ((k + 1) * o) := by
  unfold rowAt
  rw [Nat.succ_mul, List.take_add]

set_option maxRecDepth 100000 in
set_option maxHeartbeats 3200000 in
theorem gridOrder_calls (d : Value) (w : World) (hd : DraftV w d) : Calls Try.prog 5 #[d] w fun r w' => r = .returned (.bool true) ∧ Below w.heap.size w w' := by
  have HD := Lib.hid hd
  obtain ⟨S, cs, ss, du, V, cv, vs, sm, rfl, _⟩ := hd.is
  clear hd
  go_enter Try.func5, Try.ntmps5
  go_wp2_with fail
  refine calls_named ?_
  intro w1 hw1
  have p1 : Blk w1 w.heap.size [.slice S ss.length cs, .int .u8 du, .slice V vs.length cv, .bool sm] 28 := by rw [hw1]; exact Blk.new _ _ _
  have hb1 : Below w.heap.size w w1 := by rw [hw1]; repeat (first | exact below_alloc _ | refine below_trans ?_ (below_alloc _))
  clear hw1
  refine (wakes_calls w1).mono ?_
  rintro r w2 ⟨rfl, hb2⟩
  replace p1 := p1.kept hb2
  have hb12 := below_trans hb1 hb2
  have c3 := p1.cell (i := 0) rfl
  have c4 := p1.cell (i := 1) rfl
  have c5 := p1.cell (i := 2) rfl
  have c6 := p1.cell (i := 3) rfl
  have HB := Lib.hid hb12
  clear p1 hb1 hb2 hb12
  go_wp2_with fail
  refine (draft_calls (HD.out.kept HB.out)).mono ?_
  rintro r w3 ⟨A, c, sN, on, Ad, kd, data, rfl, hdr⟩
  have HV := Lib.hid hdr.valid
  have HW := Lib.hid hdr
  clear c3 c4 c5 c6 hdr
  go_upto_region 4 with fail
  refine wp_named ?_
  intro w4 hw4
  have bg : Blk w4 w3.heap.size [.slice A sN.length c, .int .i64 on, .slice Ad data.length kd] 24 := by rw [hw4]; exact Blk.at rfl
  have hb4 : Below w3.heap.size w3 w4 := by rw [hw4]; repeat (first | exact below_alloc _ | refine below_trans ?_ (below_alloc _))
  have HG := Lib.hid (And.intro bg (And.intro (HW.out.kept hb4) (below_trans HB.out (below_trans HW.out.below hb4))))
  have hpr : pr sN ≤ 64 := pr_small HW.out.sizes HW.out.len3
  have ho3 := HW.out.out3
  have ho1 := HW.out.out1
  have hpl : pr sN * on ≤ 64 * 3 := Nat.mul_le_mul hpr ho3
  have HL := Lib.hid HW.out.len
  clear hw4 bg hb4 HW
  go_wp2_with fail
  go_loopw [4, 5] (fun a i wr => ∃ n Aa ka, n ≤ pr sN ∧ i = .int .i64 (n : Nat) ∧ a = .slice Aa (n * on) ka ∧ Own wr w4.heap.size (.slice Aa (n * on) ka) (data.take (n * on)) ∧ Below w4.heap.size w4 wr) (fun _ i _ => pr sN - (intOf i).toNat)
  case atStart => exact ⟨0, none, 0, Nat.zero_le _, rfl, by rw [Nat.zero_mul], by rw [Nat.zero_mul]; exact Own.nil _ _, Below.refl _ _⟩
  case round =>
    obtain ⟨n, Aa, ka, hn, rfl, rfl, hoa, hbr⟩ := hrel
    have bg := HG.out.1.kept hbr
    have hdr := HG.out.2.1.kept hbr
    have c0 := bg.cell (i := 0) rfl
    have c1 := bg.cell (i := 1) rfl
    have c2 := bg.cell (i := 2) rfl
    have HK := Lib.hid (And.intro bg (And.intro hdr (And.intro hoa hbr)))
    clear bg hdr hoa hbr
    by_cases hlt : n < pr sN
    · have hnm : (n + 1) * on ≤ pr sN * on := Nat.mul_le_mul_right _ hlt
      rw [Nat.succ_mul] at hnm
      have hln : n * on < data.length := by rw [HL.out]; omega
      go_wp2_with fail
      have hix := lawIndex_calls A c sN n _ HK.out.2.1.size.length.2.2.2.2 HK.out.2.1.len1 (by have := HK.out.2.1.len3; omega) (fun x hx => by have := HK.out.2.1.sizes x hx; omega) hlt (by omega)
      rw [ints_length] at hix
      refine hix.mono ?_
      rintro r w5 ⟨gi, ki, rfl, hoi, hb5⟩
      clear hix c0 c1 c2
      have HK5 := Lib.hid (And.intro (HK.out.1.kept hb5) (And.intro (HK.out.2.1.kept hb5) (And.intro (HK.out.2.2.1.kept hb5) (And.intro (below_trans HK.out.2.2.2 hb5) hoi))))
      clear HK hoi hb5
      have c0 := HK5.out.1.cell (i := 0) rfl
      have c1 := HK5.out.1.cell (i := 1) rfl
      have c2 := HK5.out.1.cell (i := 2) rfl
      go_wp2_with fail
      have hli : (ints (dg sN n)).length = sN.length := by rw [ints_length, dg_length]
      have hpc := gridPlace_calls A Ad (some ⟨gi, 0, none⟩) c kd ki (ints sN) data (ints (dg sN n)) on w5 HK5.out.2.1.size.length.2.2.2.2 HK5.out.2.1.own.length.2.2.2.2 HK5.out.2.2.2.2.length.2.2.2.2 (by rw [ints_length]; have := HK5.out.2.1.len3; omega) (by have := HL.out; omega) (by rw [hli]; have := HK5.out.2.1.len3; omega)
      rw [ints_length, hli, (place_point HV.out hlt).1] at hpc
      refine hpc.mono ?_
      rintro r w6 ⟨rfl, hb6⟩
      clear hpc c0 c1 c2
      have HK6 := Lib.hid (And.intro (HK5.out.1.kept hb6) (And.intro (HK5.out.2.1.kept hb6) (And.intro (HK5.out.2.2.1.kept hb6) (And.intro (below_trans HK5.out.2.2.2.1 hb6) (HK5.out.2.2.2.2.kept hb6)))))
      clear HK5 hb6
      have c0 := HK6.out.1.cell (i := 0) rfl
      have c1 := HK6.out.1.cell (i := 1) rfl
      have c2 := HK6.out.1.cell (i := 2) rfl
      have HLI := Lib.hid hli
      clear hli
      go_wp2_with fail
      have hpc := gridAt_calls A Ad (some ⟨gi, 0, none⟩) c kd ki (ints sN) data (ints (dg sN n)) on w6 HK6.out.2.1.size.length.2.2.2.2 HK6.out.2.1.own.length.2.2.2.2 HK6.out.2.2.2.2.length.2.2.2.2 (by rw [ints_length]; have := HK6.out.2.1.len3; omega) HK6.out.2.1.own.length.2.1 HK6.out.2.1.own.length.2.2.1 (by rw [HLI.out]; have := HK6.out.2.1.len3; omega)
      rw [ints_length, HLI.out, (place_point HV.out hlt).2] at hpc
      refine hpc.mono ?_
      rintro r w7 ⟨va, rfl, hoa, hb7⟩
      clear hpc c0 c1 c2
      have hrl : (rowAt data on n).length = on := rowAt_length hlt HL.out
      obtain ⟨Av, kv, rfl, hv1, hv2, hv3, hcv⟩ := hoa.cs
      rw [hrl]
      have HK7 := Lib.hid (And.intro (HK6.out.1.kept hb7) (And.intro (HK6.out.2.1.kept hb7) (And.intro (HK6.out.2.2.1.kept hb7) (And.intro (below_trans HK6.out.2.2.2.1 hb7) (And.intro hcv (And.intro hrl hv3))))))
      clear HK6 hb7 hoa hcv hrl hv1 hv2 hv3
      have c1 := HK7.out.1.cell (i := 1) rfl
      dsimp only
      have hn0 : (((n * on : Nat) : Int) != ((n * on : Nat) : Int)) = false := by simp
      have hn1 : ((on : Int) != (on : Int)) = false := by simp
      have HA := Lib.hid (show Own w7 w4.heap.size (.slice Aa (n * on) ka) (data.take (n * on)) ∧ (data.take (n * on)).length = n * on from ⟨HK7.out.2.2.1, by rw [List.length_take, HL.out]; omega⟩)
      have hpush : ∀ v' w8, Own w8 w4.heap.size v' (data.take (n * on) ++ rowAt data on n) → w7.grownBy w8 (Value.slice Aa (n * on) ka).ownBlock →
          ∃ A8 k8, v' = .slice A8 ((n + 1) * on) k8 ∧ Hid (Own w8 w4.heap.size (.slice A8 ((n + 1) * on) k8) (data.take ((n + 1) * on)) ∧ Below w4.heap.size w4 w8) := by
        intro v' w8 ho hg
        have hb := HA.out.1.below hg (Nat.le_refl _) HK7.out.2.2.2.1
        rw [take_row] at ho
        obtain ⟨A8, k8, hv', _, _, _, _⟩ := ho.cs
        rw [show (data.take ((n + 1) * on)).length = (n + 1) * on by rw [List.length_take, HL.out, Nat.succ_mul]; omega] at hv'
        subst hv'
        exact ⟨A8, k8, rfl, Lib.hid ⟨ho, hb⟩⟩
      have HPU := Lib.hid hpush
      clear hpush
      go_upto_region 7 with (at_builtin; go_loud (refine append_ints2 rfl _ _ rfl w4.heap.size (.slice Aa (n * on) ka) (data.take (n * on)) rfl HA.out.1 Av kv (rowAt data on n) (by rw [HK7.out.2.2.2.2.2.1]; rfl) HK7.out.2.2.2.2.1 HK7.out.2.2.2.2.2.2 (by rw [HA.out.2, HK7.out.2.2.2.2.2.1]; omega) HK7.out.2.2.2.1.size ?_); intro v' w8 ho hg hf; obtain ⟨A8, k8, rfl, HI8⟩ := HPU.out v' w8 ho hg; clear ho hg hf)
      go_wp2
      go_roundw
      case rel => exact ⟨n + 1, A8, k8, by omega, by go_num, rfl, HI8.out.1, HI8.out.2⟩
      case measure => simp [intOf]; omega
    · have hne : n = pr sN := by omega
      subst hne
      have hle : ¬ pr sN * on < data.length := by rw [HL.out]; omega
      go_wp2_with fail
      have hck := check_calls A Ad c kd (ints sN) data on _ HK.out.2.1.size.length.2.2.2.2 HK.out.2.1.own.length.2.2.2.2 (by rw [ints_length]; have := HK.out.2.1.len3; omega) (by have := HL.out; omega)
      rw [ints_length, (checkN_iff _ _ _).2 HV.out] at hck
      refine hck.mono ?_
      rintro r w5 ⟨rfl, hb5⟩
      clear hck c0 c1 c2
      have HK5 := Lib.hid (And.intro (HK.out.1.kept hb5) (And.intro (HK.out.2.1.kept hb5) (And.intro (HK.out.2.2.1.kept hb5) (below_trans HK.out.2.2.2 hb5))))
      clear HK hb5
      have c2 := HK5.out.1.cell (i := 2) rfl
      go_wp2_with fail
      have hta : data.take (pr sN * on) = data := List.take_of_length_le (by rw [HL.out]; omega)
      have heq := equal_calls Aa Ad ka kd data data w5 (by have := HK5.out.2.2.1.length.2.2.2.2; rwa [hta] at this) HK5.out.2.1.own.length.2.2.2.2 (by have := HL.out; omega) (by have := HL.out; omega)
      rw [show (Value.slice Aa data.length ka) = .slice Aa (pr sN * on) ka by rw [HL.out]] at heq
      refine heq.mono ?_
      rintro r w6 ⟨rfl, hb6⟩
      rw [decide_eq_true (rfl : data = data)]
      have HB6 := Lib.hid (below_trans HG.out.2.2 (below_trans HK5.out.2.2.2 hb6))
      clear hta heq hb6 HK5 c2 hle
      go_wp2
      go_ret
      exact ⟨rfl, HB6.out⟩
end Go.Proofs.Ytkkohelbidmkdaa
