/-
  view.put: the values of a pixel written.
-/
import Derived.Test.YtpgkhhdobolfbaaIWrite
namespace Go.Proofs.Ytpgkhhdobolfbaa
set_option linter.unusedVariables false
set_option linter.unusedSimpArgs false
open Go Go.RowKit
attribute [local go_sem] Oper.semAt_some run_store_func

theorem View.offZ {w w' : World} {b g : Nat} {L : Lay} {O : ByteArray} {k : Nat} {l : List UInt8} {z0 z1 : Nat} (h : View w b g L O k l) (hz : OffZ z0 z1 w w') (hb : b < z0 ∨ z1 ≤ b) (hg : g < z0 ∨ z1 ≤ g) : View w' b g L O k l := by
  have e : w'.heap[g]? = w.heap[g]? := hz.block g h.oct.lt hg
  refine ⟨h.blk.offZ hz hb, ⟨fun i o hi => (World.cell?_of_block e).trans (h.oct.cell i o hi), fun i hi => ?_, Nat.lt_of_lt_of_le h.oct.lt hz.size⟩, h.len⟩
  have := h.oct.free i hi
  simp only [World.frozen?] at this ⊢
  rw [e]; exact this

theorem View.write {w w' : World} {b g : Nat} {L : Lay} {O : ByteArray} {k : Nat} {l l' : List UInt8} (h : View w b g L O k l) (hz : OffZ g (g + 1) w w') (hne : b ≠ g) (ho : Oct w' g l') (hl : l'.length = l.length) : View w' b g L O k l' :=
  ⟨by rw [hl]; exact h.blk.offZ hz (by omega), ho, by rw [hl]; exact h.len⟩

/-- Samples with the first c values of a pixel. -/
def updC (f : Nat → Nat → Nat → Nat) (x y : Nat) (vs : List Int) (c : Nat) : Nat → Nat → Nat → Nat := fun x' y' c' => if x' = x ∧ y' = y ∧ c' < c then (vs.getD c' 0).toNat else f x' y' c'

theorem Pix.put_at {L : Lay} (h : L.Ok) {l : List UInt8} {f : Nat → Nat → Nat → Nat} {x y : Nat} {vs : List Int} {c : Nat} (p : Pix L l (updC f x y vs c)) (hx : x < L.W) (hy : y < L.H) (hc : c < L.C) {n : Nat} (hn : vs[c]? = some (n : Int)) :
    Pix L (putS L l x y c n) (updC f x y vs (c + 1)) := by
  refine (p.put h hx hy hc n).congr fun x' y' c' _ _ _ => ?_
  unfold updC
  by_cases e : x' = x ∧ y' = y ∧ c' = c
  · obtain ⟨rfl, rfl, rfl⟩ := e
    rw [if_pos ⟨rfl, rfl, rfl⟩, if_pos ⟨rfl, rfl, by omega⟩, List.getD_eq_getElem?_getD, hn]
    rfl
  · rw [if_neg e]
    by_cases e2 : x' = x ∧ y' = y ∧ c' < c
    · rw [if_pos e2, if_pos ⟨e2.1, e2.2.1, by omega⟩]
    · rw [if_neg e2, if_neg (fun e3 => by
        by_cases e4 : c' = c
        · exact e ⟨e3.1, e3.2.1, e4⟩
        · exact e2 ⟨e3.1, e3.2.1, by omega⟩)]

theorem Cs.offZ {w w' : World} {q : IntKind} {A : Option Addr} {xs : List Int} {z0 z1 : Nat} (h : Cs w q A xs) (hz : OffZ z0 z1 w w') (hA : ∀ p, A = some p → p.block < z0 ∨ z1 ≤ p.block) : Cs w' q A xs := fun i x hx => by
  obtain ⟨b, o, e, hc⟩ := h i x hx
  exact ⟨b, o, e, (World.cell?_of_block (hz.block b (block_lt hc) (hA _ e))).trans hc⟩

set_option maxRecDepth 100000 in
set_option maxHeartbeats 1600000 in
theorem put1_calls {w : World} {b g : Nat} {L : Lay} {O : ByteArray} {k : Nat} {l : List UInt8} (hok : L.Ok) (hk : L.k = 1) (h : View w b g L O k l) (hne : b ≠ g) {f : Nat → Nat → Nat → Nat} (hp : Pix L l f) (x y : Nat) (hx : x < L.W) (hy : y < L.H)
    (A : Option Addr) (ca : Nat) (vs : List Int) (hvs : Cs w .i64 A vs) (hA : ∀ p, A = some p → p.block ≠ g) (hlen : vs.length = L.C) (hr : ∀ v ∈ vs, 0 ≤ v ∧ v < 65536) :
    Calls Try.prog 41 #[.pointer (some ⟨b, 0, none⟩), .int .i64 (x : Nat), .int .i64 (y : Nat), .slice A vs.length ca] w fun e w' => (∃ v, e = .returned v) ∧ OffZ g (g + 1) w w' ∧ ∃ l', View w' b g L O k l' ∧ Pix L l' (updS f x y vs) := by
  have HV := Lib.hid (And.intro hok (And.intro h (And.intro hx (And.intro hy (And.intro hne (And.intro hp (And.intro hvs (And.intro hA (And.intro hlen (And.intro hr hk))))))))))
  obtain ⟨nv, hnv⟩ : ∃ n, vs.length = n := ⟨_, rfl⟩
  rw [hnv]
  have HN := Lib.hid hnv
  clear hok h hx hy hne hp hvs hA hlen hr hk hnv
  go_enter Try.func41, Try.ntmps41
  go_upto_region 1 with fail
  refine wp_named ?_
  intro w1 hw1
  have b4 : Blk w1 w.heap.size [.pointer (some ⟨b, 0, none⟩)] 79 := by rw [hw1]; exact Blk.new _ _ _
  have hb1 : Below w.heap.size w w1 := by rw [hw1]; repeat (first | exact below_alloc _ | refine below_trans ?_ (below_alloc _))
  clear hw1
  obtain ⟨w2, w3, w4, hm⟩ := map_made w1 107 106 Try.underlying107 (.func (.func 72) #[] #[.pointer (some ⟨w.heap.size, 0, none⟩)]) (.func (.func 73) #[] #[.pointer (some ⟨w.heap.size, 0, none⟩)])
  obtain ⟨m1, m2, m3, m4, m5, hb4⟩ := hm
  have hv4 := (HV.out.2.1.kept hb1).kept hb4
  have d4 := (b4.kept hb4).cell (i := 0) rfl
  have v3 : w4.cell? ⟨b, 3, none⟩ = some (.int .i64 8) := by
    have := hv4.blk.cell (i := 3) rfl
    rw [HV.out.2.2.2.2.2.2.2.2.2.2] at this
    exact this
  have HB := Lib.hid (And.intro (b4.kept hb4) (And.intro hv4 (And.intro (below_trans hb1 hb4) (And.intro ((HV.out.2.2.2.2.2.2.1.kept hb1).kept hb4) HV.out.2.1.blk.lt))))
  clear b4 hb1 hb4 hv4 m5
  go_upto_region 2 with fail
  clear m1 m2 m3 m4 v3
  have hnm : (nv : Int) ≤ 9223372036854775807 := by have := HV.out.2.2.2.2.2.2.2.2.1; have := HN.out; have := HV.out.1.c2; omega
  go_wp2_with fail
  go_loopw [9, 10, 23] (fun _ _ i wr => ∃ c : Nat, c ≤ nv ∧ i = .int .i64 c ∧ OffZ g (g + 1) w4 wr ∧ ∃ l', View wr b g L O k l' ∧ Pix L l' (updC f x y vs c)) (fun _ _ i _ => nv - (intOf i).toNat)
  case atStart => exact ⟨0, Nat.zero_le _, rfl, OffZ.refl _ _ _, l, HB.out.2.1, HV.out.2.2.2.2.2.1.congr fun _ _ _ _ _ _ => by unfold updC; rw [if_neg (by omega)]⟩
  case round =>
    obtain ⟨c, hc, rfl, hz, l2, hv2, hp2⟩ := hrel
    by_cases hlt : c < nv
    · have hwk : wrap64 ((c : Int) + 1) = ((c + 1 : Nat) : Int) := by unfold wrap64; omega
      have hb4g : w.heap.size ≠ g := by have := HV.out.2.1.oct.lt; omega
      have c4 := (HB.out.1.offZ hz (by omega)).cell (i := 0) rfl
      have hcs := HB.out.2.2.2.1.offZ hz (fun p e => by have := HV.out.2.2.2.2.2.2.2.1 p e; omega)
      obtain ⟨v, vb, vo, hv, hAe, hvc⟩ := hcs.at (by rw [HN.out]; exact hlt)
      obtain ⟨hv0, hv1⟩ := HV.out.2.2.2.2.2.2.2.2.2.1 v (List.mem_of_getElem? hv)
      obtain ⟨n, rfl⟩ := Int.eq_ofNat_of_zero_le hv0
      have hcC : c < L.C := by have := HV.out.2.2.2.2.2.2.2.2.1; have := HN.out; omega
      have hpr := (HV.out.1.place_row HV.out.2.2.1 HV.out.2.2.2.1 hcC (j := 0) (by rw [HV.out.2.2.2.2.2.2.2.2.2.2]; omega)).2.2.2
      have HR := Lib.hid (And.intro hz (And.intro hv2 (And.intro hp2 (And.intro hcs (And.intro hv (And.intro hv1 (And.intro hcC (And.intro hpr hb4g))))))))
      have hl2 := hv2.size HV.out.1
      have hl2l := hv2.len
      have HP := Lib.hid (fun W (hW : Below wr.heap.size wr W) => place_calls HV.out.1 (hv2.blk.kept hW) HV.out.2.2.1 HV.out.2.2.2.1 hcC)
      have HW := Lib.hid (fun W (hW : Below wr.heap.size wr W) => wr8_calls (hv2.kept hW) w.heap.size (Ytpgkhhdobolfbaa.kept hW c4) (L.place x y c) n (by omega) hl2)
      clear hz hv2 hp2 hcs hv hv0 hv1 hcC hpr hb4g hl2 hl2l
      subst hAe
      go_wp2_with (go_at_call 69; refine (HP.out _ (Below.refl _ _)).mono ?_; rintro e w5 ⟨rfl, hb5⟩; have HX := Lib.hid hb5; clear hb5)
      refine (HW.out _ HX.out).mono ?_
      rintro e w6 ⟨⟨u, rfl⟩, hz6, ho6⟩
      have HY := Lib.hid (And.intro hz6 ho6)
      clear hz6 ho6
      go_wp2_with fail
      go_roundw
      case rel =>
        refine ⟨c + 1, by omega, by go_num, ?_, ?_⟩
        · exact (HR.out.1.trans (OffZ.of_below HX.out)).trans HY.out.1
        · have hk := HV.out.2.2.2.2.2.2.2.2.2.2
          have e : putS L l2 x y c n = l2.set (L.place x y c) (UInt8.ofNat n) := by unfold putS; rw [if_neg (by omega)]
          refine ⟨putS L l2 x y c n, (HR.out.2.1.kept HX.out).write HY.out.1 HV.out.2.2.2.2.1 (by rw [e]; exact HY.out.2) (putS_length ..), HR.out.2.2.1.put_at HV.out.1 HV.out.2.2.1 HV.out.2.2.2.1 HR.out.2.2.2.2.2.2.1 HR.out.2.2.2.2.1⟩
      case measure => exact meas rfl (by go_num) hlt
    · have HR := Lib.hid (And.intro hz (And.intro hv2 hp2))
      clear hz hv2 hp2
      go_wp2_with fail
      have hcn : c = nv := by omega
      subst hcn
      refine bodyPost_end (v := .tuple #[]) (by simp [results, Try.results41, go_sem]) rfl ⟨⟨_, rfl⟩, (OffZ.of_below HB.out.2.2.1).trans HR.out.1, l2, HR.out.2.1, HR.out.2.2.congr fun x' y' c' _ _ hc' => ?_⟩
      unfold updC updS
      have hcc : c' < c := by have := HV.out.2.2.2.2.2.2.2.2.1; have := HN.out; omega
      by_cases e : x' = x ∧ y' = y
      · rw [if_pos e, if_pos ⟨e.1, e.2, hcc⟩]
      · rw [if_neg e, if_neg (fun e2 => e ⟨e2.1, e2.2.1⟩)]

set_option maxRecDepth 100000 in
set_option maxHeartbeats 1600000 in
theorem put2_calls {w : World} {b g : Nat} {L : Lay} {O : ByteArray} {k : Nat} {l : List UInt8} (hok : L.Ok) (hk : L.k = 2) (h : View w b g L O k l) (hne : b ≠ g) {f : Nat → Nat → Nat → Nat} (hp : Pix L l f) (x y : Nat) (hx : x < L.W) (hy : y < L.H)
    (A : Option Addr) (ca : Nat) (vs : List Int) (hvs : Cs w .i64 A vs) (hA : ∀ p, A = some p → p.block ≠ g) (hlen : vs.length = L.C) (hr : ∀ v ∈ vs, 0 ≤ v ∧ v < 65536) :
    Calls Try.prog 41 #[.pointer (some ⟨b, 0, none⟩), .int .i64 (x : Nat), .int .i64 (y : Nat), .slice A vs.length ca] w fun e w' => (∃ v, e = .returned v) ∧ OffZ g (g + 1) w w' ∧ ∃ l', View w' b g L O k l' ∧ Pix L l' (updS f x y vs) := by
  have HV := Lib.hid (And.intro hok (And.intro h (And.intro hx (And.intro hy (And.intro hne (And.intro hp (And.intro hvs (And.intro hA (And.intro hlen (And.intro hr hk))))))))))
  obtain ⟨nv, hnv⟩ : ∃ n, vs.length = n := ⟨_, rfl⟩
  rw [hnv]
  have HN := Lib.hid hnv
  clear hok h hx hy hne hp hvs hA hlen hr hk hnv
  go_enter Try.func41, Try.ntmps41
  go_upto_region 1 with fail
  refine wp_named ?_
  intro w1 hw1
  have b4 : Blk w1 w.heap.size [.pointer (some ⟨b, 0, none⟩)] 79 := by rw [hw1]; exact Blk.new _ _ _
  have hb1 : Below w.heap.size w w1 := by rw [hw1]; repeat (first | exact below_alloc _ | refine below_trans ?_ (below_alloc _))
  clear hw1
  obtain ⟨w2, w3, w4, hm⟩ := map_made w1 107 106 Try.underlying107 (.func (.func 72) #[] #[.pointer (some ⟨w.heap.size, 0, none⟩)]) (.func (.func 73) #[] #[.pointer (some ⟨w.heap.size, 0, none⟩)])
  obtain ⟨m1, m2, m3, m4, m5, hb4⟩ := hm
  have hv4 := (HV.out.2.1.kept hb1).kept hb4
  have d4 := (b4.kept hb4).cell (i := 0) rfl
  have v3 : w4.cell? ⟨b, 3, none⟩ = some (.int .i64 16) := by
    have := hv4.blk.cell (i := 3) rfl
    rw [HV.out.2.2.2.2.2.2.2.2.2.2] at this
    exact this
  have HB := Lib.hid (And.intro (b4.kept hb4) (And.intro hv4 (And.intro (below_trans hb1 hb4) (And.intro ((HV.out.2.2.2.2.2.2.1.kept hb1).kept hb4) HV.out.2.1.blk.lt))))
  clear b4 hb1 hb4 hv4 m4
  go_upto_region 2 with fail
  clear m1 m2 m3 m5 v3
  have hnm : (nv : Int) ≤ 9223372036854775807 := by have := HV.out.2.2.2.2.2.2.2.2.1; have := HN.out; have := HV.out.1.c2; omega
  go_wp2_with fail
  go_loopw [9, 10, 23] (fun _ _ i wr => ∃ c : Nat, c ≤ nv ∧ i = .int .i64 c ∧ OffZ g (g + 1) w4 wr ∧ ∃ l', View wr b g L O k l' ∧ Pix L l' (updC f x y vs c)) (fun _ _ i _ => nv - (intOf i).toNat)
  case atStart => exact ⟨0, Nat.zero_le _, rfl, OffZ.refl _ _ _, l, HB.out.2.1, HV.out.2.2.2.2.2.1.congr fun _ _ _ _ _ _ => by unfold updC; rw [if_neg (by omega)]⟩
  case round =>
    obtain ⟨c, hc, rfl, hz, l2, hv2, hp2⟩ := hrel
    by_cases hlt : c < nv
    · have hwk : wrap64 ((c : Int) + 1) = ((c + 1 : Nat) : Int) := by unfold wrap64; omega
      have hb4g : w.heap.size ≠ g := by have := HV.out.2.1.oct.lt; omega
      have c4 := (HB.out.1.offZ hz (by omega)).cell (i := 0) rfl
      have hcs := HB.out.2.2.2.1.offZ hz (fun p e => by have := HV.out.2.2.2.2.2.2.2.1 p e; omega)
      obtain ⟨v, vb, vo, hv, hAe, hvc⟩ := hcs.at (by rw [HN.out]; exact hlt)
      obtain ⟨hv0, hv1⟩ := HV.out.2.2.2.2.2.2.2.2.2.1 v (List.mem_of_getElem? hv)
      obtain ⟨n, rfl⟩ := Int.eq_ofNat_of_zero_le hv0
      have hcC : c < L.C := by have := HV.out.2.2.2.2.2.2.2.2.1; have := HN.out; omega
      have hpr := (HV.out.1.place_row HV.out.2.2.1 HV.out.2.2.2.1 hcC (j := 1) (by rw [HV.out.2.2.2.2.2.2.2.2.2.2]; omega)).2.2.2
      have HR := Lib.hid (And.intro hz (And.intro hv2 (And.intro hp2 (And.intro hcs (And.intro hv (And.intro hv1 (And.intro hcC (And.intro hpr hb4g))))))))
      have hl2 := hv2.size HV.out.1
      have hl2l := hv2.len
      have HP := Lib.hid (fun W (hW : Below wr.heap.size wr W) => place_calls HV.out.1 (hv2.blk.kept hW) HV.out.2.2.1 HV.out.2.2.2.1 hcC)
      have HW := Lib.hid (fun W (hW : Below wr.heap.size wr W) => wr16_calls (hv2.kept hW) w.heap.size (Ytpgkhhdobolfbaa.kept hW c4) hb4g HV.out.2.2.2.2.1 (L.place x y c) n (by omega) hl2 (by omega))
      clear hz hv2 hp2 hcs hv hv0 hv1 hcC hpr hb4g hl2 hl2l
      subst hAe
      go_wp2_with (go_at_call 69; refine (HP.out _ (Below.refl _ _)).mono ?_; rintro e w5 ⟨rfl, hb5⟩; have HX := Lib.hid hb5; clear hb5)
      refine (HW.out _ HX.out).mono ?_
      rintro e w6 ⟨⟨u, rfl⟩, hz6, ho6⟩
      have HY := Lib.hid (And.intro hz6 ho6)
      clear hz6 ho6
      go_wp2_with fail
      go_roundw
      case rel =>
        refine ⟨c + 1, by omega, by go_num, ?_, ?_⟩
        · exact (HR.out.1.trans (OffZ.of_below HX.out)).trans HY.out.1
        · have hk := HV.out.2.2.2.2.2.2.2.2.2.2
          have e : putS L l2 x y c n = (l2.set (L.place x y c) (UInt8.ofNat (n / 256))).set (L.place x y c + 1) (UInt8.ofNat n) := by unfold putS; rw [if_pos hk]
          refine ⟨putS L l2 x y c n, (HR.out.2.1.kept HX.out).write HY.out.1 HV.out.2.2.2.2.1 (by rw [e]; exact HY.out.2) (putS_length ..), HR.out.2.2.1.put_at HV.out.1 HV.out.2.2.1 HV.out.2.2.2.1 HR.out.2.2.2.2.2.2.1 HR.out.2.2.2.2.1⟩
      case measure => exact meas rfl (by go_num) hlt
    · have HR := Lib.hid (And.intro hz (And.intro hv2 hp2))
      clear hz hv2 hp2
      go_wp2_with fail
      have hcn : c = nv := by omega
      subst hcn
      refine bodyPost_end (v := .tuple #[]) (by simp [results, Try.results41, go_sem]) rfl ⟨⟨_, rfl⟩, (OffZ.of_below HB.out.2.2.1).trans HR.out.1, l2, HR.out.2.1, HR.out.2.2.congr fun x' y' c' _ _ hc' => ?_⟩
      unfold updC updS
      have hcc : c' < c := by have := HV.out.2.2.2.2.2.2.2.2.1; have := HN.out; omega
      by_cases e : x' = x ∧ y' = y
      · rw [if_pos e, if_pos ⟨e.1, e.2, hcc⟩]
      · rw [if_neg e, if_neg (fun e2 => e ⟨e2.1, e2.2.1⟩)]

theorem put_calls {w : World} {b g : Nat} {L : Lay} {O : ByteArray} {k : Nat} {l : List UInt8} (hok : L.Ok) (h : View w b g L O k l) (hne : b ≠ g) {f : Nat → Nat → Nat → Nat} (hp : Pix L l f) (x y : Nat) (hx : x < L.W) (hy : y < L.H)
    (A : Option Addr) (ca : Nat) (vs : List Int) (hvs : Cs w .i64 A vs) (hA : ∀ p, A = some p → p.block ≠ g) (hlen : vs.length = L.C) (hr : ∀ v ∈ vs, 0 ≤ v ∧ v < 65536) :
    Calls Try.prog 41 #[.pointer (some ⟨b, 0, none⟩), .int .i64 (x : Nat), .int .i64 (y : Nat), .slice A vs.length ca] w fun e w' => (∃ v, e = .returned v) ∧ OffZ g (g + 1) w w' ∧ ∃ l', View w' b g L O k l' ∧ Pix L l' (updS f x y vs) := by
  rcases hok.bits with e | e
  · exact put1_calls hok e h hne hp x y hx hy A ca vs hvs hA hlen hr
  · exact put2_calls hok e h hne hp x y hx hy A ca vs hvs hA hlen hr
end Go.Proofs.Ytpgkhhdobolfbaa
