/-
  The closures that read a sample: pixel$1, pixel$2, pixel$3.
-/
import Derived.Test.YtpgkhhdobolfbaaIMade
namespace Go.Proofs.Ytpgkhhdobolfbaa
set_option linter.unusedVariables false
set_option linter.unusedSimpArgs false
open Go Go.RowKit

theorem View.oct_at {w : World} {b g : Nat} {L : Lay} {O : ByteArray} {k : Nat} {l : List UInt8} (h : View w b g L O k l) {p : Nat} (hp : p < l.length) : w.cell? ⟨g, p, none⟩ = some (.int .u8 ((l.getD p 0).toNat : Int)) := by
  refine h.oct.cell p _ ?_
  rw [List.getD_eq_getElem?_getD, List.getElem?_eq_getElem hp]
  rfl

set_option maxHeartbeats 1600000 in
theorem rd8_calls {w : World} {b g : Nat} {L : Lay} {O : ByteArray} {k : Nat} {l : List UInt8} (h : View w b g L O k l) (b3 : Nat) (hb3 : w.cell? ⟨b3, 0, none⟩ = some (.pointer (some ⟨b, 0, none⟩))) (p : Nat) (hp : p < l.length) (hl : l.length ≤ 140000) :
    Calls Try.prog 66 #[.int .i64 (p : Nat), .pointer (some ⟨b3, 0, none⟩)] w fun e w' => e = .returned (.int .i64 ((l.getD p 0).toNat : Int)) ∧ Below w.heap.size w w' := by
  have c := h.oct_at hp
  have v7 := h.blk.cell (i := 7) rfl
  obtain ⟨n, hn⟩ : ∃ n, l.length = n := ⟨_, rfl⟩
  have hz2 := (l.getD p 0).toNat_lt
  obtain ⟨z, hz⟩ : ∃ z, (l.getD p 0).toNat = z := ⟨_, rfl⟩
  rw [hz] at c hz2 ⊢
  rw [hn] at v7 hp hl
  have hw : IntKind.i64.wrap (z : Int) = (z : Int) := wrap_id (by simp at hz2; omega)
  clear h hz hn hl
  go_enter Try.func66, Try.ntmps66
  go_wp2
  go_ret
  exact ⟨rfl, Below.refl _ _⟩

theorem mul_or (a b : Nat) (hb : b < 256) : (a * 256) ||| b = 256 * a + b := by
  rw [Nat.mul_comm a]
  have := Nat.two_pow_add_eq_or_of_lt (i := 8) (b := b) hb a
  simpa using this.symm

theorem bits_or (z y : Nat) (hz : z < 256) (hy : y < 256) : bits .or .i64 (IntKind.i64.wrap ((z : Int) * 256)) (y : Int) = ((256 * z + y : Nat) : Int) := by
  have h0 : IntKind.i64.wrap ((z : Int) * 256) = ((z * 256 : Nat) : Int) := by rw [show (z : Int) * 256 = ((z * 256 : Nat) : Int) by omega]; exact wrap_id (by omega)
  have h1 : (BitVec.ofInt 64 ((z * 256 : Nat) : Int)).toNat = z * 256 := by
    rw [BitVec.ofInt_natCast, BitVec.toNat_ofNat]; exact Nat.mod_eq_of_lt (by omega)
  have h2 : (BitVec.ofInt 64 (y : Int)).toNat = y := by
    rw [BitVec.ofInt_natCast, BitVec.toNat_ofNat]; exact Nat.mod_eq_of_lt (by omega)
  rw [h0]
  show IntKind.i64.wrap ((BitVec.ofInt 64 ((z * 256 : Nat) : Int) ||| BitVec.ofInt 64 (y : Int)).toNat : Int) = _
  rw [BitVec.toNat_or, h1, h2, mul_or z y hy]
  exact wrap_id (by omega)

set_option maxHeartbeats 1600000 in
theorem rd16_calls {w : World} {b g : Nat} {L : Lay} {O : ByteArray} {k : Nat} {l : List UInt8} (h : View w b g L O k l) (b3 : Nat) (hb3 : w.cell? ⟨b3, 0, none⟩ = some (.pointer (some ⟨b, 0, none⟩))) (p : Nat) (hp : p + 1 < l.length) (hl : l.length ≤ 140000) :
    Calls Try.prog 67 #[.int .i64 (p : Nat), .pointer (some ⟨b3, 0, none⟩)] w fun e w' => e = .returned (.int .i64 ((256 * (l.getD p 0).toNat + (l.getD (p + 1) 0).toNat : Nat) : Int)) ∧ Below w.heap.size w w' := by
  have c := h.oct_at (p := p) (by omega)
  have d := h.oct_at hp
  have v7 := h.blk.cell (i := 7) rfl
  obtain ⟨n, hn⟩ : ∃ n, l.length = n := ⟨_, rfl⟩
  have hz2 := (l.getD p 0).toNat_lt
  have hy2 := (l.getD (p + 1) 0).toNat_lt
  obtain ⟨z, hz⟩ : ∃ z, (l.getD p 0).toNat = z := ⟨_, rfl⟩
  obtain ⟨y, hy⟩ : ∃ z, (l.getD (p + 1) 0).toNat = z := ⟨_, rfl⟩
  rw [hz] at c hz2 ⊢
  rw [hy] at d hy2 ⊢
  rw [hn] at v7 hp hl
  have hw : IntKind.i64.wrap (z : Int) = (z : Int) := wrap_id (by simp at hz2; omega)
  have hw' : IntKind.i64.wrap (y : Int) = (y : Int) := wrap_id (by simp at hy2; omega)
  obtain ⟨q, hq⟩ : ∃ q, p + 1 = q := ⟨_, rfl⟩
  have hp1 : IntKind.i64.wrap ((p : Int) + 1) = (q : Int) := by rw [show (p : Int) + 1 = (q : Int) by omega]; exact wrap_id (by omega)
  have hp0 : p < n := by omega
  have hor := bits_or z y (by simpa using hz2) (by simpa using hy2)
  rw [hq] at d hp
  have HO := Lib.hid hor
  clear h hz hn hl hy hz2 hy2 hq hor
  go_enter Try.func67, Try.ntmps67
  go_wp2_with fail
  refine wp_seq_all (fun _ => false) (fun _ _ => undef) (fun _ _ _ => True) (by kernel_rfl) (by kernel_rfl) (fun _ _ _ _ _ h => h) ?_
  repeat (first | (refine seq_skip (by rfl) ?_; simp only [Act.put, List.setIfInBounds_toArray, List.set_cons_zero, List.set_cons_succ, Nat.reduceAdd]) | (refine seq_pure (v := ?_) (by rfl) (by rfl) (fun W hW hC => ?_) ?_; rotate_left; (go_simp <;> with_reducible rfl); simp only [Act.put, List.setIfInBounds_toArray, List.set_cons_zero, List.set_cons_succ, Nat.reduceAdd]))
  refine seq_nil ?_; intro W hW hF
  clear hF
  have HW := Lib.hid (And.intro hW HO.out)
  clear hW c d v7 hw hw' hp1 hp0 hb3
  go_wp2
  go_ret
  exact ⟨ret_int HW.out.2, HW.out.1⟩

/-- What the third closure reads: a sample. -/
theorem View.size {w : World} {b g : Nat} {L : Lay} {O : ByteArray} {k : Nat} {l : List UInt8} (hok : L.Ok) (h : View w b g L O k l) : l.length ≤ 140000 := by
  rw [h.len]
  have h1 := hok.h2
  have h2 := hok.c2
  have h3 : L.H * L.C ≤ 64 * 4 := Nat.mul_le_mul h1 h2
  have h4 : L.rows ≤ 256 := by unfold Lay.rows; split <;> omega
  have h5 := hok.stride_row.2.1
  have h6 := hok.row_pos.2
  have h7 : L.pd ≤ 8 := by rcases hok.pad with e | e | e | e <;> omega
  have h8 : L.rows * L.stride ≤ 256 * 520 := Nat.mul_le_mul h4 (by omega)
  unfold Lay.size
  omega

/-- The function that reads. -/
def readV (L : Lay) (b3 : Nat) : Value := .func (.func (if L.k = 2 then 67 else 66)) #[] #[.pointer (some ⟨b3, 0, none⟩)]

set_option maxHeartbeats 1600000 in
theorem rd_calls {w : World} {b g : Nat} {L : Lay} {O : ByteArray} {k : Nat} {l : List UInt8} (hok : L.Ok) (h : View w b g L O k l) (t1 b3 t3 t4 x y c : Nat)
    (hrd : w.cell? ⟨t1, 0, none⟩ = some (readV L b3)) (hv : w.cell? ⟨b3, 0, none⟩ = some (.pointer (some ⟨b, 0, none⟩))) (hxc : w.cell? ⟨t3, 0, none⟩ = some (.int .i64 (x : Nat))) (hyc : w.cell? ⟨t4, 0, none⟩ = some (.int .i64 (y : Nat)))
    (hx : x < L.W) (hy : y < L.H) (hc : c < L.C) :
    Calls Try.prog 68 #[.int .i64 (c : Nat), .pointer (some ⟨t1, 0, none⟩), .pointer (some ⟨b3, 0, none⟩), .pointer (some ⟨t3, 0, none⟩), .pointer (some ⟨t4, 0, none⟩)] w fun e w' => e = .returned (.int .i64 (samp L l x y c : Nat)) ∧ Below w.heap.size w w' := by
  have hl := h.size hok
  have hpl : L.place x y c + (L.k - 1) < L.size := (hok.place_row hx hy hc (by rcases hok.bits with e | e <;> omega)).2.2.2
  obtain ⟨p, hp⟩ : ∃ p, L.place x y c = p := ⟨_, rfl⟩
  rw [hp] at hpl
  unfold readV at hrd
  rcases hok.bits with e | e
  · rw [e, if_neg (by decide)] at hrd
    have hs : samp L l x y c = (l.getD p 0).toNat := by unfold samp; rw [hp, e]; rw [if_neg (by decide)]
    have HL := Lib.hid (And.intro hpl (And.intro h (And.intro hs (And.intro hok (And.intro hx (And.intro hy (And.intro hc (And.intro hl (And.intro hp e)))))))))
    clear hpl h hs hok hx hy hc hl hp e
    go_enter Try.func68, Try.ntmps68
    go_wp2_with fail
    refine wp_seq_all (fun k => k == 5 || k == 6) (fun k _ => if k = 5 then .int .i64 (p : Nat) else .int .i64 (samp L l x y c : Nat)) (fun _ _ _ => True) (by kernel_rfl) (by kernel_rfl) (fun _ _ _ _ _ h => h) ?_
    repeat (first | (refine seq_skip (by rfl) ?_; simp only [Act.put, List.setIfInBounds_toArray, List.set_cons_zero, List.set_cons_succ, Nat.reduceAdd]) | (refine seq_pure (v := ?_) (by rfl) (by rfl) (fun W hW hC => ?_) ?_; rotate_left; (go_simp <;> with_reducible rfl); simp only [Act.put, List.setIfInBounds_toArray, List.set_cons_zero, List.set_cons_succ, Nat.reduceAdd]))
    refine seq_made (by rfl) (by rfl) (fun W hW hC hF R hR => ?_) (fun _ => ?_)
    · unfold Gives; go_simp
      refine (place_calls HL.out.2.2.2.1 (HL.out.2.1.kept hW).blk HL.out.2.2.2.2.1 HL.out.2.2.2.2.2.1 HL.out.2.2.2.2.2.2.1).mono ?_
      rintro r w8 ⟨rfl, hb8⟩
      refine ⟨_, rfl, ?_⟩
      rw [HL.out.2.2.2.2.2.2.2.2.1]
      exact hR {} _ hb8 trivial
    simp only [Act.put, List.setIfInBounds_toArray, List.set_cons_zero, List.set_cons_succ, Nat.reduceAdd]
    repeat (first | (refine seq_skip (by rfl) ?_; simp only [Act.put, List.setIfInBounds_toArray, List.set_cons_zero, List.set_cons_succ, Nat.reduceAdd]) | (refine seq_pure (v := ?_) (by rfl) (by rfl) (fun W hW hC => ?_) ?_; rotate_left; (go_simp <;> with_reducible rfl); simp only [Act.put, List.setIfInBounds_toArray, List.set_cons_zero, List.set_cons_succ, Nat.reduceAdd]))
    refine seq_made (by rfl) (by rfl) (fun W hW hC hF R hR => ?_) (fun _ => ?_)
    · unfold Gives; go_simp
      refine (rd8_calls (HL.out.2.1.kept hW) b3 (Ytpgkhhdobolfbaa.kept hW hv) p (by have := HL.out.1; have := HL.out.2.1.len; have := HL.out.2.2.2.2.2.2.2.2.2; omega) HL.out.2.2.2.2.2.2.2.1).mono ?_
      rintro r w8 ⟨rfl, hb8⟩
      refine ⟨_, rfl, ?_⟩
      rw [← HL.out.2.2.1]
      exact hR {} _ hb8 trivial
    simp only [Act.put, List.setIfInBounds_toArray, List.set_cons_zero, List.set_cons_succ, Nat.reduceAdd]
    repeat (first | (refine seq_skip (by rfl) ?_; simp only [Act.put, List.setIfInBounds_toArray, List.set_cons_zero, List.set_cons_succ, Nat.reduceAdd]) | (refine seq_pure (v := ?_) (by rfl) (by rfl) (fun W hW hC => ?_) ?_; rotate_left; (go_simp <;> with_reducible rfl); simp only [Act.put, List.setIfInBounds_toArray, List.set_cons_zero, List.set_cons_succ, Nat.reduceAdd]))
    refine seq_nil ?_; intro W hW hF
    clear hF
    have HW := Lib.hid hW
    clear hW hrd hv hxc hyc
    go_wp2
    go_ret
    exact ⟨rfl, HW.out⟩
  · rw [e, if_pos rfl] at hrd
    have hs : samp L l x y c = 256 * (l.getD p 0).toNat + (l.getD (p + 1) 0).toNat := by unfold samp; rw [hp, e]; rw [if_pos rfl]
    have HL := Lib.hid (And.intro hpl (And.intro h (And.intro hs (And.intro hok (And.intro hx (And.intro hy (And.intro hc (And.intro hl (And.intro hp e)))))))))
    clear hpl h hs hok hx hy hc hl hp e
    go_enter Try.func68, Try.ntmps68
    go_wp2_with fail
    refine wp_seq_all (fun k => k == 5 || k == 6) (fun k _ => if k = 5 then .int .i64 (p : Nat) else .int .i64 (samp L l x y c : Nat)) (fun _ _ _ => True) (by kernel_rfl) (by kernel_rfl) (fun _ _ _ _ _ h => h) ?_
    repeat (first | (refine seq_skip (by rfl) ?_; simp only [Act.put, List.setIfInBounds_toArray, List.set_cons_zero, List.set_cons_succ, Nat.reduceAdd]) | (refine seq_pure (v := ?_) (by rfl) (by rfl) (fun W hW hC => ?_) ?_; rotate_left; (go_simp <;> with_reducible rfl); simp only [Act.put, List.setIfInBounds_toArray, List.set_cons_zero, List.set_cons_succ, Nat.reduceAdd]))
    refine seq_made (by rfl) (by rfl) (fun W hW hC hF R hR => ?_) (fun _ => ?_)
    · unfold Gives; go_simp
      refine (place_calls HL.out.2.2.2.1 (HL.out.2.1.kept hW).blk HL.out.2.2.2.2.1 HL.out.2.2.2.2.2.1 HL.out.2.2.2.2.2.2.1).mono ?_
      rintro r w8 ⟨rfl, hb8⟩
      refine ⟨_, rfl, ?_⟩
      rw [HL.out.2.2.2.2.2.2.2.2.1]
      exact hR {} _ hb8 trivial
    simp only [Act.put, List.setIfInBounds_toArray, List.set_cons_zero, List.set_cons_succ, Nat.reduceAdd]
    repeat (first | (refine seq_skip (by rfl) ?_; simp only [Act.put, List.setIfInBounds_toArray, List.set_cons_zero, List.set_cons_succ, Nat.reduceAdd]) | (refine seq_pure (v := ?_) (by rfl) (by rfl) (fun W hW hC => ?_) ?_; rotate_left; (go_simp <;> with_reducible rfl); simp only [Act.put, List.setIfInBounds_toArray, List.set_cons_zero, List.set_cons_succ, Nat.reduceAdd]))
    refine seq_made (by rfl) (by rfl) (fun W hW hC hF R hR => ?_) (fun _ => ?_)
    · unfold Gives; go_simp
      refine (rd16_calls (HL.out.2.1.kept hW) b3 (Ytpgkhhdobolfbaa.kept hW hv) p (by have := HL.out.1; have := HL.out.2.1.len; have := HL.out.2.2.2.2.2.2.2.2.2; omega) HL.out.2.2.2.2.2.2.2.1).mono ?_
      rintro r w8 ⟨rfl, hb8⟩
      refine ⟨_, rfl, ?_⟩
      rw [← HL.out.2.2.1]
      exact hR {} _ hb8 trivial
    simp only [Act.put, List.setIfInBounds_toArray, List.set_cons_zero, List.set_cons_succ, Nat.reduceAdd]
    repeat (first | (refine seq_skip (by rfl) ?_; simp only [Act.put, List.setIfInBounds_toArray, List.set_cons_zero, List.set_cons_succ, Nat.reduceAdd]) | (refine seq_pure (v := ?_) (by rfl) (by rfl) (fun W hW hC => ?_) ?_; rotate_left; (go_simp <;> with_reducible rfl); simp only [Act.put, List.setIfInBounds_toArray, List.set_cons_zero, List.set_cons_succ, Nat.reduceAdd]))
    refine seq_nil ?_; intro W hW hF
    clear hF
    have HW := Lib.hid hW
    clear hW hrd hv hxc hyc
    go_wp2
    go_ret
    exact ⟨rfl, HW.out⟩
end Go.Proofs.Ytpgkhhdobolfbaa
