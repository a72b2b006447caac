/-
  The closures that write a sample: put$1, put$2.
-/
import Derived.Test.YtpgkhhdobolfbaaIPixel
import Derived.Test.YtpgkhhdobolfbaaISeqT
namespace Go.Proofs.Ytpgkhhdobolfbaa
set_option linter.unusedVariables false
set_option linter.unusedSimpArgs false
open Go Go.RowKit

theorem u8_ofNat (n : Nat) : IntKind.u8.wrap (n : Int) = ((UInt8.ofNat n).toNat : Int) := by
  rw [UInt8.toNat_ofNat']
  simp [IntKind.wrap, IntKind.bits, IntKind.signed]

theorem Oct.setO {W : World} {g : Nat} {l : List UInt8} (h : Oct W g l) {p : Nat} (hp : p < l.length) (n : Nat) : Oct (W.setCell ⟨g, p, none⟩ (.int .u8 ((UInt8.ofNat n).toNat : Int))) g (l.set p (UInt8.ofNat n)) := h.set hp _

set_option maxHeartbeats 1600000 in
theorem wr8_calls {w : World} {b g : Nat} {L : Lay} {O : ByteArray} {k : Nat} {l : List UInt8} (h : View w b g L O k l) (b3 : Nat) (hb3 : w.cell? ⟨b3, 0, none⟩ = some (.pointer (some ⟨b, 0, none⟩))) (p n : Nat) (hp : p < l.length) (hl : l.length ≤ 140000) :
    Calls Try.prog 72 #[.int .i64 (p : Nat), .int .i64 (n : Nat), .pointer (some ⟨b3, 0, none⟩)] w fun e w' => (∃ v, e = .returned v) ∧ OffZ g (g + 1) w w' ∧ Oct w' g (l.set p (UInt8.ofNat n)) := by
  have c := h.oct_at hp
  have f := h.oct.free p hp
  have v7 := h.blk.cell (i := 7) rfl
  have HO := Lib.hid (And.intro h.oct hp)
  obtain ⟨m, hn⟩ : ∃ n, l.length = n := ⟨_, rfl⟩
  obtain ⟨z, hz⟩ : ∃ z : Int, ((UInt8.ofNat n).toNat : Int) = z := ⟨_, rfl⟩
  have hw : IntKind.u8.wrap (n : Int) = z := by rw [u8_ofNat, hz]
  have HZ := Lib.hid hz
  rw [hn] at v7 hp hl
  clear h hn hl hz
  go_enter Try.func72, Try.ntmps72
  go_wp2
  refine bodyPost_end (v := .tuple #[]) (by simp [results, Try.results72, go_sem]) rfl ⟨⟨_, rfl⟩, OffZ.setCell _ (Nat.le_refl g) (Nat.lt_succ_self g) _, ?_⟩
  rw [← HZ.out]
  exact HO.out.1.setO HO.out.2 n

theorem cells_of {W : World} {g i : Nat} {v : Value} (h : W.cell? ⟨g, i, none⟩ = some v) : ∃ cur t fr, W.heap[g]? = some (.cells cur t fr) ∧ i < cur.size := by
  unfold World.cell? at h
  split at h
  · rename_i c t fr hh
    refine ⟨c, t, fr, hh, ?_⟩
    have : c[i]? = some v := by simpa using h
    exact (Array.getElem?_eq_some_iff.1 this).1
  · cases h

theorem heap_setF {w : World} {g : Nat} {cur : Array Value} {t : TypeId} {fr : Nat × Nat} (h : w.heap[g]? = some (.cells cur t fr)) (i : Nat) (v : Value) : (w.setCell ⟨g, i, none⟩ v).heap[g]? = some (.cells (cur.setIfInBounds i v) t fr) := by
  have hlt := (Array.getElem?_eq_some_iff.1 h).1
  show (w.heap.modify g _)[g]? = _
  rw [Array.getElem?_eq_getElem (by rw [Array.size_modify]; exact hlt), Array.getElem_modify_self]
  rw [(Array.getElem?_eq_some_iff.1 h).2]
  simp

/-- The first of two stores into one row. -/
theorem one_storeF {g : Nat} {cur : Array Value} {t : TypeId} {fr : Nat × Nat} {i : Nat} {v : Value} {A W : World} (hA : A.heap[g]? = some (.cells cur t fr)) (hi : i < cur.size) (hf : A.frozen? ⟨g, i, none⟩ = false) (hW : RT.OneT g (.cells (cur.setIfInBounds i v) t fr) A W) :
    (∃ u, W.cell? ⟨g, i, none⟩ = some u) ∧ W.frozen? ⟨g, i, none⟩ = false ∧ RT.OneT g (.cells (cur.setIfInBounds i v) t fr) W (W.setCell ⟨g, i, none⟩ v) ∧ (W.setCell ⟨g, i, none⟩ v).heap[g]? = some (.cells (cur.setIfInBounds i v) t fr) := by
  obtain ⟨c, hc, hs, hcc⟩ : ∃ c : Array Value, W.heap[g]? = some (.cells c t fr) ∧ c.size = cur.size ∧ c.setIfInBounds i v = cur.setIfInBounds i v := by
    rcases hW.one with e | e
    · exact ⟨cur, e.trans hA, rfl, rfl⟩
    · exact ⟨_, e, by simp, by simp⟩
  have hh := heap_setF hc i v
  rw [hcc] at hh
  refine ⟨⟨c[i]'(by omega), ?_⟩, ?_, .store _ rfl v hh, hh⟩
  · simp only [World.cell?, hc]
    simp [hs, hi]
  · simp only [World.frozen?, hA] at hf
    simp only [World.frozen?, hc]
    exact hf

set_option maxRecDepth 100000 in
set_option maxHeartbeats 1600000 in
theorem wr16_calls {w : World} {b g : Nat} {L : Lay} {O : ByteArray} {k : Nat} {l : List UInt8} (h : View w b g L O k l) (b3 : Nat) (hb3 : w.cell? ⟨b3, 0, none⟩ = some (.pointer (some ⟨b, 0, none⟩))) (hg3 : b3 ≠ g) (hgb : b ≠ g) (p n : Nat) (hp : p + 1 < l.length) (hl : l.length ≤ 140000) (hn2 : n < 65536) :
    Calls Try.prog 73 #[.int .i64 (p : Nat), .int .i64 (n : Nat), .pointer (some ⟨b3, 0, none⟩)] w fun e w' => (∃ v, e = .returned v) ∧ OffZ g (g + 1) w w' ∧ Oct w' g ((l.set p (UInt8.ofNat (n / 256))).set (p + 1) (UInt8.ofNat n)) := by
  have c := h.oct_at (p := p) (by omega)
  have d := h.oct_at hp
  have f := h.oct.free p (by omega)
  have v7 := h.blk.cell (i := 7) rfl
  obtain ⟨cur, te, fr, hA, hsz⟩ := cells_of c
  have HO := Lib.hid (And.intro h.oct (And.intro hp (And.intro hA (And.intro hsz f))))
  obtain ⟨m, hn⟩ : ∃ n, l.length = n := ⟨_, rfl⟩
  obtain ⟨z, hz⟩ : ∃ z : Int, ((UInt8.ofNat n).toNat : Int) = z := ⟨_, rfl⟩
  obtain ⟨y, hy⟩ : ∃ z : Int, ((UInt8.ofNat (n / 256)).toNat : Int) = z := ⟨_, rfl⟩
  obtain ⟨q, hq⟩ : ∃ q, p + 1 = q := ⟨_, rfl⟩
  obtain ⟨n1, hn1⟩ : ∃ q, n / 256 = q := ⟨_, rfl⟩
  have hp1 : IntKind.i64.wrap ((p : Int) + 1) = (q : Int) := by rw [show (p : Int) + 1 = (q : Int) by omega]; exact wrap_id (by omega)
  have hw : IntKind.u8.wrap (n : Int) = z := by rw [u8_ofNat, hz]
  have hd : (n : Int) / 256 = (n1 : Int) := by rw [← hn1]; simp
  have hw1 : IntKind.i64.wrap (n1 : Int) = (n1 : Int) := wrap_id (by omega)
  have hw' : IntKind.u8.wrap (n1 : Int) = y := by rw [u8_ofNat, ← hn1, hy]
  have HZ := Lib.hid (And.intro hz (And.intro hy (And.intro hq hl)))
  rw [hn] at v7 hp hl
  rw [hq] at hp d
  have hp0 : p < m := by omega
  clear h hn hl hz hy hq hA hsz f hn1 hn2 c d
  go_enter Try.func73, Try.ntmps73
  go_wp2_with fail
  refine RT.wp_seq_tail (T := RT.OneT g (.cells (cur.setIfInBounds p (.int .u8 y)) te fr)) 18 (fun k => k == 17) (fun _ _ => undef) (fun _ _ W => W.heap[g]? = some (.cells (cur.setIfInBounds p (.int .u8 y)) te fr)) trivial (by kernel_rfl) (by kernel_rfl) (by decide)
    (fun _ _ A B hT h => by rcases hT.one with e | e; exact e.trans h; exact e) ?_
  repeat (first | (refine RT.seq_skip (by rfl) ?_; simp only [Act.put, List.setIfInBounds_toArray, List.set_cons_zero, List.set_cons_succ, Nat.reduceAdd]) | (refine RT.seq_pure (v := ?_) (by rfl) (by rfl) (fun W hW hn => ?_) ?_; rotate_left; (have hC := RT.OneT.cell hW; clear hW hn; go_simp <;> with_reducible rfl); simp only [Act.put, List.setIfInBounds_toArray, List.set_cons_zero, List.set_cons_succ, Nat.reduceAdd]))
  refine RT.seq_made (by rfl) (by rfl) (fun W' hW' hn hF R hR => ?_) (fun _ => ?_)
  · clear hn
    obtain ⟨⟨u, hu⟩, hfz, hT, hX⟩ := one_storeF HO.out.2.2.1 HO.out.2.2.2.1 HO.out.2.2.2.2 hW'
    unfold RT.Gives
    go_simp
    exact hR {} _ hT hX (fun _ h => h)
  simp only [Act.put, List.setIfInBounds_toArray, List.set_cons_zero, List.set_cons_succ, Nat.reduceAdd]
  refine RT.seq_nil ?_
  intro W7 hW7 hF
  have hX7 := hF _ _ (List.mem_cons_self ..)
  clear hF
  have ho7 : Oct W7 g (l.set p (UInt8.ofNat (n / 256))) := by
    have h1 := HO.out.1.setO (by have := HO.out.2.1; omega) (n / 256) (p := p)
    have e : W7.heap[g]? = (w.setCell ⟨g, p, none⟩ (.int .u8 ((UInt8.ofNat (n / 256)).toNat : Int))).heap[g]? := by
      rw [hX7, HZ.out.2.1, heap_setF HO.out.2.2.1]
    exact ⟨fun i o hi => (World.cell?_of_block e).trans (h1.cell i o hi), fun i hi => by
      have := h1.free i hi
      simp only [World.frozen?] at this ⊢
      rw [e]; exact this, (Array.getElem?_eq_some_iff.1 hX7).1⟩
  have hq2 : q < (l.set p (UInt8.ofNat (n / 256))).length := by rw [List.length_set]; have := HO.out.2.1; have := HZ.out.2.2.1; omega
  obtain ⟨oc, hoc⟩ : ∃ oc, (l.set p (UInt8.ofNat (n / 256)))[q]? = some oc := ⟨_, List.getElem?_eq_getElem hq2⟩
  have d := ho7.cell q _ hoc
  have f := ho7.free q hq2
  obtain ⟨x, hx⟩ : ∃ x : Int, (oc.toNat : Int) = x := ⟨_, rfl⟩
  rw [hx] at d
  have HS := Lib.hid (And.intro ho7 (And.intro hq2 (And.intro hW7.offZ hx)))
  clear ho7 hq2 hW7 hX7 hb3 v7 hp1 hw hd hw1 hw' hx hoc
  go_wp2_with fail
  refine bodyPost_end (v := .tuple #[]) (by simp [results, Try.results73, go_sem]) rfl ⟨⟨_, rfl⟩, HS.out.2.2.1.trans (OffZ.setCell _ (Nat.le_refl g) (Nat.lt_succ_self g) _), ?_⟩
  rw [← HZ.out.1, HZ.out.2.2.1]
  exact HS.out.1.setO HS.out.2.1 n
end Go.Proofs.Ytpgkhhdobolfbaa
