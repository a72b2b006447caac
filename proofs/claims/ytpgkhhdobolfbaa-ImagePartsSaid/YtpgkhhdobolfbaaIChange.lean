/-
  The functions that change a sample's bits, and the closure that applies one.
-/
import Derived.Test.YtpgkhhdobolfbaaIIter
import Derived.Test.YtpgkhhdobolfbaaIEq
namespace Go.Proofs.Ytpgkhhdobolfbaa
set_option linter.unusedVariables false
set_option linter.unusedSimpArgs false
open Go Go.RowKit

theorem keep44_calls (v : Nat) (w : World) : Calls Try.prog 44 #[.int .i64 (v : Nat)] w fun e w' => e = .returned (.int .i64 (v : Nat)) ∧ Below w.heap.size w w' := by
  go_enter Try.func44, Try.ntmps44
  go_wp2
  go_ret
  exact ⟨rfl, Below.refl _ _⟩

theorem keep45_calls (v : Nat) (hv : v < 65536) (w : World) : Calls Try.prog 45 #[.int .i64 (v : Nat)] w fun e w' => e = .returned (.int .i64 ((257 * v : Nat) : Int)) ∧ Below w.heap.size w w' := by
  obtain ⟨n, hn⟩ : ∃ n, 257 * v = n := ⟨_, rfl⟩
  have hw : IntKind.i64.wrap (257 * (v : Int)) = (n : Int) := by rw [show 257 * (v : Int) = (n : Int) by omega]; exact wrap_id (by omega)
  rw [hn]
  clear hv hn
  go_enter Try.func45, Try.ntmps45
  go_wp2
  go_ret
  exact ⟨rfl, Below.refl _ _⟩

theorem keep46_calls (v : Nat) (hv : v < 65536) (w : World) : Calls Try.prog 46 #[.int .i64 (v : Nat)] w fun e w' => e = .returned (.int .i64 (((v + 128) / 257 : Nat) : Int)) ∧ Below w.heap.size w w' := by
  obtain ⟨n, hn⟩ : ∃ n, v + 128 = n := ⟨_, rfl⟩
  obtain ⟨q, hq⟩ : ∃ n, (v + 128) / 257 = n := ⟨_, rfl⟩
  have hw : IntKind.i64.wrap ((v : Int) + 128) = (n : Int) := by rw [show (v : Int) + 128 = (n : Int) by omega]; exact wrap_id (by omega)
  have hd : Int.tdiv (n : Int) 257 = (q : Int) := by rw [Int.tdiv_eq_ediv_of_nonneg (by omega)]; omega
  have hw2 : IntKind.i64.wrap (q : Int) = (q : Int) := wrap_id (by omega)
  rw [hq]
  clear hv hn hq
  go_enter Try.func46, Try.ntmps46
  go_wp2
  go_ret
  exact ⟨rfl, Below.refl _ _⟩

set_option maxHeartbeats 1600000 in
theorem ch44_calls {w : World} {cb lb q n : Nat} {vs : List Nat} (hc : w.cell? ⟨cb, 0, none⟩ = some (.func (.func 44) #[] #[])) (hl : w.cell? ⟨lb, 0, none⟩ = some (.slice (some ⟨q, 0, none⟩) n n)) (hq : Blk w q ((vs.map fun v : Nat => (v : Int)).map (Value.int .i64)) 3)
    (c v : Nat) (hcv : vs[c]? = some v) (hcn : c < n) (hv : v < 65536) (hn : n ≤ 4) :
    Calls Try.prog 49 #[.int .i64 (c : Nat), .pointer (some ⟨cb, 0, none⟩), .pointer (some ⟨lb, 0, none⟩)] w fun e w' => e = .returned (.int .i64 ((v : Nat) : Int)) ∧ Below w.heap.size w w' := by
  have hqc := hq.cell (i := c) (v := .int .i64 (v : Nat)) (by rw [List.getElem?_map, List.getElem?_map, hcv]; rfl)
  have HV := Lib.hid hv
  clear hq hcv hv hn
  go_enter Try.func49, Try.ntmps49
  go_wp2_with fail
  refine wp_seq_all (fun k => k == 5) (fun _ _ => .int .i64 ((v : Nat) : Int)) (fun _ _ _ => True) (by kernel_rfl) (by kernel_rfl) (fun _ _ _ _ _ h => h) ?_
  repeat (first | (refine seq_skip (by rfl) ?_; simp only [Act.put, List.setIfInBounds_toArray, List.set_cons_zero, List.set_cons_succ, Nat.reduceAdd]) | (refine seq_pure (v := ?_) (by rfl) (by rfl) (fun W hW hC => ?_) ?_; rotate_left; (go_simp <;> with_reducible rfl); simp only [Act.put, List.setIfInBounds_toArray, List.set_cons_zero, List.set_cons_succ, Nat.reduceAdd]))
  refine seq_made (by rfl) (by rfl) (fun W hW hC hF R hR => ?_) (fun _ => ?_)
  · unfold Gives; go_simp
    refine (keep44_calls v W).mono ?_
    rintro r w8 ⟨rfl, hb8⟩
    refine ⟨_, rfl, ?_⟩
    exact hR {} _ hb8 trivial
  simp only [Act.put, List.setIfInBounds_toArray, List.set_cons_zero, List.set_cons_succ, Nat.reduceAdd]
  repeat (first | (refine seq_skip (by rfl) ?_; simp only [Act.put, List.setIfInBounds_toArray, List.set_cons_zero, List.set_cons_succ, Nat.reduceAdd]) | (refine seq_pure (v := ?_) (by rfl) (by rfl) (fun W hW hC => ?_) ?_; rotate_left; (go_simp <;> with_reducible rfl); simp only [Act.put, List.setIfInBounds_toArray, List.set_cons_zero, List.set_cons_succ, Nat.reduceAdd]))
  refine seq_nil ?_; intro W hW hF
  clear hF
  have HW := Lib.hid hW
  clear hW hc hl hqc
  go_wp2
  go_ret
  exact ⟨rfl, HW.out⟩

set_option maxHeartbeats 1600000 in
theorem ch45_calls {w : World} {cb lb q n : Nat} {vs : List Nat} (hc : w.cell? ⟨cb, 0, none⟩ = some (.func (.func 45) #[] #[])) (hl : w.cell? ⟨lb, 0, none⟩ = some (.slice (some ⟨q, 0, none⟩) n n)) (hq : Blk w q ((vs.map fun v : Nat => (v : Int)).map (Value.int .i64)) 3)
    (c v : Nat) (hcv : vs[c]? = some v) (hcn : c < n) (hv : v < 65536) (hn : n ≤ 4) :
    Calls Try.prog 49 #[.int .i64 (c : Nat), .pointer (some ⟨cb, 0, none⟩), .pointer (some ⟨lb, 0, none⟩)] w fun e w' => e = .returned (.int .i64 ((257 * v : Nat) : Int)) ∧ Below w.heap.size w w' := by
  have hqc := hq.cell (i := c) (v := .int .i64 (v : Nat)) (by rw [List.getElem?_map, List.getElem?_map, hcv]; rfl)
  have HV := Lib.hid hv
  clear hq hcv hv hn
  go_enter Try.func49, Try.ntmps49
  go_wp2_with fail
  refine wp_seq_all (fun k => k == 5) (fun _ _ => .int .i64 ((257 * v : Nat) : Int)) (fun _ _ _ => True) (by kernel_rfl) (by kernel_rfl) (fun _ _ _ _ _ h => h) ?_
  repeat (first | (refine seq_skip (by rfl) ?_; simp only [Act.put, List.setIfInBounds_toArray, List.set_cons_zero, List.set_cons_succ, Nat.reduceAdd]) | (refine seq_pure (v := ?_) (by rfl) (by rfl) (fun W hW hC => ?_) ?_; rotate_left; (go_simp <;> with_reducible rfl); simp only [Act.put, List.setIfInBounds_toArray, List.set_cons_zero, List.set_cons_succ, Nat.reduceAdd]))
  refine seq_made (by rfl) (by rfl) (fun W hW hC hF R hR => ?_) (fun _ => ?_)
  · unfold Gives; go_simp
    refine (keep45_calls v HV.out W).mono ?_
    rintro r w8 ⟨rfl, hb8⟩
    refine ⟨_, rfl, ?_⟩
    exact hR {} _ hb8 trivial
  simp only [Act.put, List.setIfInBounds_toArray, List.set_cons_zero, List.set_cons_succ, Nat.reduceAdd]
  repeat (first | (refine seq_skip (by rfl) ?_; simp only [Act.put, List.setIfInBounds_toArray, List.set_cons_zero, List.set_cons_succ, Nat.reduceAdd]) | (refine seq_pure (v := ?_) (by rfl) (by rfl) (fun W hW hC => ?_) ?_; rotate_left; (go_simp <;> with_reducible rfl); simp only [Act.put, List.setIfInBounds_toArray, List.set_cons_zero, List.set_cons_succ, Nat.reduceAdd]))
  refine seq_nil ?_; intro W hW hF
  clear hF
  have HW := Lib.hid hW
  clear hW hc hl hqc
  go_wp2
  go_ret
  exact ⟨rfl, HW.out⟩

set_option maxHeartbeats 1600000 in
theorem ch46_calls {w : World} {cb lb q n : Nat} {vs : List Nat} (hc : w.cell? ⟨cb, 0, none⟩ = some (.func (.func 46) #[] #[])) (hl : w.cell? ⟨lb, 0, none⟩ = some (.slice (some ⟨q, 0, none⟩) n n)) (hq : Blk w q ((vs.map fun v : Nat => (v : Int)).map (Value.int .i64)) 3)
    (c v : Nat) (hcv : vs[c]? = some v) (hcn : c < n) (hv : v < 65536) (hn : n ≤ 4) :
    Calls Try.prog 49 #[.int .i64 (c : Nat), .pointer (some ⟨cb, 0, none⟩), .pointer (some ⟨lb, 0, none⟩)] w fun e w' => e = .returned (.int .i64 (((v + 128) / 257 : Nat) : Int)) ∧ Below w.heap.size w w' := by
  have hqc := hq.cell (i := c) (v := .int .i64 (v : Nat)) (by rw [List.getElem?_map, List.getElem?_map, hcv]; rfl)
  have HV := Lib.hid hv
  clear hq hcv hv hn
  go_enter Try.func49, Try.ntmps49
  go_wp2_with fail
  refine wp_seq_all (fun k => k == 5) (fun _ _ => .int .i64 (((v + 128) / 257 : Nat) : Int)) (fun _ _ _ => True) (by kernel_rfl) (by kernel_rfl) (fun _ _ _ _ _ h => h) ?_
  repeat (first | (refine seq_skip (by rfl) ?_; simp only [Act.put, List.setIfInBounds_toArray, List.set_cons_zero, List.set_cons_succ, Nat.reduceAdd]) | (refine seq_pure (v := ?_) (by rfl) (by rfl) (fun W hW hC => ?_) ?_; rotate_left; (go_simp <;> with_reducible rfl); simp only [Act.put, List.setIfInBounds_toArray, List.set_cons_zero, List.set_cons_succ, Nat.reduceAdd]))
  refine seq_made (by rfl) (by rfl) (fun W hW hC hF R hR => ?_) (fun _ => ?_)
  · unfold Gives; go_simp
    refine (keep46_calls v HV.out W).mono ?_
    rintro r w8 ⟨rfl, hb8⟩
    refine ⟨_, rfl, ?_⟩
    exact hR {} _ hb8 trivial
  simp only [Act.put, List.setIfInBounds_toArray, List.set_cons_zero, List.set_cons_succ, Nat.reduceAdd]
  repeat (first | (refine seq_skip (by rfl) ?_; simp only [Act.put, List.setIfInBounds_toArray, List.set_cons_zero, List.set_cons_succ, Nat.reduceAdd]) | (refine seq_pure (v := ?_) (by rfl) (by rfl) (fun W hW hC => ?_) ?_; rotate_left; (go_simp <;> with_reducible rfl); simp only [Act.put, List.setIfInBounds_toArray, List.set_cons_zero, List.set_cons_succ, Nat.reduceAdd]))
  refine seq_nil ?_; intro W hW hF
  clear hF
  have HW := Lib.hid hW
  clear hW hc hl hqc
  go_wp2
  go_ret
  exact ⟨rfl, HW.out⟩

theorem leaves_ret {P : Program} {fn : Func} {R : Ending → World → Prop} {tmps : Array Value} {W : World} (v : Value) (hres : (results fn tmps).run P W = .ok v W) (hR : R (.returned v) W) :
    bodyPostM Fence.wide 0 P fn R .ret { tmps, defers := [] } W := ⟨v, hres, hR⟩
theorem leaves_mark {P : Program} {fn : Func} {R : Ending → World → Prop} {tmps : Array Value} {W : World} {r : Nat} (hK : W.heap[r]? = some (.deferred (some [])))
    (h : ∀ W', OffZ r (r + 1) W W' → ∃ v, (results fn tmps).run P W' = .ok v W' ∧ R (.returned v) W') :
    bodyPostM Fence.wide 0 P fn R .ret { tmps, defers := [{ target := .collected r, args := #[] }] } W :=
  ⟨by simp, .inl ⟨_, _, rfl, run_takeDeferred hK, h _ (OffZ.putObj _ (Nat.le_refl _) (by omega) _)⟩⟩
theorem wpIn_named {F : Fence} {n : Nat} {P : Program} {c : Code} {Q : Exit → Act → World → Prop} {a : Act} {w : World} (h : ∀ w', w' = w → c.wpIn F n P Q a w') : c.wpIn F n P Q a w := h w rfl
theorem wp_frame {P : Program} {c : Code} {Q : Exit → Act → World → Prop} {T : Array Value} {w : World} (h : ∀ T', T' = T → c.wp P Q { tmps := T', defers := [] } w) : c.wp P Q { tmps := T, defers := [] } w := h T rfl
theorem fold_two (T : Array Value) (p q : Nat) (v u : Value) : (#[p, q].zip #[v, u]).foldl (fun t (p, v) => t.setIfInBounds p v) T = (T.setIfInBounds p v).setIfInBounds q u := by simp
theorem KeepZ.of_offZ {z0 z1 y0 y1 : Nat} {A B : World} (h : OffZ y0 y1 A B) (h1 : y1 ≤ z0) (h2 : z1 ≤ A.heap.size) : KeepZ z0 z1 A B := ⟨h.size, fun b _ hb => h.block b (by omega) (by omega)⟩

theorem blk_set7 {W : World} {c : Nat} {v0 v1 v2 v3 v4 v5 v6 u0 u1 u2 u3 u4 u5 u6 : Value} {t : TypeId} (h : Blk W c [u0, u1, u2, u3, u4, u5, u6] t) :
    Blk (((((((W.setCell ⟨c, 0, none⟩ v0).setCell ⟨c, 1, none⟩ v1).setCell ⟨c, 2, none⟩ v2).setCell ⟨c, 3, none⟩ v3).setCell ⟨c, 4, none⟩ v4).setCell ⟨c, 5, none⟩ v5).setCell ⟨c, 6, none⟩ v6) c [v0, v1, v2, v3, v4, v5, v6] t :=
  ((((((h.set 0 v0).set 1 v1).set 2 v2).set 3 v3).set 4 v4).set 5 v5).set 6 v6
theorem heap_set7 {W : World} {c r : Nat} {v0 v1 v2 v3 v4 v5 v6 : Value} (h : r ≠ c) : (((((((W.setCell ⟨c, 0, none⟩ v0).setCell ⟨c, 1, none⟩ v1).setCell ⟨c, 2, none⟩ v2).setCell ⟨c, 3, none⟩ v3).setCell ⟨c, 4, none⟩ v4).setCell ⟨c, 5, none⟩ v5).setCell ⟨c, 6, none⟩ v6).heap[r]? = W.heap[r]? := by
  rw [Below.heap_setCell _ _ _ _ h, Below.heap_setCell _ _ _ _ h, Below.heap_setCell _ _ _ _ h, Below.heap_setCell _ _ _ _ h, Below.heap_setCell _ _ _ _ h, Below.heap_setCell _ _ _ _ h, Below.heap_setCell _ _ _ _ h]

/-- What a round of Shape keeps, and how far the other view is filled. -/
structure ShpI (w : World) (b g k bt gt kt pv ob cb : Nat) (L Lt : Lay) (O Ot : ByteArray) (l : List UInt8) (fid : FuncId) (S : Nat → Nat → Nat → Nat → Nat) (n : Nat) (A : World) : Prop where
  vw : View A b g L O k l
  out : ∃ l', View A bt gt Lt Ot kt l' ∧ Pix Lt l' (S n)
  pv : Blk A pv [.pointer (some ⟨b, 0, none⟩)] 79
  ob : Blk A ob [.pointer (some ⟨bt, 0, none⟩)] 79
  cb : Blk A cb [.func (.func fid) #[] #[]] 89
  res : Blk A (w.heap.size + 1) zeroC 24
  below : Below w.heap.size w A

theorem ShpI.offZ {w : World} {b g k bt gt kt pv ob cb : Nat} {L Lt : Lay} {O Ot : ByteArray} {l : List UInt8} {fid : FuncId} {S : Nat → Nat → Nat → Nat → Nat} {n : Nat} {A B : World} {z0 z1 : Nat} (h : ShpI w b g k bt gt kt pv ob cb L Lt O Ot l fid S n A) (hz : OffZ z0 z1 A B)
    (h1 : b < z0) (h2 : g < z0) (h3 : bt < z0) (h4 : gt < z0) (h5 : pv < z0) (h6 : ob < z0) (h7 : cb < z0) (h8 : w.heap.size + 1 < z0) : ShpI w b g k bt gt kt pv ob cb L Lt O Ot l fid S n B := by
  obtain ⟨l', hv, hp⟩ := h.out
  exact ⟨h.vw.offZ hz (.inl h1) (.inl h2), ⟨l', hv.offZ hz (.inl h3) (.inl h4), hp⟩, h.pv.offZ hz (.inl h5), h.ob.offZ hz (.inl h6), h.cb.offZ hz (.inl h7), h.res.offZ hz (.inl h8), Below.offZ h.below (Nat.le_refl _) hz (by omega)⟩

/-- The samples of the first n pixels, changed by F. -/
def shpS (W : Nat) (F : Nat → Nat) (f : Nat → Nat → Nat → Nat) (n : Nat) : Nat → Nat → Nat → Nat := fun x y c => if y * W + x < n then F (f x y c) else 0

theorem shpS_step {Lt : Lay} {l : List UInt8} {F : Nat → Nat} {f : Nat → Nat → Nat → Nat} {n W : Nat} (hW : Lt.W = W) (h0 : 0 < W) {vs : List Int} (hvs : vs = (List.range Lt.C).map fun c => (F (f (n % W) (n / W) c) : Int))
    (p : Pix Lt l (updS (shpS W F f n) (n % W) (n / W) vs)) : Pix Lt l (shpS W F f (n + 1)) := by
  refine p.congr fun x y c hx _ hc => ?_
  rw [hW] at hx
  have hdm := Nat.div_add_mod n W
  rw [Nat.mul_comm] at hdm
  unfold updS shpS
  by_cases e : x = n % W ∧ y = n / W
  · obtain ⟨rfl, rfl⟩ := e
    rw [if_pos ⟨rfl, rfl⟩, if_pos (by omega), hvs, List.getD_eq_getElem?_getD, List.getElem?_map, List.getElem?_range hc]
    simp
  · have hne : y * W + x ≠ n := by
      intro h
      apply e
      subst h
      exact ⟨by rw [Nat.mul_comm, Nat.mul_add_mod, Nat.mod_eq_of_lt hx], by rw [Nat.mul_comm, Nat.mul_add_div h0, Nat.div_eq_of_lt hx]; omega⟩
    rw [if_neg e]
    by_cases e2 : y * W + x < n
    · rw [if_pos e2, if_pos (by omega)]
    · rw [if_neg e2, if_neg (by omega)]
end Go.Proofs.Ytpgkhhdobolfbaa
