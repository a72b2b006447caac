/-
  Draft.Some, Draft.Image.
-/
import Derived.Test.YtpgkhhdobolfbaaIShrU
import Derived.Test.YtpgkhhdobolfbaaIChange
namespace Go.Proofs.Ytpgkhhdobolfbaa
set_option linter.unusedVariables false
set_option linter.unusedSimpArgs false
open Go Go.RowKit

/-- The n-th value of a draft. -/
def drK (vs : List Int) (most n : Nat) : Nat := if vs.length = 0 then 0 else (vs.getD (n % vs.length) 0).toNat % most
/-- A draft's numbers. -/
structure Dr where
  W : Int
  H : Int
  C : Int
  Pd : Int
  deep : Bool
  P : Bool
  vs : List Int
structure Dr.Ok (d : Dr) : Prop where
  w : 0 ≤ d.W ∧ d.W ≤ 255
  h : 0 ≤ d.H ∧ d.H ≤ 255
  c : 0 ≤ d.C ∧ d.C ≤ 255
  p : 0 ≤ d.Pd ∧ d.Pd ≤ 255
  v : ∀ x ∈ d.vs, 0 ≤ x ∧ x ≤ 65535
  l : d.vs.length ≤ 9223372036854775807
def Dr.v (d : Dr) (A : Option Addr) (c : Nat) : Value := .agg #[.int .u8 d.W, .int .u8 d.H, .int .u8 d.C, .int .u8 d.Pd, .bool d.deep, .bool d.P, .slice A d.vs.length c]
def padN (p : Nat) : Nat := if p = 0 then 1 else if p = 1 then 2 else if p = 2 then 4 else 8
/-- The layout with ch channels. -/
def Dr.lay (d : Dr) (ch : Nat) : Lay := ⟨1 + d.W.toNat % 6, 1 + d.H.toNat % 6, ch, if d.deep then 2 else 1, d.P, padN (d.Pd.toNat % 4)⟩
def Dr.most (d : Dr) : Nat := if d.deep then 65536 else 256
def Dr.smp (d : Dr) (ch : Nat) : Nat → Nat → Nat → Nat := fun x y c => drK d.vs d.most ((y * (1 + d.W.toNat % 6) + x) * ch + c)
def Dr.some (d : Dr) (ch : Nat) : Im := img (d.lay ch) (d.smp ch)
theorem padN_or (p : Nat) : padN p = 1 ∨ padN p = 2 ∨ padN p = 4 ∨ padN p = 8 := by unfold padN; split; simp; split; simp; split <;> simp
theorem Dr.ok {d : Dr} {ch : Nat} (h1 : 1 ≤ ch) (h4 : ch ≤ 4) : (d.lay ch).Ok := by
  have a := Nat.mod_lt d.W.toNat (show 0 < 6 by decide)
  have b := Nat.mod_lt d.H.toNat (show 0 < 6 by decide)
  refine ⟨by show 1 ≤ 1 + _; omega, by show 1 + _ ≤ 64; omega, by show 1 ≤ 1 + _; omega, by show 1 + _ ≤ 64; omega, h1, h4, ?_, ?_, padN_or _⟩
  · show (1 + _) * (1 + _) * ch ≤ 4096
    have h1 : (1 + d.W.toNat % 6) * (1 + d.H.toNat % 6) ≤ 6 * 6 := Nat.mul_le_mul (by omega) (by omega)
    have h2 : (1 + d.W.toNat % 6) * (1 + d.H.toNat % 6) * ch ≤ 36 * 4 := Nat.mul_le_mul h1 h4
    omega
  · show (if d.deep then 2 else 1) = 1 ∨ (if d.deep then 2 else 1) = 2
    cases d.deep <;> simp
theorem Dr.bd (d : Dr) (ch : Nat) : Bd (d.lay ch) (d.smp ch) := by
  intro x y c _ _ _
  unfold Dr.smp drK Dr.most Dr.lay
  dsimp only
  cases d.deep
  · split
    · simp
    · simp only [Bool.false_eq_true, if_false]; exact Nat.mod_lt _ (by decide)
  · split
    · simp
    · simp only [if_true]; exact Nat.mod_lt _ (by decide)

/-- What the rounds of Some keep. -/
structure SomI (w : World) (D : List Value) (mb : Nat) (L : Lay) (f : Nat → Nat → Nat → Nat) (n : Nat) (A : World) : Prop where
  draft : Blk A w.heap.size D 52
  res : Blk A (w.heap.size + 1) zeroC 24
  im : ∃ O : ByteArray, Blk A mb (imL L O) 24 ∧ Pix L O.data.toList (shpS L.W (fun v => v) f n)
  below : Below w.heap.size w A

theorem SomI.kept {w : World} {D : List Value} {mb : Nat} {L : Lay} {f : Nat → Nat → Nat → Nat} {n : Nat} {A B : World} (h : SomI w D mb L f n A) (hb : Below A.heap.size A B) : SomI w D mb L f n B := by
  obtain ⟨O, h1, h2⟩ := h.im
  exact ⟨h.draft.kept hb, h.res.kept hb, ⟨O, h1.kept hb, h2⟩, below_trans h.below hb⟩
theorem SomI.grown {w : World} {D : List Value} {mb : Nat} {L : Lay} {f : Nat → Nat → Nat → Nat} {n : Nat} {A B : World} {base : Nat} {v : Value} {xs : List Int} (h : SomI w D mb L f n A) (ho : Own A base v xs) (hg : A.grownBy B v.ownBlock) (hb : w.heap.size ≤ base) : SomI w D mb L f n B := by
  obtain ⟨O, h1, h2⟩ := h.im
  exact ⟨Blk.grown ho hg h.draft (by decide), Blk.grown ho hg h.res (by decide), ⟨O, Blk.grown ho hg h1 (by decide), h2⟩, ho.below hg hb h.below⟩

theorem one_cs (w : World) (x : Int) : Cs (w.alloc (.cells #[.int .i64 x] 3)) .i64 (some ⟨w.heap.size, 0, none⟩) [x] := fun i y hy => by
  have : i = 0 := by
    have := (List.getElem?_eq_some_iff.1 hy).1
    simp at this; omega
  subst this
  cases hy
  exact ⟨w.heap.size, 0, rfl, by rw [Nat.zero_add]; exact (Blk.new w [.int .i64 x] 3).cell rfl⟩

set_option maxRecDepth 100000 in
set_option maxHeartbeats 6400000 in
theorem some_calls (d : Dr) (hd : d.Ok) (A : Option Addr) (cA ch : Nat) (h1 : 1 ≤ ch) (h4 : ch ≤ 4) (w : World) (hvs : Cs w .u16 A d.vs) :
    Calls Try.prog 34 #[d.v A cA, .int .i64 (ch : Nat)] w fun e w' => e = .returned (d.some ch).v ∧ Below w.heap.size w w' := by
  obtain ⟨dW, dH, dC, dP, deep, pl, vs, hdd⟩ : ∃ a b c e f g h, d = ⟨a, b, c, e, f, g, h⟩ := ⟨_, _, _, _, _, _, _, rfl⟩
  have hdv : d.v A cA = .agg #[.int .u8 dW, .int .u8 dH, .int .u8 dC, .int .u8 dP, .bool deep, .bool pl, .slice A vs.length cA] := by rw [hdd]; rfl
  rw [hdv]
  obtain ⟨nW, hnW⟩ := Int.eq_ofNat_of_zero_le hd.w.1
  obtain ⟨nH, hnH⟩ := Int.eq_ofNat_of_zero_le hd.h.1
  obtain ⟨nP, hnP⟩ := Int.eq_ofNat_of_zero_le hd.p.1
  have hv : ∀ x ∈ vs, 0 ≤ x ∧ x ≤ 65535 := by have := hd.v; rw [hdd] at this; exact this
  have hw255 := hd.w.2
  have hh255 := hd.h.2
  have hp255 := hd.p.2
  rw [hdd] at hnW hnH hnP hvs hw255 hh255 hp255
  dsimp only at hnW hnH hnP hvs hw255 hh255 hp255
  subst hnW hnH hnP
  obtain ⟨LW, hLW⟩ : ∃ q, 1 + nW % 6 = q := ⟨_, rfl⟩
  obtain ⟨LH, hLH⟩ : ∃ q, 1 + nH % 6 = q := ⟨_, rfl⟩
  obtain ⟨pp, hpp⟩ : ∃ q, nP % 4 = q := ⟨_, rfl⟩
  have hlv : vs.length ≤ 9223372036854775807 := by have := hd.l; rw [hdd] at this; exact this
  have hlay : d.lay ch = ⟨LW, LH, ch, if deep then 2 else 1, pl, padN pp⟩ := by rw [hdd, ← hLW, ← hLH, ← hpp]; rfl
  have hsmp : d.smp ch = fun x y c => drK vs (if deep then 65536 else 256) ((y * LW + x) * ch + c) := by rw [hdd, ← hLW]; rfl
  have hok := Dr.ok (d := d) h1 h4
  rw [hlay] at hok
  have HRes := Lib.hid (show d.some ch = img ⟨LW, LH, ch, if deep then 2 else 1, pl, padN pp⟩ (fun x y c => drK vs (if deep then 65536 else 256) ((y * LW + x) * ch + c)) by unfold Dr.some; rw [hlay, hsmp])
  have HD := Lib.hid (And.intro hvs hv)
  have m1 : Int.tmod (nW : Int) 6 = ((nW % 6 : Nat) : Int) := by rw [Int.tmod_eq_emod_of_nonneg (by omega)]; rfl
  have m2 : Int.tmod (nH : Int) 6 = ((nH % 6 : Nat) : Int) := by rw [Int.tmod_eq_emod_of_nonneg (by omega)]; rfl
  have m3 : Int.tmod (nP : Int) 4 = ((nP % 4 : Nat) : Int) := by rw [Int.tmod_eq_emod_of_nonneg (by omega)]; rfl
  obtain ⟨rW, hrW⟩ : ∃ q, nW % 6 = q := ⟨_, rfl⟩
  obtain ⟨rH, hrH⟩ : ∃ q, nH % 6 = q := ⟨_, rfl⟩
  rw [hrW] at m1 hLW
  rw [hrH] at m2 hLH
  rw [hpp] at m3
  have k1 : IntKind.i64.wrap (rW : Int) = (rW : Int) := wrap_id (by omega)
  have k2 : IntKind.i64.wrap (rH : Int) = (rH : Int) := wrap_id (by omega)
  have k3 : IntKind.i64.wrap (1 + (rW : Int)) = (LW : Int) := by rw [show 1 + (rW : Int) = (LW : Int) by omega]; exact wrap_id (by omega)
  have k4 : IntKind.i64.wrap (1 + (rH : Int)) = (LH : Int) := by rw [show 1 + (rH : Int) = (LH : Int) by omega]; exact wrap_id (by omega)
  have k5 : IntKind.u8.wrap (rW : Int) = (rW : Int) := by simp [IntKind.wrap, IntKind.bits, IntKind.signed]; omega
  have k6 : IntKind.u8.wrap (rH : Int) = (rH : Int) := by simp [IntKind.wrap, IntKind.bits, IntKind.signed]; omega
  have k7 : IntKind.u8.wrap (pp : Int) = (pp : Int) := by simp [IntKind.wrap, IntKind.bits, IntKind.signed]; omega
  have hp4 : pp < 4 := by omega
  have hp4i : (pp : Int) < 4 := by omega
  have HNum := Lib.hid (And.intro hp4 (And.intro (show 1 ≤ LW ∧ LW ≤ 6 by omega) (And.intro (show 1 ≤ LH ∧ LH ≤ 6 by omega) (And.intro h1 h4))))
  have HOk := Lib.hid hok
  have HLv := Lib.hid hlv
  clear hdv hdd hlay hsmp hok hvs hv hw255 hh255 hp255 hrW hrH hLW hLH hpp hlv h1 h4 hd
  go_enter Try.func34, Try.ntmps34
  go_upto_region 1 with fail
  refine wp_named ?_
  intro w1 hw1
  have b0 : Blk w1 w.heap.size [.int .u8 (nW : Nat), .int .u8 (nH : Nat), .int .u8 dC, .int .u8 (nP : Nat), .bool deep, .bool pl, .slice A vs.length cA] 52 := by rw [hw1]; exact (Blk.new _ _ _).alloc _
  have br : Blk w1 (w.heap.size + 1) zeroC 24 := by rw [hw1]; exact Blk.at (by simp)
  have hb1 : Below w.heap.size w w1 := by rw [hw1]; repeat (first | exact below_alloc _ | refine below_trans ?_ (below_alloc _))
  clear hw1
  have c0 := b0.cell (i := 0) rfl
  have c1 := b0.cell (i := 1) rfl
  have c2 := b0.cell (i := 2) rfl
  have c3 := b0.cell (i := 3) rfl
  have c4 := b0.cell (i := 4) rfl
  have c5 := b0.cell (i := 5) rfl
  have c6 := b0.cell (i := 6) rfl
  have HB := Lib.hid (And.intro b0 (And.intro br hb1))
  clear b0 br hb1
  cases deep with
  | false =>
    obtain ⟨L, hL⟩ : ∃ L : Lay, L = ⟨LW, LH, ch, 1, pl, padN pp⟩ := ⟨_, rfl⟩
    have hmk : makeS (LW : Nat) (LH : Nat) (ch : Nat) 8 pl ((padN pp : Nat) : Int) = (img L (fun _ _ _ => 0), 0) := by
      unfold makeS
      have n : Nums L (LW : Nat) (LH : Nat) (ch : Nat) 8 pl ((padN pp : Nat) : Int) := ⟨by rw [hL]; exact HOk.out, by rw [hL], by rw [hL], by rw [hL], by rw [hL]; rfl, by rw [hL], by rw [hL]⟩
      rw [if_pos (show shB _ _ _ _ _ = true from decide_eq_true (nums_shp n))]
      rw [hL]
      simp [okN]
    have HMk := Lib.hid (And.intro hL hmk)
    clear hL hmk
    have HMake := Lib.hid (fun W => refmake_calls (LW : Nat) (LH : Nat) (ch : Nat) 8 pl ((padN pp : Nat) : Int) W)
    rw [HMk.out.2] at HMake
    obtain ⟨R, hR⟩ : ∃ R, img L (fun _ _ _ => 0) = R := ⟨_, rfl⟩
    rw [hR, imgV_eq] at HMake
    have HR := Lib.hid hR
    clear hR
    dsimp only at HMake
    go_wp2_with fail
    refine RL.wp_seq_all (T := ShU #[.int .i64 R.W, .int .i64 R.H, .int .i64 R.C, .int .i64 R.B, .bool R.P, .int .i64 R.Pd, .string R.O] w1.heap.size) (fun k => k == 14 || k == 19 || k == 20 || k == 24 || k == 25) (fun k x => if k = 14 then .slice (some ⟨x.i, 0, none⟩) 4 4 else if k = 19 then .int .i64 ((padN pp : Nat) : Int) else if k = 20 then .tuple #[.agg #[.int .i64 R.W, .int .i64 R.H, .int .i64 R.C, .int .i64 R.B, .bool R.P, .int .i64 R.Pd, .string R.O], .int .i64 0] else if k = 24 then .pointer (some ⟨x.i, 0, none⟩) else undef)
      (fun k x l W => if k = 14 then Blk W x.i [.int .i64 1, .int .i64 2, .int .i64 4, .int .i64 8] 3 else if k = 24 then RowU W x.i ∧ w1.heap.size ≤ x.i else if k = 25 then ∀ b, l 7 = some (.pointer (some ⟨b, 0, none⟩)) → Blk W b [.int .i64 R.W, .int .i64 R.H, .int .i64 R.C, .int .i64 R.B, .bool R.P, .int .i64 R.Pd, .string R.O] 24 else True) trivial (by kernel_rfl) (by kernel_rfl) ?_ ?_
    · intro k x l A B hT h
      split at h
      · rename_i e; rw [if_pos e]; exact hT.blk (by decide) h
      · rename_i e; rw [if_neg e]
        split at h
        · rename_i e2; rw [if_pos e2]; exact ⟨hT.rows _ h.1, h.2⟩
        · rename_i e2; rw [if_neg e2]
          split at h
          · rename_i e3; rw [if_pos e3]; exact fun b hb => hT.fix b (h b hb)
          · rename_i e3; rw [if_neg e3]; trivial
    repeat (first | (refine RL.seq_skip (by rfl) ?_; simp only [Act.put, List.setIfInBounds_toArray, List.set_cons_zero, List.set_cons_succ, Nat.reduceAdd]) | (refine RL.seq_pure (v := ?_) (by rfl) (by rfl) (fun W hW hn => ?_) ?_; rotate_left; (have hC := ShU.cell0 hW; clear hW hn; go_simp <;> with_reducible rfl); simp only [Act.put, List.setIfInBounds_toArray, List.set_cons_zero, List.set_cons_succ, Nat.reduceAdd]))
    refine RL.seq_made (by rfl) (by rfl) (fun W hW hn hF R hR => ?_) (fun y14 => ?_)
    · unfold RL.Gives; go_simp
      exact hR { i := W.heap.size } _ (ShU.of_below (below_alloc _)) (Blk.new _ _ _) (fun _ h => h)
    simp only [Act.put, List.setIfInBounds_toArray, List.set_cons_zero, List.set_cons_succ, Nat.reduceAdd]
    repeat (first | (refine RL.seq_skip (by rfl) ?_; simp only [Act.put, List.setIfInBounds_toArray, List.set_cons_zero, List.set_cons_succ, Nat.reduceAdd]) | (refine RL.seq_pure (v := ?_) (by rfl) (by rfl) (fun W hW hn => ?_) ?_; rotate_left; (have hC := ShU.cell0 hW; clear hW hn; go_simp <;> with_reducible rfl); simp only [Act.put, List.setIfInBounds_toArray, List.set_cons_zero, List.set_cons_succ, Nat.reduceAdd]))
    refine RL.seq_made (by rfl) (by rfl) (fun W hW hn hF R' hR' => ?_) (fun _ => ?_)
    · have hb : Blk W y14.i [.int .i64 1, .int .i64 2, .int .i64 4, .int .i64 8] 3 := hF 14 _ (List.mem_cons_self ..) (by decide +kernel)
      have hc := hb.cell (i := pp) (v := .int .i64 ((padN pp : Nat) : Int)) (by
        have := HNum.out.1
        have h4 : pp = 0 ∨ pp = 1 ∨ pp = 2 ∨ pp = 3 := by omega
        rcases h4 with rfl | rfl | rfl | rfl <;> rfl)
      unfold RL.Gives
      go_simp
      exact hR' {} _ (ShU.of_below (Below.refl _ _)) trivial (fun _ h => h)
    simp only [Act.put, List.setIfInBounds_toArray, List.set_cons_zero, List.set_cons_succ, Nat.reduceAdd]
    repeat (first | (refine RL.seq_skip (by rfl) ?_; simp only [Act.put, List.setIfInBounds_toArray, List.set_cons_zero, List.set_cons_succ, Nat.reduceAdd]) | (refine RL.seq_pure (v := ?_) (by rfl) (by rfl) (fun W hW hn => ?_) ?_; rotate_left; (have hC := ShU.cell0 hW; clear hW hn; go_simp <;> with_reducible rfl); simp only [Act.put, List.setIfInBounds_toArray, List.set_cons_zero, List.set_cons_succ, Nat.reduceAdd]))
    refine RL.seq_made (by rfl) (by rfl) (fun W hW hn hF R' hR' => ?_) (fun _ => ?_)
    · unfold RL.Gives; go_simp
      refine (HMake.out W).mono ?_
      rintro r w8 ⟨rfl, hb8⟩
      refine ⟨_, rfl, ?_⟩
      exact hR' {} _ (ShU.of_below hb8) trivial (fun _ h => h)
    simp only [Act.put, List.setIfInBounds_toArray, List.set_cons_zero, List.set_cons_succ, Nat.reduceAdd]
    repeat (first | (refine RL.seq_skip (by rfl) ?_; simp only [Act.put, List.setIfInBounds_toArray, List.set_cons_zero, List.set_cons_succ, Nat.reduceAdd]) | (refine RL.seq_pure (v := ?_) (by rfl) (by rfl) (fun W hW hn => ?_) ?_; rotate_left; (have hC := ShU.cell0 hW; clear hW hn; go_simp <;> with_reducible rfl); simp only [Act.put, List.setIfInBounds_toArray, List.set_cons_zero, List.set_cons_succ, Nat.reduceAdd]))
    refine RL.seq_made (by rfl) (by rfl) (fun W hW hn hF R' hR' => ?_) (fun y24 => ?_)
    · unfold RL.Gives; go_simp
      exact hR' { i := W.heap.size } _ (ShU.of_below (below_alloc _)) ⟨row_allocU _ _ rfl, hW.size⟩ (fun _ h => h)
    simp only [Act.put, List.setIfInBounds_toArray, List.set_cons_zero, List.set_cons_succ, Nat.reduceAdd]
    refine RL.seq_made (by rfl) (by rfl) (fun W hW hn hF R' hR' => ?_) (fun _ => ?_)
    · obtain ⟨hr1, hr2⟩ : RowU W y24.i ∧ w1.heap.size ≤ y24.i := hF 24 _ (List.mem_cons_self ..) (by decide +kernel)
      refine gives_storeU _ _ rfl y24.i #[.int .i64 R.W, .int .i64 R.H, .int .i64 R.C, .int .i64 R.B, .bool R.P, .int .i64 R.Pd, .string R.O] rfl rfl hr1 rfl (by kernel_rfl) w1.heap.size hr2 fun W2 hT hB => hR' {} _ hT ?_ (fun _ h => h)
      intro b hb
      have e : y24.i = b := by
        have h2 : some (Value.pointer (some ⟨y24.i, 0, none⟩)) = some (Value.pointer (some ⟨b, 0, none⟩)) := hb
        injection h2 with h2
        injection h2 with h2
        injection h2 with h2
        injection h2
      rw [← e]
      exact hB
    simp only [Act.put, List.setIfInBounds_toArray, List.set_cons_zero, List.set_cons_succ, Nat.reduceAdd]
    repeat (first | (refine RL.seq_skip (by rfl) ?_; simp only [Act.put, List.setIfInBounds_toArray, List.set_cons_zero, List.set_cons_succ, Nat.reduceAdd]) | (refine RL.seq_pure (v := ?_) (by rfl) (by rfl) (fun W hW hn => ?_) ?_; rotate_left; (have hC := ShU.cell0 hW; clear hW hn; go_simp <;> with_reducible rfl); simp only [Act.put, List.setIfInBounds_toArray, List.set_cons_zero, List.set_cons_succ, Nat.reduceAdd]))
    refine RL.seq_nil ?_; intro W hW hF
    have hmb : Blk W y24.i [.int .i64 R.W, .int .i64 R.H, .int .i64 R.C, .int .i64 R.B, .bool R.P, .int .i64 R.Pd, .string R.O] 24 := hF 25 _ (List.mem_cons_self ..) y24.i rfl
    have hge : w1.heap.size ≤ y24.i := (show RowU W y24.i ∧ w1.heap.size ≤ y24.i from hF 24 _ (List.mem_cons_of_mem _ (List.mem_cons_self ..))).2
    replace hW := ShU.below hW
    clear hF c0 c1 c2 c3 c4 c5 c6 m1 m2 m3 k1 k2 k3 k4 k5 k6 k7
    obtain ⟨pd, hpd⟩ : ∃ pd, padN pp = pd := ⟨_, rfl⟩
    obtain ⟨mb, hmbe⟩ : ∃ q, y24.i = q := ⟨_, rfl⟩
    obtain ⟨f, hf⟩ : ∃ f : Nat → Nat → Nat → Nat, f = fun x y c => drK vs 256 ((y * LW + x) * ch + c) := ⟨_, rfl⟩
    have hok : L.Ok := by rw [HMk.out.1]; exact HOk.out
    have hCL : ∀ O, imL L O = [.int .i64 (LW : Nat), .int .i64 (LH : Nat), .int .i64 (ch : Nat), .int .i64 8, .bool pl, .int .i64 (pd : Nat), .string O] := fun O => by rw [HMk.out.1, ← hpd]; rfl
    have hCV : ∀ O, imV L O = .agg #[.int .i64 (LW : Nat), .int .i64 (LH : Nat), .int .i64 (ch : Nat), .int .i64 8, .bool pl, .int .i64 (pd : Nat), .string O] := fun O => by rw [HMk.out.1, ← hpd]; rfl
    have hR0 : [Value.int .i64 R.W, .int .i64 R.H, .int .i64 R.C, .int .i64 R.B, .bool R.P, .int .i64 R.Pd, .string R.O] = imL L R.O := by rw [← HR.out]; rfl
    rw [hmbe, hR0] at hmb
    rw [hmbe] at hge
    have hI0 : SomI w [.int .u8 (nW : Nat), .int .u8 (nH : Nat), .int .u8 dC, .int .u8 (nP : Nat), .bool false, .bool pl, .slice A vs.length cA] mb L f 0 W :=
      ⟨HB.out.1.kept hW, HB.out.2.1.kept hW, ⟨R.O, hmb, by rw [← HR.out]; exact (show Pix L (octs L _) _ from (octs_pix hok _)).congr fun _ _ _ _ _ _ => by unfold shpS; rw [if_neg (by omega)]⟩, below_trans HB.out.2.2 hW⟩
    have hfl : ∀ x y c, f x y c < 256 := by
      intro x y c
      rw [hf]
      unfold drK
      dsimp only
      split
      · decide
      · exact Nat.mod_lt _ (by decide)
    have HL := Lib.hid (And.intro hok (And.intro hCL (And.intro hCV (And.intro hf (And.intro hfl (And.intro (show w.heap.size + 1 < mb by have := HB.out.2.1.lt; omega) (And.intro (show L.W = LW by rw [HMk.out.1]) (And.intro (show L.H = LH by rw [HMk.out.1]) (show L.C = ch by rw [HMk.out.1])))))))))
    have HI0 := Lib.hid hI0
    rw [hmbe]
    clear hmb hge hW hmbe hf hok hCL hCV hR0 hI0 hfl hpd hp4 hp4i
    go_wp2_with fail
    go_loopw [9, 10] (fun nn yy wr => ∃ y : Nat, y ≤ LH ∧ yy = .int .i64 y ∧ nn = .int .i64 ((y * LW * ch : Nat) : Int) ∧ SomI w [.int .u8 (nW : Nat), .int .u8 (nH : Nat), .int .u8 dC, .int .u8 (nP : Nat), .bool false, .bool pl, .slice A vs.length cA] mb L f (y * LW) wr) (fun _ yy _ => LH - (intOf yy).toNat)
    case atStart => exact ⟨0, Nat.zero_le _, rfl, by simp, by rw [Nat.zero_mul]; exact HI0.out⟩
    case round =>
      obtain ⟨y, hy0, rfl, rfl, hI⟩ := hrel
      obtain ⟨O, hm, hpx⟩ := hI.im
      rw [HL.out.2.1] at hm
      have c1 := hm.cell (i := 1) rfl
      have HI := Lib.hid hI
      clear hI hm hpx
      by_cases hyt : y < LH
      · have hwy : wrap64 ((y : Int) + 1) = ((y + 1 : Nat) : Int) := by have := HNum.out; unfold wrap64; omega
        obtain ⟨ny, hny⟩ : ∃ q, y * LW * ch = q := ⟨_, rfl⟩
        rw [hny]
        have HNy := Lib.hid hny
        clear hny
        go_wp2_with fail
        clear c1
        go_loopw [9, 11] (fun nn xx wr => ∃ x : Nat, x ≤ LW ∧ xx = .int .i64 x ∧ nn = .int .i64 (((y * LW + x) * ch : Nat) : Int) ∧ SomI w [.int .u8 (nW : Nat), .int .u8 (nH : Nat), .int .u8 dC, .int .u8 (nP : Nat), .bool false, .bool pl, .slice A vs.length cA] mb L f (y * LW + x) wr) (fun _ xx _ => LW - (intOf xx).toNat)
        case atStart => exact ⟨0, Nat.zero_le _, rfl, by rw [← HNy.out]; rfl, HI.out⟩
        case round =>
          obtain ⟨x, hx0, rfl, rfl, hI⟩ := hrel
          obtain ⟨O, hm, hpx⟩ := hI.im
          rw [HL.out.2.1] at hm
          have c0 := hm.cell (i := 0) rfl
          have HI2 := Lib.hid hI
          clear hI hm hpx HI
          by_cases hxt : x < LW
          · have hwx : wrap64 ((x : Int) + 1) = ((x + 1 : Nat) : Int) := by have := HNum.out; unfold wrap64; omega
            obtain ⟨bn, hbn⟩ : ∃ q, (y * LW + x) * ch = q := ⟨_, rfl⟩
            rw [hbn]
            have hbb : bn + 4 ≤ 1000 := by
              have g := HNum.out
              rw [← hbn]
              have h1 : (y + 1) * LW ≤ 6 * 6 := Nat.mul_le_mul (by omega) (by omega)
              rw [Nat.succ_mul] at h1
              have h2 : (y * LW + x) * ch ≤ 36 * 4 := Nat.mul_le_mul (by omega) (by omega)
              omega
            have HBn := Lib.hid (And.intro hbn hbb)
            have hchm : (ch : Int) ≤ 9223372036854775807 := by have := HNum.out; omega
            clear hbn hbb
            go_wp2_with fail
            clear c0
            go_loopw [9, 12, 13] (fun nn v cc wr => ∃ j : Nat, j ≤ ch ∧ cc = .int .i64 j ∧ nn = .int .i64 ((bn + j : Nat) : Int) ∧ (∃ A' k', v = .slice A' j k' ∧ Own wr w.heap.size (.slice A' j k') ((List.range j).map fun c => (f x y c : Int))) ∧ SomI w [.int .u8 (nW : Nat), .int .u8 (nH : Nat), .int .u8 dC, .int .u8 (nP : Nat), .bool false, .bool pl, .slice A vs.length cA] mb L f (y * LW + x) wr) (fun _ _ cc _ => ch - (intOf cc).toNat)
            case atStart => exact ⟨0, Nat.zero_le _, rfl, rfl, ⟨none, 0, rfl, Own.nil _ _⟩, HI2.out⟩
            case round =>
              obtain ⟨j, hj0, rfl, rfl, ⟨A', k', rfl, how⟩, hI⟩ := hrel
              by_cases hjt : j < ch
              · have hwj : wrap64 ((j : Int) + 1) = ((j + 1 : Nat) : Int) := by have := HNum.out; unfold wrap64; omega
                have hvc := HD.out.1.kept hI.below
                have c6 := hI.draft.cell (i := 6) rfl
                have HI3 := Lib.hid (And.intro how hI)
                clear how hI HI2
                by_cases hv0 : 0 < vs.length
                · obtain ⟨u, ub, uo, hu, huA, huc⟩ := hvc.at (i := (bn + j) % vs.length) (Nat.mod_lt _ hv0)
                  obtain ⟨hu0, hu1⟩ := HD.out.2 u (List.mem_of_getElem? hu)
                  obtain ⟨un, rfl⟩ := Int.eq_ofNat_of_zero_le hu0
                  have hdk : f x y j = un % 256 := by rw [HL.out.2.2.2.1]; dsimp only; rw [HBn.out.1]; unfold drK; rw [if_neg (by omega), List.getD_eq_getElem?_getD, hu]; rfl
                  have htm : Int.tmod ((bn + j : Nat) : Int) (vs.length : Int) = (((bn + j) % vs.length : Nat) : Int) := by rw [Int.tmod_eq_emod_of_nonneg (by omega)]; rfl
                  obtain ⟨mk, hmk⟩ : ∃ q, bn + j = q := ⟨_, rfl⟩
                  have hmkb : mk ≤ 1000 := by have := HBn.out; have := HNum.out; omega
                  rw [hmk] at htm huc ⊢
                  obtain ⟨jj, hjj⟩ : ∃ q, mk % vs.length = q := ⟨_, rfl⟩
                  have hjl : jj < vs.length := by rw [← hjj]; exact Nat.mod_lt _ hv0
                  rw [hjj] at htm
                  rw [hmk, hjj] at hu
                  rw [hjj] at huc
                  have hvz : ¬ vs.length = 0 := by omega
                  have htm2 : Int.tmod (un : Int) 256 = ((un % 256 : Nat) : Int) := by rw [Int.tmod_eq_emod_of_nonneg (by omega)]; rfl
                  obtain ⟨kv, hkv⟩ : ∃ q, un % 256 = q := ⟨_, rfl⟩
                  rw [hkv] at htm2 hdk
                  have hcu : IntKind.i64.wrap (un : Int) = (un : Int) := wrap_id (by omega)
                  have hkvw : IntKind.i64.wrap (kv : Int) = (kv : Int) := wrap_id (by omega)
                  have hnk : wrap64 ((mk : Int) + 1) = ((mk + 1 : Nat) : Int) := by unfold wrap64; omega
                  have hlv : vs.length ≤ 9223372036854775807 := HLv.out
                  have HKK := Lib.hid (And.intro hmk (And.intro hdk hmkb))
                  subst huA
                  clear hu hu0 hu1 hdk hmk hjj hkv hvc hmkb
                  go_wp2_with fail
                  refine wp_seq_all (fun _ => false) (fun _ _ => undef) (fun _ _ _ => True) (by kernel_rfl) (by kernel_rfl) (fun _ _ _ _ _ h => h) ?_
                  repeat (first | (refine seq_skip (by rfl) ?_; simp only [Act.put, List.setIfInBounds_toArray, List.set_cons_zero, List.set_cons_succ, Nat.reduceAdd]) | (refine seq_pure (v := ?_) (by rfl) (by rfl) (fun W hW hC => ?_) ?_; rotate_left; (go_simp <;> with_reducible rfl); simp only [Act.put, List.setIfInBounds_toArray, List.set_cons_zero, List.set_cons_succ, Nat.reduceAdd]))
                  refine seq_nil ?_; intro W5 hW5 hF
                  clear hF
                  have HI4 := Lib.hid (And.intro (HI3.out.1.kept hW5) (HI3.out.2.kept hW5))
                  clear hW5 HI3 htm htm2 huc c6 hcu
                  have HA := Lib.hid (And.intro (HI4.out.1.kept (below_alloc (.cells #[.int .i64 (kv : Nat)] 3))) (one_cs W5 (kv : Nat)))
                  have hpush : ∀ v' w7, Own w7 w.heap.size v' (((List.range j).map fun c => (f x y c : Int)) ++ [(((kv : Nat) : Int))]) → (W5.alloc (.cells #[.int .i64 (kv : Nat)] 3)).grownBy w7 (Value.slice A' j k').ownBlock →
                      ∃ A2 k2, v' = .slice A2 (j + 1) k2 ∧ (Own w7 w.heap.size (.slice A2 (j + 1) k2) ((List.range (j + 1)).map fun c => (f x y c : Int)) ∧ SomI w [.int .u8 (nW : Nat), .int .u8 (nH : Nat), .int .u8 dC, .int .u8 (nP : Nat), .bool false, .bool pl, .slice (some ⟨ub, uo, none⟩) vs.length cA] mb L f (y * LW + x) w7) := by
                    intro v' w7 ho hg
                    have e : ((List.range (j + 1)).map fun c => (f x y c : Int)) = ((List.range j).map fun c => (f x y c : Int)) ++ [(((kv : Nat) : Int))] := by rw [List.range_succ, List.map_append]; simp [HKK.out.2.1]
                    obtain ⟨A2, k2, hv', _, _, _, _⟩ := ho.cs
                    rw [← e, List.length_map, List.length_range] at hv'
                    subst hv'
                    exact ⟨A2, k2, rfl, by rw [e]; exact ho, (HI4.out.2.kept (below_alloc _)).grown HA.out.1 hg (Nat.le_refl _)⟩
                  have HPU := Lib.hid hpush
                  have hszw : w.heap.size ≤ W5.heap.size := HI4.out.2.below.size
                  have HSZ := Lib.hid hszw
                  clear hpush hszw
                  go_upto_region 21 with (at_builtin; (refine append_ints rfl _ _ rfl w.heap.size (.slice A' j k') ((List.range j).map fun c => (f x y c : Int)) rfl HA.out.1 (some ⟨W5.heap.size, 0, none⟩) 1 [(((kv : Nat) : Int))] rfl HA.out.2 (fun h => by cases h) (by have := HNum.out; simp only [List.length_map, List.length_range, List.length_singleton]; omega) (by have := HSZ.out; simp only [World.size_alloc]; omega) ?_); intro v' w7 ho hg; obtain ⟨A2, k2, rfl, hI5⟩ := HPU.out v' w7 ho hg; have HI5 := Lib.hid hI5; clear ho hg hI5)
                  go_wp2_with fail
                  go_roundw
                  case rel => exact ⟨j + 1, by omega, by go_num, by rw [← Nat.add_assoc, HKK.out.1]; go_num, ⟨A2, k2, rfl, HI5.out.1⟩, HI5.out.2⟩
                  case measure => exact meas rfl (by go_num) hjt
                · have hdk : f x y j = 0 := by rw [HL.out.2.2.2.1]; dsimp only; unfold drK; rw [if_pos (by omega)]
                  obtain ⟨mk, hmk⟩ : ∃ q, bn + j = q := ⟨_, rfl⟩
                  have hmkb : mk ≤ 1000 := by have := HBn.out; have := HNum.out; omega
                  rw [hmk]
                  have hnk : wrap64 ((mk : Int) + 1) = ((mk + 1 : Nat) : Int) := by unfold wrap64; omega
                  have HKK := Lib.hid (And.intro hmk (And.intro hdk hmkb))
                  clear hdk hmk hmkb hvc
                  have HI4 := HI3
                  have HA := Lib.hid (And.intro (HI4.out.1.kept (below_alloc (.cells #[.int .i64 0] 3))) (one_cs wr 0))
                  have hpush : ∀ v' w7, Own w7 w.heap.size v' (((List.range j).map fun c => (f x y c : Int)) ++ [(0 : Int)]) → (wr.alloc (.cells #[.int .i64 0] 3)).grownBy w7 (Value.slice A' j k').ownBlock →
                      ∃ A2 k2, v' = .slice A2 (j + 1) k2 ∧ (Own w7 w.heap.size (.slice A2 (j + 1) k2) ((List.range (j + 1)).map fun c => (f x y c : Int)) ∧ SomI w [.int .u8 (nW : Nat), .int .u8 (nH : Nat), .int .u8 dC, .int .u8 (nP : Nat), .bool false, .bool pl, .slice A vs.length cA] mb L f (y * LW + x) w7) := by
                    intro v' w7 ho hg
                    have e : ((List.range (j + 1)).map fun c => (f x y c : Int)) = ((List.range j).map fun c => (f x y c : Int)) ++ [(0 : Int)] := by rw [List.range_succ, List.map_append]; simp [HKK.out.2.1]
                    obtain ⟨A2, k2, hv', _, _, _, _⟩ := ho.cs
                    rw [← e, List.length_map, List.length_range] at hv'
                    subst hv'
                    exact ⟨A2, k2, rfl, by rw [e]; exact ho, (HI4.out.2.kept (below_alloc _)).grown HA.out.1 hg (Nat.le_refl _)⟩
                  have HPU := Lib.hid hpush
                  have hszw : w.heap.size ≤ wr.heap.size := HI4.out.2.below.size
                  have HSZ := Lib.hid hszw
                  clear hpush hszw
                  go_upto_region 21 with (at_builtin; (refine append_ints rfl _ _ rfl w.heap.size (.slice A' j k') ((List.range j).map fun c => (f x y c : Int)) rfl HA.out.1 (some ⟨wr.heap.size, 0, none⟩) 1 [(0 : Int)] rfl HA.out.2 (fun h => by cases h) (by have := HNum.out; simp only [List.length_map, List.length_range, List.length_singleton]; omega) (by have := HSZ.out; simp only [World.size_alloc]; omega) ?_); intro v' w7 ho hg; obtain ⟨A2, k2, rfl, hI5⟩ := HPU.out v' w7 ho hg; have HI5 := Lib.hid hI5; clear ho hg hI5)
                  go_wp2_with fail
                  go_roundw
                  case rel => exact ⟨j + 1, by omega, by go_num, by rw [← Nat.add_assoc, HKK.out.1]; go_num, ⟨A2, k2, rfl, HI5.out.1⟩, HI5.out.2⟩
                  case measure => exact meas rfl (by go_num) hjt
              · have hjc : j = ch := by omega
                obtain ⟨O, hm, hpx⟩ := hI.im
                have hp0 := hm
                rw [HL.out.2.1] at hm
                obtain ⟨hX, hY⟩ : x < L.W ∧ y < L.H := by rw [HL.out.2.2.2.2.2.2.1, HL.out.2.2.2.2.2.2.2.1]; exact ⟨hxt, hyt⟩
                have hlen : ((List.range ch).map fun c => (f x y c : Int)).length = ch := by simp
                have hcs : Cs wr .i64 A' ((List.range ch).map fun c => (f x y c : Int)) ∧ ∀ p, A' = some p → p.block < wr.heap.size := by
                  obtain ⟨_, h2⟩ := how
                  rw [← hjc]
                  rcases h2 with ⟨h2, h3⟩ | ⟨g, cap, cur, hv, hg, hh, r⟩
                  · injection h2 with e1 e2 e3
                    subst e1
                    have hz : ((List.range j).map fun c => (f x y c : Int)) = [] := by rw [show j = 0 by simpa using h3]; rfl
                    rw [hz]
                    exact ⟨Cs.nil, fun p e => by cases e⟩
                  · obtain ⟨A3, c3, hv3, _, _, _, hc3⟩ := Own.cs (w := wr) (base := w.heap.size) (v := .slice A' j k') (xs := (List.range j).map fun c => (f x y c : Int)) ⟨by simp, .inr ⟨g, cap, cur, hv, hg, hh, r⟩⟩
                    injection hv3 with e1 e2 e3
                    subst e1
                    refine ⟨hc3, fun p e => ?_⟩
                    injection hv with f1 f2 f3
                    rw [f1] at e
                    cases e
                    exact (Array.getElem?_eq_some_iff.1 hh).1
                have HPut := Lib.hid (refput_calls HL.out.1 O hpx x y hX hY A' k' ((List.range ch).map fun c => (f x y c : Int)) wr hcs.1 hcs.2 (by rw [hlen, HL.out.2.2.2.2.2.2.2.2]) (fun v hv => by
                  obtain ⟨c, _, rfl⟩ := List.mem_map.1 hv
                  have := HL.out.2.2.2.2.1 x y c
                  omega))
                rw [hlen, HL.out.2.2.1] at HPut
                obtain ⟨R', hR'⟩ : ∃ R', img L (updS (shpS L.W (fun v => v) f (y * LW + x)) x y ((List.range ch).map fun c => (f x y c : Int))) = R' := ⟨_, rfl⟩
                rw [hR', imgV_eq] at HPut
                have HR' := Lib.hid hR'
                have HI5 := Lib.hid (And.intro hI hm)
                subst hjc
                have c0 := hm.cell (i := 0) rfl
                have c1 := hm.cell (i := 1) rfl
                have c2 := hm.cell (i := 2) rfl
                have c3 := hm.cell (i := 3) rfl
                have c4 := hm.cell (i := 4) rfl
                have c5 := hm.cell (i := 5) rfl
                have c6 := hm.cell (i := 6) rfl
                clear hI hm hpx hp0 hX hY hlen hcs how hR' HI2
                go_wp2_with fail
                refine HPut.out.mono ?_
                rintro r w8 ⟨rfl, hb8⟩
                have hI8 := HI5.out.1.kept hb8
                have hm8 := HI5.out.2.kept hb8
                clear c0 c1 c2 c3 c4 c5 c6
                have r0 := hm8.cell (i := 0) rfl
                have r1 := hm8.cell (i := 1) rfl
                have r2 := hm8.cell (i := 2) rfl
                have r3 := hm8.cell (i := 3) rfl
                have r4 := hm8.cell (i := 4) rfl
                have r5 := hm8.cell (i := 5) rfl
                have r6 := hm8.cell (i := 6) rfl
                have f0 := hm8.free 0
                have f1 := hm8.free 1
                have f2 := hm8.free 2
                have f3 := hm8.free 3
                have f4 := hm8.free 4
                have f5 := hm8.free 5
                have f6 := hm8.free 6
                have HI8 := Lib.hid (And.intro hI8 hm8)
                clear hI8 hm8 hb8 HPut
                go_wp2_with fail
                go_roundw
                case rel =>
                  have hne : mb ≠ w.heap.size ∧ mb ≠ w.heap.size + 1 := by have := HL.out.2.2.2.2.2.1; omega
                  refine ⟨x + 1, by omega, by go_num, ?_, ?_⟩
                  · have e : bn + j = (y * LW + (x + 1)) * j := by rw [← HBn.out.1, ← Nat.add_assoc, Nat.succ_mul]
                    rw [← e, Int.natCast_add]
                  · have hI8 := HI8.out.1
                    have hst : ∀ b, b ≠ mb → (((((((w8.setCell ⟨mb, 0, none⟩ (.int .i64 R'.W)).setCell ⟨mb, 1, none⟩ (.int .i64 R'.H)).setCell ⟨mb, 2, none⟩ (.int .i64 R'.C)).setCell ⟨mb, 3, none⟩ (.int .i64 R'.B)).setCell ⟨mb, 4, none⟩ (.bool R'.P)).setCell ⟨mb, 5, none⟩ (.int .i64 R'.Pd)).setCell ⟨mb, 6, none⟩ (.string R'.O)).heap[b]? = w8.heap[b]? := fun b hb => heap_set7 hb
                    refine ⟨?_, ?_, ⟨R'.O, ?_, ?_⟩, below_set7 hI8.below (by have := HL.out.2.2.2.2.2.1; omega) _ _ _ _ _ _ _⟩
                    · unfold Blk; rw [hst _ (fun e => hne.1 e.symm)]; exact hI8.draft
                    · unfold Blk; rw [hst _ (fun e => hne.2 e.symm)]; exact hI8.res
                    · have h7 := blk_set7 (v0 := .int .i64 R'.W) (v1 := .int .i64 R'.H) (v2 := .int .i64 R'.C) (v3 := .int .i64 R'.B) (v4 := .bool R'.P) (v5 := .int .i64 R'.Pd) (v6 := .string R'.O) HI8.out.2
                      have e : imL L R'.O = [.int .i64 R'.W, .int .i64 R'.H, .int .i64 R'.C, .int .i64 R'.B, .bool R'.P, .int .i64 R'.Pd, .string R'.O] := by rw [← HR'.out]; rfl
                      rw [e]; exact h7
                    · rw [← HR'.out]
                      have hpp := octs_pix HL.out.1 (updS (shpS L.W (fun v => v) f (y * LW + x)) x y ((List.range j).map fun c => (f x y c : Int)))
                      have hW := HL.out.2.2.2.2.2.2.1
                      have e1 : (y * LW + x) % LW = x := by rw [Nat.mul_comm, Nat.mul_add_mod, Nat.mod_eq_of_lt hxt]
                      have e2 : (y * LW + x) / LW = y := by rw [Nat.mul_comm, Nat.mul_add_div (by omega), Nat.div_eq_of_lt hxt]; omega
                      have hpp2 := shpS_step (W := LW) (F := fun v => v) (f := f) (n := y * LW + x) (l := octs L (updS (shpS L.W (fun v => v) f (y * LW + x)) x y ((List.range j).map fun c => (f x y c : Int)))) hW (by omega) (vs := (List.range L.C).map fun c => (f x y c : Int)) (by rw [e1, e2]) (by rw [e1, e2, HL.out.2.2.2.2.2.2.2.2]; rw [hW] at hpp; rw [hW]; exact hpp)
                      rw [hW] at hpp2 ⊢
                      exact hpp2
                case measure => exact meas rfl (by go_num) hxt
          · have hxe : x = LW := by omega
            subst hxe
            go_wp2_with fail
            go_roundw
            case rel => exact ⟨y + 1, by omega, by go_num, by rw [Nat.succ_mul], by rw [Nat.succ_mul]; exact HI2.out⟩
            case measure => exact meas rfl (by go_num) hyt
      · have hye : y = LH := by omega
        subst hye
        obtain ⟨O2, hm, hpx⟩ := HI.out.im
        have himg : d.some ch = ⟨(LW : Nat), (y : Nat), (ch : Nat), 8, pl, (pd : Nat), O2⟩ := by
          have hC := HL.out.2.1 O2
          have hV := HL.out.2.2.1 O2
          have hpf : Pix L O2.data.toList f := hpx.congr fun a b c ha hb hc => by
            rw [HL.out.2.2.2.2.2.2.1] at ha
            rw [HL.out.2.2.2.2.2.2.2.1] at hb
            unfold shpS
            rw [HL.out.2.2.2.2.2.2.1, if_pos (by
              have : (b + 1) * LW ≤ y * LW := Nat.mul_le_mul_right _ hb
              rw [Nat.succ_mul] at this
              omega)]
          have e := eq_mk (m := ⟨(L.W : Nat), (L.H : Nat), (L.C : Nat), ((8 * L.k : Nat) : Int), L.P, (L.pd : Nat), O2⟩) ⟨HL.out.1, rfl, rfl, rfl, rfl, rfl, rfl⟩ hpf
          have e2 : d.some ch = img L f := by rw [HRes.out, HL.out.2.2.2.1, HMk.out.1]; rfl
          rw [e2, ← e]
          have hv : (⟨(L.W : Nat), (L.H : Nat), (L.C : Nat), ((8 * L.k : Nat) : Int), L.P, (L.pd : Nat), O2⟩ : Im).v = (⟨(LW : Nat), (y : Nat), (ch : Nat), 8, pl, (pd : Nat), O2⟩ : Im).v := hV
          have hinj : ∀ a b : Im, a.v = b.v → a = b := fun a b h => by
            cases a; cases b
            simp only [Im.v, Value.agg.injEq, Array.mk.injEq, List.cons.injEq, Value.int.injEq, Value.bool.injEq, Value.string.injEq, true_and, and_true] at h
            simp [h]
          exact hinj _ _ hv
        have HIm := Lib.hid himg
        rw [HL.out.2.1] at hm
        have br := HI.out.res
        have HWz := Lib.hid (below_set7 HI.out.below (Nat.le_succ w.heap.size))
        have c0 := hm.cell (i := 0) rfl
        have c1 := hm.cell (i := 1) rfl
        have c2 := hm.cell (i := 2) rfl
        have c3 := hm.cell (i := 3) rfl
        have c4 := hm.cell (i := 4) rfl
        have c5 := hm.cell (i := 5) rfl
        have c6 := hm.cell (i := 6) rfl
        have r0 := br.cell (i := 0) rfl
        have r1 := br.cell (i := 1) rfl
        have r2 := br.cell (i := 2) rfl
        have r3 := br.cell (i := 3) rfl
        have r4 := br.cell (i := 4) rfl
        have r5 := br.cell (i := 5) rfl
        have r6 := br.cell (i := 6) rfl
        have g0 := br.free 0
        have g1 := br.free 1
        have g2 := br.free 2
        have g3 := br.free 3
        have g4 := br.free 4
        have g5 := br.free 5
        have g6 := br.free 6
        clear hm hpx himg br
        go_wp2_with fail
        rw [HIm.out]
        exact bodyPost_ret (v := .agg #[.int .i64 (LW : Nat), .int .i64 (y : Nat), .int .i64 (ch : Nat), .int .i64 8, .bool pl, .int .i64 (pd : Nat), .string O2]) (by simp [results, Try.results34, go_sem, *]) rfl ⟨rfl, HWz.out _ _ _ _ _ _ _⟩
  | true =>
    obtain ⟨L, hL⟩ : ∃ L : Lay, L = ⟨LW, LH, ch, 2, pl, padN pp⟩ := ⟨_, rfl⟩
    have hmk : makeS (LW : Nat) (LH : Nat) (ch : Nat) 16 pl ((padN pp : Nat) : Int) = (img L (fun _ _ _ => 0), 0) := by
      unfold makeS
      have n : Nums L (LW : Nat) (LH : Nat) (ch : Nat) 16 pl ((padN pp : Nat) : Int) := ⟨by rw [hL]; exact HOk.out, by rw [hL], by rw [hL], by rw [hL], by rw [hL]; rfl, by rw [hL], by rw [hL]⟩
      rw [if_pos (show shB _ _ _ _ _ = true from decide_eq_true (nums_shp n))]
      rw [hL]
      simp [okN]
    have HMk := Lib.hid (And.intro hL hmk)
    clear hL hmk
    have HMake := Lib.hid (fun W => refmake_calls (LW : Nat) (LH : Nat) (ch : Nat) 16 pl ((padN pp : Nat) : Int) W)
    rw [HMk.out.2] at HMake
    obtain ⟨R, hR⟩ : ∃ R, img L (fun _ _ _ => 0) = R := ⟨_, rfl⟩
    rw [hR, imgV_eq] at HMake
    have HR := Lib.hid hR
    clear hR
    dsimp only at HMake
    go_wp2_with fail
    refine RL.wp_seq_all (T := ShU #[.int .i64 R.W, .int .i64 R.H, .int .i64 R.C, .int .i64 R.B, .bool R.P, .int .i64 R.Pd, .string R.O] w1.heap.size) (fun k => k == 14 || k == 19 || k == 20 || k == 24 || k == 25) (fun k x => if k = 14 then .slice (some ⟨x.i, 0, none⟩) 4 4 else if k = 19 then .int .i64 ((padN pp : Nat) : Int) else if k = 20 then .tuple #[.agg #[.int .i64 R.W, .int .i64 R.H, .int .i64 R.C, .int .i64 R.B, .bool R.P, .int .i64 R.Pd, .string R.O], .int .i64 0] else if k = 24 then .pointer (some ⟨x.i, 0, none⟩) else undef)
      (fun k x l W => if k = 14 then Blk W x.i [.int .i64 1, .int .i64 2, .int .i64 4, .int .i64 8] 3 else if k = 24 then RowU W x.i ∧ w1.heap.size ≤ x.i else if k = 25 then ∀ b, l 7 = some (.pointer (some ⟨b, 0, none⟩)) → Blk W b [.int .i64 R.W, .int .i64 R.H, .int .i64 R.C, .int .i64 R.B, .bool R.P, .int .i64 R.Pd, .string R.O] 24 else True) trivial (by kernel_rfl) (by kernel_rfl) ?_ ?_
    · intro k x l A B hT h
      split at h
      · rename_i e; rw [if_pos e]; exact hT.blk (by decide) h
      · rename_i e; rw [if_neg e]
        split at h
        · rename_i e2; rw [if_pos e2]; exact ⟨hT.rows _ h.1, h.2⟩
        · rename_i e2; rw [if_neg e2]
          split at h
          · rename_i e3; rw [if_pos e3]; exact fun b hb => hT.fix b (h b hb)
          · rename_i e3; rw [if_neg e3]; trivial
    repeat (first | (refine RL.seq_skip (by rfl) ?_; simp only [Act.put, List.setIfInBounds_toArray, List.set_cons_zero, List.set_cons_succ, Nat.reduceAdd]) | (refine RL.seq_pure (v := ?_) (by rfl) (by rfl) (fun W hW hn => ?_) ?_; rotate_left; (have hC := ShU.cell0 hW; clear hW hn; go_simp <;> with_reducible rfl); simp only [Act.put, List.setIfInBounds_toArray, List.set_cons_zero, List.set_cons_succ, Nat.reduceAdd]))
    refine RL.seq_made (by rfl) (by rfl) (fun W hW hn hF R hR => ?_) (fun y14 => ?_)
    · unfold RL.Gives; go_simp
      exact hR { i := W.heap.size } _ (ShU.of_below (below_alloc _)) (Blk.new _ _ _) (fun _ h => h)
    simp only [Act.put, List.setIfInBounds_toArray, List.set_cons_zero, List.set_cons_succ, Nat.reduceAdd]
    repeat (first | (refine RL.seq_skip (by rfl) ?_; simp only [Act.put, List.setIfInBounds_toArray, List.set_cons_zero, List.set_cons_succ, Nat.reduceAdd]) | (refine RL.seq_pure (v := ?_) (by rfl) (by rfl) (fun W hW hn => ?_) ?_; rotate_left; (have hC := ShU.cell0 hW; clear hW hn; go_simp <;> with_reducible rfl); simp only [Act.put, List.setIfInBounds_toArray, List.set_cons_zero, List.set_cons_succ, Nat.reduceAdd]))
    refine RL.seq_made (by rfl) (by rfl) (fun W hW hn hF R' hR' => ?_) (fun _ => ?_)
    · have hb : Blk W y14.i [.int .i64 1, .int .i64 2, .int .i64 4, .int .i64 8] 3 := hF 14 _ (List.mem_cons_self ..) (by decide +kernel)
      have hc := hb.cell (i := pp) (v := .int .i64 ((padN pp : Nat) : Int)) (by
        have := HNum.out.1
        have h4 : pp = 0 ∨ pp = 1 ∨ pp = 2 ∨ pp = 3 := by omega
        rcases h4 with rfl | rfl | rfl | rfl <;> rfl)
      unfold RL.Gives
      go_simp
      exact hR' {} _ (ShU.of_below (Below.refl _ _)) trivial (fun _ h => h)
    simp only [Act.put, List.setIfInBounds_toArray, List.set_cons_zero, List.set_cons_succ, Nat.reduceAdd]
    repeat (first | (refine RL.seq_skip (by rfl) ?_; simp only [Act.put, List.setIfInBounds_toArray, List.set_cons_zero, List.set_cons_succ, Nat.reduceAdd]) | (refine RL.seq_pure (v := ?_) (by rfl) (by rfl) (fun W hW hn => ?_) ?_; rotate_left; (have hC := ShU.cell0 hW; clear hW hn; go_simp <;> with_reducible rfl); simp only [Act.put, List.setIfInBounds_toArray, List.set_cons_zero, List.set_cons_succ, Nat.reduceAdd]))
    refine RL.seq_made (by rfl) (by rfl) (fun W hW hn hF R' hR' => ?_) (fun _ => ?_)
    · unfold RL.Gives; go_simp
      refine (HMake.out W).mono ?_
      rintro r w8 ⟨rfl, hb8⟩
      refine ⟨_, rfl, ?_⟩
      exact hR' {} _ (ShU.of_below hb8) trivial (fun _ h => h)
    simp only [Act.put, List.setIfInBounds_toArray, List.set_cons_zero, List.set_cons_succ, Nat.reduceAdd]
    repeat (first | (refine RL.seq_skip (by rfl) ?_; simp only [Act.put, List.setIfInBounds_toArray, List.set_cons_zero, List.set_cons_succ, Nat.reduceAdd]) | (refine RL.seq_pure (v := ?_) (by rfl) (by rfl) (fun W hW hn => ?_) ?_; rotate_left; (have hC := ShU.cell0 hW; clear hW hn; go_simp <;> with_reducible rfl); simp only [Act.put, List.setIfInBounds_toArray, List.set_cons_zero, List.set_cons_succ, Nat.reduceAdd]))
    refine RL.seq_made (by rfl) (by rfl) (fun W hW hn hF R' hR' => ?_) (fun y24 => ?_)
    · unfold RL.Gives; go_simp
      exact hR' { i := W.heap.size } _ (ShU.of_below (below_alloc _)) ⟨row_allocU _ _ rfl, hW.size⟩ (fun _ h => h)
    simp only [Act.put, List.setIfInBounds_toArray, List.set_cons_zero, List.set_cons_succ, Nat.reduceAdd]
    refine RL.seq_made (by rfl) (by rfl) (fun W hW hn hF R' hR' => ?_) (fun _ => ?_)
    · obtain ⟨hr1, hr2⟩ : RowU W y24.i ∧ w1.heap.size ≤ y24.i := hF 24 _ (List.mem_cons_self ..) (by decide +kernel)
      refine gives_storeU _ _ rfl y24.i #[.int .i64 R.W, .int .i64 R.H, .int .i64 R.C, .int .i64 R.B, .bool R.P, .int .i64 R.Pd, .string R.O] rfl rfl hr1 rfl (by kernel_rfl) w1.heap.size hr2 fun W2 hT hB => hR' {} _ hT ?_ (fun _ h => h)
      intro b hb
      have e : y24.i = b := by
        have h2 : some (Value.pointer (some ⟨y24.i, 0, none⟩)) = some (Value.pointer (some ⟨b, 0, none⟩)) := hb
        injection h2 with h2
        injection h2 with h2
        injection h2 with h2
        injection h2
      rw [← e]
      exact hB
    simp only [Act.put, List.setIfInBounds_toArray, List.set_cons_zero, List.set_cons_succ, Nat.reduceAdd]
    repeat (first | (refine RL.seq_skip (by rfl) ?_; simp only [Act.put, List.setIfInBounds_toArray, List.set_cons_zero, List.set_cons_succ, Nat.reduceAdd]) | (refine RL.seq_pure (v := ?_) (by rfl) (by rfl) (fun W hW hn => ?_) ?_; rotate_left; (have hC := ShU.cell0 hW; clear hW hn; go_simp <;> with_reducible rfl); simp only [Act.put, List.setIfInBounds_toArray, List.set_cons_zero, List.set_cons_succ, Nat.reduceAdd]))
    refine RL.seq_nil ?_; intro W hW hF
    have hmb : Blk W y24.i [.int .i64 R.W, .int .i64 R.H, .int .i64 R.C, .int .i64 R.B, .bool R.P, .int .i64 R.Pd, .string R.O] 24 := hF 25 _ (List.mem_cons_self ..) y24.i rfl
    have hge : w1.heap.size ≤ y24.i := (show RowU W y24.i ∧ w1.heap.size ≤ y24.i from hF 24 _ (List.mem_cons_of_mem _ (List.mem_cons_self ..))).2
    replace hW := ShU.below hW
    clear hF c0 c1 c2 c3 c4 c5 c6 m1 m2 m3 k1 k2 k3 k4 k5 k6 k7
    obtain ⟨pd, hpd⟩ : ∃ pd, padN pp = pd := ⟨_, rfl⟩
    obtain ⟨mb, hmbe⟩ : ∃ q, y24.i = q := ⟨_, rfl⟩
    obtain ⟨f, hf⟩ : ∃ f : Nat → Nat → Nat → Nat, f = fun x y c => drK vs 65536 ((y * LW + x) * ch + c) := ⟨_, rfl⟩
    have hok : L.Ok := by rw [HMk.out.1]; exact HOk.out
    have hCL : ∀ O, imL L O = [.int .i64 (LW : Nat), .int .i64 (LH : Nat), .int .i64 (ch : Nat), .int .i64 16, .bool pl, .int .i64 (pd : Nat), .string O] := fun O => by rw [HMk.out.1, ← hpd]; rfl
    have hCV : ∀ O, imV L O = .agg #[.int .i64 (LW : Nat), .int .i64 (LH : Nat), .int .i64 (ch : Nat), .int .i64 16, .bool pl, .int .i64 (pd : Nat), .string O] := fun O => by rw [HMk.out.1, ← hpd]; rfl
    have hR0 : [Value.int .i64 R.W, .int .i64 R.H, .int .i64 R.C, .int .i64 R.B, .bool R.P, .int .i64 R.Pd, .string R.O] = imL L R.O := by rw [← HR.out]; rfl
    rw [hmbe, hR0] at hmb
    rw [hmbe] at hge
    have hI0 : SomI w [.int .u8 (nW : Nat), .int .u8 (nH : Nat), .int .u8 dC, .int .u8 (nP : Nat), .bool true, .bool pl, .slice A vs.length cA] mb L f 0 W :=
      ⟨HB.out.1.kept hW, HB.out.2.1.kept hW, ⟨R.O, hmb, by rw [← HR.out]; exact (show Pix L (octs L _) _ from (octs_pix hok _)).congr fun _ _ _ _ _ _ => by unfold shpS; rw [if_neg (by omega)]⟩, below_trans HB.out.2.2 hW⟩
    have hfl : ∀ x y c, f x y c < 65536 := by
      intro x y c
      rw [hf]
      unfold drK
      dsimp only
      split
      · decide
      · exact Nat.mod_lt _ (by decide)
    have HL := Lib.hid (And.intro hok (And.intro hCL (And.intro hCV (And.intro hf (And.intro hfl (And.intro (show w.heap.size + 1 < mb by have := HB.out.2.1.lt; omega) (And.intro (show L.W = LW by rw [HMk.out.1]) (And.intro (show L.H = LH by rw [HMk.out.1]) (show L.C = ch by rw [HMk.out.1])))))))))
    have HI0 := Lib.hid hI0
    rw [hmbe]
    clear hmb hge hW hmbe hf hok hCL hCV hR0 hI0 hfl hpd hp4 hp4i
    go_wp2_with fail
    go_loopw [9, 10] (fun nn yy wr => ∃ y : Nat, y ≤ LH ∧ yy = .int .i64 y ∧ nn = .int .i64 ((y * LW * ch : Nat) : Int) ∧ SomI w [.int .u8 (nW : Nat), .int .u8 (nH : Nat), .int .u8 dC, .int .u8 (nP : Nat), .bool true, .bool pl, .slice A vs.length cA] mb L f (y * LW) wr) (fun _ yy _ => LH - (intOf yy).toNat)
    case atStart => exact ⟨0, Nat.zero_le _, rfl, by simp, by rw [Nat.zero_mul]; exact HI0.out⟩
    case round =>
      obtain ⟨y, hy0, rfl, rfl, hI⟩ := hrel
      obtain ⟨O, hm, hpx⟩ := hI.im
      rw [HL.out.2.1] at hm
      have c1 := hm.cell (i := 1) rfl
      have HI := Lib.hid hI
      clear hI hm hpx
      by_cases hyt : y < LH
      · have hwy : wrap64 ((y : Int) + 1) = ((y + 1 : Nat) : Int) := by have := HNum.out; unfold wrap64; omega
        obtain ⟨ny, hny⟩ : ∃ q, y * LW * ch = q := ⟨_, rfl⟩
        rw [hny]
        have HNy := Lib.hid hny
        clear hny
        go_wp2_with fail
        clear c1
        go_loopw [9, 11] (fun nn xx wr => ∃ x : Nat, x ≤ LW ∧ xx = .int .i64 x ∧ nn = .int .i64 (((y * LW + x) * ch : Nat) : Int) ∧ SomI w [.int .u8 (nW : Nat), .int .u8 (nH : Nat), .int .u8 dC, .int .u8 (nP : Nat), .bool true, .bool pl, .slice A vs.length cA] mb L f (y * LW + x) wr) (fun _ xx _ => LW - (intOf xx).toNat)
        case atStart => exact ⟨0, Nat.zero_le _, rfl, by rw [← HNy.out]; rfl, HI.out⟩
        case round =>
          obtain ⟨x, hx0, rfl, rfl, hI⟩ := hrel
          obtain ⟨O, hm, hpx⟩ := hI.im
          rw [HL.out.2.1] at hm
          have c0 := hm.cell (i := 0) rfl
          have HI2 := Lib.hid hI
          clear hI hm hpx HI
          by_cases hxt : x < LW
          · have hwx : wrap64 ((x : Int) + 1) = ((x + 1 : Nat) : Int) := by have := HNum.out; unfold wrap64; omega
            obtain ⟨bn, hbn⟩ : ∃ q, (y * LW + x) * ch = q := ⟨_, rfl⟩
            rw [hbn]
            have hbb : bn + 4 ≤ 1000 := by
              have g := HNum.out
              rw [← hbn]
              have h1 : (y + 1) * LW ≤ 6 * 6 := Nat.mul_le_mul (by omega) (by omega)
              rw [Nat.succ_mul] at h1
              have h2 : (y * LW + x) * ch ≤ 36 * 4 := Nat.mul_le_mul (by omega) (by omega)
              omega
            have HBn := Lib.hid (And.intro hbn hbb)
            have hchm : (ch : Int) ≤ 9223372036854775807 := by have := HNum.out; omega
            clear hbn hbb
            go_wp2_with fail
            clear c0
            go_loopw [9, 12, 13] (fun nn v cc wr => ∃ j : Nat, j ≤ ch ∧ cc = .int .i64 j ∧ nn = .int .i64 ((bn + j : Nat) : Int) ∧ (∃ A' k', v = .slice A' j k' ∧ Own wr w.heap.size (.slice A' j k') ((List.range j).map fun c => (f x y c : Int))) ∧ SomI w [.int .u8 (nW : Nat), .int .u8 (nH : Nat), .int .u8 dC, .int .u8 (nP : Nat), .bool true, .bool pl, .slice A vs.length cA] mb L f (y * LW + x) wr) (fun _ _ cc _ => ch - (intOf cc).toNat)
            case atStart => exact ⟨0, Nat.zero_le _, rfl, rfl, ⟨none, 0, rfl, Own.nil _ _⟩, HI2.out⟩
            case round =>
              obtain ⟨j, hj0, rfl, rfl, ⟨A', k', rfl, how⟩, hI⟩ := hrel
              by_cases hjt : j < ch
              · have hwj : wrap64 ((j : Int) + 1) = ((j + 1 : Nat) : Int) := by have := HNum.out; unfold wrap64; omega
                have hvc := HD.out.1.kept hI.below
                have c6 := hI.draft.cell (i := 6) rfl
                have HI3 := Lib.hid (And.intro how hI)
                clear how hI HI2
                by_cases hv0 : 0 < vs.length
                · obtain ⟨u, ub, uo, hu, huA, huc⟩ := hvc.at (i := (bn + j) % vs.length) (Nat.mod_lt _ hv0)
                  obtain ⟨hu0, hu1⟩ := HD.out.2 u (List.mem_of_getElem? hu)
                  obtain ⟨un, rfl⟩ := Int.eq_ofNat_of_zero_le hu0
                  have hdk : f x y j = un % 65536 := by rw [HL.out.2.2.2.1]; dsimp only; rw [HBn.out.1]; unfold drK; rw [if_neg (by omega), List.getD_eq_getElem?_getD, hu]; rfl
                  have htm : Int.tmod ((bn + j : Nat) : Int) (vs.length : Int) = (((bn + j) % vs.length : Nat) : Int) := by rw [Int.tmod_eq_emod_of_nonneg (by omega)]; rfl
                  obtain ⟨mk, hmk⟩ : ∃ q, bn + j = q := ⟨_, rfl⟩
                  have hmkb : mk ≤ 1000 := by have := HBn.out; have := HNum.out; omega
                  rw [hmk] at htm huc ⊢
                  obtain ⟨jj, hjj⟩ : ∃ q, mk % vs.length = q := ⟨_, rfl⟩
                  have hjl : jj < vs.length := by rw [← hjj]; exact Nat.mod_lt _ hv0
                  rw [hjj] at htm
                  rw [hmk, hjj] at hu
                  rw [hjj] at huc
                  have hvz : ¬ vs.length = 0 := by omega
                  have htm2 : Int.tmod (un : Int) 65536 = ((un % 65536 : Nat) : Int) := by rw [Int.tmod_eq_emod_of_nonneg (by omega)]; rfl
                  obtain ⟨kv, hkv⟩ : ∃ q, un % 65536 = q := ⟨_, rfl⟩
                  rw [hkv] at htm2 hdk
                  have hcu : IntKind.i64.wrap (un : Int) = (un : Int) := wrap_id (by omega)
                  have hkvw : IntKind.i64.wrap (kv : Int) = (kv : Int) := wrap_id (by omega)
                  have hnk : wrap64 ((mk : Int) + 1) = ((mk + 1 : Nat) : Int) := by unfold wrap64; omega
                  have hlv : vs.length ≤ 9223372036854775807 := HLv.out
                  have HKK := Lib.hid (And.intro hmk (And.intro hdk hmkb))
                  subst huA
                  clear hu hu0 hu1 hdk hmk hjj hkv hvc hmkb
                  go_wp2_with fail
                  refine wp_seq_all (fun _ => false) (fun _ _ => undef) (fun _ _ _ => True) (by kernel_rfl) (by kernel_rfl) (fun _ _ _ _ _ h => h) ?_
                  repeat (first | (refine seq_skip (by rfl) ?_; simp only [Act.put, List.setIfInBounds_toArray, List.set_cons_zero, List.set_cons_succ, Nat.reduceAdd]) | (refine seq_pure (v := ?_) (by rfl) (by rfl) (fun W hW hC => ?_) ?_; rotate_left; (go_simp <;> with_reducible rfl); simp only [Act.put, List.setIfInBounds_toArray, List.set_cons_zero, List.set_cons_succ, Nat.reduceAdd]))
                  refine seq_nil ?_; intro W5 hW5 hF
                  clear hF
                  have HI4 := Lib.hid (And.intro (HI3.out.1.kept hW5) (HI3.out.2.kept hW5))
                  clear hW5 HI3 htm htm2 huc c6 hcu
                  have HA := Lib.hid (And.intro (HI4.out.1.kept (below_alloc (.cells #[.int .i64 (kv : Nat)] 3))) (one_cs W5 (kv : Nat)))
                  have hpush : ∀ v' w7, Own w7 w.heap.size v' (((List.range j).map fun c => (f x y c : Int)) ++ [(((kv : Nat) : Int))]) → (W5.alloc (.cells #[.int .i64 (kv : Nat)] 3)).grownBy w7 (Value.slice A' j k').ownBlock →
                      ∃ A2 k2, v' = .slice A2 (j + 1) k2 ∧ (Own w7 w.heap.size (.slice A2 (j + 1) k2) ((List.range (j + 1)).map fun c => (f x y c : Int)) ∧ SomI w [.int .u8 (nW : Nat), .int .u8 (nH : Nat), .int .u8 dC, .int .u8 (nP : Nat), .bool true, .bool pl, .slice (some ⟨ub, uo, none⟩) vs.length cA] mb L f (y * LW + x) w7) := by
                    intro v' w7 ho hg
                    have e : ((List.range (j + 1)).map fun c => (f x y c : Int)) = ((List.range j).map fun c => (f x y c : Int)) ++ [(((kv : Nat) : Int))] := by rw [List.range_succ, List.map_append]; simp [HKK.out.2.1]
                    obtain ⟨A2, k2, hv', _, _, _, _⟩ := ho.cs
                    rw [← e, List.length_map, List.length_range] at hv'
                    subst hv'
                    exact ⟨A2, k2, rfl, by rw [e]; exact ho, (HI4.out.2.kept (below_alloc _)).grown HA.out.1 hg (Nat.le_refl _)⟩
                  have HPU := Lib.hid hpush
                  have hszw : w.heap.size ≤ W5.heap.size := HI4.out.2.below.size
                  have HSZ := Lib.hid hszw
                  clear hpush hszw
                  go_upto_region 21 with (at_builtin; (refine append_ints rfl _ _ rfl w.heap.size (.slice A' j k') ((List.range j).map fun c => (f x y c : Int)) rfl HA.out.1 (some ⟨W5.heap.size, 0, none⟩) 1 [(((kv : Nat) : Int))] rfl HA.out.2 (fun h => by cases h) (by have := HNum.out; simp only [List.length_map, List.length_range, List.length_singleton]; omega) (by have := HSZ.out; simp only [World.size_alloc]; omega) ?_); intro v' w7 ho hg; obtain ⟨A2, k2, rfl, hI5⟩ := HPU.out v' w7 ho hg; have HI5 := Lib.hid hI5; clear ho hg hI5)
                  go_wp2_with fail
                  go_roundw
                  case rel => exact ⟨j + 1, by omega, by go_num, by rw [← Nat.add_assoc, HKK.out.1]; go_num, ⟨A2, k2, rfl, HI5.out.1⟩, HI5.out.2⟩
                  case measure => exact meas rfl (by go_num) hjt
                · have hdk : f x y j = 0 := by rw [HL.out.2.2.2.1]; dsimp only; unfold drK; rw [if_pos (by omega)]
                  obtain ⟨mk, hmk⟩ : ∃ q, bn + j = q := ⟨_, rfl⟩
                  have hmkb : mk ≤ 1000 := by have := HBn.out; have := HNum.out; omega
                  rw [hmk]
                  have hnk : wrap64 ((mk : Int) + 1) = ((mk + 1 : Nat) : Int) := by unfold wrap64; omega
                  have HKK := Lib.hid (And.intro hmk (And.intro hdk hmkb))
                  clear hdk hmk hmkb hvc
                  have HI4 := HI3
                  have HA := Lib.hid (And.intro (HI4.out.1.kept (below_alloc (.cells #[.int .i64 0] 3))) (one_cs wr 0))
                  have hpush : ∀ v' w7, Own w7 w.heap.size v' (((List.range j).map fun c => (f x y c : Int)) ++ [(0 : Int)]) → (wr.alloc (.cells #[.int .i64 0] 3)).grownBy w7 (Value.slice A' j k').ownBlock →
                      ∃ A2 k2, v' = .slice A2 (j + 1) k2 ∧ (Own w7 w.heap.size (.slice A2 (j + 1) k2) ((List.range (j + 1)).map fun c => (f x y c : Int)) ∧ SomI w [.int .u8 (nW : Nat), .int .u8 (nH : Nat), .int .u8 dC, .int .u8 (nP : Nat), .bool true, .bool pl, .slice A vs.length cA] mb L f (y * LW + x) w7) := by
                    intro v' w7 ho hg
                    have e : ((List.range (j + 1)).map fun c => (f x y c : Int)) = ((List.range j).map fun c => (f x y c : Int)) ++ [(0 : Int)] := by rw [List.range_succ, List.map_append]; simp [HKK.out.2.1]
                    obtain ⟨A2, k2, hv', _, _, _, _⟩ := ho.cs
                    rw [← e, List.length_map, List.length_range] at hv'
                    subst hv'
                    exact ⟨A2, k2, rfl, by rw [e]; exact ho, (HI4.out.2.kept (below_alloc _)).grown HA.out.1 hg (Nat.le_refl _)⟩
                  have HPU := Lib.hid hpush
                  have hszw : w.heap.size ≤ wr.heap.size := HI4.out.2.below.size
                  have HSZ := Lib.hid hszw
                  clear hpush hszw
                  go_upto_region 21 with (at_builtin; (refine append_ints rfl _ _ rfl w.heap.size (.slice A' j k') ((List.range j).map fun c => (f x y c : Int)) rfl HA.out.1 (some ⟨wr.heap.size, 0, none⟩) 1 [(0 : Int)] rfl HA.out.2 (fun h => by cases h) (by have := HNum.out; simp only [List.length_map, List.length_range, List.length_singleton]; omega) (by have := HSZ.out; simp only [World.size_alloc]; omega) ?_); intro v' w7 ho hg; obtain ⟨A2, k2, rfl, hI5⟩ := HPU.out v' w7 ho hg; have HI5 := Lib.hid hI5; clear ho hg hI5)
                  go_wp2_with fail
                  go_roundw
                  case rel => exact ⟨j + 1, by omega, by go_num, by rw [← Nat.add_assoc, HKK.out.1]; go_num, ⟨A2, k2, rfl, HI5.out.1⟩, HI5.out.2⟩
                  case measure => exact meas rfl (by go_num) hjt
              · have hjc : j = ch := by omega
                obtain ⟨O, hm, hpx⟩ := hI.im
                have hp0 := hm
                rw [HL.out.2.1] at hm
                obtain ⟨hX, hY⟩ : x < L.W ∧ y < L.H := by rw [HL.out.2.2.2.2.2.2.1, HL.out.2.2.2.2.2.2.2.1]; exact ⟨hxt, hyt⟩
                have hlen : ((List.range ch).map fun c => (f x y c : Int)).length = ch := by simp
                have hcs : Cs wr .i64 A' ((List.range ch).map fun c => (f x y c : Int)) ∧ ∀ p, A' = some p → p.block < wr.heap.size := by
                  obtain ⟨_, h2⟩ := how
                  rw [← hjc]
                  rcases h2 with ⟨h2, h3⟩ | ⟨g, cap, cur, hv, hg, hh, r⟩
                  · injection h2 with e1 e2 e3
                    subst e1
                    have hz : ((List.range j).map fun c => (f x y c : Int)) = [] := by rw [show j = 0 by simpa using h3]; rfl
                    rw [hz]
                    exact ⟨Cs.nil, fun p e => by cases e⟩
                  · obtain ⟨A3, c3, hv3, _, _, _, hc3⟩ := Own.cs (w := wr) (base := w.heap.size) (v := .slice A' j k') (xs := (List.range j).map fun c => (f x y c : Int)) ⟨by simp, .inr ⟨g, cap, cur, hv, hg, hh, r⟩⟩
                    injection hv3 with e1 e2 e3
                    subst e1
                    refine ⟨hc3, fun p e => ?_⟩
                    injection hv with f1 f2 f3
                    rw [f1] at e
                    cases e
                    exact (Array.getElem?_eq_some_iff.1 hh).1
                have HPut := Lib.hid (refput_calls HL.out.1 O hpx x y hX hY A' k' ((List.range ch).map fun c => (f x y c : Int)) wr hcs.1 hcs.2 (by rw [hlen, HL.out.2.2.2.2.2.2.2.2]) (fun v hv => by
                  obtain ⟨c, _, rfl⟩ := List.mem_map.1 hv
                  have := HL.out.2.2.2.2.1 x y c
                  omega))
                rw [hlen, HL.out.2.2.1] at HPut
                obtain ⟨R', hR'⟩ : ∃ R', img L (updS (shpS L.W (fun v => v) f (y * LW + x)) x y ((List.range ch).map fun c => (f x y c : Int))) = R' := ⟨_, rfl⟩
                rw [hR', imgV_eq] at HPut
                have HR' := Lib.hid hR'
                have HI5 := Lib.hid (And.intro hI hm)
                subst hjc
                have c0 := hm.cell (i := 0) rfl
                have c1 := hm.cell (i := 1) rfl
                have c2 := hm.cell (i := 2) rfl
                have c3 := hm.cell (i := 3) rfl
                have c4 := hm.cell (i := 4) rfl
                have c5 := hm.cell (i := 5) rfl
                have c6 := hm.cell (i := 6) rfl
                clear hI hm hpx hp0 hX hY hlen hcs how hR' HI2
                go_wp2_with fail
                refine HPut.out.mono ?_
                rintro r w8 ⟨rfl, hb8⟩
                have hI8 := HI5.out.1.kept hb8
                have hm8 := HI5.out.2.kept hb8
                clear c0 c1 c2 c3 c4 c5 c6
                have r0 := hm8.cell (i := 0) rfl
                have r1 := hm8.cell (i := 1) rfl
                have r2 := hm8.cell (i := 2) rfl
                have r3 := hm8.cell (i := 3) rfl
                have r4 := hm8.cell (i := 4) rfl
                have r5 := hm8.cell (i := 5) rfl
                have r6 := hm8.cell (i := 6) rfl
                have f0 := hm8.free 0
                have f1 := hm8.free 1
                have f2 := hm8.free 2
                have f3 := hm8.free 3
                have f4 := hm8.free 4
                have f5 := hm8.free 5
                have f6 := hm8.free 6
                have HI8 := Lib.hid (And.intro hI8 hm8)
                clear hI8 hm8 hb8 HPut
                go_wp2_with fail
                go_roundw
                case rel =>
                  have hne : mb ≠ w.heap.size ∧ mb ≠ w.heap.size + 1 := by have := HL.out.2.2.2.2.2.1; omega
                  refine ⟨x + 1, by omega, by go_num, ?_, ?_⟩
                  · have e : bn + j = (y * LW + (x + 1)) * j := by rw [← HBn.out.1, ← Nat.add_assoc, Nat.succ_mul]
                    rw [← e, Int.natCast_add]
                  · have hI8 := HI8.out.1
                    have hst : ∀ b, b ≠ mb → (((((((w8.setCell ⟨mb, 0, none⟩ (.int .i64 R'.W)).setCell ⟨mb, 1, none⟩ (.int .i64 R'.H)).setCell ⟨mb, 2, none⟩ (.int .i64 R'.C)).setCell ⟨mb, 3, none⟩ (.int .i64 R'.B)).setCell ⟨mb, 4, none⟩ (.bool R'.P)).setCell ⟨mb, 5, none⟩ (.int .i64 R'.Pd)).setCell ⟨mb, 6, none⟩ (.string R'.O)).heap[b]? = w8.heap[b]? := fun b hb => heap_set7 hb
                    refine ⟨?_, ?_, ⟨R'.O, ?_, ?_⟩, below_set7 hI8.below (by have := HL.out.2.2.2.2.2.1; omega) _ _ _ _ _ _ _⟩
                    · unfold Blk; rw [hst _ (fun e => hne.1 e.symm)]; exact hI8.draft
                    · unfold Blk; rw [hst _ (fun e => hne.2 e.symm)]; exact hI8.res
                    · have h7 := blk_set7 (v0 := .int .i64 R'.W) (v1 := .int .i64 R'.H) (v2 := .int .i64 R'.C) (v3 := .int .i64 R'.B) (v4 := .bool R'.P) (v5 := .int .i64 R'.Pd) (v6 := .string R'.O) HI8.out.2
                      have e : imL L R'.O = [.int .i64 R'.W, .int .i64 R'.H, .int .i64 R'.C, .int .i64 R'.B, .bool R'.P, .int .i64 R'.Pd, .string R'.O] := by rw [← HR'.out]; rfl
                      rw [e]; exact h7
                    · rw [← HR'.out]
                      have hpp := octs_pix HL.out.1 (updS (shpS L.W (fun v => v) f (y * LW + x)) x y ((List.range j).map fun c => (f x y c : Int)))
                      have hW := HL.out.2.2.2.2.2.2.1
                      have e1 : (y * LW + x) % LW = x := by rw [Nat.mul_comm, Nat.mul_add_mod, Nat.mod_eq_of_lt hxt]
                      have e2 : (y * LW + x) / LW = y := by rw [Nat.mul_comm, Nat.mul_add_div (by omega), Nat.div_eq_of_lt hxt]; omega
                      have hpp2 := shpS_step (W := LW) (F := fun v => v) (f := f) (n := y * LW + x) (l := octs L (updS (shpS L.W (fun v => v) f (y * LW + x)) x y ((List.range j).map fun c => (f x y c : Int)))) hW (by omega) (vs := (List.range L.C).map fun c => (f x y c : Int)) (by rw [e1, e2]) (by rw [e1, e2, HL.out.2.2.2.2.2.2.2.2]; rw [hW] at hpp; rw [hW]; exact hpp)
                      rw [hW] at hpp2 ⊢
                      exact hpp2
                case measure => exact meas rfl (by go_num) hxt
          · have hxe : x = LW := by omega
            subst hxe
            go_wp2_with fail
            go_roundw
            case rel => exact ⟨y + 1, by omega, by go_num, by rw [Nat.succ_mul], by rw [Nat.succ_mul]; exact HI2.out⟩
            case measure => exact meas rfl (by go_num) hyt
      · have hye : y = LH := by omega
        subst hye
        obtain ⟨O2, hm, hpx⟩ := HI.out.im
        have himg : d.some ch = ⟨(LW : Nat), (y : Nat), (ch : Nat), 16, pl, (pd : Nat), O2⟩ := by
          have hC := HL.out.2.1 O2
          have hV := HL.out.2.2.1 O2
          have hpf : Pix L O2.data.toList f := hpx.congr fun a b c ha hb hc => by
            rw [HL.out.2.2.2.2.2.2.1] at ha
            rw [HL.out.2.2.2.2.2.2.2.1] at hb
            unfold shpS
            rw [HL.out.2.2.2.2.2.2.1, if_pos (by
              have : (b + 1) * LW ≤ y * LW := Nat.mul_le_mul_right _ hb
              rw [Nat.succ_mul] at this
              omega)]
          have e := eq_mk (m := ⟨(L.W : Nat), (L.H : Nat), (L.C : Nat), ((8 * L.k : Nat) : Int), L.P, (L.pd : Nat), O2⟩) ⟨HL.out.1, rfl, rfl, rfl, rfl, rfl, rfl⟩ hpf
          have e2 : d.some ch = img L f := by rw [HRes.out, HL.out.2.2.2.1, HMk.out.1]; rfl
          rw [e2, ← e]
          have hv : (⟨(L.W : Nat), (L.H : Nat), (L.C : Nat), ((8 * L.k : Nat) : Int), L.P, (L.pd : Nat), O2⟩ : Im).v = (⟨(LW : Nat), (y : Nat), (ch : Nat), 16, pl, (pd : Nat), O2⟩ : Im).v := hV
          have hinj : ∀ a b : Im, a.v = b.v → a = b := fun a b h => by
            cases a; cases b
            simp only [Im.v, Value.agg.injEq, Array.mk.injEq, List.cons.injEq, Value.int.injEq, Value.bool.injEq, Value.string.injEq, true_and, and_true] at h
            simp [h]
          exact hinj _ _ hv
        have HIm := Lib.hid himg
        rw [HL.out.2.1] at hm
        have br := HI.out.res
        have HWz := Lib.hid (below_set7 HI.out.below (Nat.le_succ w.heap.size))
        have c0 := hm.cell (i := 0) rfl
        have c1 := hm.cell (i := 1) rfl
        have c2 := hm.cell (i := 2) rfl
        have c3 := hm.cell (i := 3) rfl
        have c4 := hm.cell (i := 4) rfl
        have c5 := hm.cell (i := 5) rfl
        have c6 := hm.cell (i := 6) rfl
        have r0 := br.cell (i := 0) rfl
        have r1 := br.cell (i := 1) rfl
        have r2 := br.cell (i := 2) rfl
        have r3 := br.cell (i := 3) rfl
        have r4 := br.cell (i := 4) rfl
        have r5 := br.cell (i := 5) rfl
        have r6 := br.cell (i := 6) rfl
        have g0 := br.free 0
        have g1 := br.free 1
        have g2 := br.free 2
        have g3 := br.free 3
        have g4 := br.free 4
        have g5 := br.free 5
        have g6 := br.free 6
        clear hm hpx himg br
        go_wp2_with fail
        rw [HIm.out]
        exact bodyPost_ret (v := .agg #[.int .i64 (LW : Nat), .int .i64 (y : Nat), .int .i64 (ch : Nat), .int .i64 16, .bool pl, .int .i64 (pd : Nat), .string O2]) (by simp [results, Try.results34, go_sem, *]) rfl ⟨rfl, HWz.out _ _ _ _ _ _ _⟩
end Go.Proofs.Ytpgkhhdobolfbaa
