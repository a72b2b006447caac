/-
  The law ImageSets, walked.
-/
import Derived.Test.YtpgkhhdobolfbaaIDraft
import Derived.Test.YtpgkhhdobolfbaaIWakes
namespace Go.Proofs.Ytpgkhhdobolfbaa
set_option linter.unusedVariables false
set_option linter.unusedSimpArgs false
open Go Go.RowKit

theorem img_thereB {L : Lay} (h : L.Ok) (f : Nat → Nat → Nat → Nat) {X Y : Nat} (hX : X < L.W) (hY : Y < L.H) : thereB (img L f) (X : Nat) (Y : Nat) = true :=
  decide_eq_true ⟨by omega, by show (X : Int) < ((L.W : Nat) : Int); omega, by omega, by show (Y : Int) < ((L.H : Nat) : Int); omega⟩
theorem img_get {L : Lay} (h : L.Ok) {f : Nat → Nat → Nat → Nat} (hb : Bd L f) {X Y : Nat} (hX : X < L.W) (hY : Y < L.H) : getS (img L f) (X : Nat) (Y : Nat) = ((List.range L.C).map fun c => (f X Y c : Int), 0) := by
  unfold getS
  rw [if_pos (img_good h f), if_pos (img_thereB h f hX hY)]
  unfold pixelS
  rw [img_lay h, Int.toNat_natCast, Int.toNat_natCast]
  refine congrArg (fun l => (l, (0 : Int))) (List.map_congr_left fun c hc => ?_)
  rw [img_smp h hb hX hY (List.mem_range.1 hc)]
/-- Samples with another pixel, of numbers. -/
def setN (f : Nat → Nat → Nat → Nat) (X Y : Nat) (k : Nat → Nat) : Nat → Nat → Nat → Nat := fun x y c => if x = X ∧ y = Y then k c else f x y c
theorem setN_bd {L : Lay} {f : Nat → Nat → Nat → Nat} (hb : Bd L f) (X Y : Nat) {k : Nat → Nat} (hk : ∀ c, k c < 2 ^ (8 * L.k)) : Bd L (setN f X Y k) := by
  intro x y c hx hy hc
  unfold setN
  split
  · exact hk c
  · exact hb x y c hx hy hc
theorem img_set {L : Lay} (h : L.Ok) {f : Nat → Nat → Nat → Nat} (hb : Bd L f) {X Y : Nat} (hX : X < L.W) (hY : Y < L.H) {k : Nat → Nat} (hk : ∀ c, k c < 2 ^ (8 * L.k)) :
    setS (img L f) (X : Nat) (Y : Nat) ((List.range L.C).map fun c => (k c : Int)) = (img L (setN f X Y k), 0) := by
  have hf : fitB (img L f) ((List.range L.C).map fun c => (k c : Int)) = true := by
    unfold fitB
    rw [Bool.and_eq_true]
    refine ⟨decide_eq_true (by simp [img]), List.all_eq_true.2 fun n hn => decide_eq_true ?_⟩
    obtain ⟨c, _, rfl⟩ := List.mem_map.1 hn
    have h1 := hk c
    have h2 : ((img L f).B).toNat = 8 * L.k := by show (((8 * L.k : Nat) : Int)).toNat = _; exact Int.toNat_natCast _
    rw [h2]
    refine ⟨by omega, ?_⟩
    have : ((k c : Nat) : Int) < ((2 ^ (8 * L.k) : Nat) : Int) := by omega
    simpa using this
  unfold setS
  rw [if_pos (img_good h f), if_pos (by rw [img_thereB h f hX hY, hf]; rfl), img_lay h, Int.toNat_natCast, Int.toNat_natCast]
  refine congrArg (fun m => (m, (0 : Int))) (img_congr h fun x y c hx hy hc => ?_)
  unfold updS setN
  split
  · rw [List.getD_eq_getElem?_getD, List.getElem?_map, List.getElem?_range hc]
    simp
  · exact img_smp h hb hx hy hc
theorem img_check {L : Lay} (h : L.Ok) (f : Nat → Nat → Nat → Nat) : checkS (img L f) = 0 := by unfold checkS; rw [if_pos (img_good h f)]; rfl

/-- What the rounds of the first loop keep. -/
structure SetI (w : World) (vC sC : List Value) (sb : Nat) (A : World) : Prop where
  val : Blk A (w.heap.size + 2) vC 63
  s : Blk A sb sC 24
  below : Below w.heap.size w A
theorem SetI.kept {w : World} {vC sC : List Value} {sb : Nat} {A B : World} (h : SetI w vC sC sb A) (hb : Below A.heap.size A B) : SetI w vC sC sb B := ⟨h.val.kept hb, h.s.kept hb, below_trans h.below hb⟩
theorem SetI.grown {w : World} {vC sC : List Value} {sb : Nat} {A B : World} {base : Nat} {v : Value} {xs : List Int} (h : SetI w vC sC sb A) (ho : Own A base v xs) (hg : A.grownBy B v.ownBlock) (hb : w.heap.size ≤ base) : SetI w vC sC sb B :=
  ⟨Blk.grown ho hg h.val (by decide), Blk.grown ho hg h.s (by decide), ho.below hg hb h.below⟩
/-- What the rounds of the others keep. -/
structure SetJ (w : World) (mC sC : List Value) (mb sb : Nat) (V : Option Addr) (vs : List Int) (A : World) : Prop where
  m : Blk A mb mC 24
  s : Blk A sb sC 24
  v : Cs A .i64 V vs
  below : Below w.heap.size w A
theorem SetJ.kept {w : World} {mC sC : List Value} {mb sb : Nat} {V : Option Addr} {vs : List Int} {A B : World} (h : SetJ w mC sC mb sb V vs A) (hb : Below A.heap.size A B) : SetJ w mC sC mb sb V vs B := ⟨h.m.kept hb, h.s.kept hb, h.v.kept hb, below_trans h.below hb⟩
theorem Own.cs2 {w : World} {base : Nat} {A : Option Addr} {n k : Nat} {xs : List Int} (h : Own w base (.slice A n k) xs) : Cs w .i64 A xs ∧ (0 < xs.length → ∀ p, A = some p → p.block < w.heap.size) := by
  obtain ⟨A2, c2, hv, _, _, _, hc⟩ := h.cs
  injection hv with e1 e2 e3
  subst e1
  refine ⟨hc, fun hl p e => ?_⟩
  obtain ⟨x, b, o, _, e2, hx⟩ := hc.at hl
  rw [e2] at e
  cases e
  exact block_lt hx

set_option maxRecDepth 100000 in
set_option maxHeartbeats 6400000 in
theorem imageSets_false (D : Dr) (hdp : D.deep = false) (hd : D.Ok) (A : Option Addr) (cA : Nat) (an bn n0 n1 n2 n3 : Nat) (ha : an ≤ 255) (hb : bn ≤ 255) (h0 : n0 ≤ 65535) (h1 : n1 ≤ 65535) (h2 : n2 ≤ 65535) (h3 : n3 ≤ 65535) (w : World) (hvs : Cs w .u16 A D.vs) :
    Calls Try.prog 7 #[D.v A cA, .agg #[.int .u8 (an : Nat), .int .u8 (bn : Nat)], .agg #[.int .u16 (n0 : Nat), .int .u16 (n1 : Nat), .int .u16 (n2 : Nat), .int .u16 (n3 : Nat)]] w fun e w' => e = .returned (.bool true) ∧ Below w.heap.size w w' := by
  have HIm := Lib.hid (fun W (h : Cs W .u16 A D.vs) => image_calls D hd A cA W h)
  have HVS := Lib.hid hvs
  obtain ⟨p0, p1, p2, p3, p4, p5, nn, hvD⟩ : ∃ p0 p1 p2 p3 p4 p5 n, D.v A cA = .agg #[.int .u8 p0, .int .u8 p1, .int .u8 p2, .int .u8 p3, .bool p4, .bool p5, .slice A n cA] := ⟨_, _, _, _, _, _, _, rfl⟩
  obtain ⟨L, hL⟩ : ∃ L, D.lay D.ch = L := ⟨_, rfl⟩
  obtain ⟨f, hf⟩ : ∃ f, D.smp D.ch = f := ⟨_, rfl⟩
  have hok : L.Ok := by rw [← hL]; exact Dr.ok D.ch1 D.ch4
  have hbd : Bd L f := by rw [← hL, ← hf]; exact D.bd _
  have hk : L.k = 1 := by rw [← hL]; show (if D.deep then 2 else 1) = _; rw [hdp]; rfl
  have him : D.image = img L f := by rw [← hL, ← hf]; rfl
  obtain ⟨vsD, hvsD⟩ : ∃ q, D.vs = q := ⟨_, rfl⟩
  rw [him, hvD, hvsD] at HIm
  rw [hvD]
  rw [hvsD] at HVS
  clear hL hf hdp him hvD hvsD hvs hd
  obtain ⟨LW, hLW⟩ : ∃ q, L.W = q := ⟨_, rfl⟩
  obtain ⟨LH, hLH⟩ : ∃ q, L.H = q := ⟨_, rfl⟩
  obtain ⟨LC, hLC⟩ : ∃ q, L.C = q := ⟨_, rfl⟩
  obtain ⟨Lp, hLp⟩ : ∃ q, L.P = q := ⟨_, rfl⟩
  obtain ⟨pd, hpd⟩ : ∃ q, L.pd = q := ⟨_, rfl⟩
  obtain ⟨O, hO⟩ : ∃ O : ByteArray, (⟨(octs L f).toArray⟩ : ByteArray) = O := ⟨_, rfl⟩
  have hiv : ∀ g (O : ByteArray), (⟨(octs L g).toArray⟩ : ByteArray) = O → (img L g).v = .agg #[.int .i64 (LW : Nat), .int .i64 (LH : Nat), .int .i64 (LC : Nat), .int .i64 8, .bool Lp, .int .i64 (pd : Nat), .string O] := by
    intro g O hO
    rw [← hO, ← hLW, ← hLH, ← hLC, ← hLp, ← hpd]
    unfold Im.v img
    simp [hk]
  have hw1 := hok.w1; have hw2 := hok.w2; have hh1 := hok.h1; have hh2 := hok.h2; have hc1 := hok.c1; have hc2 := hok.c2
  rw [hLW] at hw1 hw2; rw [hLH] at hh1 hh2; rw [hLC] at hc1 hc2
  obtain ⟨X, hX⟩ : ∃ X, an % LW = X := ⟨_, rfl⟩
  obtain ⟨Y, hY⟩ : ∃ Y, bn % LH = Y := ⟨_, rfl⟩
  have hXl : X < LW := by rw [← hX]; exact Nat.mod_lt _ (by omega)
  have hYl : Y < LH := by rw [← hY]; exact Nat.mod_lt _ (by omega)
  have hti : Int.tmod (an : Int) (LW : Int) = (X : Int) := by rw [Int.tmod_eq_emod_of_nonneg (by omega), ← hX]; simp
  have htk : Int.tmod (bn : Int) (LH : Int) = (Y : Int) := by rw [Int.tmod_eq_emod_of_nonneg (by omega), ← hY]; simp
  obtain ⟨kN, hkN⟩ : ∃ kN : Nat → Nat, kN = fun c => [n0, n1, n2, n3].getD c 0 % 256 := ⟨_, rfl⟩
  have hkb : ∀ c, kN c < 2 ^ (8 * L.k) := by intro c; rw [hkN, hk]; exact Nat.mod_lt _ (by decide)
  have hset := img_set hok hbd (X := X) (Y := Y) (by omega) (by omega) hkb
  have hgb := setN_bd hbd X Y hkb
  obtain ⟨Og, hOg⟩ : ∃ O : ByteArray, (⟨(octs L (setN f X Y kN)).toArray⟩ : ByteArray) = O := ⟨_, rfl⟩
  have hsv := hiv f O hO
  have hmv := hiv _ Og hOg
  rw [hsv] at HIm
  have HSet := Lib.hid (fun (V : Option Addr) (ca : Nat) (W : World) h1 h2 h3 => set_calls (img L f) (X : Nat) (Y : Nat) V ca ((List.range LC).map fun c => (kN c : Int)) W h1 h2 h3)
  rw [hLC] at hset
  rw [hset, hsv, hmv, List.length_map, List.length_range] at HSet
  have HChk := Lib.hid (fun W => check_calls (img L (setN f X Y kN)) W)
  rw [img_check hok, hmv] at HChk
  have hGet : ∀ (x y : Nat) (W : World), x < LW → y < LH → Calls Try.prog 14 #[.agg #[.int .i64 (LW : Nat), .int .i64 (LH : Nat), .int .i64 (LC : Nat), .int .i64 8, .bool Lp, .int .i64 (pd : Nat), .string O], .int .i64 (x : Nat), .int .i64 (y : Nat)] W fun e w' => ∃ V k, e = .returned (.tuple #[.slice V LC k, .int .i64 0]) ∧ Cs w' .i64 V ((List.range LC).map fun c => (f x y c : Int)) ∧ Below W.heap.size W w' := (fun x y W hx hy => by
    have h := get_calls (img L f) (x : Nat) (y : Nat) W
    rw [img_get hok hbd (by omega) (by omega), hsv, hLC] at h
    refine h.mono ?_
    rintro e w' ⟨v, rfl, ⟨V, k, rfl, hc, _, _⟩, hb⟩
    rw [List.length_map, List.length_range]
    exact ⟨V, k, rfl, hc, hb⟩)
  have hGetM : ∀ (x y : Nat) (W : World), x < LW → y < LH → Calls Try.prog 14 #[.agg #[.int .i64 (LW : Nat), .int .i64 (LH : Nat), .int .i64 (LC : Nat), .int .i64 8, .bool Lp, .int .i64 (pd : Nat), .string Og], .int .i64 (x : Nat), .int .i64 (y : Nat)] W fun e w' => ∃ V k, e = .returned (.tuple #[.slice V LC k, .int .i64 0]) ∧ Cs w' .i64 V ((List.range LC).map fun c => (setN f X Y kN x y c : Int)) ∧ Below W.heap.size W w' := (fun x y W hx hy => by
    have h := get_calls (img L (setN f X Y kN)) (x : Nat) (y : Nat) W
    rw [img_get hok hgb (by omega) (by omega), hmv, hLC] at h
    refine h.mono ?_
    rintro e w' ⟨v, rfl, ⟨V, k, rfl, hc, _, _⟩, hb⟩
    rw [List.length_map, List.length_range]
    exact ⟨V, k, rfl, hc, hb⟩)
  have HGet := Lib.hid hGet
  have HGetM := Lib.hid hGetM
  clear hGet hGetM
  have hlw0 : ¬ LW = 0 := by omega
  have hlh0 : ¬ LH = 0 := by omega
  have hwa : IntKind.i64.wrap (an : Int) = (an : Int) := wrap_id (by omega)
  have hwb : IntKind.i64.wrap (bn : Int) = (bn : Int) := wrap_id (by omega)
  have HNum := Lib.hid (And.intro (show LW ≤ 64 by omega) (And.intro (show LH ≤ 64 by omega) (And.intro (show 1 ≤ LC ∧ LC ≤ 4 by omega) (And.intro (And.intro hXl hYl) (show LC ≤ 9223372036854775807 by omega)))))
  have HKN := Lib.hid hkN
  have HN := Lib.hid (And.intro h0 (And.intro h1 (And.intro h2 h3)))
  clear hset hgb hsv hmv hiv hO hOg hkN hkb hX hY hbd hok hk hLW hLH hLC hLp hpd hw1 hw2 hh1 hh2 hc1 hc2 ha hb h0 h1 h2 h3 hXl hYl
  go_enter Try.func7, Try.ntmps7
  go_upto_region 1 with fail
  refine wp_named ?_
  intro w1 hw1
  have bd : Blk w1 w.heap.size [.int .u8 p0, .int .u8 p1, .int .u8 p2, .int .u8 p3, .bool p4, .bool p5, .slice A nn cA] 52 := by rw [hw1]; exact ((Blk.new _ _ _).alloc _).alloc _
  have ba : Blk w1 (w.heap.size + 1) [.int .u8 (an : Nat), .int .u8 (bn : Nat)] 62 := by rw [hw1]; exact (Blk.at (by simp)).alloc _
  have bv : Blk w1 (w.heap.size + 2) [.int .u16 (n0 : Nat), .int .u16 (n1 : Nat), .int .u16 (n2 : Nat), .int .u16 (n3 : Nat)] 63 := by rw [hw1]; exact Blk.at (by simp)
  have hb1 : Below w.heap.size w w1 := by rw [hw1]; repeat (first | exact below_alloc _ | refine below_trans ?_ (below_alloc _))
  have HB := Lib.hid (And.intro bd (And.intro ba (And.intro bv hb1)))
  clear hw1 bd ba bv hb1
  go_wp2_with fail
  refine (wakes_calls w1).mono ?_
  rintro r w2 ⟨rfl, hb2⟩
  have HB2 := Lib.hid (And.intro (HB.out.1.kept hb2) (And.intro (HB.out.2.1.kept hb2) (And.intro (HB.out.2.2.1.kept hb2) (below_trans HB.out.2.2.2 hb2))))
  have bd := HB2.out.1
  have c0 := bd.cell (i := 0) rfl
  have c1 := bd.cell (i := 1) rfl
  have c2 := bd.cell (i := 2) rfl
  have c3 := bd.cell (i := 3) rfl
  have c4 := bd.cell (i := 4) rfl
  have c5 := bd.cell (i := 5) rfl
  have c6 := bd.cell (i := 6) rfl
  clear hb2 HB bd
  go_wp2_with fail
  refine (HIm.out w2 (HVS.out.kept HB2.out.2.2.2)).mono ?_
  rintro r w3 ⟨rfl, hb3⟩
  have HB3 := Lib.hid (And.intro (HB2.out.2.1.kept hb3) (And.intro (HB2.out.2.2.1.kept hb3) (below_trans HB2.out.2.2.2 hb3)))
  clear hb3 HB2 HIm HVS c0 c1 c2 c3 c4 c5 c6
  go_upto_region 4 with fail
  refine wp_named ?_
  intro w4 hw4
  have bs : Blk w4 w3.heap.size [.int .i64 (LW : Nat), .int .i64 (LH : Nat), .int .i64 (LC : Nat), .int .i64 8, .bool Lp, .int .i64 (pd : Nat), .string O] 24 := by rw [hw4]; exact Blk.at rfl
  have hb4 : Below w3.heap.size w3 w4 := by rw [hw4]; repeat (first | exact below_alloc _ | refine below_trans ?_ (below_alloc _))
  obtain ⟨sb, hsb⟩ : ∃ q, w3.heap.size = q := ⟨_, rfl⟩
  have HI4 := Lib.hid (And.intro (SetI.mk (w := w) (HB3.out.2.1.kept hb4) bs (below_trans HB3.out.2.2 hb4)) (HB3.out.1.kept hb4))
  rw [hsb] at HI4 ⊢
  clear hw4 bs hb4 hsb HB3
  have ba := HI4.out.2
  have bs := HI4.out.1.s
  have a0 := ba.cell (i := 0) rfl
  have a1 := ba.cell (i := 1) rfl
  have c0 := bs.cell (i := 0) rfl
  have c1 := bs.cell (i := 1) rfl
  have c2 := bs.cell (i := 2) rfl
  have c3 := bs.cell (i := 3) rfl
  have c4 := bs.cell (i := 4) rfl
  have c5 := bs.cell (i := 5) rfl
  have c6 := bs.cell (i := 6) rfl
  clear ba bs
  refine wp_seq_all (fun _ => false) (fun _ _ => undef) (fun _ _ _ => True) (by kernel_rfl) (by kernel_rfl) (fun _ _ _ _ _ h => h) ?_
  repeat (first | (refine seq_skip (by rfl) ?_; simp only [Act.put, List.setIfInBounds_toArray, List.set_cons_zero, List.set_cons_succ, Nat.reduceAdd]) | (refine seq_pure (v := ?_) (by rfl) (by rfl) (fun W hW hC => ?_) ?_; rotate_left; (go_simp <;> with_reducible rfl); simp only [Act.put, List.setIfInBounds_toArray, List.set_cons_zero, List.set_cons_succ, Nat.reduceAdd]))
  refine seq_nil ?_; intro W hW hF
  clear hF c0 c1 c2 c3 c4 c5 c6 a0 a1 hti htk hlw0 hlh0 hwa hwb
  have HI5 := Lib.hid (HI4.out.1.kept hW)
  have bs := HI5.out.s
  have c2 := bs.cell (i := 2) rfl
  clear hW HI4 bs
  simp only [show IntKind.i64.wrap 256 = (256 : Int) by decide +kernel]
  go_wp2_with fail
  clear c2
  go_loopw [11, 42] (fun v cc wr => ∃ j : Nat, j ≤ LC ∧ cc = .int .i64 j ∧ (∃ A' k', v = .slice A' j k' ∧ Own wr w.heap.size (.slice A' j k') ((List.range j).map fun c => (kN c : Int))) ∧ SetI w [.int .u16 (n0 : Nat), .int .u16 (n1 : Nat), .int .u16 (n2 : Nat), .int .u16 (n3 : Nat)] [.int .i64 (LW : Nat), .int .i64 (LH : Nat), .int .i64 (LC : Nat), .int .i64 8, .bool Lp, .int .i64 (pd : Nat), .string O] sb wr) (fun _ cc _ => LC - (intOf cc).toNat)
  case atStart => exact ⟨0, Nat.zero_le _, rfl, ⟨none, 0, rfl, Own.nil _ _⟩, HI5.out⟩
  case round =>
    obtain ⟨j, hj0, rfl, ⟨A', k', rfl, how⟩, hI⟩ := hrel
    by_cases hjt : j < LC
    · have hwj : wrap64 ((j : Int) + 1) = ((j + 1 : Nat) : Int) := by have := HNum.out; unfold wrap64; omega
      have hj4 : j < 4 := by have := HNum.out; omega
      obtain ⟨u, hu⟩ : ∃ u, [n0, n1, n2, n3][j]? = some u := ⟨_, List.getElem?_eq_getElem (by simpa using hj4)⟩
      have hu1 : u ≤ 65535 := by
        have := HN.out
        rcases (show j = 0 ∨ j = 1 ∨ j = 2 ∨ j = 3 by omega) with rfl | rfl | rfl | rfl <;> simp at hu <;> omega
      have huc := hI.val.cell (i := j) (v := .int .u16 (u : Nat)) (by
        rcases (show j = 0 ∨ j = 1 ∨ j = 2 ∨ j = 3 by omega) with rfl | rfl | rfl | rfl <;> simp at hu <;> simp [hu])
      obtain ⟨kv, hkv⟩ : ∃ q, u % 256 = q := ⟨_, rfl⟩
      have hdk : kN j = kv := by rw [HKN.out]; dsimp only; rw [List.getD_eq_getElem?_getD, hu]; exact hkv
      have htm2 : Int.tmod (u : Int) 256 = (kv : Int) := by rw [Int.tmod_eq_emod_of_nonneg (by omega), ← hkv]; simp
      have hem : (u : Int) % 256 = (kv : Int) := by omega
      have hcu : IntKind.i64.wrap (u : Int) = (u : Int) := wrap_id (by omega)
      have hkvw : IntKind.i64.wrap (kv : Int) = (kv : Int) := wrap_id (by omega)
      have HDK := Lib.hid hdk
      have HI6 := Lib.hid (And.intro how hI)
      have HA := Lib.hid (And.intro (HI6.out.1.kept (below_alloc (.cells #[.int .i64 (kv : Nat)] 3))) (one_cs wr (kv : Nat)))
      have hpush : ∀ v' w7, Own w7 w.heap.size v' (((List.range j).map fun c => (kN c : Int)) ++ [(((kv : Nat) : Int))]) → (wr.alloc (.cells #[.int .i64 (kv : Nat)] 3)).grownBy w7 (Value.slice A' j k').ownBlock →
          ∃ A2 k2, v' = .slice A2 (j + 1) k2 ∧ (Own w7 w.heap.size (.slice A2 (j + 1) k2) ((List.range (j + 1)).map fun c => (kN c : Int)) ∧ SetI w [.int .u16 (n0 : Nat), .int .u16 (n1 : Nat), .int .u16 (n2 : Nat), .int .u16 (n3 : Nat)] [.int .i64 (LW : Nat), .int .i64 (LH : Nat), .int .i64 (LC : Nat), .int .i64 8, .bool Lp, .int .i64 (pd : Nat), .string O] sb w7) := by
        intro v' w7 ho hg
        have e : ((List.range (j + 1)).map fun c => (kN c : Int)) = ((List.range j).map fun c => (kN c : Int)) ++ [(((kv : Nat) : Int))] := by rw [List.range_succ, List.map_append]; simp [HDK.out]
        obtain ⟨A2, k2, hv', _, _, _, _⟩ := ho.cs
        rw [← e, List.length_map, List.length_range] at hv'
        subst hv'
        exact ⟨A2, k2, rfl, by rw [e]; exact ho, (HI6.out.2.kept (below_alloc _)).grown HA.out.1 hg (Nat.le_refl _)⟩
      have HPU := Lib.hid hpush
      have hszw : w.heap.size ≤ wr.heap.size := HI6.out.2.below.size
      have HSZ := Lib.hid hszw
      clear hpush hszw hu hdk hkv how hI
      go_upto_region 10 with (at_builtin; (refine append_ints rfl _ _ rfl w.heap.size (.slice A' j k') ((List.range j).map fun c => (kN c : Int)) rfl HA.out.1 (some ⟨wr.heap.size, 0, none⟩) 1 [(((kv : Nat) : Int))] rfl HA.out.2 (fun h => by cases h) (by have := HNum.out; simp only [List.length_map, List.length_range, List.length_singleton]; omega) (by have := HSZ.out; simp only [World.size_alloc]; omega) ?_); intro v' w7 ho hg; obtain ⟨A2, k2, rfl, hI5⟩ := HPU.out v' w7 ho hg; have HI7 := Lib.hid hI5; clear ho hg hI5)
      go_wp2_with fail
      go_roundw
      case rel => exact ⟨j + 1, by omega, by go_num, ⟨A2, k2, rfl, HI7.out.1⟩, HI7.out.2⟩
      case measure => exact meas rfl (by go_num) hjt
    · have hjc : LC = j := by omega
      subst hjc
      have hcs2 := how.cs2
      obtain ⟨V, hV⟩ : ∃ q, A' = q := ⟨_, rfl⟩
      obtain ⟨kV, hkV⟩ : ∃ q, k' = q := ⟨_, rfl⟩
      rw [hV] at hcs2 ⊢
      rw [hkV]
      have hs := hI.s
      have c0 := hs.cell (i := 0) rfl
      have c1 := hs.cell (i := 1) rfl
      have c2 := hs.cell (i := 2) rfl
      have c3 := hs.cell (i := 3) rfl
      have c4 := hs.cell (i := 4) rfl
      have c5 := hs.cell (i := 5) rfl
      have c6 := hs.cell (i := 6) rfl
      have HI6 := Lib.hid (And.intro hI.s (And.intro hI.below (And.intro hcs2.1 (hcs2.2 (by rw [List.length_map, List.length_range]; exact HNum.out.2.2.1.1)))))
      clear hs hI how hcs2 hV hkV HI5 hjt
      go_wp2_with fail
      refine (HSet.out V kV wr HI6.out.2.2.1 HNum.out.2.2.2.2 HI6.out.2.2.2).mono ?_
      rintro r w5 ⟨rfl, hb5⟩
      have HI7 := Lib.hid (And.intro (HI6.out.1.kept hb5) (And.intro (below_trans HI6.out.2.1 hb5) (HI6.out.2.2.1.kept hb5)))
      clear c0 c1 c2 c3 c4 c5 c6 hb5 HI6 HSet
      go_upto_region 12 with fail
      refine wp_named ?_
      intro w6 hw6
      have bm : Blk w6 w5.heap.size [.int .i64 (LW : Nat), .int .i64 (LH : Nat), .int .i64 (LC : Nat), .int .i64 8, .bool Lp, .int .i64 (pd : Nat), .string Og] 24 := by rw [hw6]; exact Blk.at rfl
      have hb6 : Below w5.heap.size w5 w6 := by rw [hw6]; repeat (first | exact below_alloc _ | refine below_trans ?_ (below_alloc _))
      obtain ⟨mb, hmb⟩ : ∃ q, w5.heap.size = q := ⟨_, rfl⟩
      have hsm : sb < mb := by rw [← hmb]; exact HI7.out.1.lt
      have hwm : w.heap.size ≤ mb := by rw [← hmb]; exact HI7.out.2.1.size
      rw [hmb] at bm ⊢
      have HM := Lib.hid (And.intro hsm hwm)
      have HJ := Lib.hid (SetJ.mk (w := w) bm (HI7.out.1.kept hb6) (HI7.out.2.2.kept hb6) (below_trans HI7.out.2.1 hb6))
      have c0 := bm.cell (i := 0) rfl
      have c1 := bm.cell (i := 1) rfl
      have c2 := bm.cell (i := 2) rfl
      have c3 := bm.cell (i := 3) rfl
      have c4 := bm.cell (i := 4) rfl
      have c5 := bm.cell (i := 5) rfl
      have c6 := bm.cell (i := 6) rfl
      clear hw6 bm hb6 hmb HI7 hsm hwm
      go_wp2_with fail
      refine (HChk.out w6).mono ?_
      rintro r w7 ⟨rfl, hb7⟩
      have HJ7 := Lib.hid (HJ.out.kept hb7)
      have bs := HJ7.out.s
      clear c0 c1 c2 c3 c4 c5 c6 hb7 HJ HChk
      have c1 := bs.cell (i := 1) rfl
      clear bs
      go_wp2_with fail
      clear c1
      go_loopw [72] (fun yy wr => ∃ y : Nat, y ≤ LH ∧ yy = .int .i64 y ∧ SetJ w [.int .i64 (LW : Nat), .int .i64 (LH : Nat), .int .i64 (LC : Nat), .int .i64 8, .bool Lp, .int .i64 (pd : Nat), .string Og] [.int .i64 (LW : Nat), .int .i64 (LH : Nat), .int .i64 (LC : Nat), .int .i64 8, .bool Lp, .int .i64 (pd : Nat), .string O] mb sb V ((List.range LC).map fun c => (kN c : Int)) wr) (fun yy _ => LH - (intOf yy).toNat)
      case atStart => exact ⟨0, Nat.zero_le _, rfl, HJ7.out⟩
      case round =>
        obtain ⟨y, hy0, rfl, hJ⟩ := hrel
        by_cases hyt : y < LH
        · have hwy : wrap64 ((y : Int) + 1) = ((y + 1 : Nat) : Int) := by have := HNum.out; unfold wrap64; omega
          have bs := hJ.s
          have HJ8 := Lib.hid hJ
          have c0 := bs.cell (i := 0) rfl
          clear bs hJ HJ7
          go_wp2_with fail
          clear c0
          go_loopw [77] (fun xx wr => ∃ x : Nat, x ≤ LW ∧ xx = .int .i64 x ∧ SetJ w [.int .i64 (LW : Nat), .int .i64 (LH : Nat), .int .i64 (LC : Nat), .int .i64 8, .bool Lp, .int .i64 (pd : Nat), .string Og] [.int .i64 (LW : Nat), .int .i64 (LH : Nat), .int .i64 (LC : Nat), .int .i64 8, .bool Lp, .int .i64 (pd : Nat), .string O] mb sb V ((List.range LC).map fun c => (kN c : Int)) wr) (fun xx _ => LW - (intOf xx).toNat)
          case atStart => exact ⟨0, Nat.zero_le _, rfl, HJ8.out⟩
          case round =>
            obtain ⟨x, hx0, rfl, hJ⟩ := hrel
            by_cases hxt : x < LW
            · have hwx : wrap64 ((x : Int) + 1) = ((x + 1 : Nat) : Int) := by have := HNum.out; unfold wrap64; omega
              have bs := hJ.s
              have c0 := bs.cell (i := 0) rfl
              have c1 := bs.cell (i := 1) rfl
              have c2 := bs.cell (i := 2) rfl
              have c3 := bs.cell (i := 3) rfl
              have c4 := bs.cell (i := 4) rfl
              have c5 := bs.cell (i := 5) rfl
              have c6 := bs.cell (i := 6) rfl
              have HJ9 := Lib.hid hJ
              clear bs hJ HJ8
              go_wp2_with fail
              refine (HGet.out x y wr hxt hyt).mono ?_
              rintro r w7 ⟨A7, k7, rfl, hc7, hb7⟩
              have HJ10 := Lib.hid (And.intro hc7 (HJ9.out.kept hb7))
              have bm := HJ10.out.2.m
              clear c0 c1 c2 c3 c4 c5 c6 hc7 hb7 HJ9
              have c0 := bm.cell (i := 0) rfl
              have c1 := bm.cell (i := 1) rfl
              have c2 := bm.cell (i := 2) rfl
              have c3 := bm.cell (i := 3) rfl
              have c4 := bm.cell (i := 4) rfl
              have c5 := bm.cell (i := 5) rfl
              have c6 := bm.cell (i := 6) rfl
              clear bm
              go_wp2_with fail
              refine (HGetM.out x y w7 hxt hyt).mono ?_
              rintro r w8 ⟨A8, k8, rfl, hc8, hb8⟩
              have HR := Lib.hid (And.intro (HJ10.out.1.kept hb8) (And.intro hc8 (HJ10.out.2.kept hb8)))
              clear c0 c1 c2 c3 c4 c5 c6 hc8 hb8 HJ10
              by_cases hxX : x = X
              · by_cases hyY : y = Y
                · subst hxX
                  subst hyY
                  have HEq := Lib.hid (equal_calls V A8 kV k8 ((List.range LC).map fun c => (kN c : Int)) ((List.range LC).map fun c => (setN f x y kN x y c : Int)) w8 HR.out.2.2.v HR.out.2.1 (by rw [List.length_map, List.length_range]; exact HNum.out.2.2.2.2) (by rw [List.length_map, List.length_range]; exact HNum.out.2.2.2.2))
                  rw [decide_eq_true (show ((List.range LC).map fun c => (kN c : Int)) = (List.range LC).map fun c => (setN f x y kN x y c : Int) from List.map_congr_left fun c _ => by unfold setN; rw [if_pos ⟨rfl, rfl⟩]), List.length_map, List.length_map, List.length_range] at HEq
                  go_wp2_with fail
                  refine HEq.out.mono ?_
                  rintro r w9 ⟨rfl, hb9⟩
                  have HJ9 := Lib.hid (HR.out.2.2.kept hb9)
                  clear hb9 HEq HR
                  go_wp2_with fail
                  go_roundw
                  case rel => exact ⟨x + 1, by omega, by go_num, HJ9.out⟩
                  case measure => exact meas rfl (by go_num) hxt
                · subst hxX
                  have hyI : ¬ (y : Int) = (Y : Int) := by omega
                  have HEq := Lib.hid (equal_calls A7 A8 k7 k8 ((List.range LC).map fun c => (f x y c : Int)) ((List.range LC).map fun c => (setN f x Y kN x y c : Int)) w8 HR.out.1 HR.out.2.1 (by rw [List.length_map, List.length_range]; exact HNum.out.2.2.2.2) (by rw [List.length_map, List.length_range]; exact HNum.out.2.2.2.2))
                  rw [decide_eq_true (show ((List.range LC).map fun c => (f x y c : Int)) = (List.range LC).map fun c => (setN f x Y kN x y c : Int) from List.map_congr_left fun c _ => by unfold setN; rw [if_neg (fun h => hyY h.2)]), List.length_map, List.length_map, List.length_range] at HEq
                  go_wp2_with fail
                  refine HEq.out.mono ?_
                  rintro r w9 ⟨rfl, hb9⟩
                  have HJ9 := Lib.hid (HR.out.2.2.kept hb9)
                  clear hb9 HEq HR
                  go_wp2_with fail
                  go_roundw
                  case rel => exact ⟨x + 1, by omega, by go_num, HJ9.out⟩
                  case measure => exact meas rfl (by go_num) hxt
              · have hxI : ¬ (x : Int) = (X : Int) := by omega
                have HEq := Lib.hid (equal_calls A7 A8 k7 k8 ((List.range LC).map fun c => (f x y c : Int)) ((List.range LC).map fun c => (setN f X Y kN x y c : Int)) w8 HR.out.1 HR.out.2.1 (by rw [List.length_map, List.length_range]; exact HNum.out.2.2.2.2) (by rw [List.length_map, List.length_range]; exact HNum.out.2.2.2.2))
                rw [decide_eq_true (show ((List.range LC).map fun c => (f x y c : Int)) = (List.range LC).map fun c => (setN f X Y kN x y c : Int) from List.map_congr_left fun c _ => by unfold setN; rw [if_neg (fun h => hxX h.1)]), List.length_map, List.length_map, List.length_range] at HEq
                go_wp2_with fail
                refine HEq.out.mono ?_
                rintro r w9 ⟨rfl, hb9⟩
                have HJ9 := Lib.hid (HR.out.2.2.kept hb9)
                clear hb9 HEq HR
                go_wp2_with fail
                go_roundw
                case rel => exact ⟨x + 1, by omega, by go_num, HJ9.out⟩
                case measure => exact meas rfl (by go_num) hxt
            · have hxc : x = LW := by omega
              have HJ9 := Lib.hid hJ
              clear hJ HJ8
              go_wp2_with fail
              go_roundw
              case rel => exact ⟨y + 1, by omega, by go_num, HJ9.out⟩
              case measure => exact meas rfl (by go_num) hyt
        · have bm := hJ.m
          have f6 := bm.free 6
          have m6 := bm.cell (i := 6) rfl
          have bs := hJ.s
          have c0 := bs.cell (i := 0) rfl
          have c1 := bs.cell (i := 1) rfl
          have c2 := bs.cell (i := 2) rfl
          have c3 := bs.cell (i := 3) rfl
          have c4 := bs.cell (i := 4) rfl
          have c5 := bs.cell (i := 5) rfl
          have c6 := bs.cell (i := 6) rfl
          have HJ8 := Lib.hid hJ
          clear hJ bs bm HJ7
          go_upto_region 29 with fail
          refine wp_named ?_
          intro w9 hw9
          have bm9 : Blk w9 mb [.int .i64 (LW : Nat), .int .i64 (LH : Nat), .int .i64 (LC : Nat), .int .i64 8, .bool Lp, .int .i64 (pd : Nat), .string O] 24 := by rw [hw9]; exact HJ8.out.m.set 6 _
          have bs9 : Blk w9 sb [.int .i64 (LW : Nat), .int .i64 (LH : Nat), .int .i64 (LC : Nat), .int .i64 8, .bool Lp, .int .i64 (pd : Nat), .string O] 24 := by
            rw [hw9]
            have h := HJ8.out.s
            unfold Blk at *
            rw [Below.heap_setCell _ _ _ _ (by have := HM.out; show sb ≠ mb; omega)]
            exact h
          have hb9 : Below w.heap.size w w9 := by rw [hw9]; exact HJ8.out.below.setCell (p := ⟨mb, 6, none⟩) HM.out.2 _
          have H9 := Lib.hid hb9
          clear c0 c1 c2 c3 c4 c5 c6 f6 m6 hw9 HJ8
          have c0 := bm9.cell (i := 0) rfl
          have c1 := bm9.cell (i := 1) rfl
          have c2 := bm9.cell (i := 2) rfl
          have c3 := bm9.cell (i := 3) rfl
          have c4 := bm9.cell (i := 4) rfl
          have c5 := bm9.cell (i := 5) rfl
          have c6 := bm9.cell (i := 6) rfl
          have d0 := bs9.cell (i := 0) rfl
          have d1 := bs9.cell (i := 1) rfl
          have d2 := bs9.cell (i := 2) rfl
          have d3 := bs9.cell (i := 3) rfl
          have d4 := bs9.cell (i := 4) rfl
          have d5 := bs9.cell (i := 5) rfl
          have d6 := bs9.cell (i := 6) rfl
          clear bm9 bs9 hb9
          go_wp2_with fail
          go_ret
          exact ⟨rfl, H9.out⟩

set_option maxRecDepth 100000 in
set_option maxHeartbeats 6400000 in
theorem imageSets_true (D : Dr) (hdp : D.deep = true) (hd : D.Ok) (A : Option Addr) (cA : Nat) (an bn n0 n1 n2 n3 : Nat) (ha : an ≤ 255) (hb : bn ≤ 255) (h0 : n0 ≤ 65535) (h1 : n1 ≤ 65535) (h2 : n2 ≤ 65535) (h3 : n3 ≤ 65535) (w : World) (hvs : Cs w .u16 A D.vs) :
    Calls Try.prog 7 #[D.v A cA, .agg #[.int .u8 (an : Nat), .int .u8 (bn : Nat)], .agg #[.int .u16 (n0 : Nat), .int .u16 (n1 : Nat), .int .u16 (n2 : Nat), .int .u16 (n3 : Nat)]] w fun e w' => e = .returned (.bool true) ∧ Below w.heap.size w w' := by
  have HIm := Lib.hid (fun W (h : Cs W .u16 A D.vs) => image_calls D hd A cA W h)
  have HVS := Lib.hid hvs
  obtain ⟨p0, p1, p2, p3, p4, p5, nn, hvD⟩ : ∃ p0 p1 p2 p3 p4 p5 n, D.v A cA = .agg #[.int .u8 p0, .int .u8 p1, .int .u8 p2, .int .u8 p3, .bool p4, .bool p5, .slice A n cA] := ⟨_, _, _, _, _, _, _, rfl⟩
  obtain ⟨L, hL⟩ : ∃ L, D.lay D.ch = L := ⟨_, rfl⟩
  obtain ⟨f, hf⟩ : ∃ f, D.smp D.ch = f := ⟨_, rfl⟩
  have hok : L.Ok := by rw [← hL]; exact Dr.ok D.ch1 D.ch4
  have hbd : Bd L f := by rw [← hL, ← hf]; exact D.bd _
  have hk : L.k = 2 := by rw [← hL]; show (if D.deep then 2 else 1) = _; rw [hdp]; rfl
  have him : D.image = img L f := by rw [← hL, ← hf]; rfl
  obtain ⟨vsD, hvsD⟩ : ∃ q, D.vs = q := ⟨_, rfl⟩
  rw [him, hvD, hvsD] at HIm
  rw [hvD]
  rw [hvsD] at HVS
  clear hL hf hdp him hvD hvsD hvs hd
  obtain ⟨LW, hLW⟩ : ∃ q, L.W = q := ⟨_, rfl⟩
  obtain ⟨LH, hLH⟩ : ∃ q, L.H = q := ⟨_, rfl⟩
  obtain ⟨LC, hLC⟩ : ∃ q, L.C = q := ⟨_, rfl⟩
  obtain ⟨Lp, hLp⟩ : ∃ q, L.P = q := ⟨_, rfl⟩
  obtain ⟨pd, hpd⟩ : ∃ q, L.pd = q := ⟨_, rfl⟩
  obtain ⟨O, hO⟩ : ∃ O : ByteArray, (⟨(octs L f).toArray⟩ : ByteArray) = O := ⟨_, rfl⟩
  have hiv : ∀ g (O : ByteArray), (⟨(octs L g).toArray⟩ : ByteArray) = O → (img L g).v = .agg #[.int .i64 (LW : Nat), .int .i64 (LH : Nat), .int .i64 (LC : Nat), .int .i64 16, .bool Lp, .int .i64 (pd : Nat), .string O] := by
    intro g O hO
    rw [← hO, ← hLW, ← hLH, ← hLC, ← hLp, ← hpd]
    unfold Im.v img
    simp [hk]
  have hw1 := hok.w1; have hw2 := hok.w2; have hh1 := hok.h1; have hh2 := hok.h2; have hc1 := hok.c1; have hc2 := hok.c2
  rw [hLW] at hw1 hw2; rw [hLH] at hh1 hh2; rw [hLC] at hc1 hc2
  obtain ⟨X, hX⟩ : ∃ X, an % LW = X := ⟨_, rfl⟩
  obtain ⟨Y, hY⟩ : ∃ Y, bn % LH = Y := ⟨_, rfl⟩
  have hXl : X < LW := by rw [← hX]; exact Nat.mod_lt _ (by omega)
  have hYl : Y < LH := by rw [← hY]; exact Nat.mod_lt _ (by omega)
  have hti : Int.tmod (an : Int) (LW : Int) = (X : Int) := by rw [Int.tmod_eq_emod_of_nonneg (by omega), ← hX]; simp
  have htk : Int.tmod (bn : Int) (LH : Int) = (Y : Int) := by rw [Int.tmod_eq_emod_of_nonneg (by omega), ← hY]; simp
  obtain ⟨kN, hkN⟩ : ∃ kN : Nat → Nat, kN = fun c => [n0, n1, n2, n3].getD c 0 % 65536 := ⟨_, rfl⟩
  have hkb : ∀ c, kN c < 2 ^ (8 * L.k) := by intro c; rw [hkN, hk]; exact Nat.mod_lt _ (by decide)
  have hset := img_set hok hbd (X := X) (Y := Y) (by omega) (by omega) hkb
  have hgb := setN_bd hbd X Y hkb
  obtain ⟨Og, hOg⟩ : ∃ O : ByteArray, (⟨(octs L (setN f X Y kN)).toArray⟩ : ByteArray) = O := ⟨_, rfl⟩
  have hsv := hiv f O hO
  have hmv := hiv _ Og hOg
  rw [hsv] at HIm
  have HSet := Lib.hid (fun (V : Option Addr) (ca : Nat) (W : World) h1 h2 h3 => set_calls (img L f) (X : Nat) (Y : Nat) V ca ((List.range LC).map fun c => (kN c : Int)) W h1 h2 h3)
  rw [hLC] at hset
  rw [hset, hsv, hmv, List.length_map, List.length_range] at HSet
  have HChk := Lib.hid (fun W => check_calls (img L (setN f X Y kN)) W)
  rw [img_check hok, hmv] at HChk
  have hGet : ∀ (x y : Nat) (W : World), x < LW → y < LH → Calls Try.prog 14 #[.agg #[.int .i64 (LW : Nat), .int .i64 (LH : Nat), .int .i64 (LC : Nat), .int .i64 16, .bool Lp, .int .i64 (pd : Nat), .string O], .int .i64 (x : Nat), .int .i64 (y : Nat)] W fun e w' => ∃ V k, e = .returned (.tuple #[.slice V LC k, .int .i64 0]) ∧ Cs w' .i64 V ((List.range LC).map fun c => (f x y c : Int)) ∧ Below W.heap.size W w' := (fun x y W hx hy => by
    have h := get_calls (img L f) (x : Nat) (y : Nat) W
    rw [img_get hok hbd (by omega) (by omega), hsv, hLC] at h
    refine h.mono ?_
    rintro e w' ⟨v, rfl, ⟨V, k, rfl, hc, _, _⟩, hb⟩
    rw [List.length_map, List.length_range]
    exact ⟨V, k, rfl, hc, hb⟩)
  have hGetM : ∀ (x y : Nat) (W : World), x < LW → y < LH → Calls Try.prog 14 #[.agg #[.int .i64 (LW : Nat), .int .i64 (LH : Nat), .int .i64 (LC : Nat), .int .i64 16, .bool Lp, .int .i64 (pd : Nat), .string Og], .int .i64 (x : Nat), .int .i64 (y : Nat)] W fun e w' => ∃ V k, e = .returned (.tuple #[.slice V LC k, .int .i64 0]) ∧ Cs w' .i64 V ((List.range LC).map fun c => (setN f X Y kN x y c : Int)) ∧ Below W.heap.size W w' := (fun x y W hx hy => by
    have h := get_calls (img L (setN f X Y kN)) (x : Nat) (y : Nat) W
    rw [img_get hok hgb (by omega) (by omega), hmv, hLC] at h
    refine h.mono ?_
    rintro e w' ⟨v, rfl, ⟨V, k, rfl, hc, _, _⟩, hb⟩
    rw [List.length_map, List.length_range]
    exact ⟨V, k, rfl, hc, hb⟩)
  have HGet := Lib.hid hGet
  have HGetM := Lib.hid hGetM
  clear hGet hGetM
  have hlw0 : ¬ LW = 0 := by omega
  have hlh0 : ¬ LH = 0 := by omega
  have hwa : IntKind.i64.wrap (an : Int) = (an : Int) := wrap_id (by omega)
  have hwb : IntKind.i64.wrap (bn : Int) = (bn : Int) := wrap_id (by omega)
  have HNum := Lib.hid (And.intro (show LW ≤ 64 by omega) (And.intro (show LH ≤ 64 by omega) (And.intro (show 1 ≤ LC ∧ LC ≤ 4 by omega) (And.intro (And.intro hXl hYl) (show LC ≤ 9223372036854775807 by omega)))))
  have HKN := Lib.hid hkN
  have HN := Lib.hid (And.intro h0 (And.intro h1 (And.intro h2 h3)))
  clear hset hgb hsv hmv hiv hO hOg hkN hkb hX hY hbd hok hk hLW hLH hLC hLp hpd hw1 hw2 hh1 hh2 hc1 hc2 ha hb h0 h1 h2 h3 hXl hYl
  go_enter Try.func7, Try.ntmps7
  go_upto_region 1 with fail
  refine wp_named ?_
  intro w1 hw1
  have bd : Blk w1 w.heap.size [.int .u8 p0, .int .u8 p1, .int .u8 p2, .int .u8 p3, .bool p4, .bool p5, .slice A nn cA] 52 := by rw [hw1]; exact ((Blk.new _ _ _).alloc _).alloc _
  have ba : Blk w1 (w.heap.size + 1) [.int .u8 (an : Nat), .int .u8 (bn : Nat)] 62 := by rw [hw1]; exact (Blk.at (by simp)).alloc _
  have bv : Blk w1 (w.heap.size + 2) [.int .u16 (n0 : Nat), .int .u16 (n1 : Nat), .int .u16 (n2 : Nat), .int .u16 (n3 : Nat)] 63 := by rw [hw1]; exact Blk.at (by simp)
  have hb1 : Below w.heap.size w w1 := by rw [hw1]; repeat (first | exact below_alloc _ | refine below_trans ?_ (below_alloc _))
  have HB := Lib.hid (And.intro bd (And.intro ba (And.intro bv hb1)))
  clear hw1 bd ba bv hb1
  go_wp2_with fail
  refine (wakes_calls w1).mono ?_
  rintro r w2 ⟨rfl, hb2⟩
  have HB2 := Lib.hid (And.intro (HB.out.1.kept hb2) (And.intro (HB.out.2.1.kept hb2) (And.intro (HB.out.2.2.1.kept hb2) (below_trans HB.out.2.2.2 hb2))))
  have bd := HB2.out.1
  have c0 := bd.cell (i := 0) rfl
  have c1 := bd.cell (i := 1) rfl
  have c2 := bd.cell (i := 2) rfl
  have c3 := bd.cell (i := 3) rfl
  have c4 := bd.cell (i := 4) rfl
  have c5 := bd.cell (i := 5) rfl
  have c6 := bd.cell (i := 6) rfl
  clear hb2 HB bd
  go_wp2_with fail
  refine (HIm.out w2 (HVS.out.kept HB2.out.2.2.2)).mono ?_
  rintro r w3 ⟨rfl, hb3⟩
  have HB3 := Lib.hid (And.intro (HB2.out.2.1.kept hb3) (And.intro (HB2.out.2.2.1.kept hb3) (below_trans HB2.out.2.2.2 hb3)))
  clear hb3 HB2 HIm HVS c0 c1 c2 c3 c4 c5 c6
  go_upto_region 4 with fail
  refine wp_named ?_
  intro w4 hw4
  have bs : Blk w4 w3.heap.size [.int .i64 (LW : Nat), .int .i64 (LH : Nat), .int .i64 (LC : Nat), .int .i64 16, .bool Lp, .int .i64 (pd : Nat), .string O] 24 := by rw [hw4]; exact Blk.at rfl
  have hb4 : Below w3.heap.size w3 w4 := by rw [hw4]; repeat (first | exact below_alloc _ | refine below_trans ?_ (below_alloc _))
  obtain ⟨sb, hsb⟩ : ∃ q, w3.heap.size = q := ⟨_, rfl⟩
  have HI4 := Lib.hid (And.intro (SetI.mk (w := w) (HB3.out.2.1.kept hb4) bs (below_trans HB3.out.2.2 hb4)) (HB3.out.1.kept hb4))
  rw [hsb] at HI4 ⊢
  clear hw4 bs hb4 hsb HB3
  have ba := HI4.out.2
  have bs := HI4.out.1.s
  have a0 := ba.cell (i := 0) rfl
  have a1 := ba.cell (i := 1) rfl
  have c0 := bs.cell (i := 0) rfl
  have c1 := bs.cell (i := 1) rfl
  have c2 := bs.cell (i := 2) rfl
  have c3 := bs.cell (i := 3) rfl
  have c4 := bs.cell (i := 4) rfl
  have c5 := bs.cell (i := 5) rfl
  have c6 := bs.cell (i := 6) rfl
  clear ba bs
  refine wp_seq_all (fun _ => false) (fun _ _ => undef) (fun _ _ _ => True) (by kernel_rfl) (by kernel_rfl) (fun _ _ _ _ _ h => h) ?_
  repeat (first | (refine seq_skip (by rfl) ?_; simp only [Act.put, List.setIfInBounds_toArray, List.set_cons_zero, List.set_cons_succ, Nat.reduceAdd]) | (refine seq_pure (v := ?_) (by rfl) (by rfl) (fun W hW hC => ?_) ?_; rotate_left; (go_simp <;> with_reducible rfl); simp only [Act.put, List.setIfInBounds_toArray, List.set_cons_zero, List.set_cons_succ, Nat.reduceAdd]))
  refine seq_nil ?_; intro W hW hF
  clear hF c0 c1 c2 c3 c4 c5 c6 a0 a1 hti htk hlw0 hlh0 hwa hwb
  have HI5 := Lib.hid (HI4.out.1.kept hW)
  have bs := HI5.out.s
  have c2 := bs.cell (i := 2) rfl
  clear hW HI4 bs
  simp only [show IntKind.i64.wrap 65536 = (65536 : Int) by decide +kernel]
  go_wp2_with fail
  clear c2
  go_loopw [11, 42] (fun v cc wr => ∃ j : Nat, j ≤ LC ∧ cc = .int .i64 j ∧ (∃ A' k', v = .slice A' j k' ∧ Own wr w.heap.size (.slice A' j k') ((List.range j).map fun c => (kN c : Int))) ∧ SetI w [.int .u16 (n0 : Nat), .int .u16 (n1 : Nat), .int .u16 (n2 : Nat), .int .u16 (n3 : Nat)] [.int .i64 (LW : Nat), .int .i64 (LH : Nat), .int .i64 (LC : Nat), .int .i64 16, .bool Lp, .int .i64 (pd : Nat), .string O] sb wr) (fun _ cc _ => LC - (intOf cc).toNat)
  case atStart => exact ⟨0, Nat.zero_le _, rfl, ⟨none, 0, rfl, Own.nil _ _⟩, HI5.out⟩
  case round =>
    obtain ⟨j, hj0, rfl, ⟨A', k', rfl, how⟩, hI⟩ := hrel
    by_cases hjt : j < LC
    · have hwj : wrap64 ((j : Int) + 1) = ((j + 1 : Nat) : Int) := by have := HNum.out; unfold wrap64; omega
      have hj4 : j < 4 := by have := HNum.out; omega
      obtain ⟨u, hu⟩ : ∃ u, [n0, n1, n2, n3][j]? = some u := ⟨_, List.getElem?_eq_getElem (by simpa using hj4)⟩
      have hu1 : u ≤ 65535 := by
        have := HN.out
        rcases (show j = 0 ∨ j = 1 ∨ j = 2 ∨ j = 3 by omega) with rfl | rfl | rfl | rfl <;> simp at hu <;> omega
      have huc := hI.val.cell (i := j) (v := .int .u16 (u : Nat)) (by
        rcases (show j = 0 ∨ j = 1 ∨ j = 2 ∨ j = 3 by omega) with rfl | rfl | rfl | rfl <;> simp at hu <;> simp [hu])
      obtain ⟨kv, hkv⟩ : ∃ q, u % 65536 = q := ⟨_, rfl⟩
      have hdk : kN j = kv := by rw [HKN.out]; dsimp only; rw [List.getD_eq_getElem?_getD, hu]; exact hkv
      have htm2 : Int.tmod (u : Int) 65536 = (kv : Int) := by rw [Int.tmod_eq_emod_of_nonneg (by omega), ← hkv]; simp
      have hem : (u : Int) % 65536 = (kv : Int) := by omega
      have hcu : IntKind.i64.wrap (u : Int) = (u : Int) := wrap_id (by omega)
      have hkvw : IntKind.i64.wrap (kv : Int) = (kv : Int) := wrap_id (by omega)
      have HDK := Lib.hid hdk
      have HI6 := Lib.hid (And.intro how hI)
      have HA := Lib.hid (And.intro (HI6.out.1.kept (below_alloc (.cells #[.int .i64 (kv : Nat)] 3))) (one_cs wr (kv : Nat)))
      have hpush : ∀ v' w7, Own w7 w.heap.size v' (((List.range j).map fun c => (kN c : Int)) ++ [(((kv : Nat) : Int))]) → (wr.alloc (.cells #[.int .i64 (kv : Nat)] 3)).grownBy w7 (Value.slice A' j k').ownBlock →
          ∃ A2 k2, v' = .slice A2 (j + 1) k2 ∧ (Own w7 w.heap.size (.slice A2 (j + 1) k2) ((List.range (j + 1)).map fun c => (kN c : Int)) ∧ SetI w [.int .u16 (n0 : Nat), .int .u16 (n1 : Nat), .int .u16 (n2 : Nat), .int .u16 (n3 : Nat)] [.int .i64 (LW : Nat), .int .i64 (LH : Nat), .int .i64 (LC : Nat), .int .i64 16, .bool Lp, .int .i64 (pd : Nat), .string O] sb w7) := by
        intro v' w7 ho hg
        have e : ((List.range (j + 1)).map fun c => (kN c : Int)) = ((List.range j).map fun c => (kN c : Int)) ++ [(((kv : Nat) : Int))] := by rw [List.range_succ, List.map_append]; simp [HDK.out]
        obtain ⟨A2, k2, hv', _, _, _, _⟩ := ho.cs
        rw [← e, List.length_map, List.length_range] at hv'
        subst hv'
        exact ⟨A2, k2, rfl, by rw [e]; exact ho, (HI6.out.2.kept (below_alloc _)).grown HA.out.1 hg (Nat.le_refl _)⟩
      have HPU := Lib.hid hpush
      have hszw : w.heap.size ≤ wr.heap.size := HI6.out.2.below.size
      have HSZ := Lib.hid hszw
      clear hpush hszw hu hdk hkv how hI
      go_upto_region 10 with (at_builtin; (refine append_ints rfl _ _ rfl w.heap.size (.slice A' j k') ((List.range j).map fun c => (kN c : Int)) rfl HA.out.1 (some ⟨wr.heap.size, 0, none⟩) 1 [(((kv : Nat) : Int))] rfl HA.out.2 (fun h => by cases h) (by have := HNum.out; simp only [List.length_map, List.length_range, List.length_singleton]; omega) (by have := HSZ.out; simp only [World.size_alloc]; omega) ?_); intro v' w7 ho hg; obtain ⟨A2, k2, rfl, hI5⟩ := HPU.out v' w7 ho hg; have HI7 := Lib.hid hI5; clear ho hg hI5)
      go_wp2_with fail
      go_roundw
      case rel => exact ⟨j + 1, by omega, by go_num, ⟨A2, k2, rfl, HI7.out.1⟩, HI7.out.2⟩
      case measure => exact meas rfl (by go_num) hjt
    · have hjc : LC = j := by omega
      subst hjc
      have hcs2 := how.cs2
      obtain ⟨V, hV⟩ : ∃ q, A' = q := ⟨_, rfl⟩
      obtain ⟨kV, hkV⟩ : ∃ q, k' = q := ⟨_, rfl⟩
      rw [hV] at hcs2 ⊢
      rw [hkV]
      have hs := hI.s
      have c0 := hs.cell (i := 0) rfl
      have c1 := hs.cell (i := 1) rfl
      have c2 := hs.cell (i := 2) rfl
      have c3 := hs.cell (i := 3) rfl
      have c4 := hs.cell (i := 4) rfl
      have c5 := hs.cell (i := 5) rfl
      have c6 := hs.cell (i := 6) rfl
      have HI6 := Lib.hid (And.intro hI.s (And.intro hI.below (And.intro hcs2.1 (hcs2.2 (by rw [List.length_map, List.length_range]; exact HNum.out.2.2.1.1)))))
      clear hs hI how hcs2 hV hkV HI5 hjt
      go_wp2_with fail
      refine (HSet.out V kV wr HI6.out.2.2.1 HNum.out.2.2.2.2 HI6.out.2.2.2).mono ?_
      rintro r w5 ⟨rfl, hb5⟩
      have HI7 := Lib.hid (And.intro (HI6.out.1.kept hb5) (And.intro (below_trans HI6.out.2.1 hb5) (HI6.out.2.2.1.kept hb5)))
      clear c0 c1 c2 c3 c4 c5 c6 hb5 HI6 HSet
      go_upto_region 12 with fail
      refine wp_named ?_
      intro w6 hw6
      have bm : Blk w6 w5.heap.size [.int .i64 (LW : Nat), .int .i64 (LH : Nat), .int .i64 (LC : Nat), .int .i64 16, .bool Lp, .int .i64 (pd : Nat), .string Og] 24 := by rw [hw6]; exact Blk.at rfl
      have hb6 : Below w5.heap.size w5 w6 := by rw [hw6]; repeat (first | exact below_alloc _ | refine below_trans ?_ (below_alloc _))
      obtain ⟨mb, hmb⟩ : ∃ q, w5.heap.size = q := ⟨_, rfl⟩
      have hsm : sb < mb := by rw [← hmb]; exact HI7.out.1.lt
      have hwm : w.heap.size ≤ mb := by rw [← hmb]; exact HI7.out.2.1.size
      rw [hmb] at bm ⊢
      have HM := Lib.hid (And.intro hsm hwm)
      have HJ := Lib.hid (SetJ.mk (w := w) bm (HI7.out.1.kept hb6) (HI7.out.2.2.kept hb6) (below_trans HI7.out.2.1 hb6))
      have c0 := bm.cell (i := 0) rfl
      have c1 := bm.cell (i := 1) rfl
      have c2 := bm.cell (i := 2) rfl
      have c3 := bm.cell (i := 3) rfl
      have c4 := bm.cell (i := 4) rfl
      have c5 := bm.cell (i := 5) rfl
      have c6 := bm.cell (i := 6) rfl
      clear hw6 bm hb6 hmb HI7 hsm hwm
      go_wp2_with fail
      refine (HChk.out w6).mono ?_
      rintro r w7 ⟨rfl, hb7⟩
      have HJ7 := Lib.hid (HJ.out.kept hb7)
      have bs := HJ7.out.s
      clear c0 c1 c2 c3 c4 c5 c6 hb7 HJ HChk
      have c1 := bs.cell (i := 1) rfl
      clear bs
      go_wp2_with fail
      clear c1
      go_loopw [72] (fun yy wr => ∃ y : Nat, y ≤ LH ∧ yy = .int .i64 y ∧ SetJ w [.int .i64 (LW : Nat), .int .i64 (LH : Nat), .int .i64 (LC : Nat), .int .i64 16, .bool Lp, .int .i64 (pd : Nat), .string Og] [.int .i64 (LW : Nat), .int .i64 (LH : Nat), .int .i64 (LC : Nat), .int .i64 16, .bool Lp, .int .i64 (pd : Nat), .string O] mb sb V ((List.range LC).map fun c => (kN c : Int)) wr) (fun yy _ => LH - (intOf yy).toNat)
      case atStart => exact ⟨0, Nat.zero_le _, rfl, HJ7.out⟩
      case round =>
        obtain ⟨y, hy0, rfl, hJ⟩ := hrel
        by_cases hyt : y < LH
        · have hwy : wrap64 ((y : Int) + 1) = ((y + 1 : Nat) : Int) := by have := HNum.out; unfold wrap64; omega
          have bs := hJ.s
          have HJ8 := Lib.hid hJ
          have c0 := bs.cell (i := 0) rfl
          clear bs hJ HJ7
          go_wp2_with fail
          clear c0
          go_loopw [77] (fun xx wr => ∃ x : Nat, x ≤ LW ∧ xx = .int .i64 x ∧ SetJ w [.int .i64 (LW : Nat), .int .i64 (LH : Nat), .int .i64 (LC : Nat), .int .i64 16, .bool Lp, .int .i64 (pd : Nat), .string Og] [.int .i64 (LW : Nat), .int .i64 (LH : Nat), .int .i64 (LC : Nat), .int .i64 16, .bool Lp, .int .i64 (pd : Nat), .string O] mb sb V ((List.range LC).map fun c => (kN c : Int)) wr) (fun xx _ => LW - (intOf xx).toNat)
          case atStart => exact ⟨0, Nat.zero_le _, rfl, HJ8.out⟩
          case round =>
            obtain ⟨x, hx0, rfl, hJ⟩ := hrel
            by_cases hxt : x < LW
            · have hwx : wrap64 ((x : Int) + 1) = ((x + 1 : Nat) : Int) := by have := HNum.out; unfold wrap64; omega
              have bs := hJ.s
              have c0 := bs.cell (i := 0) rfl
              have c1 := bs.cell (i := 1) rfl
              have c2 := bs.cell (i := 2) rfl
              have c3 := bs.cell (i := 3) rfl
              have c4 := bs.cell (i := 4) rfl
              have c5 := bs.cell (i := 5) rfl
              have c6 := bs.cell (i := 6) rfl
              have HJ9 := Lib.hid hJ
              clear bs hJ HJ8
              go_wp2_with fail
              refine (HGet.out x y wr hxt hyt).mono ?_
              rintro r w7 ⟨A7, k7, rfl, hc7, hb7⟩
              have HJ10 := Lib.hid (And.intro hc7 (HJ9.out.kept hb7))
              have bm := HJ10.out.2.m
              clear c0 c1 c2 c3 c4 c5 c6 hc7 hb7 HJ9
              have c0 := bm.cell (i := 0) rfl
              have c1 := bm.cell (i := 1) rfl
              have c2 := bm.cell (i := 2) rfl
              have c3 := bm.cell (i := 3) rfl
              have c4 := bm.cell (i := 4) rfl
              have c5 := bm.cell (i := 5) rfl
              have c6 := bm.cell (i := 6) rfl
              clear bm
              go_wp2_with fail
              refine (HGetM.out x y w7 hxt hyt).mono ?_
              rintro r w8 ⟨A8, k8, rfl, hc8, hb8⟩
              have HR := Lib.hid (And.intro (HJ10.out.1.kept hb8) (And.intro hc8 (HJ10.out.2.kept hb8)))
              clear c0 c1 c2 c3 c4 c5 c6 hc8 hb8 HJ10
              by_cases hxX : x = X
              · by_cases hyY : y = Y
                · subst hxX
                  subst hyY
                  have HEq := Lib.hid (equal_calls V A8 kV k8 ((List.range LC).map fun c => (kN c : Int)) ((List.range LC).map fun c => (setN f x y kN x y c : Int)) w8 HR.out.2.2.v HR.out.2.1 (by rw [List.length_map, List.length_range]; exact HNum.out.2.2.2.2) (by rw [List.length_map, List.length_range]; exact HNum.out.2.2.2.2))
                  rw [decide_eq_true (show ((List.range LC).map fun c => (kN c : Int)) = (List.range LC).map fun c => (setN f x y kN x y c : Int) from List.map_congr_left fun c _ => by unfold setN; rw [if_pos ⟨rfl, rfl⟩]), List.length_map, List.length_map, List.length_range] at HEq
                  go_wp2_with fail
                  refine HEq.out.mono ?_
                  rintro r w9 ⟨rfl, hb9⟩
                  have HJ9 := Lib.hid (HR.out.2.2.kept hb9)
                  clear hb9 HEq HR
                  go_wp2_with fail
                  go_roundw
                  case rel => exact ⟨x + 1, by omega, by go_num, HJ9.out⟩
                  case measure => exact meas rfl (by go_num) hxt
                · subst hxX
                  have hyI : ¬ (y : Int) = (Y : Int) := by omega
                  have HEq := Lib.hid (equal_calls A7 A8 k7 k8 ((List.range LC).map fun c => (f x y c : Int)) ((List.range LC).map fun c => (setN f x Y kN x y c : Int)) w8 HR.out.1 HR.out.2.1 (by rw [List.length_map, List.length_range]; exact HNum.out.2.2.2.2) (by rw [List.length_map, List.length_range]; exact HNum.out.2.2.2.2))
                  rw [decide_eq_true (show ((List.range LC).map fun c => (f x y c : Int)) = (List.range LC).map fun c => (setN f x Y kN x y c : Int) from List.map_congr_left fun c _ => by unfold setN; rw [if_neg (fun h => hyY h.2)]), List.length_map, List.length_map, List.length_range] at HEq
                  go_wp2_with fail
                  refine HEq.out.mono ?_
                  rintro r w9 ⟨rfl, hb9⟩
                  have HJ9 := Lib.hid (HR.out.2.2.kept hb9)
                  clear hb9 HEq HR
                  go_wp2_with fail
                  go_roundw
                  case rel => exact ⟨x + 1, by omega, by go_num, HJ9.out⟩
                  case measure => exact meas rfl (by go_num) hxt
              · have hxI : ¬ (x : Int) = (X : Int) := by omega
                have HEq := Lib.hid (equal_calls A7 A8 k7 k8 ((List.range LC).map fun c => (f x y c : Int)) ((List.range LC).map fun c => (setN f X Y kN x y c : Int)) w8 HR.out.1 HR.out.2.1 (by rw [List.length_map, List.length_range]; exact HNum.out.2.2.2.2) (by rw [List.length_map, List.length_range]; exact HNum.out.2.2.2.2))
                rw [decide_eq_true (show ((List.range LC).map fun c => (f x y c : Int)) = (List.range LC).map fun c => (setN f X Y kN x y c : Int) from List.map_congr_left fun c _ => by unfold setN; rw [if_neg (fun h => hxX h.1)]), List.length_map, List.length_map, List.length_range] at HEq
                go_wp2_with fail
                refine HEq.out.mono ?_
                rintro r w9 ⟨rfl, hb9⟩
                have HJ9 := Lib.hid (HR.out.2.2.kept hb9)
                clear hb9 HEq HR
                go_wp2_with fail
                go_roundw
                case rel => exact ⟨x + 1, by omega, by go_num, HJ9.out⟩
                case measure => exact meas rfl (by go_num) hxt
            · have hxc : x = LW := by omega
              have HJ9 := Lib.hid hJ
              clear hJ HJ8
              go_wp2_with fail
              go_roundw
              case rel => exact ⟨y + 1, by omega, by go_num, HJ9.out⟩
              case measure => exact meas rfl (by go_num) hyt
        · have bm := hJ.m
          have f6 := bm.free 6
          have m6 := bm.cell (i := 6) rfl
          have bs := hJ.s
          have c0 := bs.cell (i := 0) rfl
          have c1 := bs.cell (i := 1) rfl
          have c2 := bs.cell (i := 2) rfl
          have c3 := bs.cell (i := 3) rfl
          have c4 := bs.cell (i := 4) rfl
          have c5 := bs.cell (i := 5) rfl
          have c6 := bs.cell (i := 6) rfl
          have HJ8 := Lib.hid hJ
          clear hJ bs bm HJ7
          go_upto_region 29 with fail
          refine wp_named ?_
          intro w9 hw9
          have bm9 : Blk w9 mb [.int .i64 (LW : Nat), .int .i64 (LH : Nat), .int .i64 (LC : Nat), .int .i64 16, .bool Lp, .int .i64 (pd : Nat), .string O] 24 := by rw [hw9]; exact HJ8.out.m.set 6 _
          have bs9 : Blk w9 sb [.int .i64 (LW : Nat), .int .i64 (LH : Nat), .int .i64 (LC : Nat), .int .i64 16, .bool Lp, .int .i64 (pd : Nat), .string O] 24 := by
            rw [hw9]
            have h := HJ8.out.s
            unfold Blk at *
            rw [Below.heap_setCell _ _ _ _ (by have := HM.out; show sb ≠ mb; omega)]
            exact h
          have hb9 : Below w.heap.size w w9 := by rw [hw9]; exact HJ8.out.below.setCell (p := ⟨mb, 6, none⟩) HM.out.2 _
          have H9 := Lib.hid hb9
          clear c0 c1 c2 c3 c4 c5 c6 f6 m6 hw9 HJ8
          have c0 := bm9.cell (i := 0) rfl
          have c1 := bm9.cell (i := 1) rfl
          have c2 := bm9.cell (i := 2) rfl
          have c3 := bm9.cell (i := 3) rfl
          have c4 := bm9.cell (i := 4) rfl
          have c5 := bm9.cell (i := 5) rfl
          have c6 := bm9.cell (i := 6) rfl
          have d0 := bs9.cell (i := 0) rfl
          have d1 := bs9.cell (i := 1) rfl
          have d2 := bs9.cell (i := 2) rfl
          have d3 := bs9.cell (i := 3) rfl
          have d4 := bs9.cell (i := 4) rfl
          have d5 := bs9.cell (i := 5) rfl
          have d6 := bs9.cell (i := 6) rfl
          clear bm9 bs9 hb9
          go_wp2_with fail
          go_ret
          exact ⟨rfl, H9.out⟩

theorem imageSets_calls (D : Dr) (A : Option Addr) (cA : Nat) (a b v0 v1 v2 v3 : Int) (w : World) (hd : D.Ok) (hvs : Cs w .u16 A D.vs) (ha : 0 ≤ a ∧ a ≤ 255) (hb : 0 ≤ b ∧ b ≤ 255) (h0 : 0 ≤ v0 ∧ v0 ≤ 65535) (h1 : 0 ≤ v1 ∧ v1 ≤ 65535) (h2 : 0 ≤ v2 ∧ v2 ≤ 65535) (h3 : 0 ≤ v3 ∧ v3 ≤ 65535) :
    Calls Try.prog 7 #[D.v A cA, .agg #[.int .u8 a, .int .u8 b], .agg #[.int .u16 v0, .int .u16 v1, .int .u16 v2, .int .u16 v3]] w fun e w' => e = .returned (.bool true) ∧ Below w.heap.size w w' := by
  obtain ⟨an, rfl⟩ := Int.eq_ofNat_of_zero_le ha.1
  obtain ⟨bn, rfl⟩ := Int.eq_ofNat_of_zero_le hb.1
  obtain ⟨n0, rfl⟩ := Int.eq_ofNat_of_zero_le h0.1
  obtain ⟨n1, rfl⟩ := Int.eq_ofNat_of_zero_le h1.1
  obtain ⟨n2, rfl⟩ := Int.eq_ofNat_of_zero_le h2.1
  obtain ⟨n3, rfl⟩ := Int.eq_ofNat_of_zero_le h3.1
  cases hdp : D.deep
  · exact imageSets_false D hdp hd A cA an bn n0 n1 n2 n3 (by omega) (by omega) (by omega) (by omega) (by omega) (by omega) w hvs
  · exact imageSets_true D hdp hd A cA an bn n0 n1 n2 n3 (by omega) (by omega) (by omega) (by omega) (by omega) (by omega) w hvs
end Go.Proofs.Ytpgkhhdobolfbaa
