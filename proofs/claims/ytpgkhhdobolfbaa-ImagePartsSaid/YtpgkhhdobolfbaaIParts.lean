/-
  The law ImageParts, walked.
-/
import Derived.Test.YtpgkhhdobolfbaaIAlike
namespace Go.Proofs.Ytpgkhhdobolfbaa
set_option linter.unusedVariables false
set_option linter.unusedSimpArgs false
open Go Go.RowKit

theorem cut_ok {L : Lay} (h : L.Ok) {w v : Nat} (h1 : 1 ≤ w) (h2 : w ≤ L.W) (h3 : 1 ≤ v) (h4 : v ≤ L.H) : Lay.Ok { L with W := w, H := v } :=
  ⟨h1, Nat.le_trans h2 h.w2, h3, Nat.le_trans h4 h.h2, h.c1, h.c2, Nat.le_trans (Nat.mul_le_mul (Nat.mul_le_mul h2 h4) (Nat.le_refl _)) h.most, h.bits, h.pad⟩
theorem cut_bd {L : Lay} {f : Nat → Nat → Nat → Nat} (hb : Bd L f) {x y w v : Nat} (hx : x + w ≤ L.W) (hy : y + v ≤ L.H) : Bd { L with W := w, H := v } (fun i k c => f (x + i) (y + k) c) := by
  intro i k c hi hk hc
  have hi' : i < w := hi
  have hk' : k < v := hk
  exact hb (x + i) (y + k) c (by omega) (by omega) hc
theorem img_cut {L : Lay} (h : L.Ok) {f : Nat → Nat → Nat → Nat} (hb : Bd L f) {x y w v : Nat} (h1 : 1 ≤ w) (h2 : 1 ≤ v) (hx : x + w ≤ L.W) (hy : y + v ≤ L.H) :
    cutS (img L f) (x : Nat) (y : Nat) (w : Nat) (v : Nat) = (img { L with W := w, H := v } (fun i k c => f (x + i) (y + k) c), 0) := by
  have hin : insideB (img L f) (x : Nat) (y : Nat) (w : Nat) (v : Nat) = true :=
    decide_eq_true ⟨by omega, by omega, by omega, by show (x : Int) + w ≤ ((L.W : Nat) : Int); omega, by omega, by show (y : Int) + v ≤ ((L.H : Nat) : Int); omega⟩
  unfold cutS
  rw [if_pos (img_good h f), if_pos hin, img_lay h]
  simp only [Int.toNat_natCast]
  refine congrArg (fun m => (m, (0 : Int))) (img_congr (cut_ok h h1 (by omega) h2 (by omega)) fun i k c hi hk hc => ?_)
  have hi' : i < w := hi
  have hk' : k < v := hk
  exact img_smp h hb (by omega) (by omega) hc
theorem over_bd {L M : Lay} {f g : Nat → Nat → Nat → Nat} (hb : Bd L f) (hg : Bd M g) (hC : M.C = L.C) (hk : M.k = L.k) (x y : Nat) : Bd L (overS f g x y M.W M.H) := by
  intro i k c hi hk' hc
  unfold overS
  split
  · rw [← hk]; exact hg _ _ _ (by omega) (by omega) (by omega)
  · exact hb i k c hi hk' hc
theorem img_paste {L M : Lay} (h : L.Ok) (hM : M.Ok) {f g : Nat → Nat → Nat → Nat} (hb : Bd L f) (hg : Bd M g) (hC : M.C = L.C) (hk : M.k = L.k) {x y : Nat} (hx : x + M.W ≤ L.W) (hy : y + M.H ≤ L.H) :
    pasteS (img L f) (img M g) (x : Nat) (y : Nat) = (img L (overS f g x y M.W M.H), 0) := by
  have hw := hM.w1
  have hh := hM.h1
  have hin : insideB (img L f) (x : Nat) (y : Nat) (img M g).W (img M g).H = true :=
    decide_eq_true ⟨by show (1 : Int) ≤ ((M.W : Nat) : Int); omega, by show (1 : Int) ≤ ((M.H : Nat) : Int); omega, by omega, by show (x : Int) + ((M.W : Nat) : Int) ≤ ((L.W : Nat) : Int); omega, by omega, by show (y : Int) + ((M.H : Nat) : Int) ≤ ((L.H : Nat) : Int); omega⟩
  have hcb : decide ((img L f).C = (img M g).C ∧ (img L f).B = (img M g).B) = true := decide_eq_true ⟨by show ((L.C : Nat) : Int) = ((M.C : Nat) : Int); rw [hC], by show ((8 * L.k : Nat) : Int) = ((8 * M.k : Nat) : Int); rw [hk]⟩
  unfold pasteS
  rw [if_pos (by rw [img_good h, img_good hM]; rfl), if_pos (by rw [hcb, hin]; rfl), img_lay h, img_lay hM]
  simp only [Int.toNat_natCast]
  refine congrArg (fun m => (m, (0 : Int))) (img_congr h fun i k c hi hk' hc => ?_)
  unfold overS
  split
  · exact img_smp hM hg (by omega) (by omega) (by omega)
  · exact img_smp h hb hi hk' hc
theorem over_self {L : Lay} (h : L.Ok) (f : Nat → Nat → Nat → Nat) (x y w v : Nat) : img L (overS f (fun i k c => f (x + i) (y + k) c) x y w v) = img L f := by
  refine img_congr h fun i k c _ _ _ => ?_
  unfold overS
  split
  · show f (x + (i - x)) (y + (k - y)) c = _
    rw [show x + (i - x) = i by omega, show y + (k - y) = k by omega]
  · rfl

set_option maxRecDepth 100000 in
set_option maxHeartbeats 6400000 in
theorem imageParts_false (D E : Dr) (hdp : D.deep = false) (hd : D.Ok) (he : E.Ok) (A A2 : Option Addr) (cA cA2 : Nat) (an bn cn dn : Nat) (ha : an ≤ 255) (hb : bn ≤ 255) (hc : cn ≤ 255) (hd4 : dn ≤ 255) (w : World) (hvs : Cs w .u16 A D.vs) (hvs2 : Cs w .u16 A2 E.vs) :
    Calls Try.prog 10 #[D.v A cA, E.v A2 cA2, .agg #[.int .u8 (an : Nat), .int .u8 (bn : Nat), .int .u8 (cn : Nat), .int .u8 (dn : Nat)]] w fun e w' => e = .returned (.bool true) ∧ Below w.heap.size w w' := by
  have HIm := Lib.hid (fun W (h : Cs W .u16 A D.vs) => image_calls D hd A cA W h)
  have HVS := Lib.hid (And.intro hvs hvs2)
  have HSm := Lib.hid (fun W (h : Cs W .u16 A2 E.vs) => some_calls { E with deep := false } ⟨he.w, he.h, he.c, he.p, he.v, he.l⟩ A2 cA2 D.ch D.ch1 D.ch4 W h)
  obtain ⟨p0, p1, p2, p3, p4, p5, nn, hvD⟩ : ∃ p0 p1 p2 p3 p4 p5 n, D.v A cA = .agg #[.int .u8 p0, .int .u8 p1, .int .u8 p2, .int .u8 p3, .bool p4, .bool p5, .slice A n cA] := ⟨_, _, _, _, _, _, _, rfl⟩
  obtain ⟨e0, e1, e2, e3, e4, e5, en, hvE, hvE2⟩ : ∃ p0 p1 p2 p3 p4 p5 n, E.v A2 cA2 = .agg #[.int .u8 p0, .int .u8 p1, .int .u8 p2, .int .u8 p3, .bool p4, .bool p5, .slice A2 n cA2] ∧ ({ E with deep := false } : Dr).v A2 cA2 = .agg #[.int .u8 p0, .int .u8 p1, .int .u8 p2, .int .u8 p3, .bool false, .bool p5, .slice A2 n cA2] := ⟨_, _, _, _, _, _, _, rfl, rfl⟩
  obtain ⟨L, hL⟩ : ∃ L, D.lay D.ch = L := ⟨_, rfl⟩
  obtain ⟨f, hf⟩ : ∃ f, D.smp D.ch = f := ⟨_, rfl⟩
  obtain ⟨M, hM⟩ : ∃ L, ({ E with deep := false } : Dr).lay D.ch = L := ⟨_, rfl⟩
  obtain ⟨g, hg⟩ : ∃ f, ({ E with deep := false } : Dr).smp D.ch = f := ⟨_, rfl⟩
  have hok : L.Ok := by rw [← hL]; exact Dr.ok D.ch1 D.ch4
  have hokM : M.Ok := by rw [← hM]; exact Dr.ok D.ch1 D.ch4
  have hbd : Bd L f := by rw [← hL, ← hf]; exact D.bd _
  have hbdM : Bd M g := by rw [← hM, ← hg]; exact Dr.bd _ _
  have hk : L.k = 1 := by rw [← hL]; show (if D.deep then 2 else 1) = _; rw [hdp]; rfl
  have hkM : M.k = 1 := by rw [← hM]; rfl
  have hCL : L.C = D.ch := by rw [← hL]; rfl
  have hCM : M.C = D.ch := by rw [← hM]; rfl
  have him : D.image = img L f := by rw [← hL, ← hf]; rfl
  have hsm : ({ E with deep := false } : Dr).some D.ch = img M g := by rw [← hM, ← hg]; rfl
  obtain ⟨vsD, hvsD⟩ : ∃ q, D.vs = q := ⟨_, rfl⟩
  obtain ⟨vsE, hvsE⟩ : ∃ q, E.vs = q := ⟨_, rfl⟩
  obtain ⟨LC, hLC⟩ : ∃ q, D.ch = q := ⟨_, rfl⟩
  rw [him, hvD, hvsD] at HIm
  rw [hsm, hvE2, hvsE, hLC] at HSm
  rw [hvD, hvE]
  rw [hvsD, hvsE] at HVS
  rw [hLC] at hCL hCM
  clear hL hf hM hg hdp him hsm hvD hvE hvE2 hvsD hvsE hvs hvs2 hd he hLC
  obtain ⟨LW, hLW⟩ : ∃ q, L.W = q := ⟨_, rfl⟩
  obtain ⟨LH, hLH⟩ : ∃ q, L.H = q := ⟨_, rfl⟩
  obtain ⟨pW, hpW⟩ : ∃ q, M.W = q := ⟨_, rfl⟩
  obtain ⟨pH, hpH⟩ : ∃ q, M.H = q := ⟨_, rfl⟩
  have q1 := hok.w1; have q2 := hok.w2; have q3 := hok.h1; have q4 := hok.h2; have q5 := hokM.w1; have q6 := hokM.w2; have q7 := hokM.h1; have q8 := hokM.h2
  rw [hLW] at q1 q2; rw [hLH] at q3 q4; rw [hpW] at q5 q6; rw [hpH] at q7 q8
  obtain ⟨X, hX⟩ : ∃ X, an % LW = X := ⟨_, rfl⟩
  obtain ⟨Y, hY⟩ : ∃ Y, bn % LH = Y := ⟨_, rfl⟩
  have hXl : X < LW := by rw [← hX]; exact Nat.mod_lt _ (by omega)
  have hYl : Y < LH := by rw [← hY]; exact Nat.mod_lt _ (by omega)
  obtain ⟨DX, hDX⟩ : ∃ q, LW - X = q := ⟨_, rfl⟩
  obtain ⟨DY, hDY⟩ : ∃ q, LH - Y = q := ⟨_, rfl⟩
  obtain ⟨rX, hrX⟩ : ∃ q, cn % DX = q := ⟨_, rfl⟩
  obtain ⟨rY, hrY⟩ : ∃ q, dn % DY = q := ⟨_, rfl⟩
  have hrx : rX < DX := by rw [← hrX]; exact Nat.mod_lt _ (by omega)
  have hry : rY < DY := by rw [← hrY]; exact Nat.mod_lt _ (by omega)
  obtain ⟨w1, hw1⟩ : ∃ q, 1 + rX = q := ⟨_, rfl⟩
  obtain ⟨h1, hh1⟩ : ∃ q, 1 + rY = q := ⟨_, rfl⟩
  obtain ⟨w2, hw2⟩ : ∃ q, min pW w1 = q := ⟨_, rfl⟩
  obtain ⟨h2, hh2⟩ : ∃ q, min pH h1 = q := ⟨_, rfl⟩
  have hti : Int.tmod (an : Int) (LW : Int) = (X : Int) := by rw [Int.tmod_eq_emod_of_nonneg (by omega), ← hX]; simp
  have htk : Int.tmod (bn : Int) (LH : Int) = (Y : Int) := by rw [Int.tmod_eq_emod_of_nonneg (by omega), ← hY]; simp
  have htx : Int.tmod (cn : Int) (DX : Int) = (rX : Int) := by rw [Int.tmod_eq_emod_of_nonneg (by omega), ← hrX]; simp
  have hty : Int.tmod (dn : Int) (DY : Int) = (rY : Int) := by rw [Int.tmod_eq_emod_of_nonneg (by omega), ← hrY]; simp
  -- the images
  have hcut1 := img_cut hok hbd (x := X) (y := Y) (w := w1) (v := h1) (by omega) (by omega) (by omega) (by omega)
  have hcok := cut_ok hok (w := w1) (v := h1) (by omega) (by omega) (by omega) (by omega)
  have hcbd := cut_bd hbd (x := X) (y := Y) (w := w1) (v := h1) (by omega) (by omega)
  have hpas1 := img_paste hok hcok hbd hcbd rfl rfl (x := X) (y := Y) (by show X + w1 ≤ L.W; omega) (by show Y + h1 ≤ L.H; omega)
  rw [show img L (overS f (fun i k c => f (X + i) (Y + k) c) X Y ({ L with W := w1, H := h1 } : Lay).W ({ L with W := w1, H := h1 } : Lay).H) = img L f from over_self hok f X Y w1 h1] at hpas1
  have hcut2 := img_cut hokM hbdM (x := 0) (y := 0) (w := w2) (v := h2) (by omega) (by omega) (by omega) (by omega)
  have hqok := cut_ok hokM (w := w2) (v := h2) (by omega) (by omega) (by omega) (by omega)
  have hqbd := cut_bd hbdM (x := 0) (y := 0) (w := w2) (v := h2) (by omega) (by omega)
  obtain ⟨gq, hgq⟩ : ∃ gq : Nat → Nat → Nat → Nat, (fun i k c => g (0 + i) (0 + k) c) = gq := ⟨_, rfl⟩
  rw [hgq] at hcut2 hqbd
  have hpas2 := img_paste hok hqok hbd hqbd (by show M.C = L.C; rw [hCL, hCM]) (by show M.k = L.k; rw [hk, hkM]) (x := X) (y := Y) (by show X + w2 ≤ L.W; omega) (by show Y + h2 ≤ L.H; omega)
  have hrbd := over_bd (M := { M with W := w2, H := h2 }) hbd hqbd (by show M.C = L.C; rw [hCL, hCM]) (by show M.k = L.k; rw [hk, hkM]) X Y
  have hcut3 := img_cut hok hrbd (x := X) (y := Y) (w := w2) (v := h2) (by omega) (by omega) (by omega) (by omega)
  have htok := cut_ok hok (w := w2) (v := h2) (by omega) (by omega) (by omega) (by omega)
  have htbd := cut_bd hrbd (x := X) (y := Y) (w := w2) (v := h2) (by omega) (by omega)
  have hsame : ∀ i k c, i < w2 → k < h2 → c < L.C → (fun i k c => overS f gq X Y w2 h2 (X + i) (Y + k) c) i k c = gq i k c := by
    intro i k c hi hk _
    show overS f gq X Y w2 h2 (X + i) (Y + k) c = _
    unfold overS
    rw [if_pos (by omega), show X + i - X = i by omega, show Y + k - Y = k by omega]
  have HAl := Lib.hid (fun W => alike_calls htok hqok htbd hqbd rfl rfl (by show M.C = L.C; rw [hCL, hCM]) hsame W)
  obtain ⟨Lp, hLp⟩ : ∃ q, L.P = q := ⟨_, rfl⟩
  obtain ⟨pd, hpd⟩ : ∃ q, L.pd = q := ⟨_, rfl⟩
  obtain ⟨Mp, hMp⟩ : ∃ q, M.P = q := ⟨_, rfl⟩
  obtain ⟨md, hmd⟩ : ∃ q, M.pd = q := ⟨_, rfl⟩
  have hvS : ∀ u, ∃ O, (img L u).v = .agg #[.int .i64 (LW : Nat), .int .i64 (LH : Nat), .int .i64 (LC : Nat), .int .i64 8, .bool Lp, .int .i64 (pd : Nat), .string O] := fun u => ⟨⟨(octs L u).toArray⟩, by rw [← hLW, ← hLH, ← hCL, ← hLp, ← hpd]; unfold Im.v img; simp [hk]⟩
  have hvC : ∀ (a b : Nat) u, ∃ O, (img { L with W := a, H := b } u).v = .agg #[.int .i64 (a : Nat), .int .i64 (b : Nat), .int .i64 (LC : Nat), .int .i64 8, .bool Lp, .int .i64 (pd : Nat), .string O] := fun a b u => ⟨⟨(octs { L with W := a, H := b } u).toArray⟩, by rw [← hCL, ← hLp, ← hpd]; unfold Im.v img; simp [hk]⟩
  have hvM : ∀ u, ∃ O, (img M u).v = .agg #[.int .i64 (pW : Nat), .int .i64 (pH : Nat), .int .i64 (LC : Nat), .int .i64 8, .bool Mp, .int .i64 (md : Nat), .string O] := fun u => ⟨⟨(octs M u).toArray⟩, by rw [← hpW, ← hpH, ← hCM, ← hMp, ← hmd]; unfold Im.v img; simp [hkM]⟩
  have hvQ : ∀ (a b : Nat) u, ∃ O, (img { M with W := a, H := b } u).v = .agg #[.int .i64 (a : Nat), .int .i64 (b : Nat), .int .i64 (LC : Nat), .int .i64 8, .bool Mp, .int .i64 (md : Nat), .string O] := fun a b u => ⟨⟨(octs { M with W := a, H := b } u).toArray⟩, by rw [← hCM, ← hMp, ← hmd]; unfold Im.v img; simp [hkM]⟩
  obtain ⟨O, vS⟩ := hvS f
  obtain ⟨Oc, vC⟩ := hvC w1 h1 (fun i k c => f (X + i) (Y + k) c)
  obtain ⟨Op, vP⟩ := hvM g
  obtain ⟨Oq, vQ⟩ := hvQ w2 h2 gq
  obtain ⟨Or, vR⟩ := hvS (overS f gq X Y w2 h2)
  obtain ⟨Ot, vT⟩ := hvC w2 h2 (fun i k c => overS f gq X Y w2 h2 (X + i) (Y + k) c)
  rw [vS] at HIm
  rw [vP] at HSm
  rw [vT, vQ] at HAl
  have HC1 := Lib.hid (fun W => cut_calls (img L f) (X : Nat) (Y : Nat) (w1 : Nat) (h1 : Nat) W)
  rw [hcut1, vS, vC] at HC1
  have HP1 := Lib.hid (fun W => paste_calls (img L f) (img { L with W := w1, H := h1 } (fun i k c => f (X + i) (Y + k) c)) (X : Nat) (Y : Nat) W)
  rw [hpas1, vS, vC] at HP1
  have HC2 := Lib.hid (fun W => cut_calls (img M g) ((0 : Nat) : Int) ((0 : Nat) : Int) (w2 : Nat) (h2 : Nat) W)
  rw [hcut2, vP, vQ] at HC2
  have HP2 := Lib.hid (fun W => paste_calls (img L f) (img { M with W := w2, H := h2 } gq) (X : Nat) (Y : Nat) W)
  rw [hpas2, vS, vQ, vR] at HP2
  have HC3 := Lib.hid (fun W => cut_calls (img L (overS f gq X Y w2 h2)) (X : Nat) (Y : Nat) (w2 : Nat) (h2 : Nat) W)
  rw [hcut3, vR, vT] at HC3
  have HCh := Lib.hid (fun W => check_calls (img L (overS f gq X Y w2 h2)) W)
  rw [img_check hok, vR] at HCh
  have hlw0 : ¬ LW = 0 := by omega
  have hlh0 : ¬ LH = 0 := by omega
  have hdx0 : ¬ DX = 0 := by omega
  have hdy0 : ¬ DY = 0 := by omega
  have wa : IntKind.i64.wrap (an : Int) = (an : Int) := wrap_id (by omega)
  have wb : IntKind.i64.wrap (bn : Int) = (bn : Int) := wrap_id (by omega)
  have wc : IntKind.i64.wrap (cn : Int) = (cn : Int) := wrap_id (by omega)
  have wd : IntKind.i64.wrap (dn : Int) = (dn : Int) := wrap_id (by omega)
  have s1 : IntKind.i64.wrap ((LW : Int) - (X : Int)) = (DX : Int) := by rw [show (LW : Int) - (X : Int) = (DX : Int) by omega]; exact wrap_id (by omega)
  have s2 : IntKind.i64.wrap ((LH : Int) - (Y : Int)) = (DY : Int) := by rw [show (LH : Int) - (Y : Int) = (DY : Int) by omega]; exact wrap_id (by omega)
  have s3 : IntKind.i64.wrap (1 + (rX : Int)) = (w1 : Int) := by rw [show 1 + (rX : Int) = (w1 : Int) by omega]; exact wrap_id (by omega)
  have s4 : IntKind.i64.wrap (1 + (rY : Int)) = (h1 : Int) := by rw [show 1 + (rY : Int) = (h1 : Int) by omega]; exact wrap_id (by omega)
  have HMin := Lib.hid (show min (pW : Int) (w1 : Int) = (w2 : Int) ∧ min (pH : Int) (h1 : Int) = (h2 : Int) by omega)
  clear hcut1 hcok hcbd hpas1 hcut2 hqok hqbd hpas2 hrbd hcut3 htok htbd hsame hvS hvC hvM hvQ vS vC vP vQ vR vT hLp hpd hMp hmd hLW hLH hpW hpH q1 q2 q3 q4 q5 q6 q7 q8 hX hY hXl hYl hDX hDY hrX hrY hrx hry hw1 hh1 hw2 hh2 hok hokM hbd hbdM hk hkM hCL hCM hgq ha hb hc hd4
  go_enter Try.func10, Try.ntmps10
  go_upto_region 1 with fail
  refine wp_named ?_
  intro W0 hW0
  have bd : Blk W0 w.heap.size [.int .u8 p0, .int .u8 p1, .int .u8 p2, .int .u8 p3, .bool p4, .bool p5, .slice A nn cA] 52 := by rw [hW0]; exact ((Blk.new _ _ _).alloc _).alloc _
  have be : Blk W0 (w.heap.size + 1) [.int .u8 e0, .int .u8 e1, .int .u8 e2, .int .u8 e3, .bool e4, .bool e5, .slice A2 en cA2] 52 := by rw [hW0]; exact (Blk.at (by simp)).alloc _
  have bv : Blk W0 (w.heap.size + 2) [.int .u8 (an : Nat), .int .u8 (bn : Nat), .int .u8 (cn : Nat), .int .u8 (dn : Nat)] 72 := by rw [hW0]; exact Blk.at (by simp)
  have hb1 : Below w.heap.size w W0 := by rw [hW0]; repeat (first | exact below_alloc _ | refine below_trans ?_ (below_alloc _))
  have HB1 := Lib.hid (And.intro bd (And.intro be (And.intro bv hb1)))
  clear hW0 bd be bv hb1
  go_wp2_with fail
  refine (wakes_calls W0).mono ?_
  rintro r wa1 ⟨rfl, hbb⟩
  have HB2 := Lib.hid (And.intro (HB1.out.1.kept hbb) (And.intro (HB1.out.2.1.kept hbb) (And.intro (HB1.out.2.2.1.kept hbb) (below_trans HB1.out.2.2.2 hbb))))
  clear  hbb HB1
  have z := HB2.out.1
  have c0 := z.cell (i := 0) rfl
  have c1 := z.cell (i := 1) rfl
  have c2 := z.cell (i := 2) rfl
  have c3 := z.cell (i := 3) rfl
  have c4 := z.cell (i := 4) rfl
  have c5 := z.cell (i := 5) rfl
  have c6 := z.cell (i := 6) rfl
  clear z
  go_wp2_with fail
  refine (HIm.out wa1 (HVS.out.1.kept HB2.out.2.2.2)).mono ?_
  rintro r wa2 ⟨rfl, hbb⟩
  have HB3 := Lib.hid (And.intro (HB2.out.1.kept hbb) (And.intro (HB2.out.2.1.kept hbb) (And.intro (HB2.out.2.2.1.kept hbb) (below_trans HB2.out.2.2.2 hbb))))
  clear c0 c1 c2 c3 c4 c5 c6 hbb HB2
  have HB4 := Lib.hid (And.intro HB3.out.2.1 (And.intro HB3.out.2.2.1 HB3.out.2.2.2))
  clear HB3
  go_upto_region 4 with fail
  refine wp_named ?_
  intro wb hwb
  have bn : Blk wb wa2.heap.size [.int .i64 (LW : Nat), .int .i64 (LH : Nat), .int .i64 (LC : Nat), .int .i64 8, .bool Lp, .int .i64 (pd : Nat), .string O] 24 := by rw [hwb]; exact Blk.at rfl
  have hbb : Below wa2.heap.size wa2 wb := by rw [hwb]; repeat (first | exact below_alloc _ | refine below_trans ?_ (below_alloc _))
  obtain ⟨qs, hqs⟩ : ∃ q, wa2.heap.size = q := ⟨_, rfl⟩
  have hge : w.heap.size + 2 < qs := by rw [← hqs]; exact HB4.out.2.1.lt
  rw [hqs] at bn ⊢
  have HB5 := Lib.hid (And.intro (HB4.out.1.kept hbb) (And.intro (HB4.out.2.1.kept hbb) (And.intro bn (below_trans HB4.out.2.2 hbb))))
  have HGs := Lib.hid hge
  obtain ⟨W5, hW⟩ : ∃ W, W = wb := ⟨_, rfl⟩
  rw [← hW] at HB5 ⊢
  clear hwb bn hbb hge hqs hW HB4 wb
  have v0 := HB5.out.2.1.cell (i := 0) rfl
  have v1 := HB5.out.2.1.cell (i := 1) rfl
  have c0 := HB5.out.2.2.1.cell (i := 0) rfl
  have c1 := HB5.out.2.2.1.cell (i := 1) rfl
  refine wp_seq_all (fun _ => false) (fun _ _ => undef) (fun _ _ _ => True) (by kernel_rfl) (by kernel_rfl) (fun _ _ _ _ _ h => h) ?_
  repeat (first | (refine seq_skip (by rfl) ?_; simp only [Act.put, List.setIfInBounds_toArray, List.set_cons_zero, List.set_cons_succ, Nat.reduceAdd]) | (refine seq_pure (v := ?_) (by rfl) (by rfl) (fun W hW hC => ?_) ?_; rotate_left; (go_simp <;> with_reducible rfl); simp only [Act.put, List.setIfInBounds_toArray, List.set_cons_zero, List.set_cons_succ, Nat.reduceAdd]))
  refine seq_nil ?_; intro Wd hWd hF
  have HB6 := Lib.hid (And.intro (HB5.out.1.kept hWd) (And.intro (HB5.out.2.1.kept hWd) (And.intro (HB5.out.2.2.1.kept hWd) (below_trans HB5.out.2.2.2 hWd))))
  obtain ⟨WD6, hWD⟩ : ∃ W, W = Wd := ⟨_, rfl⟩
  rw [← hWD] at HB6 ⊢
  clear v0 v1 c0 c1 hF hWd hWD HB5 Wd
  go_wp2_with fail
  have v2 := HB6.out.2.1.cell (i := 2) rfl
  have v3 := HB6.out.2.1.cell (i := 3) rfl
  have c0 := HB6.out.2.2.1.cell (i := 0) rfl
  have c1 := HB6.out.2.2.1.cell (i := 1) rfl
  refine wp_seq_all (fun _ => false) (fun _ _ => undef) (fun _ _ _ => True) (by kernel_rfl) (by kernel_rfl) (fun _ _ _ _ _ h => h) ?_
  repeat (first | (refine seq_skip (by rfl) ?_; simp only [Act.put, List.setIfInBounds_toArray, List.set_cons_zero, List.set_cons_succ, Nat.reduceAdd]) | (refine seq_pure (v := ?_) (by rfl) (by rfl) (fun W hW hC => ?_) ?_; rotate_left; (go_simp <;> with_reducible rfl); simp only [Act.put, List.setIfInBounds_toArray, List.set_cons_zero, List.set_cons_succ, Nat.reduceAdd]))
  refine seq_nil ?_; intro Wd hWd hF
  have HB7 := Lib.hid (And.intro (HB6.out.1.kept hWd) (And.intro (HB6.out.2.1.kept hWd) (And.intro (HB6.out.2.2.1.kept hWd) (below_trans HB6.out.2.2.2 hWd))))
  obtain ⟨WD7, hWD⟩ : ∃ W, W = Wd := ⟨_, rfl⟩
  rw [← hWD] at HB7 ⊢
  clear v2 v3 c0 c1 hF hWd hWD HB6 Wd
  have z := HB7.out.2.2.1
  have c0 := z.cell (i := 0) rfl
  have c1 := z.cell (i := 1) rfl
  have c2 := z.cell (i := 2) rfl
  have c3 := z.cell (i := 3) rfl
  have c4 := z.cell (i := 4) rfl
  have c5 := z.cell (i := 5) rfl
  have c6 := z.cell (i := 6) rfl
  clear z
  clear hti htk htx hty hlw0 hlh0 hdx0 hdy0 wa wb wc wd s1 s2 s3 s4
  go_wp2_with fail
  refine (HC1.out _).mono ?_
  rintro r wa7 ⟨rfl, hbb⟩
  have HB8 := Lib.hid (And.intro (HB7.out.1.kept hbb) (And.intro (HB7.out.2.1.kept hbb) (And.intro (HB7.out.2.2.1.kept hbb) (below_trans HB7.out.2.2.2 hbb))))
  clear c0 c1 c2 c3 c4 c5 c6 hbb HB7
  go_upto_region 7 with fail
  refine wp_named ?_
  intro wb hwb
  have bn : Blk wb wa7.heap.size [.int .i64 (w1 : Nat), .int .i64 (h1 : Nat), .int .i64 (LC : Nat), .int .i64 8, .bool Lp, .int .i64 (pd : Nat), .string Oc] 24 := by rw [hwb]; exact Blk.at rfl
  have hbb : Below wa7.heap.size wa7 wb := by rw [hwb]; repeat (first | exact below_alloc _ | refine below_trans ?_ (below_alloc _))
  obtain ⟨qc, hqc⟩ : ∃ q, wa7.heap.size = q := ⟨_, rfl⟩
  have hge : True := by trivial
  rw [hqc] at bn ⊢
  have HB9 := Lib.hid (And.intro (HB8.out.1.kept hbb) (And.intro (HB8.out.2.1.kept hbb) (And.intro (HB8.out.2.2.1.kept hbb) (And.intro bn (below_trans HB8.out.2.2.2 hbb)))))
  have HGc := Lib.hid hge
  obtain ⟨W9, hW⟩ : ∃ W, W = wb := ⟨_, rfl⟩
  rw [← hW] at HB9 ⊢
  clear hwb bn hbb hge hqc hW HB8 wb
  have z := HB9.out.2.2.1
  have c0 := z.cell (i := 0) rfl
  have c1 := z.cell (i := 1) rfl
  have c2 := z.cell (i := 2) rfl
  have c3 := z.cell (i := 3) rfl
  have c4 := z.cell (i := 4) rfl
  have c5 := z.cell (i := 5) rfl
  have c6 := z.cell (i := 6) rfl
  clear z
  have z := HB9.out.2.2.2.1
  have d0 := z.cell (i := 0) rfl
  have d1 := z.cell (i := 1) rfl
  have d2 := z.cell (i := 2) rfl
  have d3 := z.cell (i := 3) rfl
  have d4 := z.cell (i := 4) rfl
  have d5 := z.cell (i := 5) rfl
  have d6 := z.cell (i := 6) rfl
  clear z
  go_wp2_with fail
  refine (HP1.out _).mono ?_
  rintro r wa9 ⟨rfl, hbb⟩
  have HB10 := Lib.hid (And.intro (HB9.out.1.kept hbb) (And.intro (HB9.out.2.1.kept hbb) (And.intro (HB9.out.2.2.1.kept hbb) (And.intro (HB9.out.2.2.2.1.kept hbb) (below_trans HB9.out.2.2.2.2 hbb)))))
  clear c0 c1 c2 c3 c4 c5 c6 d0 d1 d2 d3 d4 d5 d6 hbb HB9
  go_upto_region 8 with fail
  refine wp_named ?_
  intro wb hwb
  have bn : Blk wb wa9.heap.size [.int .i64 (LW : Nat), .int .i64 (LH : Nat), .int .i64 (LC : Nat), .int .i64 8, .bool Lp, .int .i64 (pd : Nat), .string O] 24 := by rw [hwb]; exact Blk.at rfl
  have hbb : Below wa9.heap.size wa9 wb := by rw [hwb]; repeat (first | exact below_alloc _ | refine below_trans ?_ (below_alloc _))
  obtain ⟨qm, hqm⟩ : ∃ q, wa9.heap.size = q := ⟨_, rfl⟩
  have hge : True := by trivial
  rw [hqm] at bn ⊢
  have HB11 := Lib.hid (And.intro (HB10.out.1.kept hbb) (And.intro (HB10.out.2.1.kept hbb) (And.intro (HB10.out.2.2.1.kept hbb) (And.intro (HB10.out.2.2.2.1.kept hbb) (And.intro bn (below_trans HB10.out.2.2.2.2 hbb))))))
  have HGm := Lib.hid hge
  obtain ⟨W11, hW⟩ : ∃ W, W = wb := ⟨_, rfl⟩
  rw [← hW] at HB11 ⊢
  clear hwb bn hbb hge hqm hW HB10 wb
  have z := HB11.out.2.2.1
  have c0 := z.cell (i := 0) rfl
  have c1 := z.cell (i := 1) rfl
  have c2 := z.cell (i := 2) rfl
  have c3 := z.cell (i := 3) rfl
  have c4 := z.cell (i := 4) rfl
  have c5 := z.cell (i := 5) rfl
  have c6 := z.cell (i := 6) rfl
  clear z
  have d0 := HB11.out.2.2.2.1.cell (i := 0) rfl
  have d1 := HB11.out.2.2.2.1.cell (i := 1) rfl
  have z := HB11.out.2.2.2.2.1
  have m0 := z.cell (i := 0) rfl
  have m1 := z.cell (i := 1) rfl
  have m2 := z.cell (i := 2) rfl
  have m3 := z.cell (i := 3) rfl
  have m4 := z.cell (i := 4) rfl
  have m5 := z.cell (i := 5) rfl
  have m6 := z.cell (i := 6) rfl
  clear z
  have ee4 := HB11.out.1.cell (i := 4) rfl
  have f4 := HB11.out.1.free 4
  go_upto_region 11 with fail
  refine wp_named ?_
  intro wb hwb
  have be : Blk wb (w.heap.size + 1) [.int .u8 e0, .int .u8 e1, .int .u8 e2, .int .u8 e3, .bool false, .bool e5, .slice A2 en cA2] 52 := by rw [hwb]; exact HB11.out.1.set 4 _
  have bs : Blk wb qs [.int .i64 (LW : Nat), .int .i64 (LH : Nat), .int .i64 (LC : Nat), .int .i64 8, .bool Lp, .int .i64 (pd : Nat), .string O] 24 := by
    rw [hwb]
    have h := HB11.out.2.2.1
    have hv := HB11.out.2.1
    unfold Blk at *
    rw [Below.heap_setCell _ _ _ _ (show qs ≠ w.heap.size + 1 by have := HGs.out; omega)]
    exact h
  have hbb : Below w.heap.size w wb := by rw [hwb]; exact (HB11.out.2.2.2.2.2).setCell (p := ⟨w.heap.size + 1, 4, none⟩) (Nat.le_succ _) _
  have HB12 := Lib.hid (And.intro be (And.intro bs hbb))
  clear c0 c1 c2 c3 c4 c5 c6 d0 d1 m0 m1 m2 m3 m4 m5 m6 f4 ee4 be bs hbb hwb HB11
  have z := HB12.out.1
  have c0 := z.cell (i := 0) rfl
  have c1 := z.cell (i := 1) rfl
  have c2 := z.cell (i := 2) rfl
  have c3 := z.cell (i := 3) rfl
  have c4 := z.cell (i := 4) rfl
  have c5 := z.cell (i := 5) rfl
  have c6 := z.cell (i := 6) rfl
  clear z
  have d2 := HB12.out.2.1.cell (i := 2) rfl
  go_wp2_with fail
  refine (HSm.out _ (HVS.out.2.kept HB12.out.2.2)).mono ?_
  rintro r wa12 ⟨rfl, hbb⟩
  have HB13 := Lib.hid (And.intro (HB12.out.1.kept hbb) (And.intro (HB12.out.2.1.kept hbb) (below_trans HB12.out.2.2 hbb)))
  clear c0 c1 c2 c3 c4 c5 c6 d2 hbb HB12
  have HB14 := Lib.hid (And.intro HB13.out.2.1 HB13.out.2.2)
  clear HB13
  go_upto_region 12 with fail
  refine wp_named ?_
  intro wb hwb
  have bn : Blk wb wa12.heap.size [.int .i64 (pW : Nat), .int .i64 (pH : Nat), .int .i64 (LC : Nat), .int .i64 8, .bool Mp, .int .i64 (md : Nat), .string Op] 24 := by rw [hwb]; exact Blk.at rfl
  have hbb : Below wa12.heap.size wa12 wb := by rw [hwb]; repeat (first | exact below_alloc _ | refine below_trans ?_ (below_alloc _))
  obtain ⟨qp, hqp⟩ : ∃ q, wa12.heap.size = q := ⟨_, rfl⟩
  have hge : True := by trivial
  rw [hqp] at bn ⊢
  have HB15 := Lib.hid (And.intro (HB14.out.1.kept hbb) (And.intro bn (below_trans HB14.out.2 hbb)))
  have HGp := Lib.hid hge
  obtain ⟨W15, hW⟩ : ∃ W, W = wb := ⟨_, rfl⟩
  rw [← hW] at HB15 ⊢
  clear hwb bn hbb hge hqp hW HB14 wb
  have z := HB15.out.2.1
  have c0 := z.cell (i := 0) rfl
  have c1 := z.cell (i := 1) rfl
  have c2 := z.cell (i := 2) rfl
  have c3 := z.cell (i := 3) rfl
  have c4 := z.cell (i := 4) rfl
  have c5 := z.cell (i := 5) rfl
  have c6 := z.cell (i := 6) rfl
  clear z
  obtain ⟨m1, m2⟩ := HMin.out
  rcases (show (w2 = w1 ∧ w1 < pW) ∨ (w2 = pW ∧ ¬ w1 < pW) by omega) with ⟨e1, i1⟩ | ⟨e1, i1⟩ <;> rcases (show (h2 = h1 ∧ h1 < pH) ∨ (h2 = pH ∧ ¬ h1 < pH) by omega) with ⟨e2, i2⟩ | ⟨e2, i2⟩ <;> clear m1 m2 HMin <;> subst e1 <;> subst e2
  all_goals
    go_wp2_with fail
    clear i1 i2
    refine (HC2.out _).mono ?_
    rintro r wa15 ⟨rfl, hbb⟩
    have HB16 := Lib.hid (And.intro (HB15.out.1.kept hbb) (And.intro (HB15.out.2.1.kept hbb) (below_trans HB15.out.2.2 hbb)))
    clear c0 c1 c2 c3 c4 c5 c6 hbb HB15
    have HB17 := Lib.hid (And.intro HB16.out.1 HB16.out.2.2)
    clear HB16
    go_upto_region 13 with fail
    refine wp_named ?_
    intro wb hwb
    have bn : Blk wb wa15.heap.size [.int .i64 (w2 : Nat), .int .i64 (h2 : Nat), .int .i64 (LC : Nat), .int .i64 8, .bool Mp, .int .i64 (md : Nat), .string Oq] 24 := by rw [hwb]; exact Blk.at rfl
    have hbb : Below wa15.heap.size wa15 wb := by rw [hwb]; repeat (first | exact below_alloc _ | refine below_trans ?_ (below_alloc _))
    obtain ⟨qq, hqq⟩ : ∃ q, wa15.heap.size = q := ⟨_, rfl⟩
    have hge : True := by trivial
    rw [hqq] at bn ⊢
    have HB18 := Lib.hid (And.intro (HB17.out.1.kept hbb) (And.intro bn (below_trans HB17.out.2 hbb)))
    have HGq := Lib.hid hge
    obtain ⟨W18, hW⟩ : ∃ W, W = wb := ⟨_, rfl⟩
    rw [← hW] at HB18 ⊢
    clear hwb bn hbb hge hqq hW HB17 wb
    have z := HB18.out.1
    have c0 := z.cell (i := 0) rfl
    have c1 := z.cell (i := 1) rfl
    have c2 := z.cell (i := 2) rfl
    have c3 := z.cell (i := 3) rfl
    have c4 := z.cell (i := 4) rfl
    have c5 := z.cell (i := 5) rfl
    have c6 := z.cell (i := 6) rfl
    clear z
    have z := HB18.out.2.1
    have d0 := z.cell (i := 0) rfl
    have d1 := z.cell (i := 1) rfl
    have d2 := z.cell (i := 2) rfl
    have d3 := z.cell (i := 3) rfl
    have d4 := z.cell (i := 4) rfl
    have d5 := z.cell (i := 5) rfl
    have d6 := z.cell (i := 6) rfl
    clear z
    go_wp2_with fail
    refine (HP2.out _).mono ?_
    rintro r wa18 ⟨rfl, hbb⟩
    have HB19 := Lib.hid (And.intro (HB18.out.1.kept hbb) (And.intro (HB18.out.2.1.kept hbb) (below_trans HB18.out.2.2 hbb)))
    clear c0 c1 c2 c3 c4 c5 c6 d0 d1 d2 d3 d4 d5 d6 hbb HB18
    go_upto_region 14 with fail
    refine wp_named ?_
    intro wb hwb
    have bn : Blk wb wa18.heap.size [.int .i64 (LW : Nat), .int .i64 (LH : Nat), .int .i64 (LC : Nat), .int .i64 8, .bool Lp, .int .i64 (pd : Nat), .string Or] 24 := by rw [hwb]; exact Blk.at rfl
    have hbb : Below wa18.heap.size wa18 wb := by rw [hwb]; repeat (first | exact below_alloc _ | refine below_trans ?_ (below_alloc _))
    obtain ⟨qr, hqr⟩ : ∃ q, wa18.heap.size = q := ⟨_, rfl⟩
    have hge : True := by trivial
    rw [hqr] at bn ⊢
    have HB20 := Lib.hid (And.intro (HB19.out.1.kept hbb) (And.intro (HB19.out.2.1.kept hbb) (And.intro bn (below_trans HB19.out.2.2 hbb))))
    have HGr := Lib.hid hge
    obtain ⟨W20, hW⟩ : ∃ W, W = wb := ⟨_, rfl⟩
    rw [← hW] at HB20 ⊢
    clear hwb bn hbb hge hqr hW HB19 wb
    have z := HB20.out.2.2.1
    have c0 := z.cell (i := 0) rfl
    have c1 := z.cell (i := 1) rfl
    have c2 := z.cell (i := 2) rfl
    have c3 := z.cell (i := 3) rfl
    have c4 := z.cell (i := 4) rfl
    have c5 := z.cell (i := 5) rfl
    have c6 := z.cell (i := 6) rfl
    clear z
    have d0 := HB20.out.2.1.cell (i := 0) rfl
    have d1 := HB20.out.2.1.cell (i := 1) rfl
    go_wp2_with fail
    refine (HC3.out _).mono ?_
    rintro r wa20 ⟨rfl, hbb⟩
    have HB21 := Lib.hid (And.intro (HB20.out.1.kept hbb) (And.intro (HB20.out.2.1.kept hbb) (And.intro (HB20.out.2.2.1.kept hbb) (below_trans HB20.out.2.2.2 hbb))))
    clear c0 c1 c2 c3 c4 c5 c6 d0 d1 hbb HB20
    go_upto_region 15 with fail
    refine wp_named ?_
    intro wb hwb
    have bn : Blk wb wa20.heap.size [.int .i64 (w2 : Nat), .int .i64 (h2 : Nat), .int .i64 (LC : Nat), .int .i64 8, .bool Lp, .int .i64 (pd : Nat), .string Ot] 24 := by rw [hwb]; exact Blk.at rfl
    have hbb : Below wa20.heap.size wa20 wb := by rw [hwb]; repeat (first | exact below_alloc _ | refine below_trans ?_ (below_alloc _))
    obtain ⟨qt, hqt⟩ : ∃ q, wa20.heap.size = q := ⟨_, rfl⟩
    have hge : True := by trivial
    rw [hqt] at bn ⊢
    have HB22 := Lib.hid (And.intro (HB21.out.1.kept hbb) (And.intro (HB21.out.2.1.kept hbb) (And.intro (HB21.out.2.2.1.kept hbb) (And.intro bn (below_trans HB21.out.2.2.2 hbb)))))
    have HGt := Lib.hid hge
    obtain ⟨W22, hW⟩ : ∃ W, W = wb := ⟨_, rfl⟩
    rw [← hW] at HB22 ⊢
    clear hwb bn hbb hge hqt hW HB21 wb
    have z := HB22.out.2.2.2.1
    have c0 := z.cell (i := 0) rfl
    have c1 := z.cell (i := 1) rfl
    have c2 := z.cell (i := 2) rfl
    have c3 := z.cell (i := 3) rfl
    have c4 := z.cell (i := 4) rfl
    have c5 := z.cell (i := 5) rfl
    have c6 := z.cell (i := 6) rfl
    clear z
    have z := HB22.out.2.1
    have d0 := z.cell (i := 0) rfl
    have d1 := z.cell (i := 1) rfl
    have d2 := z.cell (i := 2) rfl
    have d3 := z.cell (i := 3) rfl
    have d4 := z.cell (i := 4) rfl
    have d5 := z.cell (i := 5) rfl
    have d6 := z.cell (i := 6) rfl
    clear z
    go_wp2_with fail
    refine (HAl.out _).mono ?_
    rintro r wa22 ⟨rfl, hbb⟩
    have HB23 := Lib.hid (And.intro (HB22.out.1.kept hbb) (And.intro (HB22.out.2.1.kept hbb) (And.intro (HB22.out.2.2.1.kept hbb) (And.intro (HB22.out.2.2.2.1.kept hbb) (below_trans HB22.out.2.2.2.2 hbb)))))
    clear c0 c1 c2 c3 c4 c5 c6 d0 d1 d2 d3 d4 d5 d6 hbb HB22
    have z := HB23.out.2.2.1
    have c0 := z.cell (i := 0) rfl
    have c1 := z.cell (i := 1) rfl
    have c2 := z.cell (i := 2) rfl
    have c3 := z.cell (i := 3) rfl
    have c4 := z.cell (i := 4) rfl
    have c5 := z.cell (i := 5) rfl
    have c6 := z.cell (i := 6) rfl
    clear z
    go_wp2_with fail
    refine (HCh.out _).mono ?_
    rintro r wa23 ⟨rfl, hbb⟩
    have HB24 := Lib.hid (And.intro (HB23.out.1.kept hbb) (And.intro (HB23.out.2.1.kept hbb) (And.intro (HB23.out.2.2.1.kept hbb) (And.intro (HB23.out.2.2.2.1.kept hbb) (below_trans HB23.out.2.2.2.2 hbb)))))
    clear c0 c1 c2 c3 c4 c5 c6 hbb HB23
    go_wp2_with fail
    go_ret
    exact ⟨rfl, HB24.out.2.2.2.2⟩

set_option maxRecDepth 100000 in
set_option maxHeartbeats 6400000 in
theorem imageParts_true (D E : Dr) (hdp : D.deep = true) (hd : D.Ok) (he : E.Ok) (A A2 : Option Addr) (cA cA2 : Nat) (an bn cn dn : Nat) (ha : an ≤ 255) (hb : bn ≤ 255) (hc : cn ≤ 255) (hd4 : dn ≤ 255) (w : World) (hvs : Cs w .u16 A D.vs) (hvs2 : Cs w .u16 A2 E.vs) :
    Calls Try.prog 10 #[D.v A cA, E.v A2 cA2, .agg #[.int .u8 (an : Nat), .int .u8 (bn : Nat), .int .u8 (cn : Nat), .int .u8 (dn : Nat)]] w fun e w' => e = .returned (.bool true) ∧ Below w.heap.size w w' := by
  have HIm := Lib.hid (fun W (h : Cs W .u16 A D.vs) => image_calls D hd A cA W h)
  have HVS := Lib.hid (And.intro hvs hvs2)
  have HSm := Lib.hid (fun W (h : Cs W .u16 A2 E.vs) => some_calls { E with deep := true } ⟨he.w, he.h, he.c, he.p, he.v, he.l⟩ A2 cA2 D.ch D.ch1 D.ch4 W h)
  obtain ⟨p0, p1, p2, p3, p4, p5, nn, hvD⟩ : ∃ p0 p1 p2 p3 p4 p5 n, D.v A cA = .agg #[.int .u8 p0, .int .u8 p1, .int .u8 p2, .int .u8 p3, .bool p4, .bool p5, .slice A n cA] := ⟨_, _, _, _, _, _, _, rfl⟩
  obtain ⟨e0, e1, e2, e3, e4, e5, en, hvE, hvE2⟩ : ∃ p0 p1 p2 p3 p4 p5 n, E.v A2 cA2 = .agg #[.int .u8 p0, .int .u8 p1, .int .u8 p2, .int .u8 p3, .bool p4, .bool p5, .slice A2 n cA2] ∧ ({ E with deep := true } : Dr).v A2 cA2 = .agg #[.int .u8 p0, .int .u8 p1, .int .u8 p2, .int .u8 p3, .bool true, .bool p5, .slice A2 n cA2] := ⟨_, _, _, _, _, _, _, rfl, rfl⟩
  obtain ⟨L, hL⟩ : ∃ L, D.lay D.ch = L := ⟨_, rfl⟩
  obtain ⟨f, hf⟩ : ∃ f, D.smp D.ch = f := ⟨_, rfl⟩
  obtain ⟨M, hM⟩ : ∃ L, ({ E with deep := true } : Dr).lay D.ch = L := ⟨_, rfl⟩
  obtain ⟨g, hg⟩ : ∃ f, ({ E with deep := true } : Dr).smp D.ch = f := ⟨_, rfl⟩
  have hok : L.Ok := by rw [← hL]; exact Dr.ok D.ch1 D.ch4
  have hokM : M.Ok := by rw [← hM]; exact Dr.ok D.ch1 D.ch4
  have hbd : Bd L f := by rw [← hL, ← hf]; exact D.bd _
  have hbdM : Bd M g := by rw [← hM, ← hg]; exact Dr.bd _ _
  have hk : L.k = 2 := by rw [← hL]; show (if D.deep then 2 else 1) = _; rw [hdp]; rfl
  have hkM : M.k = 2 := by rw [← hM]; rfl
  have hCL : L.C = D.ch := by rw [← hL]; rfl
  have hCM : M.C = D.ch := by rw [← hM]; rfl
  have him : D.image = img L f := by rw [← hL, ← hf]; rfl
  have hsm : ({ E with deep := true } : Dr).some D.ch = img M g := by rw [← hM, ← hg]; rfl
  obtain ⟨vsD, hvsD⟩ : ∃ q, D.vs = q := ⟨_, rfl⟩
  obtain ⟨vsE, hvsE⟩ : ∃ q, E.vs = q := ⟨_, rfl⟩
  obtain ⟨LC, hLC⟩ : ∃ q, D.ch = q := ⟨_, rfl⟩
  rw [him, hvD, hvsD] at HIm
  rw [hsm, hvE2, hvsE, hLC] at HSm
  rw [hvD, hvE]
  rw [hvsD, hvsE] at HVS
  rw [hLC] at hCL hCM
  clear hL hf hM hg hdp him hsm hvD hvE hvE2 hvsD hvsE hvs hvs2 hd he hLC
  obtain ⟨LW, hLW⟩ : ∃ q, L.W = q := ⟨_, rfl⟩
  obtain ⟨LH, hLH⟩ : ∃ q, L.H = q := ⟨_, rfl⟩
  obtain ⟨pW, hpW⟩ : ∃ q, M.W = q := ⟨_, rfl⟩
  obtain ⟨pH, hpH⟩ : ∃ q, M.H = q := ⟨_, rfl⟩
  have q1 := hok.w1; have q2 := hok.w2; have q3 := hok.h1; have q4 := hok.h2; have q5 := hokM.w1; have q6 := hokM.w2; have q7 := hokM.h1; have q8 := hokM.h2
  rw [hLW] at q1 q2; rw [hLH] at q3 q4; rw [hpW] at q5 q6; rw [hpH] at q7 q8
  obtain ⟨X, hX⟩ : ∃ X, an % LW = X := ⟨_, rfl⟩
  obtain ⟨Y, hY⟩ : ∃ Y, bn % LH = Y := ⟨_, rfl⟩
  have hXl : X < LW := by rw [← hX]; exact Nat.mod_lt _ (by omega)
  have hYl : Y < LH := by rw [← hY]; exact Nat.mod_lt _ (by omega)
  obtain ⟨DX, hDX⟩ : ∃ q, LW - X = q := ⟨_, rfl⟩
  obtain ⟨DY, hDY⟩ : ∃ q, LH - Y = q := ⟨_, rfl⟩
  obtain ⟨rX, hrX⟩ : ∃ q, cn % DX = q := ⟨_, rfl⟩
  obtain ⟨rY, hrY⟩ : ∃ q, dn % DY = q := ⟨_, rfl⟩
  have hrx : rX < DX := by rw [← hrX]; exact Nat.mod_lt _ (by omega)
  have hry : rY < DY := by rw [← hrY]; exact Nat.mod_lt _ (by omega)
  obtain ⟨w1, hw1⟩ : ∃ q, 1 + rX = q := ⟨_, rfl⟩
  obtain ⟨h1, hh1⟩ : ∃ q, 1 + rY = q := ⟨_, rfl⟩
  obtain ⟨w2, hw2⟩ : ∃ q, min pW w1 = q := ⟨_, rfl⟩
  obtain ⟨h2, hh2⟩ : ∃ q, min pH h1 = q := ⟨_, rfl⟩
  have hti : Int.tmod (an : Int) (LW : Int) = (X : Int) := by rw [Int.tmod_eq_emod_of_nonneg (by omega), ← hX]; simp
  have htk : Int.tmod (bn : Int) (LH : Int) = (Y : Int) := by rw [Int.tmod_eq_emod_of_nonneg (by omega), ← hY]; simp
  have htx : Int.tmod (cn : Int) (DX : Int) = (rX : Int) := by rw [Int.tmod_eq_emod_of_nonneg (by omega), ← hrX]; simp
  have hty : Int.tmod (dn : Int) (DY : Int) = (rY : Int) := by rw [Int.tmod_eq_emod_of_nonneg (by omega), ← hrY]; simp
  -- the images
  have hcut1 := img_cut hok hbd (x := X) (y := Y) (w := w1) (v := h1) (by omega) (by omega) (by omega) (by omega)
  have hcok := cut_ok hok (w := w1) (v := h1) (by omega) (by omega) (by omega) (by omega)
  have hcbd := cut_bd hbd (x := X) (y := Y) (w := w1) (v := h1) (by omega) (by omega)
  have hpas1 := img_paste hok hcok hbd hcbd rfl rfl (x := X) (y := Y) (by show X + w1 ≤ L.W; omega) (by show Y + h1 ≤ L.H; omega)
  rw [show img L (overS f (fun i k c => f (X + i) (Y + k) c) X Y ({ L with W := w1, H := h1 } : Lay).W ({ L with W := w1, H := h1 } : Lay).H) = img L f from over_self hok f X Y w1 h1] at hpas1
  have hcut2 := img_cut hokM hbdM (x := 0) (y := 0) (w := w2) (v := h2) (by omega) (by omega) (by omega) (by omega)
  have hqok := cut_ok hokM (w := w2) (v := h2) (by omega) (by omega) (by omega) (by omega)
  have hqbd := cut_bd hbdM (x := 0) (y := 0) (w := w2) (v := h2) (by omega) (by omega)
  obtain ⟨gq, hgq⟩ : ∃ gq : Nat → Nat → Nat → Nat, (fun i k c => g (0 + i) (0 + k) c) = gq := ⟨_, rfl⟩
  rw [hgq] at hcut2 hqbd
  have hpas2 := img_paste hok hqok hbd hqbd (by show M.C = L.C; rw [hCL, hCM]) (by show M.k = L.k; rw [hk, hkM]) (x := X) (y := Y) (by show X + w2 ≤ L.W; omega) (by show Y + h2 ≤ L.H; omega)
  have hrbd := over_bd (M := { M with W := w2, H := h2 }) hbd hqbd (by show M.C = L.C; rw [hCL, hCM]) (by show M.k = L.k; rw [hk, hkM]) X Y
  have hcut3 := img_cut hok hrbd (x := X) (y := Y) (w := w2) (v := h2) (by omega) (by omega) (by omega) (by omega)
  have htok := cut_ok hok (w := w2) (v := h2) (by omega) (by omega) (by omega) (by omega)
  have htbd := cut_bd hrbd (x := X) (y := Y) (w := w2) (v := h2) (by omega) (by omega)
  have hsame : ∀ i k c, i < w2 → k < h2 → c < L.C → (fun i k c => overS f gq X Y w2 h2 (X + i) (Y + k) c) i k c = gq i k c := by
    intro i k c hi hk _
    show overS f gq X Y w2 h2 (X + i) (Y + k) c = _
    unfold overS
    rw [if_pos (by omega), show X + i - X = i by omega, show Y + k - Y = k by omega]
  have HAl := Lib.hid (fun W => alike_calls htok hqok htbd hqbd rfl rfl (by show M.C = L.C; rw [hCL, hCM]) hsame W)
  obtain ⟨Lp, hLp⟩ : ∃ q, L.P = q := ⟨_, rfl⟩
  obtain ⟨pd, hpd⟩ : ∃ q, L.pd = q := ⟨_, rfl⟩
  obtain ⟨Mp, hMp⟩ : ∃ q, M.P = q := ⟨_, rfl⟩
  obtain ⟨md, hmd⟩ : ∃ q, M.pd = q := ⟨_, rfl⟩
  have hvS : ∀ u, ∃ O, (img L u).v = .agg #[.int .i64 (LW : Nat), .int .i64 (LH : Nat), .int .i64 (LC : Nat), .int .i64 16, .bool Lp, .int .i64 (pd : Nat), .string O] := fun u => ⟨⟨(octs L u).toArray⟩, by rw [← hLW, ← hLH, ← hCL, ← hLp, ← hpd]; unfold Im.v img; simp [hk]⟩
  have hvC : ∀ (a b : Nat) u, ∃ O, (img { L with W := a, H := b } u).v = .agg #[.int .i64 (a : Nat), .int .i64 (b : Nat), .int .i64 (LC : Nat), .int .i64 16, .bool Lp, .int .i64 (pd : Nat), .string O] := fun a b u => ⟨⟨(octs { L with W := a, H := b } u).toArray⟩, by rw [← hCL, ← hLp, ← hpd]; unfold Im.v img; simp [hk]⟩
  have hvM : ∀ u, ∃ O, (img M u).v = .agg #[.int .i64 (pW : Nat), .int .i64 (pH : Nat), .int .i64 (LC : Nat), .int .i64 16, .bool Mp, .int .i64 (md : Nat), .string O] := fun u => ⟨⟨(octs M u).toArray⟩, by rw [← hpW, ← hpH, ← hCM, ← hMp, ← hmd]; unfold Im.v img; simp [hkM]⟩
  have hvQ : ∀ (a b : Nat) u, ∃ O, (img { M with W := a, H := b } u).v = .agg #[.int .i64 (a : Nat), .int .i64 (b : Nat), .int .i64 (LC : Nat), .int .i64 16, .bool Mp, .int .i64 (md : Nat), .string O] := fun a b u => ⟨⟨(octs { M with W := a, H := b } u).toArray⟩, by rw [← hCM, ← hMp, ← hmd]; unfold Im.v img; simp [hkM]⟩
  obtain ⟨O, vS⟩ := hvS f
  obtain ⟨Oc, vC⟩ := hvC w1 h1 (fun i k c => f (X + i) (Y + k) c)
  obtain ⟨Op, vP⟩ := hvM g
  obtain ⟨Oq, vQ⟩ := hvQ w2 h2 gq
  obtain ⟨Or, vR⟩ := hvS (overS f gq X Y w2 h2)
  obtain ⟨Ot, vT⟩ := hvC w2 h2 (fun i k c => overS f gq X Y w2 h2 (X + i) (Y + k) c)
  rw [vS] at HIm
  rw [vP] at HSm
  rw [vT, vQ] at HAl
  have HC1 := Lib.hid (fun W => cut_calls (img L f) (X : Nat) (Y : Nat) (w1 : Nat) (h1 : Nat) W)
  rw [hcut1, vS, vC] at HC1
  have HP1 := Lib.hid (fun W => paste_calls (img L f) (img { L with W := w1, H := h1 } (fun i k c => f (X + i) (Y + k) c)) (X : Nat) (Y : Nat) W)
  rw [hpas1, vS, vC] at HP1
  have HC2 := Lib.hid (fun W => cut_calls (img M g) ((0 : Nat) : Int) ((0 : Nat) : Int) (w2 : Nat) (h2 : Nat) W)
  rw [hcut2, vP, vQ] at HC2
  have HP2 := Lib.hid (fun W => paste_calls (img L f) (img { M with W := w2, H := h2 } gq) (X : Nat) (Y : Nat) W)
  rw [hpas2, vS, vQ, vR] at HP2
  have HC3 := Lib.hid (fun W => cut_calls (img L (overS f gq X Y w2 h2)) (X : Nat) (Y : Nat) (w2 : Nat) (h2 : Nat) W)
  rw [hcut3, vR, vT] at HC3
  have HCh := Lib.hid (fun W => check_calls (img L (overS f gq X Y w2 h2)) W)
  rw [img_check hok, vR] at HCh
  have hlw0 : ¬ LW = 0 := by omega
  have hlh0 : ¬ LH = 0 := by omega
  have hdx0 : ¬ DX = 0 := by omega
  have hdy0 : ¬ DY = 0 := by omega
  have wa : IntKind.i64.wrap (an : Int) = (an : Int) := wrap_id (by omega)
  have wb : IntKind.i64.wrap (bn : Int) = (bn : Int) := wrap_id (by omega)
  have wc : IntKind.i64.wrap (cn : Int) = (cn : Int) := wrap_id (by omega)
  have wd : IntKind.i64.wrap (dn : Int) = (dn : Int) := wrap_id (by omega)
  have s1 : IntKind.i64.wrap ((LW : Int) - (X : Int)) = (DX : Int) := by rw [show (LW : Int) - (X : Int) = (DX : Int) by omega]; exact wrap_id (by omega)
  have s2 : IntKind.i64.wrap ((LH : Int) - (Y : Int)) = (DY : Int) := by rw [show (LH : Int) - (Y : Int) = (DY : Int) by omega]; exact wrap_id (by omega)
  have s3 : IntKind.i64.wrap (1 + (rX : Int)) = (w1 : Int) := by rw [show 1 + (rX : Int) = (w1 : Int) by omega]; exact wrap_id (by omega)
  have s4 : IntKind.i64.wrap (1 + (rY : Int)) = (h1 : Int) := by rw [show 1 + (rY : Int) = (h1 : Int) by omega]; exact wrap_id (by omega)
  have HMin := Lib.hid (show min (pW : Int) (w1 : Int) = (w2 : Int) ∧ min (pH : Int) (h1 : Int) = (h2 : Int) by omega)
  clear hcut1 hcok hcbd hpas1 hcut2 hqok hqbd hpas2 hrbd hcut3 htok htbd hsame hvS hvC hvM hvQ vS vC vP vQ vR vT hLp hpd hMp hmd hLW hLH hpW hpH q1 q2 q3 q4 q5 q6 q7 q8 hX hY hXl hYl hDX hDY hrX hrY hrx hry hw1 hh1 hw2 hh2 hok hokM hbd hbdM hk hkM hCL hCM hgq ha hb hc hd4
  go_enter Try.func10, Try.ntmps10
  go_upto_region 1 with fail
  refine wp_named ?_
  intro W0 hW0
  have bd : Blk W0 w.heap.size [.int .u8 p0, .int .u8 p1, .int .u8 p2, .int .u8 p3, .bool p4, .bool p5, .slice A nn cA] 52 := by rw [hW0]; exact ((Blk.new _ _ _).alloc _).alloc _
  have be : Blk W0 (w.heap.size + 1) [.int .u8 e0, .int .u8 e1, .int .u8 e2, .int .u8 e3, .bool e4, .bool e5, .slice A2 en cA2] 52 := by rw [hW0]; exact (Blk.at (by simp)).alloc _
  have bv : Blk W0 (w.heap.size + 2) [.int .u8 (an : Nat), .int .u8 (bn : Nat), .int .u8 (cn : Nat), .int .u8 (dn : Nat)] 72 := by rw [hW0]; exact Blk.at (by simp)
  have hb1 : Below w.heap.size w W0 := by rw [hW0]; repeat (first | exact below_alloc _ | refine below_trans ?_ (below_alloc _))
  have HB1 := Lib.hid (And.intro bd (And.intro be (And.intro bv hb1)))
  clear hW0 bd be bv hb1
  go_wp2_with fail
  refine (wakes_calls W0).mono ?_
  rintro r wa1 ⟨rfl, hbb⟩
  have HB2 := Lib.hid (And.intro (HB1.out.1.kept hbb) (And.intro (HB1.out.2.1.kept hbb) (And.intro (HB1.out.2.2.1.kept hbb) (below_trans HB1.out.2.2.2 hbb))))
  clear  hbb HB1
  have z := HB2.out.1
  have c0 := z.cell (i := 0) rfl
  have c1 := z.cell (i := 1) rfl
  have c2 := z.cell (i := 2) rfl
  have c3 := z.cell (i := 3) rfl
  have c4 := z.cell (i := 4) rfl
  have c5 := z.cell (i := 5) rfl
  have c6 := z.cell (i := 6) rfl
  clear z
  go_wp2_with fail
  refine (HIm.out wa1 (HVS.out.1.kept HB2.out.2.2.2)).mono ?_
  rintro r wa2 ⟨rfl, hbb⟩
  have HB3 := Lib.hid (And.intro (HB2.out.1.kept hbb) (And.intro (HB2.out.2.1.kept hbb) (And.intro (HB2.out.2.2.1.kept hbb) (below_trans HB2.out.2.2.2 hbb))))
  clear c0 c1 c2 c3 c4 c5 c6 hbb HB2
  have HB4 := Lib.hid (And.intro HB3.out.2.1 (And.intro HB3.out.2.2.1 HB3.out.2.2.2))
  clear HB3
  go_upto_region 4 with fail
  refine wp_named ?_
  intro wb hwb
  have bn : Blk wb wa2.heap.size [.int .i64 (LW : Nat), .int .i64 (LH : Nat), .int .i64 (LC : Nat), .int .i64 16, .bool Lp, .int .i64 (pd : Nat), .string O] 24 := by rw [hwb]; exact Blk.at rfl
  have hbb : Below wa2.heap.size wa2 wb := by rw [hwb]; repeat (first | exact below_alloc _ | refine below_trans ?_ (below_alloc _))
  obtain ⟨qs, hqs⟩ : ∃ q, wa2.heap.size = q := ⟨_, rfl⟩
  have hge : w.heap.size + 2 < qs := by rw [← hqs]; exact HB4.out.2.1.lt
  rw [hqs] at bn ⊢
  have HB5 := Lib.hid (And.intro (HB4.out.1.kept hbb) (And.intro (HB4.out.2.1.kept hbb) (And.intro bn (below_trans HB4.out.2.2 hbb))))
  have HGs := Lib.hid hge
  obtain ⟨W5, hW⟩ : ∃ W, W = wb := ⟨_, rfl⟩
  rw [← hW] at HB5 ⊢
  clear hwb bn hbb hge hqs hW HB4 wb
  have v0 := HB5.out.2.1.cell (i := 0) rfl
  have v1 := HB5.out.2.1.cell (i := 1) rfl
  have c0 := HB5.out.2.2.1.cell (i := 0) rfl
  have c1 := HB5.out.2.2.1.cell (i := 1) rfl
  refine wp_seq_all (fun _ => false) (fun _ _ => undef) (fun _ _ _ => True) (by kernel_rfl) (by kernel_rfl) (fun _ _ _ _ _ h => h) ?_
  repeat (first | (refine seq_skip (by rfl) ?_; simp only [Act.put, List.setIfInBounds_toArray, List.set_cons_zero, List.set_cons_succ, Nat.reduceAdd]) | (refine seq_pure (v := ?_) (by rfl) (by rfl) (fun W hW hC => ?_) ?_; rotate_left; (go_simp <;> with_reducible rfl); simp only [Act.put, List.setIfInBounds_toArray, List.set_cons_zero, List.set_cons_succ, Nat.reduceAdd]))
  refine seq_nil ?_; intro Wd hWd hF
  have HB6 := Lib.hid (And.intro (HB5.out.1.kept hWd) (And.intro (HB5.out.2.1.kept hWd) (And.intro (HB5.out.2.2.1.kept hWd) (below_trans HB5.out.2.2.2 hWd))))
  obtain ⟨WD6, hWD⟩ : ∃ W, W = Wd := ⟨_, rfl⟩
  rw [← hWD] at HB6 ⊢
  clear v0 v1 c0 c1 hF hWd hWD HB5 Wd
  go_wp2_with fail
  have v2 := HB6.out.2.1.cell (i := 2) rfl
  have v3 := HB6.out.2.1.cell (i := 3) rfl
  have c0 := HB6.out.2.2.1.cell (i := 0) rfl
  have c1 := HB6.out.2.2.1.cell (i := 1) rfl
  refine wp_seq_all (fun _ => false) (fun _ _ => undef) (fun _ _ _ => True) (by kernel_rfl) (by kernel_rfl) (fun _ _ _ _ _ h => h) ?_
  repeat (first | (refine seq_skip (by rfl) ?_; simp only [Act.put, List.setIfInBounds_toArray, List.set_cons_zero, List.set_cons_succ, Nat.reduceAdd]) | (refine seq_pure (v := ?_) (by rfl) (by rfl) (fun W hW hC => ?_) ?_; rotate_left; (go_simp <;> with_reducible rfl); simp only [Act.put, List.setIfInBounds_toArray, List.set_cons_zero, List.set_cons_succ, Nat.reduceAdd]))
  refine seq_nil ?_; intro Wd hWd hF
  have HB7 := Lib.hid (And.intro (HB6.out.1.kept hWd) (And.intro (HB6.out.2.1.kept hWd) (And.intro (HB6.out.2.2.1.kept hWd) (below_trans HB6.out.2.2.2 hWd))))
  obtain ⟨WD7, hWD⟩ : ∃ W, W = Wd := ⟨_, rfl⟩
  rw [← hWD] at HB7 ⊢
  clear v2 v3 c0 c1 hF hWd hWD HB6 Wd
  have z := HB7.out.2.2.1
  have c0 := z.cell (i := 0) rfl
  have c1 := z.cell (i := 1) rfl
  have c2 := z.cell (i := 2) rfl
  have c3 := z.cell (i := 3) rfl
  have c4 := z.cell (i := 4) rfl
  have c5 := z.cell (i := 5) rfl
  have c6 := z.cell (i := 6) rfl
  clear z
  clear hti htk htx hty hlw0 hlh0 hdx0 hdy0 wa wb wc wd s1 s2 s3 s4
  go_wp2_with fail
  refine (HC1.out _).mono ?_
  rintro r wa7 ⟨rfl, hbb⟩
  have HB8 := Lib.hid (And.intro (HB7.out.1.kept hbb) (And.intro (HB7.out.2.1.kept hbb) (And.intro (HB7.out.2.2.1.kept hbb) (below_trans HB7.out.2.2.2 hbb))))
  clear c0 c1 c2 c3 c4 c5 c6 hbb HB7
  go_upto_region 7 with fail
  refine wp_named ?_
  intro wb hwb
  have bn : Blk wb wa7.heap.size [.int .i64 (w1 : Nat), .int .i64 (h1 : Nat), .int .i64 (LC : Nat), .int .i64 16, .bool Lp, .int .i64 (pd : Nat), .string Oc] 24 := by rw [hwb]; exact Blk.at rfl
  have hbb : Below wa7.heap.size wa7 wb := by rw [hwb]; repeat (first | exact below_alloc _ | refine below_trans ?_ (below_alloc _))
  obtain ⟨qc, hqc⟩ : ∃ q, wa7.heap.size = q := ⟨_, rfl⟩
  have hge : True := by trivial
  rw [hqc] at bn ⊢
  have HB9 := Lib.hid (And.intro (HB8.out.1.kept hbb) (And.intro (HB8.out.2.1.kept hbb) (And.intro (HB8.out.2.2.1.kept hbb) (And.intro bn (below_trans HB8.out.2.2.2 hbb)))))
  have HGc := Lib.hid hge
  obtain ⟨W9, hW⟩ : ∃ W, W = wb := ⟨_, rfl⟩
  rw [← hW] at HB9 ⊢
  clear hwb bn hbb hge hqc hW HB8 wb
  have z := HB9.out.2.2.1
  have c0 := z.cell (i := 0) rfl
  have c1 := z.cell (i := 1) rfl
  have c2 := z.cell (i := 2) rfl
  have c3 := z.cell (i := 3) rfl
  have c4 := z.cell (i := 4) rfl
  have c5 := z.cell (i := 5) rfl
  have c6 := z.cell (i := 6) rfl
  clear z
  have z := HB9.out.2.2.2.1
  have d0 := z.cell (i := 0) rfl
  have d1 := z.cell (i := 1) rfl
  have d2 := z.cell (i := 2) rfl
  have d3 := z.cell (i := 3) rfl
  have d4 := z.cell (i := 4) rfl
  have d5 := z.cell (i := 5) rfl
  have d6 := z.cell (i := 6) rfl
  clear z
  go_wp2_with fail
  refine (HP1.out _).mono ?_
  rintro r wa9 ⟨rfl, hbb⟩
  have HB10 := Lib.hid (And.intro (HB9.out.1.kept hbb) (And.intro (HB9.out.2.1.kept hbb) (And.intro (HB9.out.2.2.1.kept hbb) (And.intro (HB9.out.2.2.2.1.kept hbb) (below_trans HB9.out.2.2.2.2 hbb)))))
  clear c0 c1 c2 c3 c4 c5 c6 d0 d1 d2 d3 d4 d5 d6 hbb HB9
  go_upto_region 8 with fail
  refine wp_named ?_
  intro wb hwb
  have bn : Blk wb wa9.heap.size [.int .i64 (LW : Nat), .int .i64 (LH : Nat), .int .i64 (LC : Nat), .int .i64 16, .bool Lp, .int .i64 (pd : Nat), .string O] 24 := by rw [hwb]; exact Blk.at rfl
  have hbb : Below wa9.heap.size wa9 wb := by rw [hwb]; repeat (first | exact below_alloc _ | refine below_trans ?_ (below_alloc _))
  obtain ⟨qm, hqm⟩ : ∃ q, wa9.heap.size = q := ⟨_, rfl⟩
  have hge : True := by trivial
  rw [hqm] at bn ⊢
  have HB11 := Lib.hid (And.intro (HB10.out.1.kept hbb) (And.intro (HB10.out.2.1.kept hbb) (And.intro (HB10.out.2.2.1.kept hbb) (And.intro (HB10.out.2.2.2.1.kept hbb) (And.intro bn (below_trans HB10.out.2.2.2.2 hbb))))))
  have HGm := Lib.hid hge
  obtain ⟨W11, hW⟩ : ∃ W, W = wb := ⟨_, rfl⟩
  rw [← hW] at HB11 ⊢
  clear hwb bn hbb hge hqm hW HB10 wb
  have z := HB11.out.2.2.1
  have c0 := z.cell (i := 0) rfl
  have c1 := z.cell (i := 1) rfl
  have c2 := z.cell (i := 2) rfl
  have c3 := z.cell (i := 3) rfl
  have c4 := z.cell (i := 4) rfl
  have c5 := z.cell (i := 5) rfl
  have c6 := z.cell (i := 6) rfl
  clear z
  have d0 := HB11.out.2.2.2.1.cell (i := 0) rfl
  have d1 := HB11.out.2.2.2.1.cell (i := 1) rfl
  have z := HB11.out.2.2.2.2.1
  have m0 := z.cell (i := 0) rfl
  have m1 := z.cell (i := 1) rfl
  have m2 := z.cell (i := 2) rfl
  have m3 := z.cell (i := 3) rfl
  have m4 := z.cell (i := 4) rfl
  have m5 := z.cell (i := 5) rfl
  have m6 := z.cell (i := 6) rfl
  clear z
  have ee4 := HB11.out.1.cell (i := 4) rfl
  have f4 := HB11.out.1.free 4
  go_upto_region 11 with fail
  refine wp_named ?_
  intro wb hwb
  have be : Blk wb (w.heap.size + 1) [.int .u8 e0, .int .u8 e1, .int .u8 e2, .int .u8 e3, .bool true, .bool e5, .slice A2 en cA2] 52 := by rw [hwb]; exact HB11.out.1.set 4 _
  have bs : Blk wb qs [.int .i64 (LW : Nat), .int .i64 (LH : Nat), .int .i64 (LC : Nat), .int .i64 16, .bool Lp, .int .i64 (pd : Nat), .string O] 24 := by
    rw [hwb]
    have h := HB11.out.2.2.1
    have hv := HB11.out.2.1
    unfold Blk at *
    rw [Below.heap_setCell _ _ _ _ (show qs ≠ w.heap.size + 1 by have := HGs.out; omega)]
    exact h
  have hbb : Below w.heap.size w wb := by rw [hwb]; exact (HB11.out.2.2.2.2.2).setCell (p := ⟨w.heap.size + 1, 4, none⟩) (Nat.le_succ _) _
  have HB12 := Lib.hid (And.intro be (And.intro bs hbb))
  clear c0 c1 c2 c3 c4 c5 c6 d0 d1 m0 m1 m2 m3 m4 m5 m6 f4 ee4 be bs hbb hwb HB11
  have z := HB12.out.1
  have c0 := z.cell (i := 0) rfl
  have c1 := z.cell (i := 1) rfl
  have c2 := z.cell (i := 2) rfl
  have c3 := z.cell (i := 3) rfl
  have c4 := z.cell (i := 4) rfl
  have c5 := z.cell (i := 5) rfl
  have c6 := z.cell (i := 6) rfl
  clear z
  have d2 := HB12.out.2.1.cell (i := 2) rfl
  go_wp2_with fail
  refine (HSm.out _ (HVS.out.2.kept HB12.out.2.2)).mono ?_
  rintro r wa12 ⟨rfl, hbb⟩
  have HB13 := Lib.hid (And.intro (HB12.out.1.kept hbb) (And.intro (HB12.out.2.1.kept hbb) (below_trans HB12.out.2.2 hbb)))
  clear c0 c1 c2 c3 c4 c5 c6 d2 hbb HB12
  have HB14 := Lib.hid (And.intro HB13.out.2.1 HB13.out.2.2)
  clear HB13
  go_upto_region 12 with fail
  refine wp_named ?_
  intro wb hwb
  have bn : Blk wb wa12.heap.size [.int .i64 (pW : Nat), .int .i64 (pH : Nat), .int .i64 (LC : Nat), .int .i64 16, .bool Mp, .int .i64 (md : Nat), .string Op] 24 := by rw [hwb]; exact Blk.at rfl
  have hbb : Below wa12.heap.size wa12 wb := by rw [hwb]; repeat (first | exact below_alloc _ | refine below_trans ?_ (below_alloc _))
  obtain ⟨qp, hqp⟩ : ∃ q, wa12.heap.size = q := ⟨_, rfl⟩
  have hge : True := by trivial
  rw [hqp] at bn ⊢
  have HB15 := Lib.hid (And.intro (HB14.out.1.kept hbb) (And.intro bn (below_trans HB14.out.2 hbb)))
  have HGp := Lib.hid hge
  obtain ⟨W15, hW⟩ : ∃ W, W = wb := ⟨_, rfl⟩
  rw [← hW] at HB15 ⊢
  clear hwb bn hbb hge hqp hW HB14 wb
  have z := HB15.out.2.1
  have c0 := z.cell (i := 0) rfl
  have c1 := z.cell (i := 1) rfl
  have c2 := z.cell (i := 2) rfl
  have c3 := z.cell (i := 3) rfl
  have c4 := z.cell (i := 4) rfl
  have c5 := z.cell (i := 5) rfl
  have c6 := z.cell (i := 6) rfl
  clear z
  obtain ⟨m1, m2⟩ := HMin.out
  rcases (show (w2 = w1 ∧ w1 < pW) ∨ (w2 = pW ∧ ¬ w1 < pW) by omega) with ⟨e1, i1⟩ | ⟨e1, i1⟩ <;> rcases (show (h2 = h1 ∧ h1 < pH) ∨ (h2 = pH ∧ ¬ h1 < pH) by omega) with ⟨e2, i2⟩ | ⟨e2, i2⟩ <;> clear m1 m2 HMin <;> subst e1 <;> subst e2
  all_goals
    go_wp2_with fail
    clear i1 i2
    refine (HC2.out _).mono ?_
    rintro r wa15 ⟨rfl, hbb⟩
    have HB16 := Lib.hid (And.intro (HB15.out.1.kept hbb) (And.intro (HB15.out.2.1.kept hbb) (below_trans HB15.out.2.2 hbb)))
    clear c0 c1 c2 c3 c4 c5 c6 hbb HB15
    have HB17 := Lib.hid (And.intro HB16.out.1 HB16.out.2.2)
    clear HB16
    go_upto_region 13 with fail
    refine wp_named ?_
    intro wb hwb
    have bn : Blk wb wa15.heap.size [.int .i64 (w2 : Nat), .int .i64 (h2 : Nat), .int .i64 (LC : Nat), .int .i64 16, .bool Mp, .int .i64 (md : Nat), .string Oq] 24 := by rw [hwb]; exact Blk.at rfl
    have hbb : Below wa15.heap.size wa15 wb := by rw [hwb]; repeat (first | exact below_alloc _ | refine below_trans ?_ (below_alloc _))
    obtain ⟨qq, hqq⟩ : ∃ q, wa15.heap.size = q := ⟨_, rfl⟩
    have hge : True := by trivial
    rw [hqq] at bn ⊢
    have HB18 := Lib.hid (And.intro (HB17.out.1.kept hbb) (And.intro bn (below_trans HB17.out.2 hbb)))
    have HGq := Lib.hid hge
    obtain ⟨W18, hW⟩ : ∃ W, W = wb := ⟨_, rfl⟩
    rw [← hW] at HB18 ⊢
    clear hwb bn hbb hge hqq hW HB17 wb
    have z := HB18.out.1
    have c0 := z.cell (i := 0) rfl
    have c1 := z.cell (i := 1) rfl
    have c2 := z.cell (i := 2) rfl
    have c3 := z.cell (i := 3) rfl
    have c4 := z.cell (i := 4) rfl
    have c5 := z.cell (i := 5) rfl
    have c6 := z.cell (i := 6) rfl
    clear z
    have z := HB18.out.2.1
    have d0 := z.cell (i := 0) rfl
    have d1 := z.cell (i := 1) rfl
    have d2 := z.cell (i := 2) rfl
    have d3 := z.cell (i := 3) rfl
    have d4 := z.cell (i := 4) rfl
    have d5 := z.cell (i := 5) rfl
    have d6 := z.cell (i := 6) rfl
    clear z
    go_wp2_with fail
    refine (HP2.out _).mono ?_
    rintro r wa18 ⟨rfl, hbb⟩
    have HB19 := Lib.hid (And.intro (HB18.out.1.kept hbb) (And.intro (HB18.out.2.1.kept hbb) (below_trans HB18.out.2.2 hbb)))
    clear c0 c1 c2 c3 c4 c5 c6 d0 d1 d2 d3 d4 d5 d6 hbb HB18
    go_upto_region 14 with fail
    refine wp_named ?_
    intro wb hwb
    have bn : Blk wb wa18.heap.size [.int .i64 (LW : Nat), .int .i64 (LH : Nat), .int .i64 (LC : Nat), .int .i64 16, .bool Lp, .int .i64 (pd : Nat), .string Or] 24 := by rw [hwb]; exact Blk.at rfl
    have hbb : Below wa18.heap.size wa18 wb := by rw [hwb]; repeat (first | exact below_alloc _ | refine below_trans ?_ (below_alloc _))
    obtain ⟨qr, hqr⟩ : ∃ q, wa18.heap.size = q := ⟨_, rfl⟩
    have hge : True := by trivial
    rw [hqr] at bn ⊢
    have HB20 := Lib.hid (And.intro (HB19.out.1.kept hbb) (And.intro (HB19.out.2.1.kept hbb) (And.intro bn (below_trans HB19.out.2.2 hbb))))
    have HGr := Lib.hid hge
    obtain ⟨W20, hW⟩ : ∃ W, W = wb := ⟨_, rfl⟩
    rw [← hW] at HB20 ⊢
    clear hwb bn hbb hge hqr hW HB19 wb
    have z := HB20.out.2.2.1
    have c0 := z.cell (i := 0) rfl
    have c1 := z.cell (i := 1) rfl
    have c2 := z.cell (i := 2) rfl
    have c3 := z.cell (i := 3) rfl
    have c4 := z.cell (i := 4) rfl
    have c5 := z.cell (i := 5) rfl
    have c6 := z.cell (i := 6) rfl
    clear z
    have d0 := HB20.out.2.1.cell (i := 0) rfl
    have d1 := HB20.out.2.1.cell (i := 1) rfl
    go_wp2_with fail
    refine (HC3.out _).mono ?_
    rintro r wa20 ⟨rfl, hbb⟩
    have HB21 := Lib.hid (And.intro (HB20.out.1.kept hbb) (And.intro (HB20.out.2.1.kept hbb) (And.intro (HB20.out.2.2.1.kept hbb) (below_trans HB20.out.2.2.2 hbb))))
    clear c0 c1 c2 c3 c4 c5 c6 d0 d1 hbb HB20
    go_upto_region 15 with fail
    refine wp_named ?_
    intro wb hwb
    have bn : Blk wb wa20.heap.size [.int .i64 (w2 : Nat), .int .i64 (h2 : Nat), .int .i64 (LC : Nat), .int .i64 16, .bool Lp, .int .i64 (pd : Nat), .string Ot] 24 := by rw [hwb]; exact Blk.at rfl
    have hbb : Below wa20.heap.size wa20 wb := by rw [hwb]; repeat (first | exact below_alloc _ | refine below_trans ?_ (below_alloc _))
    obtain ⟨qt, hqt⟩ : ∃ q, wa20.heap.size = q := ⟨_, rfl⟩
    have hge : True := by trivial
    rw [hqt] at bn ⊢
    have HB22 := Lib.hid (And.intro (HB21.out.1.kept hbb) (And.intro (HB21.out.2.1.kept hbb) (And.intro (HB21.out.2.2.1.kept hbb) (And.intro bn (below_trans HB21.out.2.2.2 hbb)))))
    have HGt := Lib.hid hge
    obtain ⟨W22, hW⟩ : ∃ W, W = wb := ⟨_, rfl⟩
    rw [← hW] at HB22 ⊢
    clear hwb bn hbb hge hqt hW HB21 wb
    have z := HB22.out.2.2.2.1
    have c0 := z.cell (i := 0) rfl
    have c1 := z.cell (i := 1) rfl
    have c2 := z.cell (i := 2) rfl
    have c3 := z.cell (i := 3) rfl
    have c4 := z.cell (i := 4) rfl
    have c5 := z.cell (i := 5) rfl
    have c6 := z.cell (i := 6) rfl
    clear z
    have z := HB22.out.2.1
    have d0 := z.cell (i := 0) rfl
    have d1 := z.cell (i := 1) rfl
    have d2 := z.cell (i := 2) rfl
    have d3 := z.cell (i := 3) rfl
    have d4 := z.cell (i := 4) rfl
    have d5 := z.cell (i := 5) rfl
    have d6 := z.cell (i := 6) rfl
    clear z
    go_wp2_with fail
    refine (HAl.out _).mono ?_
    rintro r wa22 ⟨rfl, hbb⟩
    have HB23 := Lib.hid (And.intro (HB22.out.1.kept hbb) (And.intro (HB22.out.2.1.kept hbb) (And.intro (HB22.out.2.2.1.kept hbb) (And.intro (HB22.out.2.2.2.1.kept hbb) (below_trans HB22.out.2.2.2.2 hbb)))))
    clear c0 c1 c2 c3 c4 c5 c6 d0 d1 d2 d3 d4 d5 d6 hbb HB22
    have z := HB23.out.2.2.1
    have c0 := z.cell (i := 0) rfl
    have c1 := z.cell (i := 1) rfl
    have c2 := z.cell (i := 2) rfl
    have c3 := z.cell (i := 3) rfl
    have c4 := z.cell (i := 4) rfl
    have c5 := z.cell (i := 5) rfl
    have c6 := z.cell (i := 6) rfl
    clear z
    go_wp2_with fail
    refine (HCh.out _).mono ?_
    rintro r wa23 ⟨rfl, hbb⟩
    have HB24 := Lib.hid (And.intro (HB23.out.1.kept hbb) (And.intro (HB23.out.2.1.kept hbb) (And.intro (HB23.out.2.2.1.kept hbb) (And.intro (HB23.out.2.2.2.1.kept hbb) (below_trans HB23.out.2.2.2.2 hbb)))))
    clear c0 c1 c2 c3 c4 c5 c6 hbb HB23
    go_wp2_with fail
    go_ret
    exact ⟨rfl, HB24.out.2.2.2.2⟩

theorem imageParts_calls (D : Dr) (A : Option Addr) (cA : Nat) (E : Dr) (A2 : Option Addr) (cA2 : Nat) (a b c e : Int) (w : World) (hd : D.Ok) (hvs : Cs w .u16 A D.vs) (he : E.Ok) (hvs2 : Cs w .u16 A2 E.vs) (ha : 0 ≤ a ∧ a ≤ 255) (hb : 0 ≤ b ∧ b ≤ 255) (hc : 0 ≤ c ∧ c ≤ 255) (h4 : 0 ≤ e ∧ e ≤ 255) :
    Calls Try.prog 10 #[D.v A cA, E.v A2 cA2, .agg #[.int .u8 a, .int .u8 b, .int .u8 c, .int .u8 e]] w fun e w' => e = .returned (.bool true) ∧ Below w.heap.size w w' := by
  obtain ⟨an, rfl⟩ := Int.eq_ofNat_of_zero_le ha.1
  obtain ⟨bn, rfl⟩ := Int.eq_ofNat_of_zero_le hb.1
  obtain ⟨cn, rfl⟩ := Int.eq_ofNat_of_zero_le hc.1
  obtain ⟨dn, rfl⟩ := Int.eq_ofNat_of_zero_le h4.1
  cases hdp : D.deep
  · exact imageParts_false D E hdp hd he A A2 cA cA2 an bn cn dn (by omega) (by omega) (by omega) (by omega) w hvs hvs2
  · exact imageParts_true D E hdp hd he A A2 cA cA2 an bn cn dn (by omega) (by omega) (by omega) (by omega) w hvs hvs2
end Go.Proofs.Ytpgkhhdobolfbaa
