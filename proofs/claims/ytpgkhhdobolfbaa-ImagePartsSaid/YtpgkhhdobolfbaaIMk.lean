/-
  Images made of a layout and samples; what each function of images answers, plain.
-/
import Derived.Test.YtpgkhhdobolfbaaIValid
namespace Go.Proofs.Ytpgkhhdobolfbaa
set_option linter.unusedVariables false
set_option linter.unusedSimpArgs false
open Go Go.RowKit

/-- The octet at place i. -/
def Lay.octAt (L : Lay) (f : Nat → Nat → Nat → Nat) (i : Nat) : UInt8 :=
  if i % L.stride < L.row then
    octN L.k (if L.P then f (i % L.stride / L.k) (i / L.stride % L.H) (i / L.stride / L.H) else f (i % L.stride / L.k / L.C) (i / L.stride) (i % L.stride / L.k % L.C)) (i % L.stride % L.k)
  else 0

/-- The octets of samples. -/
def octs (L : Lay) (f : Nat → Nat → Nat → Nat) : List UInt8 := (List.range L.size).map (L.octAt f)

theorem octs_pix {L : Lay} (h : L.Ok) (f : Nat → Nat → Nat → Nat) : Pix L (octs L f) f := by
  refine ⟨by simp [octs], fun i hi hr => ?_, fun x y c hx hy hc j hj => ?_⟩
  · unfold octs
    rw [List.getElem?_map, List.getElem?_range hi]
    simp only [Option.map_some, Lay.octAt]
    rw [if_neg (by omega)]
  · obtain ⟨h1, h2, h3, h4⟩ := h.place_row hx hy hc hj
    unfold octs
    rw [List.getElem?_map, List.getElem?_range h4]
    simp only [Option.map_some, Lay.octAt]
    rw [h1, h2, if_pos h3]
    have hk : 0 < L.k := by omega
    have e1 : (L.q x c * L.k + j) / L.k = L.q x c := by rw [Nat.mul_comm, Nat.mul_add_div hk, Nat.div_eq_of_lt hj]; omega
    have e2 : (L.q x c * L.k + j) % L.k = j := by rw [Nat.mul_comm, Nat.mul_add_mod, Nat.mod_eq_of_lt hj]
    rw [e1, e2]
    unfold Lay.q Lay.R
    split
    · have e3 : (c * L.H + y) / L.H = c := by rw [Nat.mul_comm, Nat.mul_add_div (by omega), Nat.div_eq_of_lt hy]; omega
      have e4 : (c * L.H + y) % L.H = y := by rw [Nat.mul_comm, Nat.mul_add_mod, Nat.mod_eq_of_lt hy]
      rw [e3, e4]
    · have e3 : (x * L.C + c) / L.C = x := by rw [Nat.mul_comm, Nat.mul_add_div (by omega), Nat.div_eq_of_lt hc]; omega
      have e4 : (x * L.C + c) % L.C = c := by rw [Nat.mul_comm, Nat.mul_add_mod, Nat.mod_eq_of_lt hc]
      rw [e3, e4]

theorem Pix.octs {L : Lay} (h : L.Ok) {l : List UInt8} {f : Nat → Nat → Nat → Nat} (p : Pix L l f) : l = octs L f := p.unique h (octs_pix h f)

/-- A sample of octets. -/
def samp (L : Lay) (l : List UInt8) (x y c : Nat) : Nat :=
  if L.k = 2 then 256 * (l.getD (L.place x y c) 0).toNat + (l.getD (L.place x y c + 1) 0).toNat else (l.getD (L.place x y c) 0).toNat

/-- The samples are within their bits. -/
def Bd (L : Lay) (f : Nat → Nat → Nat → Nat) : Prop := ∀ x y c, x < L.W → y < L.H → c < L.C → f x y c < 2 ^ (8 * L.k)

theorem samp_lt {L : Lay} (h : L.Ok) (l : List UInt8) (x y c : Nat) : samp L l x y c < 2 ^ (8 * L.k) := by
  unfold samp
  have h1 := (l.getD (L.place x y c) 0).toNat_lt
  have h2 := (l.getD (L.place x y c + 1) 0).toNat_lt
  rcases h.bits with e | e <;> rw [e]
  · rw [if_neg (by decide)]; simpa using h1
  · rw [if_pos rfl]; simp at h1 h2 ⊢; omega

theorem ofNat_toNat (a : UInt8) (n : Nat) : UInt8.ofNat (256 * n + a.toNat) = a := by
  apply UInt8.toNat_inj.1
  have := a.toNat_lt
  simp

/-- Octets of the right length with 0 behind each row are told by their samples. -/
theorem samp_pix {L : Lay} (h : L.Ok) {l : List UInt8} (hl : l.length = L.size) (hp : ∀ i, i < L.size → L.row ≤ i % L.stride → l[i]? = some 0) : Pix L l (samp L l) := by
  refine ⟨hl, hp, fun x y c hx hy hc j hj => ?_⟩
  have hpos := (h.place_row hx hy hc hj).2.2.2
  have hat : l[L.place x y c + j]? = some (l.getD (L.place x y c + j) 0) := by
    rw [List.getD_eq_getElem?_getD, List.getElem?_eq_getElem (by omega)]; rfl
  rw [hat]
  unfold octN samp
  rcases h.bits with e | e
  · rw [e] at hj ⊢
    have : j = 0 := by omega
    subst this
    simp
  · rw [e] at hj ⊢
    rw [if_pos rfl]
    have h2 := (l.getD (L.place x y c + 1) 0).toNat_lt
    by_cases hj0 : j = 0
    · subst hj0
      simp only [and_self, if_true, Nat.add_zero]
      congr 1
      apply UInt8.toNat_inj.1
      have h1 := (l.getD (L.place x y c) 0).toNat_lt
      rw [UInt8.toNat_ofNat']
      omega
    · have : j = 1 := by omega
      subst this
      rw [if_neg (by omega), ofNat_toNat]

theorem Pix.samp {L : Lay} (h : L.Ok) {l : List UInt8} {f : Nat → Nat → Nat → Nat} (p : Pix L l f) (hb : Bd L f) {x y c : Nat} (hx : x < L.W) (hy : y < L.H) (hc : c < L.C) : samp L l x y c = f x y c := by
  have hlt := hb x y c hx hy hc
  have hat := p.at_ x y c hx hy hc
  unfold Ytpgkhhdobolfbaa.samp
  rcases h.bits with e | e
  · rw [e] at hlt hat ⊢
    have h0 := hat 0 (by omega)
    rw [if_neg (by omega), List.getD_eq_getElem?_getD, show L.place x y c = L.place x y c + 0 from rfl, h0]
    simp only [octN, Option.getD_some]
    rw [if_neg (by omega), UInt8.toNat_ofNat']
    omega
  · rw [e] at hlt hat ⊢
    have h0 := hat 0 (by omega)
    have h1 := hat 1 (by omega)
    rw [if_pos rfl, List.getD_eq_getElem?_getD, List.getD_eq_getElem?_getD, h1, show L.place x y c = L.place x y c + 0 from rfl, h0]
    simp only [octN, Option.getD_some]
    rw [if_pos ⟨trivial, trivial⟩, if_neg (by omega), UInt8.toNat_ofNat', UInt8.toNat_ofNat']
    omega

/-- An image, of whatever numbers. -/
structure Im where
  W : Int
  H : Int
  C : Int
  B : Int
  P : Bool
  Pd : Int
  O : ByteArray

theorem Im.ext' {a b : Im} (h1 : a.W = b.W) (h2 : a.H = b.H) (h3 : a.C = b.C) (h4 : a.B = b.B) (h5 : a.P = b.P) (h6 : a.Pd = b.Pd) (h7 : a.O = b.O) : a = b := by
  cases a; cases b; simp_all

def Im.v (m : Im) : Value := .agg #[.int .i64 m.W, .int .i64 m.H, .int .i64 m.C, .int .i64 m.B, .bool m.P, .int .i64 m.Pd, .string m.O]
def Im.zero : Im := ⟨0, 0, 0, 0, false, 0, ⟨#[]⟩⟩
def Im.l (m : Im) : List UInt8 := m.O.data.toList
def Im.shp (m : Im) : Bool := shB m.W m.H m.C m.B m.Pd
/-- Its layout. -/
def Im.lay (m : Im) : Lay := ⟨m.W.toNat, m.H.toNat, m.C.toNat, m.B.toNat / 8, m.P, m.Pd.toNat⟩
/-- Its samples. -/
def Im.smp (m : Im) : Nat → Nat → Nat → Nat := samp m.lay m.l
/-- Is it valid? -/
def Im.good (m : Im) : Bool := m.shp && decide (m.l.length = m.lay.size) && (List.range m.lay.size).all fun i => decide (m.lay.row ≤ i % m.lay.stride → m.l[i]? = some 0)

theorem lay_nums {W H C B Pd : Int} (h : Shp W H C B Pd) (P : Bool) : Nums ⟨W.toNat, H.toNat, C.toNat, B.toNat / 8, P, Pd.toNat⟩ W H C B P Pd := by
  have a1 := h.w1; have a2 := h.w2; have a3 := h.h1; have a4 := h.h2; have a5 := h.c1; have a6 := h.c2; have a7 := h.bits; have a8 := h.pad
  have hm : W.toNat * H.toNat * C.toNat ≤ 4096 := by
    have := h.most
    rw [← Int.toNat_of_nonneg (show 0 ≤ W by omega), ← Int.toNat_of_nonneg (show 0 ≤ H by omega), ← Int.toNat_of_nonneg (show 0 ≤ C by omega), ← Int.natCast_mul, ← Int.natCast_mul] at this
    omega
  refine ⟨⟨?_, ?_, ?_, ?_, ?_, ?_, hm, ?_, ?_⟩, ?_, ?_, ?_, ?_, rfl, ?_⟩
  all_goals dsimp only
  all_goals omega

theorem Im.good_val {m : Im} (h : m.good = true) : Val m.lay m.W m.H m.C m.B m.P m.Pd m.O := by
  unfold Im.good at h
  rw [Bool.and_eq_true, Bool.and_eq_true, decide_eq_true_iff, List.all_eq_true] at h
  obtain ⟨⟨h1, h2⟩, h3⟩ := h
  refine ⟨lay_nums (of_decide_eq_true h1) _, h2, fun i hi => ?_⟩
  have := h3 i (List.mem_range.2 hi)
  exact of_decide_eq_true this

theorem nums_lay {L : Lay} {m : Im} (h : Nums L m.W m.H m.C m.B m.P m.Pd) : m.lay = L := by
  obtain ⟨h0, h1, h2, h3, h4, h5, h6⟩ := h
  unfold Im.lay
  rw [h1, h2, h3, h4, h5, h6]
  cases L
  simp
  omega

theorem Im.val_good {m : Im} {L : Lay} (h : Val L m.W m.H m.C m.B m.P m.Pd m.O) : m.good = true := by
  unfold Im.good
  rw [nums_lay h.nums, Bool.and_eq_true, Bool.and_eq_true, decide_eq_true_iff, List.all_eq_true]
  refine ⟨⟨decide_eq_true (nums_shp h.nums), h.len⟩, fun i hi => decide_eq_true (h.pad i (List.mem_range.1 hi))⟩

theorem Im.good_pix {m : Im} (h : m.good = true) : Pix m.lay m.l m.smp := by
  have v := m.good_val h
  exact samp_pix v.nums.ok v.len v.pad

/-- The image of a layout with samples f. -/
def img (L : Lay) (f : Nat → Nat → Nat → Nat) : Im := ⟨(L.W : Nat), (L.H : Nat), (L.C : Nat), ((8 * L.k : Nat) : Int), L.P, (L.pd : Nat), ⟨(octs L f).toArray⟩⟩

theorem img_l (L : Lay) (f : Nat → Nat → Nat → Nat) : (img L f).l = octs L f := by simp [img, Im.l]
theorem img_nums {L : Lay} (h : L.Ok) (f : Nat → Nat → Nat → Nat) : Nums L (img L f).W (img L f).H (img L f).C (img L f).B (img L f).P (img L f).Pd := ⟨h, rfl, rfl, rfl, rfl, rfl, rfl⟩
theorem img_lay {L : Lay} (h : L.Ok) (f : Nat → Nat → Nat → Nat) : (img L f).lay = L := nums_lay (img_nums h f)
theorem img_good {L : Lay} (h : L.Ok) (f : Nat → Nat → Nat → Nat) : (img L f).good = true := by
  have p := octs_pix h f
  refine Im.val_good (L := L) ⟨img_nums h f, ?_, ?_⟩
  · have := p.len; rwa [← img_l L f] at this
  · have := p.pad; rwa [← img_l L f] at this
theorem img_smp {L : Lay} (h : L.Ok) {f : Nat → Nat → Nat → Nat} (hb : Bd L f) {x y c : Nat} (hx : x < L.W) (hy : y < L.H) (hc : c < L.C) : (img L f).smp x y c = f x y c := by
  unfold Im.smp
  rw [img_lay h, img_l]
  exact (octs_pix h f).samp h hb hx hy hc

/-- The octets are all that a layout and samples leave open. -/
theorem eq_mk {L : Lay} {m : Im} {f : Nat → Nat → Nat → Nat} (n : Nums L m.W m.H m.C m.B m.P m.Pd) (p : Pix L m.l f) : m = img L f := by
  refine Im.ext' n.w n.h n.c n.b n.p n.pd ?_
  have := p.octs n.ok
  show m.O = ⟨(octs L f).toArray⟩
  rw [← this]
  unfold Im.l
  rcases m with ⟨_, _, _, _, _, _, ⟨d⟩⟩
  simp

theorem Im.good_mk {m : Im} (h : m.good = true) : m = img m.lay m.smp := eq_mk (m.good_val h).nums (m.good_pix h)
theorem Im.good_ok {m : Im} (h : m.good = true) : m.lay.Ok := (m.good_val h).nums.ok
theorem Im.good_bd {m : Im} (h : m.good = true) : Bd m.lay m.smp := fun x y c _ _ _ => samp_lt (m.good_ok h) _ _ _ _
theorem img_congr {L : Lay} (h : L.Ok) {f g : Nat → Nat → Nat → Nat} (e : ∀ x y c, x < L.W → y < L.H → c < L.C → f x y c = g x y c) : img L f = img L g :=
  eq_mk (img_nums h f) (by rw [img_l]; exact (octs_pix h f).congr e)

/-! ### What each function answers -/
def errArg : Int := 2
def errImage : Int := 420
def okN : Int := 0

def checkS (m : Im) : Int := if m.good then okN else errImage
def strideS (m : Im) : Int × Int := if m.good then ((m.lay.stride : Nat), okN) else (0, errImage)
def makeS (W H C B : Int) (P : Bool) (Pd : Int) : Im × Int := if shB W H C B Pd then (img ⟨W.toNat, H.toNat, C.toNat, B.toNat / 8, P, Pd.toNat⟩ (fun _ _ _ => 0), okN) else (Im.zero, errArg)
def thereB (m : Im) (x y : Int) : Bool := decide (0 ≤ x ∧ x < m.W ∧ 0 ≤ y ∧ y < m.H)
def pixelS (m : Im) (x y : Nat) : List Int := (List.range m.lay.C).map fun c => (m.smp x y c : Int)
def getS (m : Im) (x y : Int) : List Int × Int := if m.good then (if thereB m x y then (pixelS m x.toNat y.toNat, okN) else ([], errArg)) else ([], errImage)
/-- Samples with another pixel. -/
def updS (f : Nat → Nat → Nat → Nat) (x y : Nat) (l : List Int) : Nat → Nat → Nat → Nat := fun x' y' c => if x' = x ∧ y' = y then (l.getD c 0).toNat else f x' y' c
def fitB (m : Im) (l : List Int) : Bool := decide ((l.length : Int) = m.C) && l.all fun n => decide (0 ≤ n ∧ n < 2 ^ m.B.toNat)
def setS (m : Im) (x y : Int) (l : List Int) : Im × Int := if m.good then (if thereB m x y && fitB m l then (img m.lay (updS m.smp x.toNat y.toNat l), okN) else (Im.zero, errArg)) else (Im.zero, errImage)
def convS (a b : Int) (v : Nat) : Nat := if a = 8 ∧ b = 16 then 257 * v else if a = 16 ∧ b = 8 then (v + 128) / 257 else v
def shapeS (m : Im) (b : Int) (P : Bool) (pd : Int) : Im × Int :=
  if m.good then (if shB m.W m.H m.C b pd then (img ⟨m.W.toNat, m.H.toNat, m.C.toNat, b.toNat / 8, P, pd.toNat⟩ (fun x y c => convS m.B b (m.smp x y c)), okN) else (Im.zero, errArg)) else (Im.zero, errImage)
def insideB (m : Im) (x y w h : Int) : Bool := decide (1 ≤ w ∧ 1 ≤ h ∧ 0 ≤ x ∧ x + w ≤ m.W ∧ 0 ≤ y ∧ y + h ≤ m.H)
def cutS (m : Im) (x y w h : Int) : Im × Int :=
  if m.good then (if insideB m x y w h then (img { m.lay with W := w.toNat, H := h.toNat } (fun i k c => m.smp (x.toNat + i) (y.toNat + k) c), okN) else (Im.zero, errArg)) else (Im.zero, errImage)
/-- Samples with a part of others. -/
def overS (f g : Nat → Nat → Nat → Nat) (x y w h : Nat) : Nat → Nat → Nat → Nat := fun i k c => if x ≤ i ∧ i < x + w ∧ y ≤ k ∧ k < y + h then g (i - x) (k - y) c else f i k c
def pasteS (m p : Im) (x y : Int) : Im × Int :=
  if m.good && p.good then (if decide (m.C = p.C ∧ m.B = p.B) && insideB m x y p.W p.H then (img m.lay (overS m.smp p.smp x.toNat y.toNat p.lay.W p.lay.H), okN) else (Im.zero, errArg)) else (Im.zero, errImage)
end Go.Proofs.Ytpgkhhdobolfbaa
