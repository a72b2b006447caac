/-
  Octets told by their samples.
-/
import Derived.Test.YtpgkhhdobolfbaaILay
namespace Go.Proofs.Ytpgkhhdobolfbaa
set_option linter.unusedVariables false
set_option linter.unusedSimpArgs false
open Go Go.RowKit

/-- The j-th octet of a sample of k octets. -/
def octN (k v j : Nat) : UInt8 := if k = 2 ∧ j = 0 then UInt8.ofNat (v / 256) else UInt8.ofNat v

/-- Octets that hold the samples f, and 0 behind each row. -/
structure Pix (L : Lay) (l : List UInt8) (f : Nat → Nat → Nat → Nat) : Prop where
  len : l.length = L.size
  pad : ∀ i, i < L.size → L.row ≤ i % L.stride → l[i]? = some 0
  at_ : ∀ x y c, x < L.W → y < L.H → c < L.C → ∀ j, j < L.k → l[L.place x y c + j]? = some (octN L.k (f x y c) j)

/-- Octets are told by their samples. -/
theorem Pix.unique {L : Lay} (h : L.Ok) {l l' : List UInt8} {f : Nat → Nat → Nat → Nat} (p : Pix L l f) (p' : Pix L l' f) : l = l' := by
  refine List.ext_getElem? fun i => ?_
  by_cases hi : i < L.size
  · by_cases hr : i % L.stride < L.row
    · obtain ⟨x, y, c, j, hx, hy, hc, hj, rfl⟩ := h.covered hi hr
      rw [p.at_ x y c hx hy hc j hj, p'.at_ x y c hx hy hc j hj]
    · rw [p.pad i hi (by omega), p'.pad i hi (by omega)]
  · rw [List.getElem?_eq_none (by rw [p.len]; omega), List.getElem?_eq_none (by rw [p'.len]; omega)]

theorem Pix.congr {L : Lay} {l : List UInt8} {f g : Nat → Nat → Nat → Nat} (p : Pix L l f) (e : ∀ x y c, x < L.W → y < L.H → c < L.C → f x y c = g x y c) : Pix L l g :=
  ⟨p.len, p.pad, fun x y c hx hy hc j hj => by rw [← e x y c hx hy hc]; exact p.at_ x y c hx hy hc j hj⟩

/-- One sample written. -/
def putS (L : Lay) (l : List UInt8) (x y c v : Nat) : List UInt8 :=
  if L.k = 2 then (l.set (L.place x y c) (UInt8.ofNat (v / 256))).set (L.place x y c + 1) (UInt8.ofNat v) else l.set (L.place x y c) (UInt8.ofNat v)

theorem putS_length (L : Lay) (l : List UInt8) (x y c v : Nat) : (putS L l x y c v).length = l.length := by unfold putS; split <;> simp

theorem putS_at {L : Lay} (h : L.Ok) {l : List UInt8} (hl : l.length = L.size) {x y c : Nat} (hx : x < L.W) (hy : y < L.H) (hc : c < L.C) (v : Nat) (i : Nat) :
    (∀ j, j < L.k → i = L.place x y c + j → (putS L l x y c v)[i]? = some (octN L.k v j)) ∧ ((∀ j, j < L.k → i ≠ L.place x y c + j) → (putS L l x y c v)[i]? = l[i]?) := by
  unfold putS octN
  rcases h.bits with e | e
  · have h0 := (h.place_row hx hy hc (j := 0) (by omega)).2.2.2
    rw [e, if_neg (by omega)]
    refine ⟨fun j hj he => ?_, fun hn => ?_⟩
    · have : j = 0 := by omega
      subst this
      subst he
      rw [if_neg (by omega), List.getElem?_set]
      simp; omega
    · have := hn 0 (by omega)
      rw [List.getElem?_set, if_neg (by omega)]
  · have h1 := (h.place_row hx hy hc (j := 1) (by omega)).2.2.2
    rw [e, if_pos rfl]
    refine ⟨fun j hj he => ?_, fun hn => ?_⟩
    · subst he
      by_cases hj0 : j = 0
      · subst hj0
        rw [if_pos ⟨rfl, rfl⟩, List.getElem?_set, if_neg (by omega), List.getElem?_set, if_pos (by omega), if_pos (by omega)]
      · have : j = 1 := by omega
        subst this
        rw [if_neg (by omega), List.getElem?_set, if_pos rfl, if_pos (by rw [List.length_set]; omega)]
    · have n0 := hn 0 (by omega)
      have n1 := hn 1 (by omega)
      rw [List.getElem?_set, if_neg (by omega), List.getElem?_set, if_neg (by omega)]

theorem Pix.put {L : Lay} (h : L.Ok) {l : List UInt8} {f : Nat → Nat → Nat → Nat} (p : Pix L l f) {x y c : Nat} (hx : x < L.W) (hy : y < L.H) (hc : c < L.C) (v : Nat) :
    Pix L (putS L l x y c v) (fun x' y' c' => if x' = x ∧ y' = y ∧ c' = c then v else f x' y' c') := by
  refine ⟨by rw [putS_length]; exact p.len, fun i hi hr => ?_, fun x' y' c' hx' hy' hc' j hj => ?_⟩
  · rw [(putS_at h p.len hx hy hc v i).2 (fun j hj e => ?_)]
    · exact p.pad i hi hr
    · obtain ⟨_, h2, h3, _⟩ := h.place_row hx hy hc hj
      rw [← e] at h2
      omega
  · by_cases e : x' = x ∧ y' = y ∧ c' = c
    · obtain ⟨rfl, rfl, rfl⟩ := e
      rw [(putS_at h p.len hx hy hc v _).1 j hj rfl]
      simp
    · rw [if_neg e, (putS_at h p.len hx hy hc v _).2 (fun j' hj' e' => ?_)]
      · exact p.at_ x' y' c' hx' hy' hc' j hj
      · obtain ⟨e1, e2, e3, _⟩ := h.place_inj hx' hy' hc' hj hx hy hc hj' e'
        exact e ⟨e1, e2, e3⟩
end Go.Proofs.Ytpgkhhdobolfbaa
