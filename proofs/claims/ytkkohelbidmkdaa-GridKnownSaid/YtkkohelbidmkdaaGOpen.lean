/-
  The arguments of this seat's laws, read: slices of numbers, grids, drafts, arrays of small structs.
-/
import Derived.Test.YtkkohelbidmkdaaGFour
import Derived.OpenShut
import Derived.ChangeOld
import Derived.SizedLaws
import Derived.ProofKit
import Derived.Lib.SmallJoins
namespace Go.Proofs.Ytkkohelbidmkdaa
set_option linter.unusedVariables false
set_option linter.unusedSimpArgs false
open Go Go.RowKit Go.ChangeShapes Go.WideShapes

section
variable {H : Type} {enc : TypeId × Value → H} {W : World} {base : Nat} {held : Bool}

theorem open_row {t e : TypeId} {k : IntKind} {fuel : Nat} {v : Value} {x : DataW H × List MemPlace} (ht : Try.prog.underlying t = some (.slice e)) (he : Try.prog.underlying e = some (.int k)) (hc : Try.prog.cellsOf e = 1)
    (h : DataW.trod enc Try.prog W base (fun _ => true) held fuel t [v] = some x) :
    ∃ A xs cap, v = .slice A (xs : List Int).length cap ∧ Cs W k A xs ∧ xs.length ≤ cap ∧ cap ≤ 9223372036854775807 ∧ (A = none → cap = 0) ∧ ∀ n ∈ xs, (Lit.int k n).wf = true := by
  rcases open_ints ht he hc h with ⟨hcs, _⟩ | ⟨a, len, cap, zs, hcs, _, hl, hm, hz, _, hcell, hw⟩
  · simp at hcs
    subst hcs
    exact ⟨none, [], 0, rfl, Cs.nil, Nat.le_refl _, by omega, fun _ => rfl, by simp⟩
  · simp at hcs
    subst hcs
    simp only [if_true] at hz
    simp only [maxLen] at hm
    have hlen : (zs.take len).length = len := by rw [List.length_take]; omega
    refine ⟨some a, zs.take len, cap, by rw [hlen], ?_, by omega, by omega, (fun e => by cases e), fun n hn => hw n (List.mem_of_mem_take hn)⟩
    intro i y hy
    rw [List.getElem?_take] at hy
    split at hy
    · have hi : i < zs.length := (List.getElem?_eq_some_iff.1 hy).1
      obtain ⟨b, off, rfl, hb⟩ := Go.ints_at hcell (by omega)
      refine ⟨b, off, rfl, ?_⟩
      rw [hb i hi, List.getD_eq_getElem?_getD, hy]; rfl
    · cases hy

theorem open_grid {r : Reach} {b0 : Nat} {v : Value} {d : DataW H} {p : List MemPlace} (hv : Value.okWide Try.prog W r b0 24 v) (h : DataW.Trod enc Try.prog W base (fun _ => true) held 24 v d p) :
    ∃ v1 o v2, v = .agg #[v1, .int .i64 o, v2] ∧ IsGrid W (.agg #[v1, .int .i64 o, v2]) := by
  obtain ⟨v0, v1, v2, y0, y1, y2, n, rfl, _, _, h0, h1, h2⟩ := Joins.open_agg3 Try.underlying24 (by kernel_rfl) (by kernel_rfl) hv h
  obtain ⟨A, s, c, rfl, p1, p2, p3, p4, _⟩ := open_row Try.underlying22 Try.underlying3 (by kernel_rfl) h0
  obtain ⟨o, ho, _, _⟩ := DataW.trod_int Try.underlying3 h1
  obtain ⟨B, dd, e, rfl, q1, q2, q3, q4, _⟩ := open_row Try.underlying22 Try.underlying3 (by kernel_rfl) h2
  simp at ho
  subst ho
  exact ⟨_, _, _, rfl, A, c, s, o, B, e, dd, rfl, p1, q1, p2, p3, p4, q2, q3, q4⟩

theorem wf_u8 {n : Int} (h : (Lit.int .u8 n).wf = true) : 0 ≤ n ∧ n ≤ 255 := bounds_u8 h
theorem wf_u16 {n : Int} (h : (Lit.int .u16 n).wf = true) : 0 ≤ n ∧ n ≤ 65535 := bounds_u16 h

theorem open_draft {r : Reach} {b0 : Nat} {v : Value} {d : DataW H} {p : List MemPlace} (hv : Value.okWide Try.prog W r b0 28 v) (h : DataW.Trod enc Try.prog W base (fun _ => true) held 28 v d p) : DraftV W v := by
  obtain ⟨v0, v1, v2, v3, y0, y1, y2, y3, n, rfl, _, _, h0, h1, h2, h3⟩ := Joins.open_agg4 Try.underlying28 (by kernel_rfl) (by kernel_rfl) hv h
  obtain ⟨S, ss, cs, rfl, p1, p2, p3, p4, p5⟩ := open_row Try.underlying25 Try.underlying5 (by kernel_rfl) h0
  obtain ⟨du, hdu, _, hdw⟩ := DataW.trod_int Try.underlying5 h1
  obtain ⟨V, vs, cv, rfl, q1, q2, q3, q4, q5⟩ := open_row Try.underlying26 Try.underlying62 (by kernel_rfl) h2
  obtain ⟨sm, hsm, _⟩ := DataW.trod_bool Try.underlying4 h3
  simp at hdu hsm
  subst hdu hsm
  exact ⟨S, cs, ss, du, V, cv, vs, sm, rfl, p1, q1, (wf_u8 hdw).1, (wf_u8 hdw).2, fun x hx => wf_u8 (p5 x hx), by omega, fun x hx => wf_u16 (q5 x hx), by omega⟩

theorem open_list {t e : TypeId} {k : IntKind} {r : Reach} {b0 : Nat} {v : Value} {d : DataW H} {p : List MemPlace} (ht : Try.prog.underlying t = some (.slice e)) (he : Try.prog.underlying e = some (.int k)) (hc : Try.prog.cellsOf e = 1)
    (hv : Value.okWide Try.prog W r b0 t v) (h : DataW.Trod enc Try.prog W base (fun _ => true) held t v d p) :
    ∃ A xs cap, v = .slice A (xs : List Int).length cap ∧ Cs W k A xs ∧ xs.length ≤ cap ∧ cap ≤ 9223372036854775807 ∧ (A = none → cap = 0) ∧ ∀ n ∈ xs, (Lit.int k n).wf = true := by
  obtain ⟨a, n, c, rfl⟩ := okWide_slice ht hv
  obtain ⟨fuel, hf⟩ := h
  exact open_row ht he hc (by simpa [Value.cells] using hf)

theorem okWide_array {t e : TypeId} {n : Nat} {r : Reach} {b0 : Nat} {v : Value} (ht : Try.prog.underlying t = some (.array n e)) (h : Value.okWide Try.prog W r b0 t v) : ∃ cs, v = .agg cs ∧ cs.size = Try.prog.cellsOf t := by
  simp only [Value.okWide, ht] at h
  obtain ⟨cs, h1, h2, _⟩ := h
  exact ⟨cs, h1, h2⟩

/-- An array of four small numbers. -/
theorem open_four {r : Reach} {b0 : Nat} {v : Value} {d : DataW H} {p : List MemPlace} (hv : Value.okWide Try.prog W r b0 32 v) (h : DataW.Trod enc Try.prog W base (fun _ => true) held 32 v d p) :
    ∃ s0 s1 s2 s3 : Int, v = .agg #[.int .u8 s0, .int .u8 s1, .int .u8 s2, .int .u8 s3] ∧ (0 ≤ s0 ∧ s0 ≤ 255) ∧ (0 ≤ s1 ∧ s1 ≤ 255) ∧ (0 ≤ s2 ∧ s2 ≤ 255) ∧ (0 ≤ s3 ∧ s3 ≤ 255) := by
  obtain ⟨cs, rfl, hsz⟩ := okWide_array Try.underlying32 hv
  obtain ⟨fuel, hf⟩ := h
  obtain ⟨xs, m, _, _, _, hl, hx⟩ := DataW.trod_array Try.underlying32 hf
  have hc : Try.prog.cellsOf 5 = 1 := by kernel_rfl
  have hC : Try.prog.cellsOf 32 = 4 := by kernel_rfl
  obtain ⟨c0, c1, c2, c3, rfl⟩ : ∃ a b c d, cs = #[a, b, c, d] := by
    rw [hC] at hsz
    match cs, hsz with
    | ⟨[a, b, c, d]⟩, _ => exact ⟨a, b, c, d, rfl⟩
  have each : ∀ i (c : Value), i < 4 → ([c0, c1, c2, c3] : List Value)[i]? = some c → ∃ s : Int, c = .int .u8 s ∧ (0 ≤ s ∧ s ≤ 255) := by
    intro i c hi hci
    have h1 := hx i hi
    rw [hc, Nat.mul_one] at h1
    have h2 : (([c0, c1, c2, c3] : List Value).drop i).take 1 = [c] := by
      rw [List.drop_eq_getElem?_toList_append, hci]; rfl
    rw [show (Value.agg #[c0, c1, c2, c3]).cells.toList = [c0, c1, c2, c3] from rfl, h2] at h1
    obtain ⟨y, hy⟩ : ∃ y, xs[i]? = some y := ⟨_, List.getElem?_eq_getElem (by omega)⟩
    rw [hy] at h1
    obtain ⟨s, hs, _, hw⟩ := DataW.trod_int Try.underlying5 h1
    simp at hs
    exact ⟨s, hs, wf_u8 hw⟩
  obtain ⟨s0, rfl, h0⟩ := each 0 c0 (by omega) rfl
  obtain ⟨s1, rfl, h1⟩ := each 1 c1 (by omega) rfl
  obtain ⟨s2, rfl, h2⟩ := each 2 c2 (by omega) rfl
  obtain ⟨s3, rfl, h3⟩ := each 3 c3 (by omega) rfl
  exact ⟨s0, s1, s2, s3, rfl, h0, h1, h2, h3⟩
theorem open_bend {fuel : Nat} {c0 c1 c2 : Value} {x : DataW H × List MemPlace} (h : DataW.trod enc Try.prog W base (fun _ => true) held fuel 30 [c0, c1, c2] = some x) :
    ∃ x a n : Int, c0 = .int .u8 x ∧ c1 = .int .u8 a ∧ c2 = .int .i64 n ∧ 0 ≤ x ∧ x ≤ 255 ∧ 0 ≤ a ∧ a ≤ 255 := by
  obtain ⟨y0, y1, y2, n, _, _, h0, h1, h2⟩ := Go.Deep.trod_struct3 Try.underlying30 h
  have k5 : Try.prog.cellsOf 5 = 1 := by kernel_rfl
  have k3 : Try.prog.cellsOf 3 = 1 := by kernel_rfl
  simp [k5, k3] at h0 h1 h2
  obtain ⟨x, hx, _, hxw⟩ := DataW.trod_int Try.underlying5 h0
  obtain ⟨a, ha, _, haw⟩ := DataW.trod_int Try.underlying5 h1
  obtain ⟨n, hn, _, _⟩ := DataW.trod_int Try.underlying3 h2
  simp at hx ha hn
  exact ⟨x, a, n, hx, ha, hn, (wf_u8 hxw).1, (wf_u8 hxw).2, (wf_u8 haw).1, (wf_u8 haw).2⟩

/-- Two changes. -/
theorem open_bends {r : Reach} {b0 : Nat} {v : Value} {d : DataW H} {p : List MemPlace} (hv : Value.okWide Try.prog W r b0 31 v) (h : DataW.Trod enc Try.prog W base (fun _ => true) held 31 v d p) :
    ∃ x a n x' a' n' : Int, v = .agg #[.int .u8 x, .int .u8 a, .int .i64 n, .int .u8 x', .int .u8 a', .int .i64 n'] ∧ (0 ≤ x ∧ x ≤ 255 ∧ 0 ≤ a ∧ a ≤ 255) ∧ (0 ≤ x' ∧ x' ≤ 255 ∧ 0 ≤ a' ∧ a' ≤ 255) := by
  obtain ⟨cs, rfl, hsz⟩ := okWide_array Try.underlying31 hv
  obtain ⟨fuel, hf⟩ := h
  obtain ⟨xs, m, _, _, _, hl, hx⟩ := DataW.trod_array Try.underlying31 hf
  have hc : Try.prog.cellsOf 30 = 3 := by kernel_rfl
  have hC : Try.prog.cellsOf 31 = 6 := by kernel_rfl
  obtain ⟨c0, c1, c2, c3, c4, c5, rfl⟩ : ∃ a b c d e f, cs = #[a, b, c, d, e, f] := by
    rw [hC] at hsz
    match cs, hsz with
    | ⟨[a, b, c, d, e, f]⟩, _ => exact ⟨a, b, c, d, e, f, rfl⟩
  have e0 := hx 0 (by omega)
  have e1 := hx 1 (by omega)
  rw [hc] at e0 e1
  obtain ⟨y0, hy0⟩ : ∃ y, xs[0]? = some y := ⟨_, List.getElem?_eq_getElem (by omega)⟩
  obtain ⟨y1, hy1⟩ : ∃ y, xs[1]? = some y := ⟨_, List.getElem?_eq_getElem (by omega)⟩
  rw [hy0] at e0
  rw [hy1] at e1
  obtain ⟨x, a, n, rfl, rfl, rfl, h1⟩ := open_bend (c0 := c0) (c1 := c1) (c2 := c2) (by simpa [Value.cells] using e0)
  obtain ⟨x', a', n', rfl, rfl, rfl, h2⟩ := open_bend (c0 := c3) (c1 := c4) (c2 := c5) (by simpa [Value.cells] using e1)
  exact ⟨x, a, n, x', a', n', rfl, h1, h2⟩

/-- Two numbers. -/
theorem open_two {r : Reach} {b0 : Nat} {v : Value} {d : DataW H} {p : List MemPlace} (hv : Value.okWide Try.prog W r b0 45 v) (h : DataW.Trod enc Try.prog W base (fun _ => true) held 45 v d p) :
    ∃ s0 s1 : Int, v = .agg #[.int .i64 s0, .int .i64 s1] := by
  obtain ⟨cs, rfl, hsz⟩ := okWide_array Try.underlying45 hv
  obtain ⟨fuel, hf⟩ := h
  obtain ⟨xs, m, _, _, _, hl, hx⟩ := DataW.trod_array Try.underlying45 hf
  have hc : Try.prog.cellsOf 3 = 1 := by kernel_rfl
  have hC : Try.prog.cellsOf 45 = 2 := by kernel_rfl
  obtain ⟨c0, c1, rfl⟩ : ∃ a b, cs = #[a, b] := by
    rw [hC] at hsz
    match cs, hsz with
    | ⟨[a, b]⟩, _ => exact ⟨a, b, rfl⟩
  have e0 := hx 0 (by omega)
  have e1 := hx 1 (by omega)
  rw [hc] at e0 e1
  obtain ⟨y0, hy0⟩ : ∃ y, xs[0]? = some y := ⟨_, List.getElem?_eq_getElem (by omega)⟩
  obtain ⟨y1, hy1⟩ : ∃ y, xs[1]? = some y := ⟨_, List.getElem?_eq_getElem (by omega)⟩
  rw [hy0] at e0
  rw [hy1] at e1
  obtain ⟨s0, h0, _, _⟩ := DataW.trod_int Try.underlying3 e0
  obtain ⟨s1, h1, _, _⟩ := DataW.trod_int Try.underlying3 e1
  simp [Value.cells] at h0 h1
  exact ⟨s0, s1, by rw [h0, h1]⟩
end
end Go.Proofs.Ytkkohelbidmkdaa
