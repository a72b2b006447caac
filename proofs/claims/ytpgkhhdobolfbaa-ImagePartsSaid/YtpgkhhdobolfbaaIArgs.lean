/-
  The arguments of this seat's laws, read: drafts, changes, slices and arrays of numbers.
-/
import Derived.Test.YtpgkhhdobolfbaaISome
import Derived.OpenShut
import Derived.ChangeOld
import Derived.SizedLaws
import Derived.ProofKit
import Derived.Lib.SmallJoins
namespace Go.Proofs.Ytpgkhhdobolfbaa
set_option linter.unusedVariables false
set_option linter.unusedSimpArgs false
open Go Go.RowKit Go.ChangeShapes Go.WideShapes

set_option maxRecDepth 100000
section
variable {H : Type} {enc : TypeId × Value → H} {W : World} {base : Nat} {held : Bool}

theorem open_row {t e : TypeId} {k : IntKind} {fuel : Nat} {v : Value} {x : DataW H × List MemPlace} (ht : Try.prog.underlying t = some (.slice e)) (he : Try.prog.underlying e = some (.int k)) (hc : Try.prog.cellsOf e = 1)
    (h : DataW.trod enc Try.prog W base (fun _ => true) held fuel t [v] = some x) :
    ∃ A xs cap, v = .slice A (xs : List Int).length cap ∧ Cs W k A xs ∧ xs.length ≤ cap ∧ cap ≤ 9223372036854775807 ∧ (A = none → cap = 0) ∧ ∀ n ∈ xs, (Lit.int k n).wf = true := by
  rcases open_ints ht he hc h with ⟨hcs, _⟩ | ⟨a, len, cap, zs, hcs, _, hl, hm, hz, _, hcell, hw⟩
  · simp at hcs
    subst hcs
    exact ⟨none, [], 0, rfl, Cs.nil, Nat.le_refl _, by omega, fun _ => rfl, by simp⟩
  · simp at hcs
    subst hcs
    simp only [if_true] at hz
    simp only [maxLen] at hm
    have hlen : (zs.take len).length = len := by rw [List.length_take]; omega
    refine ⟨some a, zs.take len, cap, by rw [hlen], ?_, by omega, by omega, (fun e => by cases e), fun n hn => hw n (List.mem_of_mem_take hn)⟩
    intro i y hy
    rw [List.getElem?_take] at hy
    split at hy
    · have hi : i < zs.length := (List.getElem?_eq_some_iff.1 hy).1
      obtain ⟨b, off, rfl, hb⟩ := Go.ints_at hcell (by omega)
      refine ⟨b, off, rfl, ?_⟩
      rw [hb i hi, List.getD_eq_getElem?_getD, hy]; rfl
    · cases hy

theorem wf_u8 {n : Int} (h : (Lit.int .u8 n).wf = true) : 0 ≤ n ∧ n ≤ 255 := bounds_u8 h
theorem wf_u16 {n : Int} (h : (Lit.int .u16 n).wf = true) : 0 ≤ n ∧ n ≤ 65535 := bounds_u16 h

theorem open_list {t e : TypeId} {k : IntKind} {r : Reach} {b0 : Nat} {v : Value} {d : DataW H} {p : List MemPlace} (ht : Try.prog.underlying t = some (.slice e)) (he : Try.prog.underlying e = some (.int k)) (hc : Try.prog.cellsOf e = 1)
    (hv : Value.okWide Try.prog W r b0 t v) (h : DataW.Trod enc Try.prog W base (fun _ => true) held t v d p) :
    ∃ A xs cap, v = .slice A (xs : List Int).length cap ∧ Cs W k A xs ∧ xs.length ≤ cap ∧ cap ≤ 9223372036854775807 ∧ (A = none → cap = 0) ∧ ∀ n ∈ xs, (Lit.int k n).wf = true := by
  obtain ⟨a, n, c, rfl⟩ := okWide_slice ht hv
  obtain ⟨fuel, hf⟩ := h
  exact open_row ht he hc (by simpa [Value.cells] using hf)

theorem okWide_array {t e : TypeId} {n : Nat} {r : Reach} {b0 : Nat} {v : Value} (ht : Try.prog.underlying t = some (.array n e)) (h : Value.okWide Try.prog W r b0 t v) : ∃ cs, v = .agg cs ∧ cs.size = Try.prog.cellsOf t := by
  simp only [Value.okWide, ht] at h
  obtain ⟨cs, h1, h2, _⟩ := h
  exact ⟨cs, h1, h2⟩

/-- An array of numbers. -/
theorem open_array {t e : TypeId} {k : IntKind} {n : Nat} {r : Reach} {b0 : Nat} {v : Value} {d : DataW H} {p : List MemPlace} (ht : Try.prog.underlying t = some (.array n e)) (he : Try.prog.underlying e = some (.int k)) (hc : Try.prog.cellsOf e = 1) (hC : Try.prog.cellsOf t = n)
    (hv : Value.okWide Try.prog W r b0 t v) (h : DataW.Trod enc Try.prog W base (fun _ => true) held t v d p) :
    ∃ xs : List Int, v = .agg (xs.map (Value.int k)).toArray ∧ xs.length = n ∧ ∀ x ∈ xs, (Lit.int k x).wf = true := by
  obtain ⟨cs, rfl, hsz⟩ := okWide_array ht hv
  obtain ⟨fuel, hf⟩ := h
  obtain ⟨ys, m, _, _, _, hl, hx⟩ := DataW.trod_array ht hf
  rw [hC] at hsz
  have each : ∀ i (hi : i < cs.toList.length), ∃ s : Int, cs.toList[i] = .int k s ∧ (Lit.int k s).wf = true := by
    intro i hi
    have hin : i < n := by rw [← hsz]; simpa using hi
    have h1 := hx i hin
    rw [hc, Nat.mul_one] at h1
    have h2 : (cs.toList.drop i).take 1 = [cs.toList[i]] := by
      rw [List.drop_eq_getElem_cons hi]; rfl
    rw [show (Value.agg cs).cells.toList = cs.toList from rfl, h2] at h1
    obtain ⟨y, hy⟩ : ∃ y, ys[i]? = some y := ⟨_, List.getElem?_eq_getElem (by omega)⟩
    rw [hy] at h1
    obtain ⟨s, hs, _, hw⟩ := DataW.trod_int he h1
    simp at hs
    exact ⟨s, hs, hw⟩
  have key : ∀ l : List Value, (∀ i (hi : i < l.length), ∃ s : Int, l[i] = .int k s ∧ (Lit.int k s).wf = true) → ∃ xs : List Int, l = xs.map (Value.int k) ∧ ∀ x ∈ xs, (Lit.int k x).wf = true := by
    intro l
    induction l with
    | nil => exact fun _ => ⟨[], rfl, by simp⟩
    | cons a l ih =>
      intro hh
      obtain ⟨s, hs, hw⟩ := hh 0 (by simp)
      obtain ⟨xs, e, hxs⟩ := ih fun i hi => by have := hh (i + 1) (by simpa using hi); simpa using this
      refine ⟨s :: xs, by simp at hs; simp [hs, ← e], fun x hxm => ?_⟩
      rcases List.mem_cons.1 hxm with rfl | hxm
      · exact hw
      · exact hxs x hxm
  obtain ⟨xs, e, hxs⟩ := key _ each
  refine ⟨xs, ?_, ?_, hxs⟩
  · rw [← e]
  · have := congrArg List.length e
    simp at this
    omega

theorem open_draft {r : Reach} {b0 : Nat} {v : Value} {d : DataW H} {p : List MemPlace} (hv : Value.okWide Try.prog W r b0 52 v) (h : DataW.Trod enc Try.prog W base (fun _ => true) held 52 v d p) :
    ∃ (D : Dr) (A : Option Addr) (c : Nat), v = D.v A c ∧ D.Ok ∧ Cs W .u16 A D.vs := by
  obtain ⟨cs, rfl, hsz⟩ := okWide_struct Try.underlying52 hv
  obtain ⟨fuel, hf⟩ := h
  obtain ⟨ys, m, hm, hxx, hl, hlen, hx⟩ := DataW.trod_struct Try.underlying52 hf
  have hC : Try.prog.cellsOf 52 = 7 := by kernel_rfl
  have k5 : Try.prog.cellsOf 5 = 1 := by kernel_rfl
  have k4 : Try.prog.cellsOf 4 = 1 := by kernel_rfl
  have k39 : Try.prog.cellsOf 39 = 1 := by kernel_rfl
  obtain ⟨c0, c1, c2, c3, c4, c5, c6, rfl⟩ : ∃ a b c d e f g, cs = #[a, b, c, d, e, f, g] := by
    rw [hC] at hsz
    match cs, hsz with
    | ⟨[a, b, c, d, e, f, g]⟩, _ => exact ⟨a, b, c, d, e, f, g, rfl⟩
  obtain ⟨y0, y1, y2, y3, y4, y5, y6, rfl⟩ : ∃ a b c d e f g, ys = [a, b, c, d, e, f, g] := by
    match ys, hlen with
    | [a, b, c, d, e, f, g], _ => exact ⟨a, b, c, d, e, f, g, rfl⟩
  have h0 := hx 0 _ rfl
  have h1 := hx 1 _ rfl
  have h2 := hx 2 _ rfl
  have h3 := hx 3 _ rfl
  have h4 := hx 4 _ rfl
  have h5 := hx 5 _ rfl
  have h6 := hx 6 _ rfl
  simp [Value.cells, k5, k4, k39] at h0 h1 h2 h3 h4 h5 h6
  obtain ⟨s0, e0, _, w0⟩ := DataW.trod_int Try.underlying5 h0
  obtain ⟨s1, e1, _, w1⟩ := DataW.trod_int Try.underlying5 h1
  obtain ⟨s2, e2, _, w2⟩ := DataW.trod_int Try.underlying5 h2
  obtain ⟨s3, e3, _, w3⟩ := DataW.trod_int Try.underlying5 h3
  obtain ⟨s4, e4, _⟩ := DataW.trod_bool Try.underlying4 h4
  obtain ⟨s5, e5, _⟩ := DataW.trod_bool Try.underlying4 h5
  obtain ⟨A, xs, cap, e6, q1, q2, q3, q4, q5⟩ := open_row Try.underlying39 Try.underlying44 (by kernel_rfl) h6
  simp at e0 e1 e2 e3 e4 e5
  subst e0 e1 e2 e3 e4 e5 e6
  exact ⟨⟨s0, s1, s2, s3, s4, s5, xs⟩, A, cap, rfl, ⟨wf_u8 w0, wf_u8 w1, wf_u8 w2, wf_u8 w3, fun x hx => wf_u16 (q5 x hx), by show xs.length ≤ _; omega⟩, q1⟩

/-- Two octets. -/
theorem open_tb {r : Reach} {b0 : Nat} {v : Value} {d : DataW H} {p : List MemPlace} (hv : Value.okWide Try.prog W r b0 62 v) (h : DataW.Trod enc Try.prog W base (fun _ => true) held 62 v d p) :
    ∃ a b : Int, v = .agg #[.int .u8 a, .int .u8 b] ∧ (0 ≤ a ∧ a ≤ 255) ∧ (0 ≤ b ∧ b ≤ 255) := by
  obtain ⟨xs, rfl, hl, hw⟩ := open_array Try.underlying62 Try.underlying5 (by kernel_rfl) (by kernel_rfl) hv h
  match xs, hl with
  | [a, b], _ => exact ⟨a, b, rfl, wf_u8 (hw a (by simp)), wf_u8 (hw b (by simp))⟩
/-- Four values. -/
theorem open_fw {r : Reach} {b0 : Nat} {v : Value} {d : DataW H} {p : List MemPlace} (hv : Value.okWide Try.prog W r b0 63 v) (h : DataW.Trod enc Try.prog W base (fun _ => true) held 63 v d p) :
    ∃ a b c e : Int, v = .agg #[.int .u16 a, .int .u16 b, .int .u16 c, .int .u16 e] ∧ (0 ≤ a ∧ a ≤ 65535) ∧ (0 ≤ b ∧ b ≤ 65535) ∧ (0 ≤ c ∧ c ≤ 65535) ∧ (0 ≤ e ∧ e ≤ 65535) := by
  obtain ⟨xs, rfl, hl, hw⟩ := open_array Try.underlying63 Try.underlying44 (by kernel_rfl) (by kernel_rfl) hv h
  match xs, hl with
  | [a, b, c, e], _ => exact ⟨a, b, c, e, rfl, wf_u16 (hw a (by simp)), wf_u16 (hw b (by simp)), wf_u16 (hw c (by simp)), wf_u16 (hw e (by simp))⟩
/-- Four octets. -/
theorem open_four {r : Reach} {b0 : Nat} {v : Value} {d : DataW H} {p : List MemPlace} (hv : Value.okWide Try.prog W r b0 72 v) (h : DataW.Trod enc Try.prog W base (fun _ => true) held 72 v d p) :
    ∃ a b c e : Int, v = .agg #[.int .u8 a, .int .u8 b, .int .u8 c, .int .u8 e] ∧ (0 ≤ a ∧ a ≤ 255) ∧ (0 ≤ b ∧ b ≤ 255) ∧ (0 ≤ c ∧ c ≤ 255) ∧ (0 ≤ e ∧ e ≤ 255) := by
  obtain ⟨xs, rfl, hl, hw⟩ := open_array Try.underlying72 Try.underlying5 (by kernel_rfl) (by kernel_rfl) hv h
  match xs, hl with
  | [a, b, c, e], _ => exact ⟨a, b, c, e, rfl, wf_u8 (hw a (by simp)), wf_u8 (hw b (by simp)), wf_u8 (hw c (by simp)), wf_u8 (hw e (by simp))⟩
end
end Go.Proofs.Ytpgkhhdobolfbaa
