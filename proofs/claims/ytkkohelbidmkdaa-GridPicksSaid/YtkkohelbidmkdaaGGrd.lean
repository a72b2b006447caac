/-
  Valid grids that lie in memory: what Swap, Pick, Range, At and Same answer.
-/
import Derived.Test.YtkkohelbidmkdaaGTwice
namespace Go.Proofs.Ytkkohelbidmkdaa
set_option linter.unusedVariables false
set_option linter.unusedSimpArgs false
open Go Go.RowKit

/-- A valid grid whose lists lie above base. -/
structure Grd (base : Nat) (A : Option Addr) (c : Nat) (sN : List Nat) (on : Nat) (B : Option Addr) (e : Nat) (d : List Int) (W : World) : Prop where
  size : Own W base (.slice A sN.length c) (ints sN)
  own : Own W base (.slice B d.length e) d
  valid : ValidG (ints sN) on d

theorem Grd.kept {base : Nat} {A : Option Addr} {c : Nat} {sN : List Nat} {on : Nat} {B : Option Addr} {e : Nat} {d : List Int} {W W' : World} (h : Grd base A c sN on B e d W) (hb : Below W.heap.size W W') : Grd base A c sN on B e d W' := ⟨h.size.kept hb, h.own.kept hb, h.valid⟩
theorem Grd.lower {base b0 : Nat} {A : Option Addr} {c : Nat} {sN : List Nat} {on : Nat} {B : Option Addr} {e : Nat} {d : List Int} {W : World} (h : Grd base A c sN on B e d W) (hb : b0 ≤ base) : Grd b0 A c sN on B e d W := ⟨h.size.lower hb, h.own.lower hb, h.valid⟩
theorem Grd.len4 {base : Nat} {A : Option Addr} {c : Nat} {sN : List Nat} {on : Nat} {B : Option Addr} {e : Nat} {d : List Int} {W : World} (h : Grd base A c sN on B e d W) : sN.length ≤ 4 := by have := h.valid.len4; rwa [ints_length] at this
theorem Grd.len1 {base : Nat} {A : Option Addr} {c : Nat} {sN : List Nat} {on : Nat} {B : Option Addr} {e : Nat} {d : List Int} {W : World} (h : Grd base A c sN on B e d W) : 1 ≤ sN.length := by have := h.valid.len1; rwa [ints_length] at this
theorem Grd.most {base : Nat} {A : Option Addr} {c : Nat} {sN : List Nat} {on : Nat} {B : Option Addr} {e : Nat} {d : List Int} {W : World} (h : Grd base A c sN on B e d W) : d.length ≤ 4096 := h.valid.most
theorem Drafted.grd {w0 W : World} {A : Option Addr} {c : Nat} {sN : List Nat} {on : Nat} {Ad : Option Addr} {kd : Nat} {data : List Int} (h : Drafted w0 A c sN on Ad kd data W) : Grd w0.heap.size A c sN on Ad kd data W := ⟨h.size, h.own, h.valid⟩

theorem swap_grd {base : Nat} {A : Option Addr} {c : Nat} {sN : List Nat} {on : Nat} {B : Option Addr} {e : Nat} {d : List Int} {w : World} (h : Grd base A c sN on B e d w) {a b : Nat} (ha : a < sN.length) (hb : b < sN.length) :
    Calls Try.prog 18 #[.agg #[.slice A sN.length c, .int .i64 on, .slice B d.length e], .int .i64 a, .int .i64 b] w fun r w' => ∃ A1 k1 B1 k2,
      r = .returned (.tuple #[.agg #[.slice A1 sN.length k1, .int .i64 on, .slice B1 d.length k2], .int .i64 0]) ∧ Grd w.heap.size A1 k1 (swapN sN a b) on B1 k2 (swapV sN d on a b) w' ∧ (swapV sN d on a b).length = d.length ∧ Below w.heap.size w w' := by
  have hl4 := h.len4
  have hm := h.most
  have hc := swap_calls A B c e (ints sN) d on a b w h.size.length.2.2.2.2 h.own.length.2.2.2.2 (by rw [ints_length]; omega) h.size.length.2.2.2.1 h.own.length.2.1 h.own.length.2.2.1
  rw [ints_length, swapR_ok h.valid ha hb] at hc
  refine hc.mono ?_
  rintro r w' ⟨v1, v2, rfl, h1, h2, hb'⟩
  have hl := swapV_length h.valid.pos h.len4 ha hb (data_nat h.valid)
  rw [← data_nat h.valid] at hl
  obtain ⟨A1, k1, rfl, _⟩ := h1.cs
  obtain ⟨B1, k2, rfl, _⟩ := h2.cs
  refine ⟨A1, k1, B1, k2, ?_, ⟨by simpa [ints_length] using h1, h2, h.valid.swapped ha hb⟩, hl, hb'⟩
  simp only [ints_length, swapN_length, hl]

theorem range_grd {base : Nat} {A : Option Addr} {c : Nat} {sN : List Nat} {on : Nat} {B : Option Addr} {e : Nat} {d : List Int} {w : World} (h : Grd base A c sN on B e d w) :
    Calls Try.prog 27 #[.agg #[.slice A sN.length c, .int .i64 on, .slice B d.length e]] w fun r w' => ∃ A1 k1 B1 k2,
      r = .returned (.tuple #[.slice A1 on k1, .slice B1 on k2, .int .i64 0]) ∧ Own w' w.heap.size (.slice A1 on k1) (joined min d on (pr sN)) ∧ Own w' w.heap.size (.slice B1 on k2) (joined max d on (pr sN)) ∧
      (joined min d on (pr sN)).length = on ∧ (joined max d on (pr sN)).length = on ∧ Below w.heap.size w w' := by
  have hl4 := h.len4
  have hm := h.most
  have hc := range_calls A B c e (ints sN) d on w h.size.length.2.2.2.2 h.own.length.2.2.2.2 (by rw [ints_length]; omega) h.own.length.2.1 h.own.length.2.2.1
  rw [ints_length, rangeR_ok h.valid] at hc
  refine hc.mono ?_
  rintro r w' ⟨v1, v2, rfl, h1, h2, hb'⟩
  have e1 := joined_length (g := min) (data_nat h.valid) (pr_pos h.valid.pos) (Nat.le_refl _)
  have e2 := joined_length (g := max) (data_nat h.valid) (pr_pos h.valid.pos) (Nat.le_refl _)
  obtain ⟨A1, k1, rfl, _⟩ := h1.cs
  obtain ⟨B1, k2, rfl, _⟩ := h2.cs
  simp only [e1, e2] at h1 h2 ⊢
  exact ⟨A1, k1, B1, k2, rfl, h1, h2, trivial, trivial, hb'⟩

/-- At, where what it answers is known. -/
theorem at_grd {base : Nat} {A : Option Addr} {c : Nat} {sN : List Nat} {on : Nat} {B : Option Addr} {e : Nat} {d : List Int} {w : World} (h : Grd base A c sN on B e d w) {I : Option Addr} {ci : Nat} {ix row : List Int} (hi : Cs w .i64 I ix) (hl : ix.length = sN.length)
    (hr : atR (ints sN) on d ix = (row, 0)) :
    Calls Try.prog 15 #[.agg #[.slice A sN.length c, .int .i64 on, .slice B d.length e], .slice I sN.length ci] w fun r w' => ∃ A1 k1,
      r = .returned (.tuple #[.slice A1 row.length k1, .int .i64 0]) ∧ Own w' w.heap.size (.slice A1 row.length k1) row ∧ Below w.heap.size w w' := by
  have hl4 := h.len4
  have hm := h.most
  have hc := gridAt_calls A B I c e ci (ints sN) d ix on w h.size.length.2.2.2.2 h.own.length.2.2.2.2 hi (by rw [ints_length]; omega) h.own.length.2.1 h.own.length.2.2.1 (by omega)
  rw [ints_length, hl, hr] at hc
  refine hc.mono ?_
  rintro r w' ⟨v1, rfl, h1, hb'⟩
  obtain ⟨A1, k1, rfl, _⟩ := h1.cs
  exact ⟨A1, k1, rfl, h1, hb'⟩

theorem same_grd {base base' : Nat} {A : Option Addr} {c : Nat} {sN : List Nat} {on : Nat} {B : Option Addr} {e : Nat} {d : List Int} {A' : Option Addr} {c' : Nat} {sN' : List Nat} {on' : Nat} {B' : Option Addr} {e' : Nat} {d' : List Int} {w : World} (h : Grd base A c sN on B e d w) (h' : Grd base' A' c' sN' on' B' e' d' w) (hs : sN = sN') (ho : on = on') (hd : d = d') :
    Calls Try.prog 31 #[.agg #[.slice A sN.length c, .int .i64 on, .slice B d.length e], .agg #[.slice A' sN'.length c', .int .i64 on', .slice B' d'.length e']] w fun r w' => r = .returned (.bool true) ∧ Below w.heap.size w w' := by
  have hl4 := h.len4
  have hm := h.most
  have hl4' := h'.len4
  have hm' := h'.most
  have hc := same_calls A B A' B' c e c' e' (ints sN) d (ints sN') d' on on' w h.size.length.2.2.2.2 h.own.length.2.2.2.2 h'.size.length.2.2.2.2 h'.own.length.2.2.2.2 (by rw [ints_length]; omega) (by omega) (by rw [ints_length]; omega) (by omega)
  rw [ints_length, ints_length] at hc
  refine hc.mono ?_
  rintro r w' ⟨rfl, hb⟩
  subst hs ho hd
  exact ⟨by simp, hb⟩

theorem equal_same {base base' : Nat} {A : Option Addr} {c n : Nat} {A' : Option Addr} {c' : Nat} {xs ys : List Int} {w : World} (h : Own w base (.slice A n c) xs) (h' : Own w base' (.slice A' n c') ys) (hn : xs.length = n) (he : xs = ys) (hm : n ≤ 4096) :
    Calls Try.prog 17 #[.slice A n c, .slice A' n c'] w fun r w' => r = .returned (.bool true) ∧ Below w.heap.size w w' := by
  subst hn he
  refine (equal_calls A A' c c' xs xs w h.length.2.2.2.2 h'.length.2.2.2.2 (by omega) (by omega)).mono ?_
  rintro r w' ⟨rfl, hb⟩
  exact ⟨by simp, hb⟩
end Go.Proofs.Ytkkohelbidmkdaa
