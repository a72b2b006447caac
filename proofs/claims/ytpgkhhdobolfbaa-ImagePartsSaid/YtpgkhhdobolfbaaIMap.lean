/-
  A map literal of two functions by the bits: what is made, and what is looked up in it.
-/
import Derived.Test.YtpgkhhdobolfbaaIRead
import Derived.WideMake
namespace Go.Proofs.Ytpgkhhdobolfbaa
set_option linter.unusedVariables false
set_option linter.unusedSimpArgs false
open Go Go.RowKit

theorem run_insert (w : World) (t : TypeId) (e : TypeId) (ht : Try.prog.underlying t = some (.map 3 e)) (r : Nat) (es : Array MapEntry) (clock : Nat) (key : Int) (v : Value) (hb : w.heap[r]? = some (.map es clock))
    (hn : Instr.findNow (.int .i64) (.int .i64 key) es.toList 0 = some none) : (Instr.mapUpdate t (.map (some r)) (.int .i64 key) v).run Try.prog w = .ok () { w with heap := w.heap.setIfInBounds r (.map (es.push { key := .int .i64 key, val := v, born := clock }) (clock + 1)) } := by
  have hc : (Instr.checkKey false 10000 3 (.int .i64 key)).run Try.prog w = .ok () w := MapKept.run_checkKey (k := .int .i64 key) Try.underlying3 (by simp [MapKept.IsKey]) false 9999
  simp [Instr.mapUpdate, run_underlying ht, MapKept.run_getObj_map hb, hc, MapKept.run_findKey Try.underlying3 hn, MapKept.run_setObj_map _ hb, Result.andThen]

theorem run_find (w : World) (t : TypeId) (e : TypeId) (ht : Try.prog.underlying t = some (.map 3 e)) (r : Nat) (es : Array MapEntry) (clock : Nat) (key : Int) (v : Value) (i : Nat) (hb : w.heap[r]? = some (.map es clock))
    (hn : Instr.findNow (.int .i64) (.int .i64 key) es.toList 0 = some (some (i, v))) : (Instr.lookup t (.map (some r)) (.int .i64 key) false).run Try.prog w = .ok v w := by
  have hc : ∀ em, (Instr.checkKey em 10000 3 (.int .i64 key)).run Try.prog w = .ok () w := fun em => MapKept.run_checkKey (k := .int .i64 key) Try.underlying3 (by simp [MapKept.IsKey]) em 9999
  simp [Instr.lookup, run_underlying ht, MapKept.run_getObj_map hb, hc, MapKept.run_findKey Try.underlying3 hn, Result.andThen]

/-- The literal: made, filled, looked up. -/
structure MapMade (t : TypeId) (w w1 w2 w3 : World) (f8 f16 : Value) : Prop where
  make : (Instr.makeMap t none).run Try.prog w = .ok (.map (some w.heap.size)) w1
  ins8 : (Instr.mapUpdate t (.map (some w.heap.size)) (.int .i64 8) f8).run Try.prog w1 = .ok () w2
  ins16 : (Instr.mapUpdate t (.map (some w.heap.size)) (.int .i64 16) f16).run Try.prog w2 = .ok () w3
  look8 : (Instr.lookup t (.map (some w.heap.size)) (.int .i64 8) false).run Try.prog w3 = .ok f8 w3
  look16 : (Instr.lookup t (.map (some w.heap.size)) (.int .i64 16) false).run Try.prog w3 = .ok f16 w3
  below : Below w.heap.size w w3

theorem map_made (w : World) (t : TypeId) (e : TypeId) (ht : Try.prog.underlying t = some (.map 3 e)) (f8 f16 : Value) : ∃ w1 w2 w3, MapMade t w w1 w2 w3 f8 f16 := by
  have h1 : (w.alloc (.map #[] 0)).heap[w.heap.size]? = some (.map #[] 0) := heap_alloc_new w _
  have hs : w.heap.size < (w.alloc (.map #[] 0)).heap.size := (Array.getElem?_eq_some_iff.1 h1).1
  have h2 : ((w.alloc (.map #[] 0)).heap.setIfInBounds w.heap.size (.map #[{ key := .int .i64 8, val := f8, born := 0 }] 1))[w.heap.size]? = some (.map #[{ key := .int .i64 8, val := f8, born := 0 }] 1) := by
    rw [Array.getElem?_setIfInBounds_self_of_lt hs]
  have h3 : (((w.alloc (.map #[] 0)).heap.setIfInBounds w.heap.size (.map #[{ key := .int .i64 8, val := f8, born := 0 }] 1)).setIfInBounds w.heap.size (.map #[{ key := .int .i64 8, val := f8, born := 0 }, { key := .int .i64 16, val := f16, born := 1 }] 2))[w.heap.size]? = some (.map #[{ key := .int .i64 8, val := f8, born := 0 }, { key := .int .i64 16, val := f16, born := 1 }] 2) := by
    rw [Array.getElem?_setIfInBounds_self_of_lt (by rw [Array.size_setIfInBounds]; exact hs)]
  refine ⟨_, _, _, run_makeMap_plain _ t, run_insert _ t e ht _ _ _ 8 f8 h1 rfl, run_insert _ t e ht _ _ _ 16 f16 h2 (by rfl), run_find _ t e ht _ _ _ 8 f8 0 h3 (by rfl), run_find _ t e ht _ _ _ 16 f16 1 h3 (by rfl), ?_⟩
  refine ⟨rfl, rfl, rfl, ?_, fun b hb => ?_⟩
  · show w.heap.size ≤ (((w.alloc (.map #[] 0)).heap.setIfInBounds _ _).setIfInBounds _ _).size
    rw [Array.size_setIfInBounds, Array.size_setIfInBounds]; omega
  · show (((w.alloc (.map #[] 0)).heap.setIfInBounds _ _).setIfInBounds _ _)[b]? = _
    rw [Array.getElem?_setIfInBounds_ne (by omega), Array.getElem?_setIfInBounds_ne (by omega)]
    exact heap_alloc_old w _ hb
end Go.Proofs.Ytpgkhhdobolfbaa
