/-
  A relation of worlds for a drawn region that makes an image's block and stores into it.
-/
import Derived.Test.YtpgkhhdobolfbaaIWakes
namespace Go.Proofs.Ytpgkhhdobolfbaa
set_option linter.unusedVariables false
set_option linter.unusedSimpArgs false
open Go Go.RowKit

/-- Block b is an image's row. -/
def RowS (W : World) (b : Nat) : Prop := ∃ cur : Array Value, W.heap[b]? = some (.cells cur 24 (0, 0)) ∧ cur.size = 7

/-- The blocks below n are as they were; rows of images stay such. -/
structure ShT (n : Nat) (A B : World) : Prop where
  os : B.os = A.os
  tape : B.tape = A.tape
  output : B.output = A.output
  size : A.heap.size ≤ B.heap.size
  block : ∀ b, b < n → b < A.heap.size → B.heap[b]? = A.heap[b]?
  rows : ∀ b, RowS A b → RowS B b

instance relShT (n : Nat) : RT.Rel (ShT n) where
  e0 := 0
  N _ := True
  ndrawn _ _ := trivial
  refl _ := ⟨rfl, rfl, rfl, Nat.le_refl _, fun _ _ _ => rfl, fun _ h => h⟩
  trans _ _ _ h k := ⟨k.os.trans h.os, k.tape.trans h.tape, k.output.trans h.output, Nat.le_trans h.size k.size, fun b hb hs => (k.block b hb (Nat.lt_of_lt_of_le hs h.size)).trans (h.block b hb hs), fun b hi => k.rows b (h.rows b hi)⟩
  drawn _ := ⟨rfl, rfl, rfl, Nat.le_refl _, fun _ _ _ => rfl, fun _ h => h⟩

theorem RowS.lt {A : World} {b : Nat} (h : RowS A b) : b < A.heap.size := by
  obtain ⟨cur, h1, _⟩ := h
  exact (Array.getElem?_eq_some_iff.1 h1).1
theorem ShT.of_below {n : Nat} {A B : World} (h : Below A.heap.size A B) : ShT n A B :=
  ⟨h.os, h.tape, h.output, h.size, fun b _ hs => h.block b hs, fun b hi => by
    have hl := hi.lt
    obtain ⟨cur, h1, h2⟩ := hi
    exact ⟨cur, (h.block b hl).trans h1, h2⟩⟩
theorem ShT.below {A B : World} (h : ShT A.heap.size A B) : Below A.heap.size A B := ⟨h.os, h.tape, h.output, h.size, fun b hb => h.block b hb hb⟩
theorem ShT.below0 {w A B : World} (hb : Below w.heap.size w A) (h : ShT w.heap.size A B) : Below w.heap.size w B :=
  ⟨h.os.trans hb.os, h.tape.trans hb.tape, h.output.trans hb.output, Nat.le_trans hb.size h.size, fun k hk => (h.block k hk (Nat.lt_of_lt_of_le hk hb.size)).trans (hb.block k hk)⟩
theorem ShT.cell0 {A B : World} (h : ShT A.heap.size A B) : ∀ p : Addr, (A.cell? p).isSome = true → B.cell? p = A.cell? p := by
  intro p hs
  obtain ⟨u, hu⟩ := Option.isSome_iff_exists.1 hs
  exact World.cell?_of_block (h.block _ (block_lt hu) (block_lt hu))

theorem ShT.setRow {n : Nat} {W : World} {b : Nat} {cs : Array Value} (hr : RowS W b) (hc : cs.size = 7) (hn : n ≤ b) : ShT n W (W.setRow b cs) := by
  obtain ⟨old, h1, h2⟩ := hr
  have hh := setRow_heap W b old cs 24 (0, 0) h1
  have ho : ∀ c, c ≠ b → (W.setRow b cs).heap[c]? = W.heap[c]? := fun c hne => by
    show (W.heap.modify b _)[c]? = _
    rw [Array.getElem?_modify, if_neg (fun e => hne e.symm)]
  refine ⟨rfl, rfl, rfl, by simp [World.setRow], fun c hc' _ => ho c (by omega), fun c hi => ?_⟩
  by_cases e : c = b
  · subst e; exact ⟨cs, hh, hc⟩
  · obtain ⟨cur, g1, g2⟩ := hi
    exact ⟨cur, (ho c e).trans g1, g2⟩

theorem gives_store {o : Oper} {a : Act} {W : World} {R : Value → World → Prop} (x y : Operand) (ho : o.op = .store 24 x y) (b : Nat) (cs : Array Value) (hx : a.eval x = .pointer (some ⟨b, 0, none⟩)) (hy : a.eval y = .agg cs)
    (hs : RowS W b) (hc : cs.size = 7) (h1 : cs.all (·.oneCell') = true) (n : Nat) (hn : n ≤ b) (h : ∀ W', ShT n W W' → R undef W') : RT.Gives Try.prog o a W R := by
  have hT := ShT.setRow (n := n) hs hc hn
  obtain ⟨old, g1, g2⟩ := hs
  unfold RT.Gives execOp
  simp only [ho, hx, hy, Instr.storeAt, Instr.sureAddr, Sem.run_bind, Sem.run_pure, Result.andThen_ok, run_storeVar_row (P := Try.prog) W b 24 24 old cs g1 (by rw [hc]; kernel_rfl) (by omega) h1]
  exact h _ hT

theorem row_alloc (W : World) (cs : Array Value) (h : cs.size = 7) : RowS (W.alloc (.cells cs 24)) W.heap.size := ⟨cs, heap_alloc_new W _, h⟩
end Go.Proofs.Ytpgkhhdobolfbaa
