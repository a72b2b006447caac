/-
  The same relation of worlds; blocks of other kinds stay as they were.
-/
import Derived.Test.YtpgkhhdobolfbaaIRefP
import Derived.Test.YtpgkhhdobolfbaaISeqL
namespace Go.Proofs.Ytpgkhhdobolfbaa
set_option linter.unusedVariables false
set_option linter.unusedSimpArgs false
open Go Go.RowKit

/-- Block b is an image's row. -/
def RowU (W : World) (b : Nat) : Prop := ∃ cur : Array Value, W.heap[b]? = some (.cells cur 24 (0, 0)) ∧ cur.size = 7

/-- The blocks below n are as they were; rows of images stay such. -/
structure ShU (X : Array Value) (n : Nat) (A B : World) : Prop where
  os : B.os = A.os
  tape : B.tape = A.tape
  output : B.output = A.output
  size : A.heap.size ≤ B.heap.size
  block : ∀ b, b < n → b < A.heap.size → B.heap[b]? = A.heap[b]?
  rows : ∀ b, RowU A b → RowU B b
  other : ∀ (b : Nat) (c : Array Value) (t : TypeId) (fr : Nat × Nat), t ≠ 24 → A.heap[b]? = some (Obj.cells c t fr) → B.heap[b]? = some (Obj.cells c t fr)
  fix : ∀ b : Nat, A.heap[b]? = some (Obj.cells X 24 (0, 0)) → B.heap[b]? = some (Obj.cells X 24 (0, 0))

instance relShU (X : Array Value) (n : Nat) : RL.Rel (ShU X n) where
  e0 := 0
  N _ := True
  ndrawn _ _ := trivial
  refl _ := ⟨rfl, rfl, rfl, Nat.le_refl _, fun _ _ _ => rfl, fun _ h => h, fun _ _ _ _ _ h => h, fun _ h => h⟩
  trans _ _ _ h k := ⟨k.os.trans h.os, k.tape.trans h.tape, k.output.trans h.output, Nat.le_trans h.size k.size, fun b hb hs => (k.block b hb (Nat.lt_of_lt_of_le hs h.size)).trans (h.block b hb hs), fun b hi => k.rows b (h.rows b hi), fun b c t fr ht hh => k.other b c t fr ht (h.other b c t fr ht hh), fun b hh => k.fix b (h.fix b hh)⟩
  drawn _ := ⟨rfl, rfl, rfl, Nat.le_refl _, fun _ _ _ => rfl, fun _ h => h, fun _ _ _ _ _ h => h, fun _ h => h⟩

theorem RowU.lt {A : World} {b : Nat} (h : RowU A b) : b < A.heap.size := by
  obtain ⟨cur, h1, _⟩ := h
  exact (Array.getElem?_eq_some_iff.1 h1).1
theorem ShU.of_below {X : Array Value} {n : Nat} {A B : World} (h : Below A.heap.size A B) : ShU X n A B :=
  ⟨h.os, h.tape, h.output, h.size, fun b _ hs => h.block b hs, fun b hi => by
    have hl := hi.lt
    obtain ⟨cur, h1, h2⟩ := hi
    exact ⟨cur, (h.block b hl).trans h1, h2⟩, fun b c t fr _ hh => (h.block b (Array.getElem?_eq_some_iff.1 hh).1).trans hh, fun b hh => (h.block b (Array.getElem?_eq_some_iff.1 hh).1).trans hh⟩
theorem ShU.below {X : Array Value} {A B : World} (h : ShU X A.heap.size A B) : Below A.heap.size A B := ⟨h.os, h.tape, h.output, h.size, fun b hb => h.block b hb hb⟩
theorem ShU.below0 {X : Array Value} {w A B : World} (hb : Below w.heap.size w A) (h : ShU X w.heap.size A B) : Below w.heap.size w B :=
  ⟨h.os.trans hb.os, h.tape.trans hb.tape, h.output.trans hb.output, Nat.le_trans hb.size h.size, fun k hk => (h.block k hk (Nat.lt_of_lt_of_le hk hb.size)).trans (hb.block k hk)⟩
theorem ShU.cell0 {X : Array Value} {A B : World} (h : ShU X A.heap.size A B) : ∀ p : Addr, (A.cell? p).isSome = true → B.cell? p = A.cell? p := by
  intro p hs
  obtain ⟨u, hu⟩ := Option.isSome_iff_exists.1 hs
  exact World.cell?_of_block (h.block _ (block_lt hu) (block_lt hu))

theorem ShU.setRow {n : Nat} {W : World} {b : Nat} {cs : Array Value} (hr : RowU W b) (hc : cs.size = 7) (hn : n ≤ b) : ShU cs n W (W.setRow b cs) := by
  obtain ⟨old, h1, h2⟩ := hr
  have hh := setRow_heap W b old cs 24 (0, 0) h1
  have ho : ∀ c, c ≠ b → (W.setRow b cs).heap[c]? = W.heap[c]? := fun c hne => by
    show (W.heap.modify b _)[c]? = _
    rw [Array.getElem?_modify, if_neg (fun e => hne e.symm)]
  refine ⟨rfl, rfl, rfl, by simp [World.setRow], fun c hc' _ => ho c (by omega), fun c hi => ?_, fun c cs' t fr ht hg => (ho c (fun e => by subst e; rw [h1] at hg; injection hg with hg; injection hg with _ hg _; exact ht hg.symm)).trans hg, fun c hg => ?_⟩
  · by_cases e : c = b
    · subst e; exact ⟨cs, hh, hc⟩
    · obtain ⟨cur, g1, g2⟩ := hi
      exact ⟨cur, (ho c e).trans g1, g2⟩
  · by_cases e : c = b
    · subst e; exact hh
    · exact (ho c e).trans hg

theorem gives_storeU {o : Oper} {a : Act} {W : World} {R : Value → World → Prop} (x y : Operand) (ho : o.op = .store 24 x y) (b : Nat) (cs : Array Value) (hx : a.eval x = .pointer (some ⟨b, 0, none⟩)) (hy : a.eval y = .agg cs)
    (hs : RowU W b) (hc : cs.size = 7) (h1 : cs.all (·.oneCell') = true) (n : Nat) (hn : n ≤ b) (h : ∀ W', ShU cs n W W' → Blk W' b cs.toList 24 → R undef W') : RL.Gives Try.prog o a W R := by
  have hT := ShU.setRow (n := n) hs hc hn
  obtain ⟨old, g1, g2⟩ := hs
  have hB : Blk (W.setRow b cs) b cs.toList 24 := by unfold Blk; exact setRow_heap W b old cs 24 (0, 0) g1
  unfold RL.Gives execOp
  simp only [ho, hx, hy, Instr.storeAt, Instr.sureAddr, Sem.run_bind, Sem.run_pure, Result.andThen_ok, run_storeVar_row (P := Try.prog) W b 24 24 old cs g1 (by rw [hc]; kernel_rfl) (by omega) h1]
  exact h _ hT hB

theorem row_allocU (W : World) (cs : Array Value) (h : cs.size = 7) : RowU (W.alloc (.cells cs 24)) W.heap.size := ⟨cs, heap_alloc_new W _, h⟩
theorem ShU.blk {X : Array Value} {n : Nat} {A B : World} {b : Nat} {cs : List Value} {t : TypeId} (h : ShU X n A B) (ht : t ≠ 24) (hb : Blk A b cs t) : Blk B b cs t := h.other b _ t _ ht hb
end Go.Proofs.Ytpgkhhdobolfbaa
