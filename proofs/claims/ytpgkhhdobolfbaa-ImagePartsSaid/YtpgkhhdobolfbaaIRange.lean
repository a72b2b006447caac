/-
  A range over a function: what the function promises, and the statement by it; a drawn region within a round.
-/
import Derived.Test.YtpgkhhdobolfbaaISeq
import Derived.RangeFuncNested
import Derived.RangeFuncCalls
import Derived.RangeFuncLeaves
import Derived.OrdersIn
import Derived.OwnWalkIn
import Derived.TacticsInMore
import Derived.LoopNIn
import Derived.LoopIn
namespace Go.Proofs.Ytpgkhhdobolfbaa
set_option linter.unusedVariables false
set_option linter.unusedSimpArgs false
open Go Go.RowKit

/-- Outside of the blocks from z0 to z1 B is as A was. -/
structure OffZ (z0 z1 : Nat) (A B : World) : Prop where
  os : B.os = A.os
  tape : B.tape = A.tape
  output : B.output = A.output
  size : A.heap.size ≤ B.heap.size
  block : ∀ b, b < A.heap.size → (b < z0 ∨ z1 ≤ b) → B.heap[b]? = A.heap[b]?

/-- The blocks from z0 to z1 are as they were. -/
structure KeepZ (z0 z1 : Nat) (A B : World) : Prop where
  size : A.heap.size ≤ B.heap.size
  block : ∀ b, z0 ≤ b → b < z1 → B.heap[b]? = A.heap[b]?

theorem OffZ.refl (z0 z1 : Nat) (A : World) : OffZ z0 z1 A A := ⟨rfl, rfl, rfl, Nat.le_refl _, fun _ _ _ => rfl⟩
theorem OffZ.trans {z0 z1 : Nat} {A B C : World} (h : OffZ z0 z1 A B) (k : OffZ z0 z1 B C) : OffZ z0 z1 A C :=
  ⟨k.os.trans h.os, k.tape.trans h.tape, k.output.trans h.output, Nat.le_trans h.size k.size, fun b hb hz => (k.block b (Nat.lt_of_lt_of_le hb h.size) hz).trans (h.block b hb hz)⟩
theorem OffZ.wider {z0 z1 y0 y1 : Nat} {A B : World} (h : OffZ z0 z1 A B) (h0 : y0 ≤ z0) (h1 : z1 ≤ y1) : OffZ y0 y1 A B :=
  ⟨h.os, h.tape, h.output, h.size, fun b hb hz => h.block b hb (by omega)⟩
theorem OffZ.of_below {z0 z1 : Nat} {A B : World} (h : Below A.heap.size A B) : OffZ z0 z1 A B := ⟨h.os, h.tape, h.output, h.size, fun b hb _ => h.block b hb⟩
theorem OffZ.alloc {z0 z1 : Nat} {A : World} (o : Obj) : OffZ z0 z1 A (A.alloc o) := .of_below (below_alloc o)
theorem OffZ.setCell {z0 z1 : Nat} (A : World) {p : Addr} (h0 : z0 ≤ p.block) (h1 : p.block < z1) (v : Value) : OffZ z0 z1 A (A.setCell p v) :=
  ⟨rfl, rfl, rfl, by simp [World.setCell], fun b _ hz => Below.heap_setCell _ _ _ _ (by omega)⟩
theorem OffZ.putObj {z0 z1 : Nat} (A : World) {l : Nat} (h0 : z0 ≤ l) (h1 : l < z1) (o : Obj) : OffZ z0 z1 A (A.putObj l o) :=
  ⟨rfl, rfl, rfl, by simp, fun b _ hz => World.putObj_heap_other (by omega)⟩
theorem OffZ.drew {z0 z1 : Nat} {A B : World} (h : OffZ z0 z1 A B) : OffZ z0 z1 A B.drew := ⟨h.os, h.tape, h.output, h.size, h.block⟩

theorem KeepZ.refl (z0 z1 : Nat) (A : World) : KeepZ z0 z1 A A := ⟨Nat.le_refl _, fun _ _ _ => rfl⟩
theorem KeepZ.trans {z0 z1 : Nat} {A B C : World} (h : KeepZ z0 z1 A B) (k : KeepZ z0 z1 B C) : KeepZ z0 z1 A C :=
  ⟨Nat.le_trans h.size k.size, fun b h0 h1 => (k.block b h0 h1).trans (h.block b h0 h1)⟩
theorem KeepZ.narrower {z0 z1 y0 y1 : Nat} {A B : World} (h : KeepZ z0 z1 A B) (h0 : z0 ≤ y0) (h1 : y1 ≤ z1) : KeepZ y0 y1 A B :=
  ⟨h.size, fun b hb hz => h.block b (by omega) (by omega)⟩
theorem KeepZ.of_below {z0 z1 : Nat} {A B : World} (h : Below A.heap.size A B) (hz : z1 ≤ A.heap.size) : KeepZ z0 z1 A B := ⟨h.size, fun b _ h1 => h.block b (by omega)⟩
theorem KeepZ.alloc {z0 z1 : Nat} {A : World} (o : Obj) (hz : z1 ≤ A.heap.size) : KeepZ z0 z1 A (A.alloc o) := .of_below (below_alloc o) hz
theorem KeepZ.setCell {z0 z1 : Nat} (A : World) {p : Addr} (h : p.block < z0 ∨ z1 ≤ p.block) (v : Value) : KeepZ z0 z1 A (A.setCell p v) :=
  ⟨by simp [World.setCell], fun b h0 h1 => Below.heap_setCell _ _ _ _ (by omega)⟩
theorem KeepZ.grown {z0 z1 : Nat} {A B : World} {row : Option Nat} (hg : A.grownBy B row) (hz : z1 ≤ A.heap.size) (hr : ∀ b, row = some b → b < z0 ∨ z1 ≤ b) : KeepZ z0 z1 A B :=
  ⟨hg.size, fun b h0 h1 => hg.block b (by omega) (fun e => by have := hr b e.symm; omega)⟩
theorem KeepZ.drew {z0 z1 : Nat} {A B : World} (h : KeepZ z0 z1 A B) : KeepZ z0 z1 A B.drew := ⟨h.size, h.block⟩

theorem Blk.offZ {z0 z1 : Nat} {A B : World} {b : Nat} {cs : List Value} {t : TypeId} (h : Blk A b cs t) (hz : OffZ z0 z1 A B) (hb : b < z0 ∨ z1 ≤ b) : Blk B b cs t := by
  have hlt := h.lt
  unfold Blk at *
  rw [hz.block b hlt hb]; exact h
theorem Blk.keepZ {z0 z1 : Nat} {A B : World} {b : Nat} {cs : List Value} {t : TypeId} (h : Blk A b cs t) (hz : KeepZ z0 z1 A B) (h0 : z0 ≤ b) (h1 : b < z1) : Blk B b cs t := by
  unfold Blk at *
  rw [hz.block b h0 h1]; exact h
theorem Below.offZ {z0 z1 : Nat} {n0 : Nat} {w A B : World} (h : Below n0 w A) (hw : n0 ≤ w.heap.size) (hz : OffZ z0 z1 A B) (h0 : n0 ≤ z0) : Below n0 w B :=
  ⟨hz.os.trans h.os, hz.tape.trans h.tape, hz.output.trans h.output, Nat.le_trans h.size hz.size, fun k hk => (hz.block k (by have := h.size; omega) (by omega)).trans (h.block k hk)⟩

/-- THE FUNCTION's PROMISE: it calls yield at each of xs, in order; between the calls it turns nothing but its own first c blocks. -/
def Iter (P : Program) (gf : FuncId) (first : Array Value) (c : Nat) (xs : List (Array Value)) (w0 : World) : Prop :=
  ∀ (l : Nat) (W : World) (J : Nat → World → Prop), Below w0.heap.size w0 W →
    (∀ k A B, J k A → OffZ W.heap.size (W.heap.size + c) A B → J k B) →
    (∀ n k x A, xs[k]? = some x → W.heap.size + c ≤ A.heap.size → J k A → YieldAt Fence.wide n P l x A fun e B => e = .returned (.bool true) ∧ J (k + 1) B ∧ KeepZ W.heap.size (W.heap.size + c) A B) →
    J 0 W → ∀ n, CallsIn Fence.wide n P gf (first ++ #[.func (.yield l) #[] #[]]) W fun e B => (∃ v, e = .returned v) ∧ J xs.length B

variable {P : Program}

/-- THE STATEMENT. -/
theorem wp_range {g : Operand} {ps : Array Tmp} {assign body : Code} {Q : Exit → Act → World → Prop} {a : Act} {w w0 : World} {gf : FuncId} {first : Array Value} {c : Nat} {xs : List (Array Value)}
    (hg : a.eval g = .func (.func gf) first #[]) (eg : ∀ args w, (callFunc gf args).run P w = .ok (.enter gf args) w)
    (hit : Iter P gf first c xs w0) (hb0 : Below w0.heap.size w0 w) (hps : ∀ (k : Nat) x, xs[k]? = some x → x.size = ps.size)
    (I : Nat → World → Prop) (hI : ∀ k A B, I k A → OffZ w.heap.size (w.heap.size + 2 + c) A B → I k B) (h0 : I 0 w)
    (Ax : Nat → Array Value → Act → World → Prop) (hAx : ∀ k x a' A B, Ax k x a' A → OffZ w.heap.size (w.heap.size + 2 + c) A B → Ax k x a' B)
    (hassign : ∀ l n k x A, xs[k]? = some x → I k A → w.heap.size + 2 + c ≤ A.heap.size → ∀ K : Act → World → Prop, (∀ a' B, KeepZ w.heap.size (w.heap.size + 2 + c) A B → Ax k x a' B → K a' B) →
      assign.wpIn (Fence.wide.inRound l) n P (Exit.then K (fun _ _ _ => False)) { tmps := (ps.zip x).foldl (fun t (p, v) => t.setIfInBounds p v) a.tmps, defers := [] } A)
    (hbody : ∀ l n k x a' A, xs[k]? = some x → Ax k x a' A → w.heap.size + 2 + c ≤ A.heap.size → body.wpIn (Fence.wide.inRound l) n P (fun e _ B => e = .normal ∧ KeepZ w.heap.size (w.heap.size + 2 + c) A B ∧ I (k + 1) B) a' A)
    (hdone : ∀ W, I xs.length W → W.heap[w.heap.size]? = some (.deferred (some [])) → Q .normal { a with defers := { target := .collected w.heap.size, args := #[] } :: a.defers } W) :
    (Code.rangeFunc g ps assign body).wp P Q a w := by
  refine wpIn_wide.1 (wpIn_rangeFunc (n := 1) ?_)
  intro fn hfn
  obtain ⟨rec, hrec⟩ : ∃ rec : LoopState → Option Code → Loop, rec = fun st pe => { state := st, pending := pe, fn, tmps := a.tmps, params := ps, assign, body, defers := w.heap.size } := ⟨_, rfl⟩
  obtain ⟨W1, hW1⟩ : ∃ W1, (w.alloc (.deferred (some []))).alloc (.loop (rec .ready none)) = W1 := ⟨_, rfl⟩
  have hs1 : W1.heap.size = w.heap.size + 2 := by rw [← hW1]; simp
  have hL1 : W1.heap[w.heap.size + 1]? = some (.loop (rec .ready none)) := by
    rw [← hW1]; have := World.alloc_heap_new (w.alloc (.deferred (some []))) (.loop (rec .ready none)); rwa [World.size_alloc] at this
  have hK1 : W1.heap[w.heap.size]? = some (.deferred (some [])) := by
    rw [← hW1]; exact (Below.heap_alloc _ _ _ (by simp)).trans (World.alloc_heap_new w _)
  have hI1 : I 0 W1 := by rw [← hW1]; exact hI _ _ _ (hI _ _ _ h0 (OffZ.alloc _)) (OffZ.alloc _)
  have hb1 : Below w0.heap.size w0 W1 := by rw [← hW1]; exact below_trans (below_trans hb0 (below_alloc _)) (below_alloc _)
  refine ⟨w.heap.size + 1, [{ target := .collected w.heap.size, args := #[] }], W1, { target := .fn (.func gf) #[], args := first ++ #[.func (.yield (w.heap.size + 1)) #[] #[]] }, W1, gf,
    (first ++ #[.func (.yield (w.heap.size + 1)) #[] #[]]) ++ #[], W1, ?_, ?_, ?_, ?_, fun _ => Nat.le_refl _, ?_⟩
  · rw [← hW1, hrec]; exact run_enterLoop_outer _ _ _ _ _
  · simp only [resolve, hg]
    simp [go_sem]
  · intro f' _; trivial
  · simp [invoke, go_sem, eg]
  · have hK : CallsIn Fence.wide 0 P gf (first ++ #[.func (.yield (w.heap.size + 1)) #[] #[]]) W1 fun e B => (∃ v, e = .returned v) ∧
        (I xs.length B ∧ B.heap[w.heap.size + 1]? = some (.loop (rec .ready none)) ∧ B.heap[w.heap.size]? = some (.deferred (some []))) := by
      refine hit (w.heap.size + 1) W1 (fun k B => I k B ∧ B.heap[w.heap.size + 1]? = some (.loop (rec .ready none)) ∧ B.heap[w.heap.size]? = some (.deferred (some []))) hb1 ?_ ?_ ⟨hI1, hL1, hK1⟩ 0
      · rintro k A B ⟨h1, h2, h3⟩ hz
        have e2 : w.heap.size + 1 < A.heap.size := (Array.getElem?_eq_some_iff.1 h2).1
        exact ⟨hI k A B h1 (hz.wider (by omega) (by omega)), (hz.block _ e2 (by omega)).trans h2, (hz.block _ (by omega) (by omega)).trans h3⟩
      · rintro n k x A hx hsz ⟨h1, h2, h3⟩
        have hlt : w.heap.size + 1 < A.heap.size := (Array.getElem?_eq_some_iff.1 h2).1
        have hy := run_yield (P := P) (args := x) h2 (by rw [hrec]; exact hps k x hx)
        rw [hrec] at hy
        refine ⟨fn, _, assign, body, hy, roundIn_of_wpIn hfn (hassign _ n k x A hx h1 (by omega) _ ?_)⟩
        intro a' B hkz hax
        have hlB : B.heap[w.heap.size + 1]? = some (.loop (rec .ready none)) := (hkz.block _ (by omega) (by omega)).trans h2
        have hdB : B.heap[w.heap.size]? = some (.deferred (some [])) := (hkz.block _ (by omega) (by omega)).trans h3
        have hltB : w.heap.size + 1 < B.heap.size := (Array.getElem?_eq_some_iff.1 hlB).1
        refine ⟨_, run_beginRound hlB (by rw [hrec]), ?_⟩
        obtain ⟨C, hC⟩ : ∃ C, B.putObj (w.heap.size + 1) (.loop { rec .ready none with state := .busy }) = C := ⟨_, rfl⟩
        rw [hC]
        have hBC : OffZ w.heap.size (w.heap.size + 2 + c) B C := by rw [← hC]; exact OffZ.putObj _ (by omega) (by omega) _
        have hlC : C.heap[w.heap.size + 1]? = some (.loop { rec .ready none with state := .busy }) := by rw [← hC]; exact World.putObj_heap_same hltB
        have hdC : C.heap[w.heap.size]? = some (.deferred (some [])) := by rw [← hC]; exact (World.putObj_heap_other (by omega)).trans hdB
        have hzC : ∀ b, w.heap.size + 2 ≤ b → C.heap[b]? = B.heap[b]? := fun b hb => by rw [← hC]; exact World.putObj_heap_other (by omega)
        refine wpIn_mono (hbody _ n k x a' C hx (hAx _ _ _ _ _ hax hBC) (by have := hBC.size; have := hkz.size; omega)) ?_
        rintro e a3 D ⟨rfl, hkD, hID⟩
        have hlD : D.heap[w.heap.size + 1]? = some (.loop { rec .ready none with state := .busy }) := (hkD.block _ (by omega) (by omega)).trans hlC
        have hdD : D.heap[w.heap.size]? = some (.deferred (some [])) := (hkD.block _ (by omega) (by omega)).trans hdC
        have hltD : w.heap.size + 1 < D.heap.size := (Array.getElem?_eq_some_iff.1 hlD).1
        have hend := run_endRound (P := P) none hlD
        rw [hrec] at hend
        refine ⟨_, _, hend, rfl, ⟨hI _ _ _ hID (OffZ.putObj _ (by omega) (by omega) _), ?_, ?_⟩, ?_⟩
        · rw [World.putObj_heap_same hltD, hrec]; rfl
        · exact (World.putObj_heap_other (by omega)).trans hdD
        · refine ⟨?_, fun b hb0 hb1 => ?_⟩
          · have h4 := hkz.size; have h5 := hBC.size; have h6 := hkD.size
            simp only [World.putObj_size]; omega
          · rw [World.putObj_heap_other (by omega), hkD.block b (by omega) (by omega), hzC b (by omega), hkz.block b (by omega) (by omega)]
    rw [Array.append_empty]
    refine hK.mono ?_
    rintro e B ⟨⟨v, rfl⟩, h1, h2, h3⟩
    refine ⟨none, _, by have := run_endLoop (P := P) h2 (by rw [hrec]; simp); rw [hrec] at this; exact this, hdone _ (hI _ _ _ h1 (OffZ.putObj _ (by omega) (by omega) _)) ((World.putObj_heap_other (by omega)).trans h3)⟩

/-! ### A drawn region within a round -/

theorem rowsIn_wide {n : Nat} {row : String} {args : Array Value} {w : World} {R : Value → World → Prop} (h : Rows P row args w R) : RowsIn Fence.wide n P row args w R :=
  fun c cs _ => by
    obtain ⟨v, w', hr, hs⟩ := h c cs
    exact ⟨v, w', hr, stepsIn_wide.2 hs⟩

theorem anyIn_of_any {l n : Nat} {md : Region.Mode} {ops : Array Oper} {Q : Exit → Act → World → Prop} (hlet : ¬ LetsOut Q) (hrow : ∀ o ∈ ops, ∀ c, o.op ≠ .defer c) :
    ∀ (fuel : Nat) (listed : Array Bool) (a : Act) (w : World), wpAny P md ops Q fuel listed a w → wpAnyIn (Fence.wide.inRound l) n P md ops Q fuel listed a w := by
  intro fuel
  induction fuel with
  | zero => intro listed a w h; exact h
  | succ fuel ih =>
    intro listed a w h
    refine ⟨h.1, fun i hi => ?_⟩
    have h1 := h.2 i hi
    unfold wpOp at h1
    unfold wpOpIn
    cases ho : ops[i]? with
    | none => simp only [ho] at h1; exact ih _ _ _ h1
    | some o =>
      simp only [ho] at h1
      have hmem : o ∈ ops := Array.mem_of_getElem? ho
      dsimp only
      by_cases hw : Region.wanted o (yielded ops a.tmps) = true
      · rw [if_pos hw] at h1 ⊢
        rcases h1 with h1 | ⟨_, h1⟩
        · unfold Oper.wp at h1
          unfold Oper.wpIn
          refine ⟨fun _ _ => trivial, ?_⟩
          rw [Oper.semAt_eq _ _ _ (hrow o hmem)]
          cases hr : (execOp a.eval o).run P w with
          | halt x w' =>
            rw [hr] at h1
            cases x <;> simp only [Oper.upon, Oper.uponIn] at h1 ⊢ <;> exact h1
          | ok x w' =>
            rw [hr] at h1
            cases x with
            | value v => exact ih _ _ _ h1
            | skip => exact ih _ _ _ h1
            | defer d => exact ih _ _ _ h1
            | enter f args =>
              refine ⟨fun hd => by simp [Fence.wide, Fence.inRound] at hd, CallsIn.inRound l (callsIn_wide.2 (Calls.mono h1 fun e w'' he => ?_))⟩
              cases e <;> first | exact ih _ _ _ he | exact he
            | row row args => exact ⟨fun hd => by simp [Fence.wide, Fence.inRound] at hd, (rowsIn_wide (h1.mono fun v w'' he => ih _ _ _ he) : RowsIn Fence.wide (n - 1) P row args w' _)⟩
            | round _ _ _ _ _ => exact h1.elim
            | _ => exact h1.elim
        · exact absurd h1 hlet
      · rw [if_neg hw] at h1 ⊢
        exact ⟨fun _ _ => trivial, ih _ _ _ h1⟩

theorem opsIn_of_ops {l n : Nat} {ops : Array Oper} {Q : Exit → Act → World → Prop} (hlet : ¬ LetsOut Q) (hrow : ∀ o ∈ ops, ∀ c, o.op ≠ .defer c) :
    ∀ (L : List Nat) (a : Act) (w : World), wpOps P ops Q L a w → wpOpsIn (Fence.wide.inRound l) n P ops Q L a w := by
  intro L
  induction L with
  | nil => intro a w h; exact h
  | cons i rest ih =>
    intro a w h
    rw [wpOps_cons] at h
    rw [wpOpsIn_cons]
    unfold wpOp at h
    unfold wpOpIn
    cases ho : ops[i]? with
    | none => simp only [ho] at h; exact ih _ _ h
    | some o =>
      simp only [ho] at h
      have hmem : o ∈ ops := Array.mem_of_getElem? ho
      dsimp only
      by_cases hw : Region.wanted o (yielded ops a.tmps) = true
      · rw [if_pos hw] at h ⊢
        rcases h with h1 | ⟨_, h1⟩
        · unfold Oper.wp at h1
          unfold Oper.wpIn
          refine ⟨fun _ _ => trivial, ?_⟩
          rw [Oper.semAt_eq _ _ _ (hrow o hmem)]
          cases hr : (execOp a.eval o).run P w with
          | halt x w' =>
            rw [hr] at h1
            cases x <;> simp only [Oper.upon, Oper.uponIn] at h1 ⊢ <;> exact h1
          | ok x w' =>
            rw [hr] at h1
            cases x with
            | value v => exact ih _ _ h1
            | skip => exact ih _ _ h1
            | defer d => exact ih _ _ h1
            | enter f args =>
              refine ⟨fun hd => by simp [Fence.wide, Fence.inRound] at hd, CallsIn.inRound l (callsIn_wide.2 (Calls.mono h1 fun e w'' he => ?_))⟩
              cases e <;> first | exact ih _ _ he | exact he
            | row row args => exact ⟨fun hd => by simp [Fence.wide, Fence.inRound] at hd, (rowsIn_wide (h1.mono fun v w'' he => ih _ _ he) : RowsIn Fence.wide (n - 1) P row args w' _)⟩
            | round _ _ _ _ _ => exact h1.elim
            | _ => exact h1.elim
        · exact absurd h1 hlet
      · rw [if_neg hw] at h ⊢
        exact ⟨fun _ _ => trivial, ih _ _ h⟩

/-- None defers. -/
def calmOps (ops : Array Oper) : Bool := ops.all fun o => match o.op with | .defer _ => false | _ => true
theorem calmOps_spec {ops : Array Oper} (h : calmOps ops = true) : ∀ o ∈ ops, ∀ c, o.op ≠ .defer c := fun o ho c e => by
  have := Array.all_eq_true_iff_forall_mem.1 h o ho
  simp [e] at this

/-- A region that draws nothing, within a round. -/
theorem wpIn_region_plain {r n id : Nat} {l : List Oper} {Q : Exit → Act → World → Prop} {a : Act} {w : World} (hc : calmOps l.toArray = true) (hlet : ¬ LetsOut Q) (h : wpList P l.toArray Q l a w) :
    (Code.region id l.toArray false).wpIn (Fence.wide.inRound r) n P Q a w := by
  refine wpIn_region (opsIn_of_ops hlet (calmOps_spec hc) _ _ _ ?_)
  rw [List.range_eq_range', ← Array.length_toList, wpOps_eq_wpList _ 0 (by simp)]
  simpa using h

theorem wpIn_seq_all (eff : Nat → Bool) (f : Nat → Gh → Value) (V : Nat → Gh → World → Prop) {r n id : Nat} {l : List Oper} {Q : Exit → Act → World → Prop} {a : Act} {w : World} (hmx : P.follows .mixedOrders = true) (h : shapeOk l.toArray l.length = true) (hc : calmOps l.toArray = true)
    (hlet : ¬ LetsOut Q) (stab : ∀ k x (A B : World), Below A.heap.size A B → V k x A → V k x B)
    (hseq : SeqR P l.toArray w eff f V (fun F a => ∀ W, Below w.heap.size w W → (∀ e φ, (e, φ) ∈ F → φ W) → Q .normal a W) l 0 [] a) :
    (Code.region id l.toArray true).wpIn (Fence.wide.inRound r) n P Q a w :=
  wpIn_region_any hmx (anyIn_of_any hlet (calmOps_spec hc) _ _ _ _ (region_any l.length eff f V h (by simp) stab (by simpa [wpList] using hseq)))

theorem wpIn_seq_tail (m : Nat) (eff : Nat → Bool) (f : Nat → Gh → Value) (V : Nat → Gh → World → Prop) {r n id : Nat} {l : List Oper} {Q : Exit → Act → World → Prop} {a : Act} {w : World} (hmx : P.follows .mixedOrders = true) (h : shapeOk l.toArray m = true) (hc : calmOps l.toArray = true) (hm : m ≤ l.length)
    (hlet : ¬ LetsOut Q) (stab : ∀ k x (A B : World), Below A.heap.size A B → V k x A → V k x B)
    (hseq : SeqR P l.toArray w eff f V (fun F a => ∀ W, Below w.heap.size w W → (∀ e φ, (e, φ) ∈ F → φ W) → wpList P l.toArray Q (l.drop m) a W) (l.take m) 0 [] a) :
    (Code.region id l.toArray true).wpIn (Fence.wide.inRound r) n P Q a w :=
  wpIn_region_any hmx (anyIn_of_any hlet (calmOps_spec hc) _ _ _ _ (region_any m eff f V h (by simpa using hm) stab (by simpa using hseq)))
end Go.Proofs.Ytpgkhhdobolfbaa
