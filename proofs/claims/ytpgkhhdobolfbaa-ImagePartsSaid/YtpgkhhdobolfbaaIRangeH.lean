/-
  A range over a function whose promise leans on something that each round keeps.
-/
import Derived.Test.YtpgkhhdobolfbaaIRange
namespace Go.Proofs.Ytpgkhhdobolfbaa
set_option linter.unusedVariables false
set_option linter.unusedSimpArgs false
open Go Go.RowKit

/-- THE FUNCTION's PROMISE: it calls yield at each of xs, in order; between the calls it turns nothing but its own first c blocks. -/
def IterH (P : Program) (gf : FuncId) (first : Array Value) (c : Nat) (xs : List (Array Value)) (w0 : World) (H : World → Prop) : Prop :=
  ∀ (l : Nat) (W : World) (J : Nat → World → Prop), Below w0.heap.size w0 W →
    (∀ k A B, J k A → OffZ W.heap.size (W.heap.size + c) A B → J k B) →
    (∀ k A, J k A → H A) →
    (∀ n k x A, xs[k]? = some x → W.heap.size + c ≤ A.heap.size → J k A → YieldAt Fence.wide n P l x A fun e B => e = .returned (.bool true) ∧ J (k + 1) B ∧ KeepZ W.heap.size (W.heap.size + c) A B) →
    J 0 W → ∀ n, CallsIn Fence.wide n P gf (first ++ #[.func (.yield l) #[] #[]]) W fun e B => (∃ v, e = .returned v) ∧ J xs.length B

variable {P : Program}

/-- THE STATEMENT. -/
theorem wp_rangeH {H : World → Prop} {g : Operand} {ps : Array Tmp} {assign body : Code} {Q : Exit → Act → World → Prop} {a : Act} {w w0 : World} {gf : FuncId} {first : Array Value} {c : Nat} {xs : List (Array Value)}
    (hg : a.eval g = .func (.func gf) first #[]) (eg : ∀ args w, (callFunc gf args).run P w = .ok (.enter gf args) w)
    (hit : IterH P gf first c xs w0 H) (hb0 : Below w0.heap.size w0 w) (hps : ∀ (k : Nat) x, xs[k]? = some x → x.size = ps.size)
    (I : Nat → World → Prop) (hI : ∀ k A B, I k A → OffZ w.heap.size (w.heap.size + 2 + c) A B → I k B) (hIH : ∀ k A, I k A → H A) (h0 : I 0 w)
    (Ax : Nat → Array Value → Act → World → Prop) (hAx : ∀ k x a' A B, Ax k x a' A → OffZ w.heap.size (w.heap.size + 2 + c) A B → Ax k x a' B)
    (hassign : ∀ l n k x A, xs[k]? = some x → I k A → w.heap.size + 2 + c ≤ A.heap.size → ∀ K : Act → World → Prop, (∀ a' B, KeepZ w.heap.size (w.heap.size + 2 + c) A B → Ax k x a' B → K a' B) →
      assign.wpIn (Fence.wide.inRound l) n P (Exit.then K (fun _ _ _ => False)) { tmps := (ps.zip x).foldl (fun t (p, v) => t.setIfInBounds p v) a.tmps, defers := [] } A)
    (hbody : ∀ l n k x a' A, xs[k]? = some x → Ax k x a' A → w.heap.size + 2 + c ≤ A.heap.size → body.wpIn (Fence.wide.inRound l) n P (fun e _ B => e = .normal ∧ KeepZ w.heap.size (w.heap.size + 2 + c) A B ∧ I (k + 1) B) a' A)
    (hdone : ∀ W, I xs.length W → W.heap[w.heap.size]? = some (.deferred (some [])) → Q .normal { a with defers := { target := .collected w.heap.size, args := #[] } :: a.defers } W) :
    (Code.rangeFunc g ps assign body).wp P Q a w := by
  refine wpIn_wide.1 (wpIn_rangeFunc (n := 1) ?_)
  intro fn hfn
  obtain ⟨rec, hrec⟩ : ∃ rec : LoopState → Option Code → Loop, rec = fun st pe => { state := st, pending := pe, fn, tmps := a.tmps, params := ps, assign, body, defers := w.heap.size } := ⟨_, rfl⟩
  obtain ⟨W1, hW1⟩ : ∃ W1, (w.alloc (.deferred (some []))).alloc (.loop (rec .ready none)) = W1 := ⟨_, rfl⟩
  have hs1 : W1.heap.size = w.heap.size + 2 := by rw [← hW1]; simp
  have hL1 : W1.heap[w.heap.size + 1]? = some (.loop (rec .ready none)) := by
    rw [← hW1]; have := World.alloc_heap_new (w.alloc (.deferred (some []))) (.loop (rec .ready none)); rwa [World.size_alloc] at this
  have hK1 : W1.heap[w.heap.size]? = some (.deferred (some [])) := by
    rw [← hW1]; exact (Below.heap_alloc _ _ _ (by simp)).trans (World.alloc_heap_new w _)
  have hI1 : I 0 W1 := by rw [← hW1]; exact hI _ _ _ (hI _ _ _ h0 (OffZ.alloc _)) (OffZ.alloc _)
  have hb1 : Below w0.heap.size w0 W1 := by rw [← hW1]; exact below_trans (below_trans hb0 (below_alloc _)) (below_alloc _)
  refine ⟨w.heap.size + 1, [{ target := .collected w.heap.size, args := #[] }], W1, { target := .fn (.func gf) #[], args := first ++ #[.func (.yield (w.heap.size + 1)) #[] #[]] }, W1, gf,
    (first ++ #[.func (.yield (w.heap.size + 1)) #[] #[]]) ++ #[], W1, ?_, ?_, ?_, ?_, fun _ => Nat.le_refl _, ?_⟩
  · rw [← hW1, hrec]; exact run_enterLoop_outer _ _ _ _ _
  · simp only [resolve, hg]
    simp [go_sem]
  · intro f' _; trivial
  · simp [invoke, go_sem, eg]
  · have hK : CallsIn Fence.wide 0 P gf (first ++ #[.func (.yield (w.heap.size + 1)) #[] #[]]) W1 fun e B => (∃ v, e = .returned v) ∧
        (I xs.length B ∧ B.heap[w.heap.size + 1]? = some (.loop (rec .ready none)) ∧ B.heap[w.heap.size]? = some (.deferred (some []))) := by
      refine hit (w.heap.size + 1) W1 (fun k B => I k B ∧ B.heap[w.heap.size + 1]? = some (.loop (rec .ready none)) ∧ B.heap[w.heap.size]? = some (.deferred (some []))) hb1 ?_ (fun k A h => hIH k A h.1) ?_ ⟨hI1, hL1, hK1⟩ 0
      · rintro k A B ⟨h1, h2, h3⟩ hz
        have e2 : w.heap.size + 1 < A.heap.size := (Array.getElem?_eq_some_iff.1 h2).1
        exact ⟨hI k A B h1 (hz.wider (by omega) (by omega)), (hz.block _ e2 (by omega)).trans h2, (hz.block _ (by omega) (by omega)).trans h3⟩
      · rintro n k x A hx hsz ⟨h1, h2, h3⟩
        have hlt : w.heap.size + 1 < A.heap.size := (Array.getElem?_eq_some_iff.1 h2).1
        have hy := run_yield (P := P) (args := x) h2 (by rw [hrec]; exact hps k x hx)
        rw [hrec] at hy
        refine ⟨fn, _, assign, body, hy, roundIn_of_wpIn hfn (hassign _ n k x A hx h1 (by omega) _ ?_)⟩
        intro a' B hkz hax
        have hlB : B.heap[w.heap.size + 1]? = some (.loop (rec .ready none)) := (hkz.block _ (by omega) (by omega)).trans h2
        have hdB : B.heap[w.heap.size]? = some (.deferred (some [])) := (hkz.block _ (by omega) (by omega)).trans h3
        have hltB : w.heap.size + 1 < B.heap.size := (Array.getElem?_eq_some_iff.1 hlB).1
        refine ⟨_, run_beginRound hlB (by rw [hrec]), ?_⟩
        obtain ⟨C, hC⟩ : ∃ C, B.putObj (w.heap.size + 1) (.loop { rec .ready none with state := .busy }) = C := ⟨_, rfl⟩
        rw [hC]
        have hBC : OffZ w.heap.size (w.heap.size + 2 + c) B C := by rw [← hC]; exact OffZ.putObj _ (by omega) (by omega) _
        have hlC : C.heap[w.heap.size + 1]? = some (.loop { rec .ready none with state := .busy }) := by rw [← hC]; exact World.putObj_heap_same hltB
        have hdC : C.heap[w.heap.size]? = some (.deferred (some [])) := by rw [← hC]; exact (World.putObj_heap_other (by omega)).trans hdB
        have hzC : ∀ b, w.heap.size + 2 ≤ b → C.heap[b]? = B.heap[b]? := fun b hb => by rw [← hC]; exact World.putObj_heap_other (by omega)
        refine wpIn_mono (hbody _ n k x a' C hx (hAx _ _ _ _ _ hax hBC) (by have := hBC.size; have := hkz.size; omega)) ?_
        rintro e a3 D ⟨rfl, hkD, hID⟩
        have hlD : D.heap[w.heap.size + 1]? = some (.loop { rec .ready none with state := .busy }) := (hkD.block _ (by omega) (by omega)).trans hlC
        have hdD : D.heap[w.heap.size]? = some (.deferred (some [])) := (hkD.block _ (by omega) (by omega)).trans hdC
        have hltD : w.heap.size + 1 < D.heap.size := (Array.getElem?_eq_some_iff.1 hlD).1
        have hend := run_endRound (P := P) none hlD
        rw [hrec] at hend
        refine ⟨_, _, hend, rfl, ⟨hI _ _ _ hID (OffZ.putObj _ (by omega) (by omega) _), ?_, ?_⟩, ?_⟩
        · rw [World.putObj_heap_same hltD, hrec]; rfl
        · exact (World.putObj_heap_other (by omega)).trans hdD
        · refine ⟨?_, fun b hb0 hb1 => ?_⟩
          · have h4 := hkz.size; have h5 := hBC.size; have h6 := hkD.size
            simp only [World.putObj_size]; omega
          · rw [World.putObj_heap_other (by omega), hkD.block b (by omega) (by omega), hzC b (by omega), hkz.block b (by omega) (by omega)]
    rw [Array.append_empty]
    refine hK.mono ?_
    rintro e B ⟨⟨v, rfl⟩, h1, h2, h3⟩
    refine ⟨none, _, by have := run_endLoop (P := P) h2 (by rw [hrec]; simp); rw [hrec] at this; exact this, hdone _ (hI _ _ _ h1 (OffZ.putObj _ (by omega) (by omega) _)) ((World.putObj_heap_other (by omega)).trans h3)⟩

end Go.Proofs.Ytpgkhhdobolfbaa
