/-
  append to a row that the call has made, once more: the row that comes out lies where the old one lay, or in a new block.
-/
import Derived.Test.YtkkohelbidmkdaaGRefIx
namespace Go.Proofs.Ytkkohelbidmkdaa
set_option linter.unusedVariables false
set_option linter.unusedSimpArgs false
open Go Go.RowKit

theorem one_cs (w : World) (y : Int) : Cs (w.alloc (.cells #[.int .i64 y] 3)) .i64 (some ⟨w.heap.size, 0, none⟩) [y] := by
  intro q z hz
  cases q with
  | zero => simp at hz; subst hz; exact ⟨w.heap.size, 0, rfl, by simp⟩
  | succ q => simp at hz

theorem Own.grown {w w' : World} {base : Nat} {u v : Value} {xs : List Int} (h : Own w base u xs) (hg : w.grownBy w' v.ownBlock) (ha : ∀ g, u.ownBlock = some g → v.ownBlock ≠ some g) : Own w' base u xs := by
  refine h.of_heap fun g hu => ?_
  exact hg.block g (h.block_ge g hu).2 (fun e => ha g hu e.symm)

theorem append_fresh {w w' : World} {ty : TypeId} {base : Nat} {v v' : Value} {xs : List Int} (hown : Own w base v xs) {ad : Addr} {c : Nat} {ys : List Int} (hy : Cs w .i64 (some ad) ys)
    (hlen : (xs.length + ys.length) * 8 ≤ 140737488355328) (hr : (Builtin.append_ #[22, 22] ty #[v, .slice (some ad) ys.length c]).run Try.prog w = .ok v' w') :
    ∀ g, v'.ownBlock = some g → v.ownBlock = some g ∨ w.heap.size ≤ g := by
  obtain ⟨i0, hi, hz0, hz1, hz2⟩ := info_parts info_int
  have hnews : ∀ j u, (ys.map (Value.int .i64))[j]? = some u → w.cell? (ad.add j) = some u := by
    intro j u hu
    rw [List.getElem?_map] at hu
    obtain ⟨y, hy1, rfl⟩ := Option.map_eq_some_iff.1 hu
    obtain ⟨b, o, e, hc⟩ := hy j y hy1
    cases e
    unfold Addr.add
    split
    · rename_i hj; subst hj; exact hc
    · exact hc
  have hone : ∀ u ∈ ys.map (Value.int .i64), u.oneCell' = true := by
    intro u hu
    obtain ⟨y, _, rfl⟩ := List.mem_map.1 hu
    rfl
  obtain ⟨h1, h2⟩ := hown
  rcases h2 with ⟨rfl, h2⟩ | ⟨g, cap, cur, rfl, hbg, hg, hnc, hcm, hcs, htake⟩
  · by_cases hm : ys.length = 0
    · have he : ys = [] := List.eq_nil_of_length_eq_zero hm
      subst he
      simp [Builtin.append_, run_underlying Try.underlying22, sizeOf, typeInfo, hi, Builtin.lenOf, Builtin.firstCells, loadCells, loadCellsFrom] at hr
      obtain ⟨rfl, rfl⟩ := hr
      intro g hg; exact .inl hg
    · have h3 := run_append_nil (P := Try.prog) w 22 ty 3 i0 (.int .i64 0) Try.underlying22 hi hz0 ad ys.length c (ys.map (Value.int .i64)) (by simp [hz1]) hnews (by omega) (by omega) (by rw [hz2]; omega)
      rw [h3] at hr
      injection hr with hr _
      subst hr
      intro g hg
      simp only [Value.ownBlock, Option.some.injEq] at hg
      exact .inr (by omega)
  · by_cases hroom : xs.length + ys.length ≤ cap
    · have h3 := run_append_room (P := Try.prog) w 22 ty 3 i0 Try.underlying22 hi g xs.length cap cur hg ad ys.length c (ys.map (Value.int .i64)) (by simp [hz1]) hnews hone hroom (by rw [hz1]; simp; omega)
      rw [h3] at hr
      injection hr with hr _
      subst hr
      intro g' hg'
      exact .inl hg'
    · have holds : ∀ j u, (xs.map (Value.int .i64))[j]? = some u → w.cell? ((⟨g, 0, none⟩ : Addr).add j) = some u :=
        World.ownsRow.cells (base := base) (e := 3) (size := 1) (n := xs.length) ⟨h1, .inr ⟨g, cap, cur, rfl, hbg, hg, hnc, hcm, hcs, htake⟩⟩ (g := g) rfl
      have h3 := run_append_grow (P := Try.prog) w 22 ty 3 i0 (.int .i64 0) Try.underlying22 hi hz0 ⟨g, 0, none⟩ xs.length cap (xs.map (Value.int .i64)) (by simp [hz1]) holds ad ys.length c (ys.map (Value.int .i64)) (by simp [hz1]) hnews (by omega) (by omega) (growslice_fits (by omega) (by rw [hz2]; omega))
      rw [h3] at hr
      injection hr with hr _
      subst hr
      intro g' hg'
      simp only [Value.ownBlock, Option.some.injEq] at hg'
      exact .inr (by omega)

theorem append_ints2 {ops : Array Oper} {rest : List Oper} {o : Oper} {a : Act} {w : World} {Q : Exit → Act → World → Prop} (hgd : o.guard = none) (s x : Operand)
    (ho : o.op = .call { callee := .builtin .append, args := #[s, x], argTypes := #[22, 22] }) (base : Nat) (v : Value) (xs : List Int) (hs : a.eval s = v) (hown : Own w base v xs)
    (A : Option Addr) (c : Nat) (ys : List Int) (hx : a.eval x = .slice A ys.length c) (hy : Cs w .i64 A ys) (hA : A = none → c = 0) (hlen : (xs.length + ys.length) * 8 ≤ 140737488355328) (hbase : base ≤ w.heap.size)
    (h : ∀ v' w', Own w' base v' (xs ++ ys) → w.grownBy w' v.ownBlock → (∀ g, v'.ownBlock = some g → v.ownBlock = some g ∨ w.heap.size ≤ g) → wpList Try.prog ops Q rest (a.put o.dst v') w') : wpList Try.prog ops Q (o :: rest) a w := by
  cases A with
  | none =>
    obtain ⟨i0, hi, hz0, hz1, hz2⟩ := info_parts info_int
    have hys : ys = [] := by
      cases ys with
      | nil => rfl
      | cons y ys => obtain ⟨b, o, e, _⟩ := hy 0 y rfl; cases e
    subst hys
    obtain rfl := hA rfl
    refine wpList_append_own_none hgd s x 22 ho base 3 i0 1 Try.underlying22 hi v xs.length (xs.map (Value.int .i64)) hs hown hx ?_
    exact h v w (by simpa using hown) ⟨rfl, rfl, rfl, Nat.le_refl _, fun _ _ _ => rfl⟩ (fun g hg => .inl hg)
  | some ad =>
    obtain ⟨i0, hi, hz0, hz1, hz2⟩ := info_parts info_int
    refine wpList_plain hgd fun K hK => ?_
    obtain ⟨v', w', hr, h2, h3, _⟩ := run_append_own (P := Try.prog) w base 22 o.type 3 i0 (.int .i64 0) 1 8 Try.underlying22 hi hz0 hz1 hz2 rfl (by decide) v xs.length (xs.map (Value.int .i64)) hown ad ys.length c (ys.map (Value.int .i64)) (by simp)
      (fun j u hu => by
        rw [List.getElem?_map] at hu
        obtain ⟨y, hy1, rfl⟩ := Option.map_eq_some_iff.1 hu
        obtain ⟨b, o, e, hc⟩ := hy j y hy1
        cases e
        unfold Addr.add
        split
        · rename_i hj; subst hj; exact hc
        · exact hc) (fun u hu => by
        obtain ⟨y, _, rfl⟩ := List.mem_map.1 hu
        rfl) (by simp only [maxLen]; omega) hlen hbase
    unfold Oper.wp execOp
    simp only [ho, resolve, invoke, builtin, Sem.run_bind, Sem.run_pure, Result.andThen_ok, List.map_toArray, List.map_cons, List.map_nil, hs, hx, hr]
    exact hK _ _ (h v' w' (by unfold Own; simpa using h2) h3 (append_fresh hown hy hlen hr))
end Go.Proofs.Ytkkohelbidmkdaa
