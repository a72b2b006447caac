/-
  Two images compared.
-/
import Derived.Test.YtpgkhhdobolfbaaIMk
import Derived.Laws.StructEq
namespace Go.Proofs.Ytpgkhhdobolfbaa
set_option linter.unusedVariables false
set_option linter.unusedSimpArgs false
open Go Go.RowKit

def eqI (a b : Im) : Bool := decide (a.W = b.W ∧ a.H = b.H ∧ a.C = b.C ∧ a.B = b.B ∧ a.P = b.P ∧ a.Pd = b.Pd ∧ a.O = b.O)

theorem toList_inj (a b : ByteArray) : a.toList = b.toList ↔ a = b := by
  constructor
  · intro h
    rw [ByteArray.toList_eq, ByteArray.toList_eq] at h
    obtain ⟨⟨x⟩⟩ := a
    obtain ⟨⟨y⟩⟩ := b
    simp at h
    rw [h]
  · intro h; rw [h]

set_option maxHeartbeats 1600000 in
theorem run_eq_fields (a1 a2 a3 a4 a6 b1 b2 b3 b4 b6 : Int) (a5 b5 : Bool) (a7 b7 : ByteArray) (w : World) :
    (Op.equalIn 10000 24 (.agg #[.int .i64 a1, .int .i64 a2, .int .i64 a3, .int .i64 a4, .bool a5, .int .i64 a6, .string a7]) (.agg #[.int .i64 b1, .int .i64 b2, .int .i64 b3, .int .i64 b4, .bool b5, .int .i64 b6, .string b7])).run Try.prog w =
      .ok (decide (a1 = b1 ∧ a2 = b2 ∧ a3 = b3 ∧ a4 = b4 ∧ a5 = b5 ∧ a6 = b6 ∧ a7 = b7)) w := by
  by_cases e1 : a1 = b1
  · subst e1
    by_cases e2 : a2 = b2
    · subst e2
      by_cases e3 : a3 = b3
      · subst e3
        by_cases e4 : a4 = b4
        · subst e4
          by_cases e5 : a5 = b5
          · subst e5
            by_cases e6 : a6 = b6
            · subst e6
              by_cases e7 : a7 = b7
              · subst e7
                (go_simp <;> simp [toList_inj])
              · (go_simp <;> simp [toList_inj, e7])
            · (go_simp <;> simp [e6])
          · (go_simp <;> simp [e5])
        · (go_simp <;> simp [e4])
      · (go_simp <;> simp [e3])
    · (go_simp <;> simp [e2])
  · (go_simp <;> simp [e1])

theorem run_eqI (a b : Im) (w : World) : (Op.equalIn 10000 24 a.v b.v).run Try.prog w = .ok (eqI a b) w := run_eq_fields ..

theorem eqI_iff (a b : Im) : eqI a b = true ↔ a = b := by
  unfold eqI
  rw [decide_eq_true_iff]
  constructor
  · rintro ⟨h1, h2, h3, h4, h5, h6, h7⟩
    exact Im.ext' h1 h2 h3 h4 h5 h6 h7
  · intro h; subst h; exact ⟨rfl, rfl, rfl, rfl, rfl, rfl, rfl⟩

/-- A region that draws nothing, laid open. -/
theorem wp_region_open {P : Program} {id : Nat} {l : List Oper} {Q : Exit → Act → World → Prop} {a : Act} {w : World} (h : wpList P l.toArray Q l a w) : (Code.region id l.toArray false).wp P Q a w := by
  refine wp_region ?_
  rw [List.range_eq_range', ← Array.length_toList, wpOps_eq_wpList _ 0 (by simp)]
  simpa using h

theorem wpList_eql_img {ops : Array Oper} {rest : List Oper} {o : Oper} {a : Act} {w : World} {Q : Exit → Act → World → Prop} (hg : o.guard = none) (x y : Operand) (ho : o.op = .binOp .eql 24 x y 24) (p q : Im) (hx : a.eval x = p.v) (hy : a.eval y = q.v)
    (h : wpList Try.prog ops Q rest (a.put o.dst (.bool (eqI p q))) w) : wpList Try.prog ops Q (o :: rest) a w := by
  refine wpList_plain hg fun K hK => ?_
  have h1 : (eqGuard .eql 24 x y p.v q.v).run Try.prog w = .ok () w := run_eqGuard_agg w .eql 24 x y _ _ (by kernel_rfl)
  have h2 : (binOp .eql 24 p.v q.v).run Try.prog w = .ok (.bool (eqI p q)) w := by
    have := run_eql_struct (P := Try.prog) w 24 #[.int .i64 p.W, .int .i64 p.H, .int .i64 p.C, .int .i64 p.B, .bool p.P, .int .i64 p.Pd, .string p.O] #[.int .i64 q.W, .int .i64 q.H, .int .i64 q.C, .int .i64 q.B, .bool q.P, .int .i64 q.Pd, .string q.O]
    rw [show (Op.equalIn 10000 24 (.agg _) (.agg _)).run Try.prog w = _ from run_eqI p q w] at this
    exact this
  unfold Oper.wp execOp
  simp only [ho, hx, hy]
  simp only [Sem.run_bind, h1, h2, Result.andThen_ok, Sem.run_pure]
  exact hK _ _ h
end Go.Proofs.Ytpgkhhdobolfbaa
