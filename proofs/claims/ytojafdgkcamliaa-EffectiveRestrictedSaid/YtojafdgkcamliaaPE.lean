import Derived.Test.YtojafdgkcamliaaPA
set_option maxRecDepth 100000
set_option linter.unusedVariables false
set_option linter.unusedSimpArgs false
namespace Go.Proofs.Ytojafdgkcamliaa
open Go Go.Lift
theorem eqTy_refl (t : Ty) (x : t.den) (h : t.flat = true) : eqTy t x x = true := (eqTy_iff t x x h).2 rfl
def anyP {α : Type} (_ : α) : Prop := True
def ruleB (r : api_RuleV) : Prop := r.2.2.2.2.2.1.length ≤ 1000000 ∧ r.2.2.2.2.2.2.1.length ≤ 1000000
def scopeB (s : api_ScopeV) : Prop := s.2.2.1.length ≤ 1000000 ∧ s.2.2.2.1.length ≤ 1000000 ∧ s.2.2.2.2.1.length ≤ 1000000 ∧ ∀ r ∈ s.2.2.2.2.1, ruleB r
theorem same_Nodes_L0 (a : List api_DateRangeV) (hn : a.length ≤ 1000000) (hp : ∀ x ∈ a, anyP x) : ∀ (d i : Nat), i + d = a.length → same_Nodes.L0 a a (i : Int) = some (true, ())
  | 0, i, h => by rw [same_Nodes.L0_eq, same_Nodes.SL0, cd_f (by omega)]
  | d + 1, i, h => by
    have h1 : i < a.length := by omega
    have ih := same_Nodes_L0 a hn hp d (i + 1) (by omega)
    have hx := hp a[i] (List.getElem_mem h1)
    rw [same_Nodes.L0_eq, same_Nodes.SL0, cd_t (by omega), cd_t (by omega), same_Nodes.J1_eq, same_Nodes.SJ1, idx_nat, List.getElem?_eq_getElem h1, wrap_succ (by omega), ih]
    generalize a[i] = x at hx ⊢
    simp only [bind_some', eqTy_refl (.pair (.int .i64) (.pair (.int .i64) .unit)) x rfl, Bool.not_true, cond_false]
theorem same_Nodes_refl (a : List api_DateRangeV) (hn : a.length ≤ 1000000) (hp : ∀ x ∈ a, anyP x) : same_Nodes a a = some (true, ()) := by
  simp only [same_Nodes, same_Nodes.Se, bne_self_eq_false, cond_false]
  exact same_Nodes_L0 a hn hp a.length 0 (by omega)
end Go.Proofs.Ytojafdgkcamliaa
