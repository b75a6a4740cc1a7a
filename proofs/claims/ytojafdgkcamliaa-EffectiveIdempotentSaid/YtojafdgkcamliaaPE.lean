import Derived.Test.YtojafdgkcamliaaPA
set_option maxRecDepth 100000
set_option linter.unusedVariables false
set_option linter.unusedSimpArgs false
namespace Go.Proofs.Ytojafdgkcamliaa
open Go Go.Lift
theorem eqTy_refl (t : Ty) (x : t.den) (h : t.flat = true) : eqTy t x x = true := (eqTy_iff t x x h).2 rfl
abbrev pI2 : Ty := .pair (.int .i64) (.pair (.int .i64) .unit)
def anyP {α : Type} (_ : α) : Prop := True
def strsB (e : api_EnumV) : Prop := e.2.1.length ≤ 1000000
def rowsB (t : api_TableV) : Prop := t.2.2.2.1.length ≤ 1000000
def ruleB (r : api_RuleV) : Prop := r.2.2.2.2.2.1.length ≤ 1000000 ∧ r.2.2.2.2.2.2.1.length ≤ 1000000
def scopeB (s : api_ScopeV) : Prop := s.2.2.1.length ≤ 1000000 ∧ s.2.2.2.1.length ≤ 1000000 ∧ s.2.2.2.2.1.length ≤ 1000000 ∧ ∀ r ∈ s.2.2.2.2.1, ruleB r
def lawB (l : api_LawV) : Prop := (l.1.length ≤ 1000000 ∧ ∀ e ∈ l.1, strsB e) ∧ (l.2.1.length ≤ 1000000 ∧ ∀ t ∈ l.2.1, rowsB t) ∧ (l.2.2.1.length ≤ 1000000 ∧ ∀ s ∈ l.2.2.1, scopeB s)
theorem same_Strings_L0 (a : List (List UInt8)) (hn : a.length ≤ 1000000) (hp : ∀ x ∈ a, anyP x) : ∀ (d i : Nat), i + d = a.length → same_Strings.L0 a a (i : Int) = some (true, ())
  | 0, i, h => by rw [same_Strings.L0_eq, same_Strings.SL0, cd_f (by omega)]
  | d + 1, i, h => by
    have h1 : i < a.length := by omega
    have ih := same_Strings_L0 a hn hp d (i + 1) (by omega)
    have hx := hp a[i] (List.getElem_mem h1)
    rw [same_Strings.L0_eq, same_Strings.SL0, cd_t (by omega), cd_t (by omega), same_Strings.J1_eq, same_Strings.SJ1, idx_nat, List.getElem?_eq_getElem h1, wrap_succ (by omega), ih]
    generalize a[i] = x at hx ⊢
    simp only [bind_some', beq_self_eq_true, Bool.not_true, cond_false]
theorem same_Strings_refl (a : List (List UInt8)) (hn : a.length ≤ 1000000) (hp : ∀ x ∈ a, anyP x) : same_Strings a a = some (true, ()) := by
  simp only [same_Strings, same_Strings.Se, bne_self_eq_false, cond_false]
  exact same_Strings_L0 a hn hp a.length 0 (by omega)
theorem same_Nodes_L0 (a : List api_DateRangeV) (hn : a.length ≤ 1000000) (hp : ∀ x ∈ a, anyP x) : ∀ (d i : Nat), i + d = a.length → same_Nodes.L0 a a (i : Int) = some (true, ())
  | 0, i, h => by rw [same_Nodes.L0_eq, same_Nodes.SL0, cd_f (by omega)]
  | d + 1, i, h => by
    have h1 : i < a.length := by omega
    have ih := same_Nodes_L0 a hn hp d (i + 1) (by omega)
    have hx := hp a[i] (List.getElem_mem h1)
    rw [same_Nodes.L0_eq, same_Nodes.SL0, cd_t (by omega), cd_t (by omega), same_Nodes.J1_eq, same_Nodes.SJ1, idx_nat, List.getElem?_eq_getElem h1, wrap_succ (by omega), ih]
    generalize a[i] = x at hx ⊢
    simp only [bind_some', eqTy_refl (.pair (.int .i64) (.pair (.int .i64) .unit)) x rfl, Bool.not_true, cond_false]
theorem same_Nodes_refl (a : List api_DateRangeV) (hn : a.length ≤ 1000000) (hp : ∀ x ∈ a, anyP x) : same_Nodes a a = some (true, ()) := by
  simp only [same_Nodes, same_Nodes.Se, bne_self_eq_false, cond_false]
  exact same_Nodes_L0 a hn hp a.length 0 (by omega)
theorem same_Fields_L0 (a : List api_FieldV) (hn : a.length ≤ 1000000) (hp : ∀ x ∈ a, anyP x) : ∀ (d i : Nat), i + d = a.length → same_Fields.L0 a a (i : Int) = some (true, ())
  | 0, i, h => by rw [same_Fields.L0_eq, same_Fields.SL0, cd_f (by omega)]
  | d + 1, i, h => by
    have h1 : i < a.length := by omega
    have ih := same_Fields_L0 a hn hp d (i + 1) (by omega)
    have hx := hp a[i] (List.getElem_mem h1)
    rw [same_Fields.L0_eq, same_Fields.SL0, cd_t (by omega), cd_t (by omega), same_Fields.J1_eq, same_Fields.SJ1, idx_nat, List.getElem?_eq_getElem h1, wrap_succ (by omega), ih]
    generalize a[i] = x at hx ⊢
    simp only [bind_some', eqTy_refl (.pair .str (.pair (.pair (.int .i64) (.pair (.int .i64) .unit)) .unit)) x rfl, Bool.not_true, cond_false]
theorem same_Fields_refl (a : List api_FieldV) (hn : a.length ≤ 1000000) (hp : ∀ x ∈ a, anyP x) : same_Fields a a = some (true, ()) := by
  simp only [same_Fields, same_Fields.Se, bne_self_eq_false, cond_false]
  exact same_Fields_L0 a hn hp a.length 0 (by omega)
theorem same_Rows_L0 (a : List api_RowV) (hn : a.length ≤ 1000000) (hp : ∀ x ∈ a, anyP x) : ∀ (d i : Nat), i + d = a.length → same_Rows.L0 a a (i : Int) = some (true, ())
  | 0, i, h => by rw [same_Rows.L0_eq, same_Rows.SL0, cd_f (by omega)]
  | d + 1, i, h => by
    have h1 : i < a.length := by omega
    have ih := same_Rows_L0 a hn hp d (i + 1) (by omega)
    have hx := hp a[i] (List.getElem_mem h1)
    rw [same_Rows.L0_eq, same_Rows.SL0, cd_t (by omega), cd_t (by omega), same_Rows.J1_eq, same_Rows.SJ1, idx_nat, List.getElem?_eq_getElem h1, wrap_succ (by omega), ih]
    generalize a[i] = x at hx ⊢
    simp only [bind_some', eqTy_refl (.pair (.pair (.int .i64) (.pair (.int .i64) .unit)) (.pair (.int .i64) (.pair (.int .i64) (.pair (.int .i64) .unit)))) x rfl, Bool.not_true, cond_false]
theorem same_Rows_refl (a : List api_RowV) (hn : a.length ≤ 1000000) (hp : ∀ x ∈ a, anyP x) : same_Rows a a = some (true, ()) := by
  simp only [same_Rows, same_Rows.Se, bne_self_eq_false, cond_false]
  exact same_Rows_L0 a hn hp a.length 0 (by omega)
theorem enum_refl (e : api_EnumV) (h : strsB e) : same_Enum e e = some (true, ()) := by
  simp only [same_Enum, same_Enum.Se, beq_self_eq_true, cond_true, same_Strings_refl _ h (fun _ _ => trivial), bind_some']
theorem table_refl (t : api_TableV) (h : rowsB t) : same_Table t t = some (true, ()) := by
  simp only [same_Table, same_Table.Se, beq_self_eq_true, cond_true, same_Rows_refl _ h (fun _ _ => trivial), bind_some', eqTy_refl pI2 t.2.1 rfl, eqTy_refl pI2 t.2.2.1 rfl]
theorem rule_refl (r : api_RuleV) (h : ruleB r) : same_Rule r r = some (true, ()) := by
  simp only [same_Rule, same_Rule.Se, beq_self_eq_true, cond_true, same_Nodes_refl _ h.1 (fun _ _ => trivial), same_Nodes_refl _ h.2 (fun _ _ => trivial), bind_some', eqTy_refl pI2 r.2.2.2.2.1 rfl]
theorem same_Enums_L0 (a : List api_EnumV) (hn : a.length ≤ 1000000) (hp : ∀ x ∈ a, strsB x) : ∀ (d i : Nat), i + d = a.length → same_Enums.L0 a a (i : Int) = some (true, ())
  | 0, i, h => by rw [same_Enums.L0_eq, same_Enums.SL0, cd_f (by omega)]
  | d + 1, i, h => by
    have h1 : i < a.length := by omega
    have ih := same_Enums_L0 a hn hp d (i + 1) (by omega)
    have hx := hp a[i] (List.getElem_mem h1)
    rw [same_Enums.L0_eq, same_Enums.SL0, cd_t (by omega), cd_t (by omega), same_Enums.J1_eq, same_Enums.SJ1, idx_nat, List.getElem?_eq_getElem h1, wrap_succ (by omega), ih]
    generalize a[i] = x at hx ⊢
    simp only [bind_some', enum_refl x hx, Bool.not_true, cond_false]
theorem same_Enums_refl (a : List api_EnumV) (hn : a.length ≤ 1000000) (hp : ∀ x ∈ a, strsB x) : same_Enums a a = some (true, ()) := by
  simp only [same_Enums, same_Enums.Se, bne_self_eq_false, cond_false]
  exact same_Enums_L0 a hn hp a.length 0 (by omega)
theorem same_Tables_L0 (a : List api_TableV) (hn : a.length ≤ 1000000) (hp : ∀ x ∈ a, rowsB x) : ∀ (d i : Nat), i + d = a.length → same_Tables.L0 a a (i : Int) = some (true, ())
  | 0, i, h => by rw [same_Tables.L0_eq, same_Tables.SL0, cd_f (by omega)]
  | d + 1, i, h => by
    have h1 : i < a.length := by omega
    have ih := same_Tables_L0 a hn hp d (i + 1) (by omega)
    have hx := hp a[i] (List.getElem_mem h1)
    rw [same_Tables.L0_eq, same_Tables.SL0, cd_t (by omega), cd_t (by omega), same_Tables.J1_eq, same_Tables.SJ1, idx_nat, List.getElem?_eq_getElem h1, wrap_succ (by omega), ih]
    generalize a[i] = x at hx ⊢
    simp only [bind_some', table_refl x hx, Bool.not_true, cond_false]
theorem same_Tables_refl (a : List api_TableV) (hn : a.length ≤ 1000000) (hp : ∀ x ∈ a, rowsB x) : same_Tables a a = some (true, ()) := by
  simp only [same_Tables, same_Tables.Se, bne_self_eq_false, cond_false]
  exact same_Tables_L0 a hn hp a.length 0 (by omega)
theorem same_Rules_L0 (a : List api_RuleV) (hn : a.length ≤ 1000000) (hp : ∀ x ∈ a, ruleB x) : ∀ (d i : Nat), i + d = a.length → same_Rules.L0 a a (i : Int) = some (true, ())
  | 0, i, h => by rw [same_Rules.L0_eq, same_Rules.SL0, cd_f (by omega)]
  | d + 1, i, h => by
    have h1 : i < a.length := by omega
    have ih := same_Rules_L0 a hn hp d (i + 1) (by omega)
    have hx := hp a[i] (List.getElem_mem h1)
    rw [same_Rules.L0_eq, same_Rules.SL0, cd_t (by omega), cd_t (by omega), same_Rules.J1_eq, same_Rules.SJ1, idx_nat, List.getElem?_eq_getElem h1, wrap_succ (by omega), ih]
    generalize a[i] = x at hx ⊢
    simp only [bind_some', rule_refl x hx, Bool.not_true, cond_false]
theorem same_Rules_refl (a : List api_RuleV) (hn : a.length ≤ 1000000) (hp : ∀ x ∈ a, ruleB x) : same_Rules a a = some (true, ()) := by
  simp only [same_Rules, same_Rules.Se, bne_self_eq_false, cond_false]
  exact same_Rules_L0 a hn hp a.length 0 (by omega)
theorem scope_refl (s : api_ScopeV) (h : scopeB s) : same_Scope s s = some (true, ()) := by
  simp only [same_Scope, same_Scope.Se, beq_self_eq_true, cond_true, same_Fields_refl _ h.1 (fun _ _ => trivial), same_Fields_refl _ h.2.1 (fun _ _ => trivial), same_Rules_refl _ h.2.2.1 h.2.2.2, bind_some']
theorem same_Scopes_L0 (a : List api_ScopeV) (hn : a.length ≤ 1000000) (hp : ∀ x ∈ a, scopeB x) : ∀ (d i : Nat), i + d = a.length → same_Scopes.L0 a a (i : Int) = some (true, ())
  | 0, i, h => by rw [same_Scopes.L0_eq, same_Scopes.SL0, cd_f (by omega)]
  | d + 1, i, h => by
    have h1 : i < a.length := by omega
    have ih := same_Scopes_L0 a hn hp d (i + 1) (by omega)
    have hx := hp a[i] (List.getElem_mem h1)
    rw [same_Scopes.L0_eq, same_Scopes.SL0, cd_t (by omega), cd_t (by omega), same_Scopes.J1_eq, same_Scopes.SJ1, idx_nat, List.getElem?_eq_getElem h1, wrap_succ (by omega), ih]
    generalize a[i] = x at hx ⊢
    simp only [bind_some', scope_refl x hx, Bool.not_true, cond_false]
theorem same_Scopes_refl (a : List api_ScopeV) (hn : a.length ≤ 1000000) (hp : ∀ x ∈ a, scopeB x) : same_Scopes a a = some (true, ()) := by
  simp only [same_Scopes, same_Scopes.Se, bne_self_eq_false, cond_false]
  exact same_Scopes_L0 a hn hp a.length 0 (by omega)
theorem law_refl (l : api_LawV) (h : lawB l) : same_Law l l = some (true, ()) := by
  simp only [same_Law, same_Law.Se, cond_true, same_Enums_refl _ h.1.1 h.1.2, same_Tables_refl _ h.2.1.1 h.2.1.2, same_Scopes_refl _ h.2.2.1 h.2.2.2, bind_some']
end Go.Proofs.Ytojafdgkcamliaa
