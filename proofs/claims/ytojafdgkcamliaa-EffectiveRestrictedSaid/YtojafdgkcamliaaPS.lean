import Derived.Test.YtojafdgkcamliaaPE
set_option maxRecDepth 100000
set_option linter.unusedVariables false
set_option linter.unusedSimpArgs false
namespace Go.Proofs.Ytojafdgkcamliaa
open Go Go.Lift
def ruleS (r : api_RuleV) : Prop := r.2.2.2.2.2.1.length ≤ 50 ∧ r.2.2.2.2.2.2.1.length ≤ 50
def scopeS (s : api_ScopeV) : Prop := s.2.2.1.length ≤ 14 ∧ s.2.2.2.1.length ≤ 14 ∧ s.2.2.2.2.1.length ≤ 60 ∧ ∀ r ∈ s.2.2.2.2.1, ruleS r
def lawS (l : api_LawV) : Prop := (l.1.length ≤ 9 ∧ ∀ e ∈ l.1, e.2.1.length ≤ 20) ∧ (l.2.1.length ≤ 9 ∧ ∀ t ∈ l.2.1, t.2.2.2.1.length ≤ 150) ∧ (l.2.2.1.length ≤ 5 ∧ ∀ s ∈ l.2.2.1, scopeS s)
theorem smallScope_L3 (s : api_ScopeV) (hs : s.2.2.2.2.1.length ≤ 60) : ∀ (rest pre : List api_RuleV), s.2.2.2.2.1 = pre ++ rest → ∃ b, same_smallScope.L3 s (pre.length : Int) = some (b, ()) ∧ (b = true → ∀ r ∈ rest, ruleS r)
  | [], pre, e => by
    rw [same_smallScope.L3_eq, same_smallScope.SL3, e, cd_f (by simp)]
    exact ⟨true, rfl, fun _ r hr => (by cases hr)⟩
  | x :: rest, pre, e => by
    have hl : pre.length + (rest.length + 1) ≤ 60 := by rw [e, len_mid] at hs; exact hs
    obtain ⟨b, b1, b2⟩ := smallScope_L3 s hs rest (pre ++ [x]) (by rw [e]; simp)
    rw [len_snoc] at b1
    rw [same_smallScope.L3_eq, same_smallScope.SL3, e, cd_t (by rw [len_mid]; omega), idx_mid]
    simp only [bind_some', wrap_succ (show pre.length < 9223372036854775807 by omega), b1]
    by_cases g1 : (x.1.length : Int) > 80
    · rw [cd_t g1]; exact ⟨false, rfl, fun h => (by cases h)⟩
    by_cases g2 : (x.2.2.2.2.2.2.2.1.length : Int) > 80
    · rw [cd_f g1, cd_t g2]; exact ⟨false, rfl, fun h => (by cases h)⟩
    by_cases g3 : (x.2.2.2.2.2.1.length : Int) > 50
    · rw [cd_f g1, cd_f g2, cd_t g3]; exact ⟨false, rfl, fun h => (by cases h)⟩
    by_cases g4 : (x.2.2.2.2.2.2.1.length : Int) > 50
    · rw [cd_f g1, cd_f g2, cd_f g3, cd_t g4]; exact ⟨false, rfl, fun h => (by cases h)⟩
    rw [cd_f g1, cd_f g2, cd_f g3, cd_f g4]
    refine ⟨b, rfl, fun hb r hr => ?_⟩
    rcases List.mem_cons.1 hr with h | h
    · subst h; exact ⟨by omega, by omega⟩
    · exact b2 hb r h
theorem smallScope_L2 (s : api_ScopeV) (hs : s.2.2.2.2.1.length ≤ 60) (hd : s.2.2.2.1.length ≤ 14) : ∀ (rest pre : List api_FieldV), s.2.2.2.1 = pre ++ rest → ∃ b, same_smallScope.L2 s (pre.length : Int) = some (b, ()) ∧ (b = true → ∀ r ∈ s.2.2.2.2.1, ruleS r)
  | [], pre, e => by
    rw [same_smallScope.L2_eq, same_smallScope.SL2, e, cd_f (by simp)]
    exact smallScope_L3 s hs s.2.2.2.2.1 [] rfl
  | x :: rest, pre, e => by
    have hl : pre.length + (rest.length + 1) ≤ 14 := by rw [e, len_mid] at hd; exact hd
    obtain ⟨b, b1, b2⟩ := smallScope_L2 s hs hd rest (pre ++ [x]) (by rw [e]; simp)
    rw [len_snoc] at b1
    rw [same_smallScope.L2_eq, same_smallScope.SL2, e, cd_t (by rw [len_mid]; omega), idx_mid]
    simp only [bind_some', wrap_succ (show pre.length < 9223372036854775807 by omega), b1]
    by_cases g1 : (x.1.length : Int) > 80
    · rw [cd_t g1]; exact ⟨false, rfl, fun h => (by cases h)⟩
    · rw [cd_f g1]; exact ⟨b, rfl, b2⟩
theorem smallScope_L1 (s : api_ScopeV) (hs : s.2.2.2.2.1.length ≤ 60) (hd : s.2.2.2.1.length ≤ 14) (hi : s.2.2.1.length ≤ 14) : ∀ (rest pre : List api_FieldV), s.2.2.1 = pre ++ rest → ∃ b, same_smallScope.L1 s (pre.length : Int) = some (b, ()) ∧ (b = true → ∀ r ∈ s.2.2.2.2.1, ruleS r)
  | [], pre, e => by
    rw [same_smallScope.L1_eq, same_smallScope.SL1, e, cd_f (by simp)]
    exact smallScope_L2 s hs hd s.2.2.2.1 [] rfl
  | x :: rest, pre, e => by
    have hl : pre.length + (rest.length + 1) ≤ 14 := by rw [e, len_mid] at hi; exact hi
    obtain ⟨b, b1, b2⟩ := smallScope_L1 s hs hd hi rest (pre ++ [x]) (by rw [e]; simp)
    rw [len_snoc] at b1
    rw [same_smallScope.L1_eq, same_smallScope.SL1, e, cd_t (by rw [len_mid]; omega), idx_mid]
    simp only [bind_some', wrap_succ (show pre.length < 9223372036854775807 by omega), b1]
    by_cases g1 : (x.1.length : Int) > 80
    · rw [cd_t g1]; exact ⟨false, rfl, fun h => (by cases h)⟩
    · rw [cd_f g1]; exact ⟨b, rfl, b2⟩
theorem smallScope_val (s : api_ScopeV) : ∃ b, same_smallScope s = some (b, ()) ∧ (b = true → scopeS s) := by
  simp only [same_smallScope, same_smallScope.Se]
  by_cases g1 : (s.1.length : Int) > 80
  · rw [cd_t g1]; exact ⟨false, rfl, fun h => (by cases h)⟩
  by_cases g2 : (s.2.2.1.length : Int) > 14
  · rw [cd_f g1, cd_t g2]; exact ⟨false, rfl, fun h => (by cases h)⟩
  by_cases g3 : (s.2.2.2.1.length : Int) > 14
  · rw [cd_f g1, cd_f g2, cd_t g3]; exact ⟨false, rfl, fun h => (by cases h)⟩
  by_cases g4 : (s.2.2.2.2.1.length : Int) > 60
  · rw [cd_f g1, cd_f g2, cd_f g3, cd_t g4]; exact ⟨false, rfl, fun h => (by cases h)⟩
  rw [cd_f g1, cd_f g2, cd_f g3, cd_f g4, same_smallScope.J0_eq, same_smallScope.SJ0]
  obtain ⟨b, b1, b2⟩ := smallScope_L1 s (by omega) (by omega) (by omega) s.2.2.1 [] rfl
  exact ⟨b, b1, fun hb => ⟨by omega, by omega, by omega, b2 hb⟩⟩
theorem smallLaw_L5 (l : api_LawV) (hs : l.2.2.1.length ≤ 5) : ∀ (rest pre : List api_ScopeV) (rules : Int), l.2.2.1 = pre ++ rest → ∃ b, same_SmallLaw.L5 l rules (pre.length : Int) = some (b, ()) ∧ (b = true → ∀ s ∈ rest, scopeS s)
  | [], pre, rules, e => by
    rw [same_SmallLaw.L5_eq, same_SmallLaw.SL5, e, cd_f (by simp)]
    exact ⟨true, rfl, fun _ r hr => (by cases hr)⟩
  | x :: rest, pre, rules, e => by
    have hl : pre.length + (rest.length + 1) ≤ 5 := by rw [e, len_mid] at hs; exact hs
    obtain ⟨b, b1, b2⟩ := smallLaw_L5 l hs rest (pre ++ [x]) (IntKind.i64.wrap (rules + (x.2.2.2.2.1.length : Int))) (by rw [e]; simp)
    rw [len_snoc] at b1
    obtain ⟨c, c1, c2⟩ := smallScope_val x
    rw [same_SmallLaw.L5_eq, same_SmallLaw.SL5, e, cd_t (by rw [len_mid]; omega), idx_mid]
    simp only [bind_some', wrap_succ (show pre.length < 9223372036854775807 by omega), b1, c1]
    by_cases g1 : IntKind.i64.wrap (rules + (x.2.2.2.2.1.length : Int)) > 60
    · rw [cd_t g1]; exact ⟨false, rfl, fun h => (by cases h)⟩
    · rw [cd_f g1]
      cases c with
      | false => exact ⟨false, rfl, fun h => (by cases h)⟩
      | true =>
        refine ⟨b, rfl, fun hb s hs' => ?_⟩
        rcases List.mem_cons.1 hs' with h | h
        · subst h; exact c2 rfl
        · exact b2 hb s h
theorem smallLaw_L3 (l : api_LawV) (hs : l.2.2.1.length ≤ 5) (ht : l.2.1.length ≤ 9) (ho : ∀ t ∈ l.2.1, t.2.2.2.1.length ≤ 140737488355328) (rules : Int) : ∀ (rest pre : List api_TableV) (rows : Int), 0 ≤ rows → rows ≤ 150 → l.2.1 = pre ++ rest →
    ∃ b, same_SmallLaw.L3 l rows rules (pre.length : Int) = some (b, ()) ∧ (b = true → (∀ s ∈ l.2.2.1, scopeS s) ∧ ∀ t ∈ rest, t.2.2.2.1.length ≤ 150)
  | [], pre, rows, r0, r1, e => by
    rw [same_SmallLaw.L3_eq, same_SmallLaw.SL3, e, cd_f (by simp)]
    obtain ⟨b, b1, b2⟩ := smallLaw_L5 l hs l.2.2.1 [] rules rfl
    exact ⟨b, b1, fun hb => ⟨b2 hb, fun t h => (by cases h)⟩⟩
  | x :: rest, pre, rows, r0, r1, e => by
    have hl : pre.length + (rest.length + 1) ≤ 9 := by rw [e, len_mid] at ht; exact ht
    have hx := ho x (by rw [e]; simp)
    rw [same_SmallLaw.L3_eq, same_SmallLaw.SL3, e, cd_t (by rw [len_mid]; omega), idx_mid]
    simp only [bind_some', wrap_succ (show pre.length < 9223372036854775807 by omega)]
    rw [wrap64 (n := rows + (x.2.2.2.1.length : Int)) (by omega) (by omega)]
    by_cases g1 : (x.1.length : Int) > 80
    · rw [cd_t g1]; exact ⟨false, rfl, fun h => (by cases h)⟩
    rw [cd_f g1]
    by_cases g2 : rows + (x.2.2.2.1.length : Int) > 150
    · rw [cd_t g2]; exact ⟨false, rfl, fun h => (by cases h)⟩
    rw [cd_f g2]
    obtain ⟨b, b1, b2⟩ := smallLaw_L3 l hs ht ho rules rest (pre ++ [x]) (rows + (x.2.2.2.1.length : Int)) (by omega) (by omega) (by rw [e]; simp)
    rw [len_snoc] at b1
    refine ⟨b, b1, fun hb => ⟨(b2 hb).1, fun t h => ?_⟩⟩
    rcases List.mem_cons.1 h with h | h
    · subst h; omega
    · exact (b2 hb).2 t h
theorem smallLaw_L4 (l : api_LawV) (rows rules : Int) (i : Nat) (x : api_EnumV) (hi : l.1[i]? = some x) (hx : x.2.1.length ≤ 20) : ∀ (rest pre : List (List UInt8)), x.2.1 = pre ++ rest →
    same_SmallLaw.L4 l rows rules (i : Int) (pre.length : Int) = some (false, ()) ∨ same_SmallLaw.L4 l rows rules (i : Int) (pre.length : Int) = same_SmallLaw.L1 l rows rules (IntKind.i64.wrap ((i : Int) + 1))
  | [], pre, e => by
    rw [same_SmallLaw.L4_eq, same_SmallLaw.SL4, idx_nat, hi]
    simp only [bind_some', e]
    rw [cd_f (by simp)]
    exact .inr rfl
  | y :: rest, pre, e => by
    have hl : pre.length + (rest.length + 1) ≤ 20 := by rw [e, len_mid] at hx; exact hx
    have ih := smallLaw_L4 l rows rules i x hi hx rest (pre ++ [y]) (by rw [e]; simp)
    rw [len_snoc] at ih
    rw [same_SmallLaw.L4_eq, same_SmallLaw.SL4, idx_nat, hi]
    simp only [bind_some', e, idx_mid, wrap_succ (show pre.length < 9223372036854775807 by omega)]
    rw [cd_t (by rw [len_mid]; omega)]
    by_cases g1 : (y.length : Int) > 80
    · rw [cd_t g1]; exact .inl rfl
    · rw [cd_f g1]; exact ih
theorem smallLaw_L1 (l : api_LawV) (hs : l.2.2.1.length ≤ 5) (ht : l.2.1.length ≤ 9) (he : l.1.length ≤ 9) (ho : ∀ t ∈ l.2.1, t.2.2.2.1.length ≤ 140737488355328) : ∀ (rest pre : List api_EnumV), l.1 = pre ++ rest →
    ∃ b, same_SmallLaw.L1 l 0 0 (pre.length : Int) = some (b, ()) ∧ (b = true → ((∀ s ∈ l.2.2.1, scopeS s) ∧ ∀ t ∈ l.2.1, t.2.2.2.1.length ≤ 150) ∧ ∀ e ∈ rest, e.2.1.length ≤ 20)
  | [], pre, e => by
    rw [same_SmallLaw.L1_eq, same_SmallLaw.SL1, e, cd_f (by simp)]
    obtain ⟨b, b1, b2⟩ := smallLaw_L3 l hs ht ho 0 l.2.1 [] 0 (by omega) (by omega) rfl
    exact ⟨b, b1, fun hb => ⟨b2 hb, fun t h => (by cases h)⟩⟩
  | x :: rest, pre, e => by
    have hl : pre.length + (rest.length + 1) ≤ 9 := by rw [e, len_mid] at he; exact he
    obtain ⟨b, b1, b2⟩ := smallLaw_L1 l hs ht he ho rest (pre ++ [x]) (by rw [e]; simp)
    rw [len_snoc] at b1
    have hi : l.1[pre.length]? = some x := by rw [e]; simp
    rw [same_SmallLaw.L1_eq, same_SmallLaw.SL1, cd_t (by rw [e, len_mid]; omega), idx_nat, hi]
    simp only [bind_some', same_SmallLaw.J2_eq, same_SmallLaw.SJ2]
    by_cases g1 : (x.1.length : Int) > 80
    · rw [cd_t g1]; exact ⟨false, rfl, fun h => (by cases h)⟩
    rw [cd_f g1]
    by_cases g2 : (x.2.1.length : Int) > 20
    · rw [cd_t g2]; exact ⟨false, rfl, fun h => (by cases h)⟩
    rw [cd_f g2]
    rcases smallLaw_L4 l 0 0 pre.length x hi (by omega) x.2.1 [] rfl with h | h
    · simp only [List.length_nil] at h
      rw [show (0 : Int) = ((0 : Nat) : Int) from rfl] at *
      rw [h]; exact ⟨false, rfl, fun h => (by cases h)⟩
    · simp only [List.length_nil, wrap_succ (show pre.length < 9223372036854775807 by omega)] at h
      rw [show (0 : Int) = ((0 : Nat) : Int) from rfl] at *
      rw [h]
      refine ⟨b, b1, fun hb => ⟨(b2 hb).1, fun t h => ?_⟩⟩
      rcases List.mem_cons.1 h with h | h
      · subst h; omega
      · exact (b2 hb).2 t h
theorem smallLaw_val {l : api_LawV} (o : Ty.szd api_Law l) : ∃ b, same_SmallLaw l = some (b, ()) ∧ (b = true → lawS l) := by
  have ho : ∀ t ∈ l.2.1, t.2.2.2.1.length ≤ 140737488355328 := fun t ht => (o.2.1.2 t ht).2.2.2.1.1
  simp only [same_SmallLaw, same_SmallLaw.Se]
  by_cases g1 : (l.1.length : Int) > 9
  · rw [cd_t g1]; exact ⟨false, rfl, fun h => (by cases h)⟩
  by_cases g2 : (l.2.1.length : Int) > 9
  · rw [cd_f g1, cd_t g2]; exact ⟨false, rfl, fun h => (by cases h)⟩
  by_cases g3 : (l.2.2.1.length : Int) > 5
  · rw [cd_f g1, cd_f g2, cd_t g3]; exact ⟨false, rfl, fun h => (by cases h)⟩
  rw [cd_f g1, cd_f g2, cd_f g3, same_SmallLaw.J0_eq, same_SmallLaw.SJ0]
  obtain ⟨b, b1, b2⟩ := smallLaw_L1 l (by omega) (by omega) (by omega) ho l.1 [] rfl
  exact ⟨b, b1, fun hb => ⟨⟨by omega, (b2 hb).2⟩, ⟨by omega, (b2 hb).1.2⟩, ⟨by omega, (b2 hb).1.1⟩⟩⟩
end Go.Proofs.Ytojafdgkcamliaa
