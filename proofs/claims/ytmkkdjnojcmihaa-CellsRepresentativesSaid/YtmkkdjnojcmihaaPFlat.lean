/- Plain laws of the lifted functions. -/
import Derived.Test.YtmkkdjnojcmihaaPTypes3
set_option maxRecDepth 100000
set_option linter.unusedVariables false
set_option linter.unusedSimpArgs false
namespace Go.Proofs.Ytmkkdjnojcmihaa
open Go Go.Lift

/-! ### simple comparisons -/
theorem comparison_val (op : Int) : cells_comparison op = some (decide (19 ≤ op ∧ op ≤ 22), ()) := by
  simp only [cells_comparison, cells_comparison.Se, bind_some']
  by_cases h1 : op = 19
  · subst h1; rfl
  · by_cases h2 : op = 20
    · subst h2; rfl
    · by_cases h3 : op = 21
      · subst h3; rfl
      · rw [beq_eq_false_iff_ne.2 h1, beq_eq_false_iff_ne.2 h2, beq_eq_false_iff_ne.2 h3]
        simp only [cond_false]
        congr 2
        by_cases h4 : op = 22
        · subst h4; rfl
        · rw [beq_eq_false_iff_ne.2 h4, decide_eq_false (by omega)]

theorem rcomparison_val (op : Int) : ref23_comparison op = some (decide (19 ≤ op ∧ op ≤ 22), ()) := by
  simp only [ref23_comparison, ref23_comparison.Se, bind_some']
  by_cases h1 : 19 ≤ op
  · rw [cd_t h1]; congr 2; rw [decide_eq_decide]; omega
  · rw [cd_f h1, decide_eq_false (by omega)]

theorem literal_val (op : Int) : cells_literal op = some (decide (2 ≤ op ∧ op ≤ 6), ()) := by
  simp only [cells_literal, cells_literal.Se, bind_some']
  by_cases h1 : 2 ≤ op
  · rw [cd_t h1]; congr 2; rw [decide_eq_decide]; omega
  · rw [cd_f h1, decide_eq_false (by omega)]

theorem rliteral_val (op : Int) : ref23_literal op = some (decide (2 ≤ op ∧ op ≤ 6), ()) := by
  simp only [ref23_literal, ref23_literal.Se, bind_some']
  by_cases h1 : 2 ≤ op
  · rw [cd_t h1]; congr 2; rw [decide_eq_decide]; omega
  · rw [cd_f h1, decide_eq_false (by omega)]

/-- The operands lie in the list. -/
theorem operands_range (e : List api_TypeV) (i : Nat) (hi : i < e.length) : ∃ r, expr_Operands e i = some (r, ()) ∧ ref10_Operands e i = some (r, ()) ∧ ∀ x ∈ r, 0 ≤ x ∧ x < e.length := by
  obtain ⟨r, r1, r2, r3⟩ := operands_val e i
  refine ⟨r, r1, r2, ?_⟩
  obtain ⟨l, x, err, h1, h2, h3, h4⟩ := starts_val e
  simp only [expr_Operands, expr_Operands.Se, expr_Starts, expr_Starts.Se, h1, bind_some'] at r1
  by_cases he : err = 0
  · subst he
    obtain ⟨h5, h6, h7⟩ := h3 rfl
    simp only [bne_self_eq_false, cond_false] at r1
    rw [cd_f (by omega), cd_f (by omega)] at r1
    obtain ⟨stk, k1, k2, k3⟩ := h7 i hi hi
    rw [expr_operands_val h4 hi k1 k2 (by simpa using k3) (by omega), bind_some'] at r1
    simp only [Option.some.injEq, Prod.mk.injEq, and_true] at r1
    subst r1
    intro y hy
    rw [List.mem_reverse] at hy
    have := k1.ends_le y (List.mem_of_mem_take hy)
    omega
  · simp only [show (err != 0) = true from bne_iff_ne.2 he, cond_true, Option.some.injEq, Prod.mk.injEq, and_true] at r1
    subst r1
    simp

/-- The two sides of a comparison, and whether it is simple. -/
theorem simple_val (e : List api_TypeV) (i : Nat) (hi : i < e.length) : ∃ a b a' b' ok, cells_simple e i = some (a, b, ok, ()) ∧ ref23_simple e i = some (a', b', ok && decide (19 ≤ e[i].1 ∧ e[i].1 ≤ 22), ()) ∧ (ok = true → 19 ≤ e[i].1 → e[i].1 ≤ 22 → a' = a ∧ b' = b ∧ a ∈ e ∧ b ∈ e) := by
  obtain ⟨r, r1, r2, r3⟩ := operands_range e i hi
  simp only [cells_simple, cells_simple.Se, ref23_simple, ref23_simple.Se, r1, r2, bind_some', idx_nat, List.getElem?_eq_getElem hi, rcomparison_val]
  by_cases hl : r.length = 2
  · have hb : ((r.length : Int) != 2) = false := by rw [hl]; rfl
    match r, hl with
    | [p, q], _ =>
    obtain ⟨p0, p1⟩ := r3 p (by simp)
    obtain ⟨q0, q1⟩ := r3 q (by simp)
    rw [hb]
    simp only [cond_false]
    obtain ⟨p, rfl⟩ : ∃ m : Nat, p = m := ⟨p.toNat, by omega⟩
    obtain ⟨q, rfl⟩ : ∃ m : Nat, q = m := ⟨q.toNat, by omega⟩
    have hp : p < e.length := by omega
    have hq : q < e.length := by omega
    have d0 : (decide (0 ≤ 0) && decide (0 < (([(p : Int), (q : Int)] : List Int).length : Int))) = true := by simp
    have d1 : (decide (0 ≤ 1) && decide (1 < (([(p : Int), (q : Int)] : List Int).length : Int))) = true := by simp
    have g0 : ([(p : Int), (q : Int)] : List Int).getD 0 0 = (p : Int) := rfl
    have g1 : ([(p : Int), (q : Int)] : List Int).getD 1 0 = (q : Int) := rfl
    rw [d0, d1, g0, g1]
    simp only [cond_true, idx_nat, List.getElem?_eq_getElem hp, List.getElem?_eq_getElem hq, bind_some', cells_simple.J0_eq, cells_simple.SJ0, literal_val]
    have me : e[p] ∈ e := List.getElem_mem hp
    have me' : e[q] ∈ e := List.getElem_mem hq
    have hp' := hp
    have hq' := hq
    generalize hA : e[p] = A at me ⊢
    generalize hB : e[q] = B at me' ⊢
    have hJ : ref23_simple.J1 (0, 0, ()) (0, 0, ()) A B = some (if B.1 = 7 ∧ 2 ≤ A.1 ∧ A.1 ≤ 6 then (B, A, true, ()) else ((0, 0, ()), (0, 0, ()), false, ())) := by
      rw [ref23_simple.J1_eq, ref23_simple.SJ1, rliteral_val]
      simp only [bind_some']
      by_cases c1 : B.1 = 7
      · rw [beq_iff_eq.2 c1, cond_true]
        by_cases c2 : 2 ≤ A.1 ∧ A.1 ≤ 6
        · rw [cd_t c2, if_pos ⟨c1, c2⟩]
        · rw [cd_f c2, if_neg (fun h => c2 h.2)]
      · rw [beq_eq_false_iff_ne.2 c1, cond_false, if_neg (fun h => c1 h.1)]
    by_cases c3 : 19 ≤ e[i].1 ∧ e[i].1 ≤ 22
    · rw [decide_eq_true c3]
      simp only [Bool.not_true, cond_false, ref23_simple.J0_eq, ref23_simple.SJ0, d0, d1, g0, g1, cond_true, idx_nat, List.getElem?_eq_getElem hp', List.getElem?_eq_getElem hq', bind_some', rliteral_val, Bool.and_true, hA, hB, hJ]
      by_cases cB : B.1 = 7
      · rw [beq_iff_eq.2 cB]
        simp only [cond_true]
        by_cases c2 : 2 ≤ A.1 ∧ A.1 ≤ 6
        · rw [show (A.1 == 7) = false from beq_eq_false_iff_ne.2 (by omega), if_pos ⟨cB, c2⟩]
          exact ⟨B, A, B, A, true, by simp [c2], by simp, fun _ _ _ => ⟨rfl, rfl, me', me⟩⟩
        · rw [if_neg (fun h => c2 h.2), decide_eq_false (show ¬ (2 ≤ B.1 ∧ B.1 ≤ 6) by omega), decide_eq_false c2]
          refine ⟨B, A, (0, 0, ()), (0, 0, ()), false, rfl, ?_, fun h => by cases h⟩
          cases (A.1 == 7) <;> rfl
      · rw [beq_eq_false_iff_ne.2 cB]
        simp only [cond_false]
        rw [if_neg (fun h => cB h.1)]
        by_cases cA : A.1 = 7
        · rw [beq_iff_eq.2 cA]
          simp only [cond_true]
          by_cases c2 : 2 ≤ B.1 ∧ B.1 ≤ 6
          · rw [decide_eq_true c2]
            exact ⟨A, B, A, B, true, rfl, rfl, fun _ _ _ => ⟨rfl, rfl, me, me'⟩⟩
          · rw [decide_eq_false c2]
            exact ⟨A, B, (0, 0, ()), (0, 0, ()), false, rfl, rfl, fun h => by cases h⟩
        · rw [beq_eq_false_iff_ne.2 cA]
          exact ⟨A, B, (0, 0, ()), (0, 0, ()), false, rfl, rfl, fun h => by cases h⟩
    · rw [decide_eq_false c3]
      simp only [Bool.not_false, cond_true, Bool.and_false]
      cases (B.1 == 7)
      · simp only [cond_false]
        cases (A.1 == 7)
        · exact ⟨A, B, (0, 0, ()), (0, 0, ()), false, rfl, rfl, fun h => by cases h⟩
        · exact ⟨A, B, (0, 0, ()), (0, 0, ()), _, rfl, rfl, fun _ h1 h2 => absurd ⟨h1, h2⟩ c3⟩
      · simp only [cond_true]
        cases hB : (B.1 == 7)
        · exact ⟨B, A, (0, 0, ()), (0, 0, ()), _, rfl, rfl, fun _ h1 h2 => absurd ⟨h1, h2⟩ c3⟩
        · exact ⟨B, A, (0, 0, ()), (0, 0, ()), _, rfl, rfl, fun _ h1 h2 => absurd ⟨h1, h2⟩ c3⟩
  · have hb : ((r.length : Int) != 2) = true := bne_iff_ne.2 (by omega)
    rw [hb]
    refine ⟨(0, 0, ()), (0, 0, ()), (0, 0, ()), (0, 0, ()), false, rfl, ?_, fun h => by cases h⟩
    cases decide (19 ≤ e[i].1 ∧ e[i].1 ≤ 22) <;> rfl

/-! ### IsFlat -/
theorem typeOf_bool {e : List api_TypeV} {s : api_SignatureV} (hs : s.1.length ≤ 1000) (hok : ∀ x ∈ e, -9223372036854775808 ≤ x.2.1 ∧ x.2.1 ≤ 9223372036854775807) (h : (typeSpec e s).2.2.1 = 0) (h1 : (typeSpec e s).1.1 = 1) : (typeSpec e s).1 = (1, 0, ()) := by
  unfold typeSpec at h h1 ⊢
  by_cases g : (startsSpec e).2.2.1 = 0
  · rw [if_pos g] at h h1 ⊢
    obtain ⟨g1, g2, g3, g4⟩ := spec_ok g
    cases ht : tyRun s e 0 [] with
    | inl x =>
      rw [ht] at h1
      exact absurd h1 (by simp [finT])
    | inr tf =>
      have hv := tyRun_valid hs e 0 [] [] _ _ [] tf hok g3 rfl ht (by simp)
      rw [ht] at h1
      match tf, hv with
      | [], _ => exact absurd h1 (by simp [finT])
      | (k, m, u) :: tf, hv =>
        have := validT_iff.1 (hv (k, m, u) (List.mem_cons_self ..))
        have h1 : k = 1 := h1
        show (k, m, u) = (1, 0, ())
        rw [h1, show m = 0 by omega]
  · rw [if_neg g] at h
    exact absurd h g

theorem flat_loop (e : List api_TypeV) (he : e.length ≤ 1000) : ∀ (d i : Nat), i + d = e.length → ∃ b, cells_IsFlat.L1 e e (e.length : Int) i = some (b, ()) ∧ ref23_IsFlat.L1 e i = some (b, ())
  | 0, i, h => by
    rw [cells_IsFlat.L1_eq, cells_IsFlat.SL1, ref23_IsFlat.L1_eq, ref23_IsFlat.SL1, cd_f (by omega), cd_f (by omega)]
    exact ⟨true, rfl, rfl⟩
  | d + 1, i, h => by
    have hi : i < e.length := by omega
    obtain ⟨b, b1, b2⟩ := flat_loop e he d (i + 1) (by omega)
    obtain ⟨A, B, A', B', ok, s1, s2, -⟩ := simple_val e i hi
    rw [cells_IsFlat.L1_eq, cells_IsFlat.SL1, ref23_IsFlat.L1_eq, ref23_IsFlat.SL1, cd_t (by omega), cd_t (by omega), idx_nat, List.getElem?_eq_getElem hi]
    simp only [bind_some', wrap_succ (show i < 9223372036854775807 by omega), comparison_val, rcomparison_val, literal_val, rliteral_val, s1, s2, b1, b2]
    by_cases c : 19 ≤ e[i].1 ∧ e[i].1 ≤ 22
    · have n1 : (e[i].1 == 1) = false := beq_eq_false_iff_ne.2 (by omega)
      have n2 : (e[i].1 == 23) = false := beq_eq_false_iff_ne.2 (by omega)
      have n3 : (e[i].1 == 24) = false := beq_eq_false_iff_ne.2 (by omega)
      have n4 : (e[i].1 == 25) = false := beq_eq_false_iff_ne.2 (by omega)
      have n5 : (e[i].1 == 7) = false := beq_eq_false_iff_ne.2 (by omega)
      have n6 : decide (2 ≤ e[i].1 ∧ e[i].1 ≤ 6) = false := decide_eq_false (by omega)
      rw [decide_eq_true c, n1, n2, n3, n4, n5, n6]
      simp only [cond_true, cond_false, Bool.and_true]
      cases ok
      · exact ⟨false, rfl, rfl⟩
      · exact ⟨b, rfl, rfl⟩
    · rw [decide_eq_false c]
      simp only [cond_false, bne]
      cases (e[i].1 == 1)
      · cases (e[i].1 == 23)
        · cases (e[i].1 == 24)
          · cases (e[i].1 == 25)
            · cases (e[i].1 == 7)
              · cases decide (2 ≤ e[i].1 ∧ e[i].1 ≤ 6)
                · exact ⟨false, rfl, rfl⟩
                · exact ⟨b, rfl, rfl⟩
              · exact ⟨b, rfl, rfl⟩
            · exact ⟨b, rfl, rfl⟩
          · exact ⟨b, rfl, rfl⟩
        · exact ⟨b, rfl, rfl⟩
      · exact ⟨b, rfl, rfl⟩

theorem few_val (e : List api_TypeV) (s : api_SignatureV) : ∃ b, law23_few e s = some (b, ()) ∧ (b = true → e.length ≤ 60 ∧ s.1.length ≤ 20 ∧ ∀ x ∈ s.1, x.2.1.length ≤ 40) := by
  simp only [law23_few, law23_few.Se]
  by_cases h1 : (e.length : Int) > 60
  · rw [cd_t h1]; exact ⟨false, rfl, fun h => by cases h⟩
  rw [cd_f h1]
  by_cases h2 : (s.1.length : Int) > 20
  · rw [cd_t h2]; exact ⟨false, rfl, fun h => by cases h⟩
  rw [cd_f h2]
  have go : ∀ (d i : Nat), i + d = s.1.length → (∀ x ∈ s.1.take i, x.2.1.length ≤ 40) → ∃ b, law23_few.L1 s i = some (b, ()) ∧ (b = true → ∀ x ∈ s.1, x.2.1.length ≤ 40) := by
    intro d
    induction d with
    | zero =>
      intro i hi hx
      rw [law23_few.L1_eq, law23_few.SL1, cd_f (by omega)]
      rw [List.take_of_length_le (by omega)] at hx
      exact ⟨true, rfl, fun _ => hx⟩
    | succ d ih =>
      intro i hi hx
      have h : i < s.1.length := by omega
      rw [law23_few.L1_eq, law23_few.SL1, cd_t (by omega), idx_nat, List.getElem?_eq_getElem h, bind_some']
      by_cases c : ((s.1[i]).2.1.length : Int) > 40
      · rw [cd_t c]; exact ⟨false, rfl, fun h => by cases h⟩
      · rw [cd_f c, wrap_succ (by omega)]
        refine ih (i + 1) (by omega) (fun x hx' => ?_)
        rw [List.take_succ_eq_append_getElem h] at hx'
        rcases List.mem_append.1 hx' with g | g
        · exact hx x g
        · rw [List.mem_singleton.1 g]; omega
  obtain ⟨b, b1, b2⟩ := go s.1.length 0 (by omega) (by simp)
  rw [law23_few.J0_eq, law23_few.SJ0, show (0 : Int) = ((0 : Nat) : Int) from rfl, b1]
  cases decide ((s.2.1.length : Int) > 20)
  · cases decide ((s.2.2.1.length : Int) > 20)
    · cases decide ((s.2.2.2.1.length : Int) > 20)
      · cases decide ((s.2.2.2.2.1.length : Int) > 20)
        · exact ⟨b, rfl, fun h => ⟨by omega, by omega, b2 h⟩⟩
        · exact ⟨false, rfl, fun h => by cases h⟩
      · exact ⟨false, rfl, fun h => by cases h⟩
    · exact ⟨false, rfl, fun h => by cases h⟩
  · exact ⟨false, rfl, fun h => by cases h⟩

theorem cellsFlat_true (aw : law23_awake = some (true, ())) (e : List api_TypeV) (s : api_SignatureV) (ho : Ty.okv (.sl api_Type) e) : law23_CellsFlat e s = some (true, ()) := by
  have hok : ∀ x ∈ e, -9223372036854775808 ≤ x.2.1 ∧ x.2.1 ≤ 9223372036854775807 := fun x hx => okv_i64.1 (ho.2 x hx).2.1
  simp only [law23_CellsFlat, law23_CellsFlat.Se, aw, bind_some']
  obtain ⟨b, b1, b2⟩ := few_val e s
  rw [b1, bind_some']
  cases b with
  | false => rfl
  | true =>
    obtain ⟨h1, h2, h3⟩ := b2 rfl
    simp only [Bool.not_true, cond_false]
    have hs : s.1.length ≤ 1000 := by omega
    obtain ⟨t1, t2⟩ := typeOf_spec hs hok
    obtain ⟨r, r1, r2⟩ := flat_loop e (by omega) e.length 0 (by omega)
    simp only [cells_IsFlat, cells_IsFlat.Se, ref23_IsFlat, ref23_IsFlat.Se, t1, t2, bind_some', cells_IsFlat.J0_eq, cells_IsFlat.SJ0, ref23_IsFlat.J0_eq, ref23_IsFlat.SJ0]
    have r1' : cells_IsFlat.L1 e e (e.length : Int) 0 = some (r, ()) := r1
    have r2' : ref23_IsFlat.L1 e 0 = some (r, ()) := r2
    rw [r1', r2', eqT]
    by_cases c : (typeSpec e s).2.2.1 = 0
    · rw [show ((typeSpec e s).2.2.1 != 0) = false by rw [c]; rfl]
      simp only [cond_false]
      by_cases c2 : (typeSpec e s).1.1 = 1
      · have e3 := typeOf_bool hs hok c c2
        rw [show ((typeSpec e s).1.1 != 1) = false by rw [c2]; rfl, decide_eq_true e3]
        simp [aw]
      · rw [show ((typeSpec e s).1.1 != 1) = true from bne_iff_ne.2 c2, decide_eq_false (fun h => c2 (by rw [h]))]
        simp [aw]
    · rw [show ((typeSpec e s).2.2.1 != 0) = true from bne_iff_ne.2 c]
      simp [aw]

end Go.Proofs.Ytmkkdjnojcmihaa
