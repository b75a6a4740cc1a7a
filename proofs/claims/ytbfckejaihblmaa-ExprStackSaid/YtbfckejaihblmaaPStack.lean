/- Plain laws of the lifted functions. -/
import Derived.Test.YtbfckejaihblmaaPRun
set_option maxRecDepth 100000
set_option linter.unusedVariables false
set_option linter.unusedSimpArgs false
namespace Go.Proofs.Ytbfckejaihblmaa
open Go Go.Lift

/-! ### A valid expression behind another -/

theorem stack_L4 (awake : law10_awake = some (true, ())) {a b : List api_TypeV} {y z : List Int} (hb : b.length ≤ 23) (ha : a.length ≤ 24) (hz : z.length = a.length + b.length + 1) (hy : y.length = b.length)
    (hyr : ∀ t ∈ y, 0 ≤ t ∧ t < 1000) (hzy : ∀ i, i < b.length → z.getD (a.length + i) 0 = a.length + y.getD i 0) : ∀ (d i : Nat), i + d = b.length → law10_ExprStack.L4 a b y z i = some (true, ()) := by
  intro d
  induction d with
  | zero =>
    intro i hi
    rw [law10_ExprStack.L4_eq, law10_ExprStack.SL4, decide_eq_false (by omega), cond_false, awake]
    rfl
  | succ d ih =>
    intro i hi
    rw [law10_ExprStack.L4_eq, law10_ExprStack.SL4, decide_eq_true (by omega), cond_true, wrap64 (n := (a.length : Int) + i) (by omega) (by omega)]
    have hlt : i < y.length := by omega
    have hy1 := hyr _ (List.getElem_mem hlt)
    have hyd : y.getD i 0 = y[i] := by rw [List.getD_eq_getElem?_getD, List.getElem?_eq_getElem hlt]; rfl
    simp only [decide_eq_true (show (0 : Int) ≤ (a.length : Int) + i by omega), decide_eq_true (show (a.length : Int) + i < (z.length : Int) by omega), decide_eq_true (show (0 : Int) ≤ (i : Int) by omega), decide_eq_true (show (i : Int) < (y.length : Int) by omega),
      Bool.and_self, cond_true, Int.toNat_natCast, show ((a.length : Int) + (i : Int)).toNat = a.length + i by omega]
    rw [hzy i (by omega), hyd, wrap64 (by omega) (by omega), wrap_succ (by omega)]
    simp only [bne_self_eq_false, cond_false]
    exact ih (i + 1) (by omega)

theorem stack_L3 (awake : law10_awake = some (true, ())) {a b : List api_TypeV} {x y z : List Int} (hb : b.length ≤ 23) (ha : a.length ≤ 24) (hz : z.length = a.length + b.length + 1) (hx : x.length = a.length) (hy : y.length = b.length)
    (hyr : ∀ t ∈ y, 0 ≤ t ∧ t < 1000) (hzx : ∀ i, i < a.length → z.getD i 0 = x.getD i 0) (hzy : ∀ i, i < b.length → z.getD (a.length + i) 0 = a.length + y.getD i 0) :
    ∀ (d i : Nat), i + d = a.length → law10_ExprStack.L3 a b x y z i = some (true, ()) := by
  intro d
  induction d with
  | zero =>
    intro i hi
    rw [law10_ExprStack.L3_eq, law10_ExprStack.SL3, decide_eq_false (by omega), cond_false]
    exact stack_L4 awake hb ha hz hy hyr hzy b.length 0 (by omega)
  | succ d ih =>
    intro i hi
    rw [law10_ExprStack.L3_eq, law10_ExprStack.SL3, decide_eq_true (by omega), cond_true]
    simp only [decide_eq_true (show (0 : Int) ≤ (i : Int) by omega), decide_eq_true (show (i : Int) < (z.length : Int) by omega), decide_eq_true (show (i : Int) < (x.length : Int) by omega), Bool.and_self, cond_true, Int.toNat_natCast]
    rw [hzx i (by omega), wrap_succ (by omega)]
    simp only [bne_self_eq_false, cond_false]
    exact ih (i + 1) (by omega)

theorem exprStack_true (awake : law10_awake = some (true, ())) (a b : List api_TypeV) (op : Int) : law10_ExprStack a b op = some (true, ()) := by
  unfold law10_ExprStack
  rw [law10_ExprStack.Se, awake]
  simp only [Option.bind_some]
  by_cases h1 : (a.length : Int) > 24
  · simp only [decide_eq_true h1, cond_true]
  by_cases h2 : (b.length : Int) > 23
  · simp only [decide_eq_false h1, decide_eq_true h2, cond_true, cond_false]
  simp only [decide_eq_false h1, decide_eq_false h2, cond_false, expr_Arity_val, Option.bind_some]
  by_cases h3 : arity op = 2
  case neg => simp only [show (arity op != 2) = true from bne_iff_ne.2 h3, cond_true]
  simp only [h3, bne_self_eq_false, cond_false]
  rw [law10_ExprStack.J0_eq, law10_ExprStack.SJ0, expr_Starts_val, expr_Starts_val, awake]
  simp only [Option.bind_some]
  by_cases h4 : (startsSpec a).2.2.1 = 0
  case neg => simp only [show ((startsSpec a).2.2.1 != 0) = true from bne_iff_ne.2 h4, cond_true]
  by_cases h5 : (startsSpec b).2.2.1 = 0
  case neg => simp only [h4, bne_self_eq_false, cond_false, show ((startsSpec b).2.2.1 != 0) = true from bne_iff_ne.2 h5, cond_true]
  simp only [h4, h5, bne_self_eq_false, cond_false]
  obtain ⟨a1, a2, a3, a4⟩ := spec_ok h4
  obtain ⟨b1, b2, b3, b4⟩ := spec_ok h5
  have hyr := (runE_range b 0 [] [] _ _ b3 (fun t h => by cases h) (fun t h => by cases h)).1
  generalize (startsSpec a).1 = x at *
  generalize (startsSpec b).1 = y at *
  have hroom : room = 140737488355328 := rfl
  have hla : 0 < a.length := List.length_pos_iff.2 a1
  have hlb : 0 < b.length := List.length_pos_iff.2 b1
  rw [law10_ExprStack.J1_eq, law10_ExprStack.SJ1, expr_Starts_val, awake]
  simp only [Option.bind_some, List.length_append, List.length_cons, List.length_nil, show decide (0 < Ty.nc (.pair (.int .i64) (.pair (.int .i64) .unit))) = true from rfl,
    decide_eq_true (show (0 + a.length) * 16 ≤ room by rw [hroom]; omega), decide_eq_true (show (a.length + b.length) * 16 ≤ room by rw [hroom]; omega), decide_eq_true (show (a.length + b.length + 1) * 16 ≤ room by rw [hroom]; omega), Bool.and_self, cond_true]
  -- the run over all
  have hrun : (∃ j : Int, runE ((a ++ b) ++ [(op, 0, ())]) 0 [] [] = .inl (j, 16)) ∨ runE ((a ++ b) ++ [(op, 0, ())]) 0 [] [] = .inr (x ++ y.map (· + (a.length : Int)) ++ [0], [0]) := by
    rw [runE_append, runE_append, a3]
    simp only [Nat.zero_add]
    rcases runE_shift [0] a.length b 0 [] [] y [0] x b3 with ⟨j, hj⟩ | ⟨new, e1, e2⟩
    · rw [Nat.zero_add] at hj
      simp only [List.map_nil, List.append_nil] at hj
      rw [hj]
      exact .inl ⟨j, rfl⟩
    · rw [Nat.zero_add] at e2
      simp only [List.map_nil, List.append_nil, List.nil_append] at e1 e2
      subst e1
      rw [e2]
      right
      simp [runE, h3, top]
  have hne : ((a ++ b) ++ [(op, (0 : Int), ())]).length = a.length + b.length + 1 := by simp; omega
  have hspec : startsSpec ((a ++ b) ++ [(op, 0, ())]) = finE (a.length + b.length + 1) (runE ((a ++ b) ++ [(op, 0, ())]) 0 [] []) := by
    unfold startsSpec
    rw [hne, if_neg (by omega), if_neg (by omega)]
  rw [hspec]
  rcases hrun with ⟨j, hj⟩ | hr
  · rw [hj]
    simp only [finE, beq_self_eq_true, cond_true]
  · rw [hr]
    simp only [finE, List.length_singleton, Nat.lt_irrefl, if_false]
    have hz : (x ++ y.map (· + (a.length : Int)) ++ [0]).length = a.length + b.length + 1 := by simp [a4, b4]; omega
    simp only [show ((0 : Int) == 16) = false from rfl, bne_self_eq_false, cond_false]
    rw [hz, a4, b4]
    simp only [bne_self_eq_false, cond_false]
    rw [wrap64 (by omega) (by omega)]
    simp only [decide_eq_true (show (0 : Int) ≤ ((a.length + b.length + 1 : Nat) : Int) - 1 by omega), decide_eq_true (show ((a.length + b.length + 1 : Nat) : Int) - 1 < ((a.length + b.length + 1 : Nat) : Int) by omega), Bool.and_self, cond_true]
    have hlast : (x ++ y.map (· + (a.length : Int)) ++ [0]).getD ((((a.length + b.length + 1 : Nat) : Int) - 1).toNat) 0 = 0 := by
      rw [show (((a.length + b.length + 1 : Nat) : Int) - 1).toNat = (x ++ y.map (· + (a.length : Int))).length by simp [a4, b4]; omega, List.getD_eq_getElem?_getD, List.getElem?_concat_length]
      rfl
    rw [hlast]
    simp only [bne_self_eq_false, cond_false]
    rw [law10_ExprStack.J2_eq, law10_ExprStack.SJ2]
    refine stack_L3 awake (by omega) (by omega) hz a4 b4 (fun t ht => by have := hyr t ht; omega) (fun i hi => ?_) (fun i hi => ?_) a.length 0 (by omega)
    · rw [List.getD_eq_getElem?_getD, List.getD_eq_getElem?_getD, List.append_assoc, List.getElem?_append_left (by omega)]
    · rw [List.getD_eq_getElem?_getD, List.getD_eq_getElem?_getD, List.append_assoc, List.getElem?_append_right (by omega), a4, Nat.add_sub_cancel_left, List.getElem?_append_left (by simp; omega), List.getElem?_map, List.getElem?_eq_getElem (show i < y.length by omega)]
      simp only [Option.map_some, Option.getD_some]
      omega

end Go.Proofs.Ytbfckejaihblmaa
