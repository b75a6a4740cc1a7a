/- Plain laws of the lifted functions. -/
import Derived.Test.YtmkkdjnojcmihaaPA
set_option maxRecDepth 100000
set_option linter.unusedVariables false
set_option linter.unusedSimpArgs false
namespace Go.Proofs.Ytmkkdjnojcmihaa
open Go Go.Lift


def arity (op : Int) : Int :=
  if op < 1 ∨ 39 < op then -1 else if op = 26 then 3 else if op = 10 ∨ op = 25 ∨ op = 31 ∨ op = 32 ∨ op = 33 ∨ op = 34 then 1 else if op ≤ 9 ∨ 35 ≤ op then 0 else 2

theorem arity_le (op : Int) : -1 ≤ arity op ∧ arity op ≤ 3 := by
  unfold arity
  repeat' split
  all_goals omega

theorem arity_cases (op : Int) : (op < 1 ∧ arity op = -1) ∨ (39 < op ∧ arity op = -1) ∨ (op = 26 ∧ arity op = 3) ∨ ((op = 10 ∨ op = 25 ∨ op = 31 ∨ op = 32 ∨ op = 33 ∨ op = 34) ∧ arity op = 1) ∨
    (1 ≤ op ∧ op ≤ 9 ∧ arity op = 0) ∨ (35 ≤ op ∧ op ≤ 39 ∧ arity op = 0) ∨ (11 ≤ op ∧ op ≤ 30 ∧ op ≠ 25 ∧ op ≠ 26 ∧ arity op = 2) := by
  unfold arity
  repeat' split
  all_goals omega

theorem expr_Arity_val (op : Int) : expr_Arity op = some (arity op, ()) := by
  unfold expr_Arity
  simp only [expr_Arity.Se, expr_Arity.J0_eq, expr_Arity.SJ0, expr_Arity.J1_eq, expr_Arity.SJ1, Bool.cond_eq_ite, decide_eq_true_eq, beq_iff_eq]
  rcases arity_cases op with ⟨h, e⟩ | ⟨h, e⟩ | ⟨h, e⟩ | ⟨h, e⟩ | ⟨h, h', e⟩ | ⟨h, h', e⟩ | ⟨h, h', h1, h2, e⟩ <;> rw [e]
  · rw [if_pos h, if_pos trivial]
  · rw [if_neg (by omega), if_pos (show op > 39 from h)]
  · subst h; rfl
  · rcases h with rfl | rfl | rfl | rfl | rfl | rfl <;> rfl
  · rw [if_neg (by omega), if_neg (by omega), if_neg (by omega), if_neg (by omega), if_neg (by omega), if_neg (by omega), if_neg (by omega), if_neg (by omega), if_neg (by omega), if_pos h', if_pos h']
  · rw [if_neg (by omega), if_neg (by omega), if_neg (by omega), if_neg (by omega), if_neg (by omega), if_neg (by omega), if_neg (by omega), if_neg (by omega), if_neg (by omega), if_neg (by omega), if_pos h]
  · rw [if_neg (by omega), if_neg (by omega), if_neg (by omega), if_neg (by omega), if_neg (by omega), if_neg (by omega), if_neg (by omega), if_neg (by omega), if_neg (by omega), if_neg (by omega), if_neg (by omega)]

theorem ref10_Arity_val (op : Int) : ref10_Arity op = some (arity op, ()) := by
  unfold ref10_Arity
  simp only [ref10_Arity.Se, ref10_Arity.J0_eq, ref10_Arity.SJ0, ref10_Arity.J1_eq, ref10_Arity.SJ1, Bool.cond_eq_ite, decide_eq_true_eq, beq_iff_eq]
  rcases arity_cases op with ⟨h, e⟩ | ⟨h, e⟩ | ⟨h, e⟩ | ⟨h, e⟩ | ⟨h, h', e⟩ | ⟨h, h', e⟩ | ⟨h, h', h1, h2, e⟩ <;> rw [e]
  · rw [if_neg (by omega), if_neg (by omega), if_neg (by omega), if_neg (by omega), if_neg (by omega), if_neg (by omega), if_neg (by omega), if_neg (by omega), if_neg (by omega), if_neg (by omega)]
  · rw [if_pos (by omega), if_neg (by omega), if_pos (by omega), if_neg (by omega), if_neg (by omega), if_neg (by omega), if_neg (by omega), if_neg (by omega), if_neg (by omega), if_neg (by omega), if_neg (by omega), if_pos (by omega), if_neg (by omega)]
  · subst h; rfl
  · rcases h with rfl | rfl | rfl | rfl | rfl | rfl <;> rfl
  · rw [if_pos (by omega), if_pos (by omega)]
  · rw [if_pos (by omega), if_neg (by omega), if_pos (by omega), if_pos (by omega)]
  · rw [if_pos (by omega), if_neg (by omega), if_neg (by omega), if_neg (by omega), if_neg (by omega), if_neg (by omega), if_neg (by omega), if_neg (by omega), if_neg (by omega), if_neg (by omega), if_pos (by omega), if_pos (by omega)]

/-! ### The structure of an expression -/

/-- The subexpressions that end at node k, the last first: where each begins. -/
def Chain (l : List Int) : List Int → Int → Prop
  | [], k => k = -1
  | s :: r, k => 0 ≤ s ∧ s ≤ k ∧ k < l.length ∧ l[k.toNat]? = some s ∧ Chain l r (s - 1)

theorem Chain.more {l m : List Int} : ∀ {r : List Int} {k : Int}, Chain l r k → Chain (l ++ m) r k := by
  intro r
  induction r with
  | nil => intro k h; exact h
  | cons s r ih =>
    intro k ⟨h1, h2, h3, h4, h5⟩
    refine ⟨h1, h2, by simp; omega, ?_, ih h5⟩
    rw [List.getElem?_append_left (by omega)]
    exact h4

theorem Chain.drop {l : List Int} : ∀ (n : Nat) {r : List Int} {k : Int}, Chain l r k → n < r.length → ∃ s, r[n]? = some s ∧ 0 ≤ s ∧ s ≤ k ∧ Chain l (r.drop (n + 1)) (s - 1) := by
  intro n
  induction n with
  | zero =>
    intro r k h hn
    match r, hn with
    | s :: r, _ =>
      obtain ⟨h1, h2, h3, h4, h5⟩ := h
      exact ⟨s, rfl, h1, h2, h5⟩
  | succ n ih =>
    intro r k h hn
    match r, hn with
    | s :: r, hn =>
      obtain ⟨h1, h2, h3, h4, h5⟩ := h
      obtain ⟨t, g1, g2, g3, g4⟩ := ih h5 (by simpa using hn)
      exact ⟨t, by simpa using g1, g2, by omega, by simpa using g4⟩

/-- What is known of the starts of the first nodes. -/
def Ops (e : List api_TypeV) (l : List Int) (i : Nat) : Prop :=
  ∀ j (hj : j < e.length), j < i → ∃ stk, Chain l stk ((j : Int) - 1) ∧ (0 ≤ arity e[j].1 ∧ (arity e[j].1).toNat ≤ stk.length)

theorem starts_loop {e : List api_TypeV} (he : e.length ≤ 48) : ∀ (d i : Nat) (out stack : List Int), i + d = e.length → out.length = i → Chain out stack.reverse ((i : Int) - 1) → stack.length ≤ 12 → Ops e out i →
    ∃ l x err, expr_starts.L0 e out stack e e.length i = some (l, x, err, ()) ∧ ref10_structure.L0 e out stack i = some (l, x, err, ()) ∧ (err = 0 → l.length = e.length ∧ Ops e l e.length) ∧ l.length ≤ e.length := by
  intro d
  induction d with
  | zero =>
    intro i out stack hi ho hc hs hop
    rw [expr_starts.L0_eq, expr_starts.SL0, ref10_structure.L0_eq, ref10_structure.SL0, decide_eq_false (by omega), cond_false, cond_false]
    have hie : i = e.length := by omega
    subst hie
    by_cases h1 : (stack.length : Int) > 1
    · simp only [decide_eq_true h1, cond_true]
      exact ⟨_, _, _, rfl, rfl, (fun h => by cases h), by simp⟩
    · simp only [decide_eq_false h1, cond_false]
      exact ⟨_, _, _, rfl, rfl, fun _ => ⟨ho, hop⟩, by omega⟩
  | succ d ih =>
    intro i out stack hi ho hc hs hop
    have hie : i < e.length := by omega
    rw [expr_starts.L0_eq, expr_starts.SL0, ref10_structure.L0_eq, ref10_structure.SL0, decide_eq_true (by omega), cond_true, cond_true, idx_nat, List.getElem?_eq_getElem hie, Option.bind_some, Option.bind_some, expr_Arity_val, ref10_Arity_val,
      Option.bind_some, Option.bind_some]
    simp only
    obtain ⟨a1, a2⟩ := arity_le e[i].1
    generalize hk : arity e[i].1 = k at *
    by_cases h1 : k < 0
    · simp only [decide_eq_true h1, cond_true]
      exact ⟨_, _, _, rfl, rfl, (fun h => by cases h), by simp⟩
    · simp only [decide_eq_false h1, cond_false]
      by_cases h2 : k > (stack.length : Int)
      · simp only [decide_eq_true h2, cond_true]
        exact ⟨_, _, _, rfl, rfl, (fun h => by cases h), by simp⟩
      · simp only [decide_eq_false h2, cond_false]
        obtain ⟨n, rfl⟩ : ∃ n : Nat, k = n := ⟨k.toNat, by omega⟩
        have hw : IntKind.i64.wrap ((stack.length : Int) - (n : Int)) = ((stack.length - n : Nat) : Int) := by rw [wrap64 (by omega) (by omega)]; omega
        have hroom : room = 140737488355328 := rfl
        -- the step, whatever the node begins at
        have step : ∀ s : Int, Chain (out ++ [s]) (s :: (stack.take (stack.length - n)).reverse) i →
            ∃ l x err, expr_starts.J1 e out stack i n s e e.length i = some (l, x, err, ()) ∧ ref10_structure.J1 e out (stack.take (stack.length - n)) i s = some (l, x, err, ()) ∧ (err = 0 → l.length = e.length ∧ Ops e l e.length) ∧ l.length ≤ e.length := by
          intro s hch
          have hl : (stack.take (stack.length - n)).length = stack.length - n := by simp
          rw [expr_starts.J1_eq, expr_starts.SJ1, ref10_structure.J1_eq, ref10_structure.SJ1, hw]
          simp only [Int.toNat_natCast, hl, List.length_append, List.length_cons, List.length_nil]
          rw [decide_eq_true (show (0 : Int) ≤ 0 by omega), decide_eq_true (show (0 : Int) ≤ ((stack.length - n : Nat) : Int) by omega), decide_eq_true (show ((stack.length - n : Nat) : Int) ≤ (stack.length : Int) by omega),
            decide_eq_true (show (stack.length - n + 1) * 8 ≤ room by rw [hroom]; omega), decide_eq_true (show (out.length + 1) * 8 ≤ room by rw [hroom]; omega)]
          simp only [Bool.and_self, cond_true, show decide (0 < Ty.nc (.int .i64)) = true from rfl]
          by_cases h3 : ((stack.length - n + (0 + 1) : Nat) : Int) > 12
          · simp only [decide_eq_true h3, cond_true]
            exact ⟨_, _, _, rfl, rfl, (fun h => by cases h), by simp⟩
          · simp only [decide_eq_false h3, cond_false, wrap_succ (show i < 9223372036854775807 by omega)]
            refine ih (i + 1) (out ++ [s]) _ (by omega) (by simp [ho]) ?_ (by simp; omega) ?_
            · rw [List.reverse_append, List.reverse_singleton, List.singleton_append, show ((i + 1 : Nat) : Int) - 1 = i by omega]
              exact hch
            · intro j hj hji
              by_cases hj' : j < i
              · obtain ⟨stk, g1, g2⟩ := hop j hj hj'
                exact ⟨stk, g1.more, g2⟩
              · have : j = i := by omega
                subst this
                refine ⟨stack.reverse, hc.more, ?_⟩
                rw [hk, List.length_reverse]
                simp only [Int.toNat_natCast]
                omega
        by_cases h3 : (n : Int) > 0
        · have hlt : n - 1 < stack.reverse.length := by rw [List.length_reverse]; omega
          obtain ⟨s, g1, g2, g3, g4⟩ := Chain.drop (n - 1) hc hlt
          rw [show n - 1 + 1 = n by omega] at g4
          have hget : stack.getD (stack.length - n) 0 = s := by
            rw [List.getElem?_reverse (by rw [List.length_reverse] at hlt; exact hlt)] at g1
            rw [List.getD_eq_getElem?_getD, show stack.length - n = stack.length - 1 - (n - 1) by omega, g1]
            rfl
          simp only [decide_eq_true h3, cond_true, hw]
          simp only [Int.toNat_natCast]
          rw [decide_eq_true (show (0 : Int) ≤ ((stack.length - n : Nat) : Int) by omega), decide_eq_true (show ((stack.length - n : Nat) : Int) < (stack.length : Int) by omega),
            decide_eq_true (show (0 : Int) ≤ 0 by omega), decide_eq_true (show ((stack.length - n : Nat) : Int) ≤ (stack.length : Int) by omega)]
          simp only [Bool.and_self, cond_true, hget]
          refine step s ⟨g2, by omega, by simp; omega, ?_, ?_⟩
          · rw [Int.toNat_natCast, ← ho, List.getElem?_concat_length]
          · rw [List.reverse_take, show stack.length - (stack.length - n) = n by omega]
            exact g4.more
        · have hn : n = 0 := by omega
          subst hn
          simp only [decide_eq_false h3, cond_false]
          have := step i ⟨by omega, by omega, by simp; omega, by rw [Int.toNat_natCast, ← ho, List.getElem?_concat_length], by simpa using hc.more⟩
          simpa using this

theorem starts_val (e : List api_TypeV) : ∃ l x err, expr_starts e = some (l, x, err, ()) ∧ ref10_structure e = some (l, x, err, ()) ∧ (err = 0 → e.length ≤ 48 ∧ l.length = e.length ∧ Ops e l e.length) ∧ l.length ≤ 48 := by
  unfold expr_starts ref10_structure
  rw [expr_starts.Se, ref10_structure.Se]
  by_cases h1 : (e.length : Int) > 48
  · simp only [decide_eq_true h1, cond_true]
    exact ⟨_, _, _, rfl, rfl, (fun h => by cases h), by simp⟩
  · simp only [decide_eq_false h1, cond_false]
    by_cases h2 : (e.length : Int) = 0
    · simp only [h2, beq_self_eq_true, cond_true]
      exact ⟨_, _, _, rfl, rfl, (fun h => by cases h), by simp⟩
    · simp only [show ((e.length : Int) == 0) = false from beq_eq_false_iff_ne.2 h2, cond_false]
      obtain ⟨l, x, err, g1, g2, g3, g4⟩ := starts_loop (e := e) (by omega) e.length 0 [] [] (by omega) rfl (show (((0 : Nat) : Int) - 1) = -1 by omega) (by simp) (fun j _ h => by omega)
      exact ⟨l, x, err, g1, g2, fun h => ⟨by omega, g3 h⟩, by omega⟩

theorem ops_loop {l : List Int} (hl : l.length ≤ 48) : ∀ (n : Nat) (stk : List Int) (last : Int) (out : List Int), Chain l stk last → n ≤ stk.length → n ≤ out.length → out.length ≤ 3 →
    ∃ r, expr_operands.L0 l out last ((n : Int) - 1) = some (r, ()) ∧ ref10_Operands.L1 l out last ((n : Int) - 1) = some (r, ()) ∧ r.length = out.length := by
  intro n
  induction n with
  | zero =>
    intro stk last out _ _ _ _
    rw [expr_operands.L0_eq, expr_operands.SL0, ref10_Operands.L1_eq, ref10_Operands.SL1, decide_eq_false (by omega)]
    exact ⟨out, rfl, rfl, rfl⟩
  | succ n ih =>
    intro stk last out hc hn ho ho3
    match stk, hn with
    | s :: stk, hn =>
      obtain ⟨h1, h2, h3, h4, h5⟩ := hc
      rw [expr_operands.L0_eq, expr_operands.SL0, ref10_Operands.L1_eq, ref10_Operands.SL1, show ((n + 1 : Nat) : Int) - 1 = (n : Int) by omega]
      have hlast : idx l last = some s := by rw [idx_of last.toNat (by omega)]; exact h4
      have hgd : l.getD last.toNat 0 = s := by rw [List.getD_eq_getElem?_getD, h4]; rfl
      simp only [decide_eq_true (show (n : Int) ≥ 0 by omega), decide_eq_true (show (n : Int) < (out.length : Int) by omega), decide_eq_true (show (0 : Int) ≤ last by omega), decide_eq_true h3,
        Bool.and_self, cond_true, hlast, Option.bind_some, hgd, Int.toNat_natCast]
      rw [wrap64 (n := s - 1) (by omega) (by omega), wrap64 (n := (n : Int) - 1) (by omega) (by omega)]
      obtain ⟨r, g1, g2, g3⟩ := ih stk (s - 1) (out.set n last) h5 (by simpa using hn) (by simp; omega) (by simpa using ho3)
      exact ⟨r, g1, g2, by simpa using g3⟩

theorem operands_val (e : List api_TypeV) (at_1 : Int) : ∃ r, expr_Operands e at_1 = some (r, ()) ∧ ref10_Operands e at_1 = some (r, ()) ∧ r.length ≤ 3 := by
  unfold expr_Operands ref10_Operands
  rw [expr_Operands.Se, ref10_Operands.Se]
  unfold expr_Starts
  rw [expr_Starts.Se]
  obtain ⟨l, x, err, h1, h2, h3, h4⟩ := starts_val e
  rw [h1, h2]
  simp only [Option.bind_some]
  by_cases he : err = 0
  · subst he
    obtain ⟨h5, h6, h7⟩ := h3 rfl
    simp only [bne_self_eq_false, cond_false]
    by_cases g1 : at_1 < 0
    · simp only [decide_eq_true g1, cond_true]
      exact ⟨[], rfl, rfl, by simp⟩
    · by_cases g2 : at_1 ≥ (e.length : Int)
      · simp only [decide_eq_false g1, decide_eq_true g2, cond_false, cond_true]
        exact ⟨[], rfl, rfl, by simp⟩
      · simp only [decide_eq_false g1, decide_eq_false g2, cond_false]
        obtain ⟨j, rfl⟩ : ∃ j : Nat, at_1 = j := ⟨at_1.toNat, by omega⟩
        have hj : j < e.length := by omega
        obtain ⟨stk, k1, k2, k3⟩ := h7 j hj hj
        obtain ⟨a1, a2⟩ := arity_le e[j].1
        unfold expr_operands
        rw [expr_operands.Se, ref10_Operands.J0_eq, ref10_Operands.SJ0, idx_nat, List.getElem?_eq_getElem hj]
        simp only [Option.bind_some, expr_Arity_val, ref10_Arity_val]
        obtain ⟨n, hn⟩ : ∃ n : Nat, arity e[j].1 = n := ⟨(arity e[j].1).toNat, by omega⟩
        rw [hn] at k2 k3 a2 ⊢
        have hroom : room = 140737488355328 := rfl
        simp only [decide_eq_true (show (0 : Int) ≤ (n : Int) by omega), decide_eq_true (show (n : Int) ≤ (n : Int) by omega), decide_eq_true (show (n : Int) * 8 ≤ (room : Int) by rw [hroom]; omega),
          decide_eq_true (show (n : Int) ≤ (maxLen : Int) by rw [maxLen_eq]; omega), show decide (0 < Ty.nc (.int .i64)) = true from rfl, Bool.and_self, cond_true, Int.toNat_natCast]
        rw [wrap64 (n := (j : Int) - 1) (by omega) (by omega), wrap64 (n := (n : Int) - 1) (by omega) (by omega)]
        obtain ⟨r, m1, m2, m3⟩ := ops_loop h4 n stk ((j : Int) - 1) (List.replicate n 0) k1 (by simpa using k3) (by simp) (by simp; omega)
        rw [m1, m2]
        exact ⟨r, rfl, rfl, by simp at m3; omega⟩
  · simp only [show (err != 0) = true from bne_iff_ne.2 he, cond_true]
    exact ⟨[], rfl, rfl, by simp⟩

end Go.Proofs.Ytmkkdjnojcmihaa
