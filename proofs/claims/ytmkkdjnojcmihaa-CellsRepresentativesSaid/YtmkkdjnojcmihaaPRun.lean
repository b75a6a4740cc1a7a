/- Plain laws of the lifted functions. -/
import Derived.Test.YtmkkdjnojcmihaaPStructure
set_option maxRecDepth 100000
set_option linter.unusedVariables false
set_option linter.unusedSimpArgs false
namespace Go.Proofs.Ytmkkdjnojcmihaa
open Go Go.Lift

/-! ### The structure of an expression, as a run over its nodes -/

/-- Where the node begins: at its first operand, or at itself. -/
def top (i : Nat) (op : Int) (st : List Int) : Int := if 0 < arity op then st.getD (st.length - (arity op).toNat) 0 else i

def runE : List api_TypeV → Nat → List Int → List Int → (Int × Int) ⊕ (List Int × List Int)
  | [], _, out, st => .inr (out, st)
  | x :: e, i, out, st =>
    if arity x.1 < 0 then .inl (i, 2) else if (st.length : Int) < arity x.1 then .inl (i, 5) else
    if 12 < st.length - (arity x.1).toNat + 1 then .inl (i, 16) else runE e (i + 1) (out ++ [top i x.1 st]) (st.take (st.length - (arity x.1).toNat) ++ [top i x.1 st])

def finE (n : Nat) : (Int × Int) ⊕ (List Int × List Int) → List Int × Int × Int × Unit
  | .inl (i, err) => ([], i, err, ())
  | .inr (out, st) => if 1 < st.length then ([], n, 4, ()) else (out, 0, 0, ())

def startsSpec (e : List api_TypeV) : List Int × Int × Int × Unit :=
  if 48 < e.length then ([], 0, 4, ()) else if e.length = 0 then ([], 0, 5, ()) else finE e.length (runE e 0 [] [])

theorem starts_run {e : List api_TypeV} (he : e.length ≤ 48) : ∀ (d i : Nat) (out stack : List Int), i + d = e.length → out.length = i → stack.length ≤ 12 →
    expr_starts.L0 e out stack e e.length i = some (finE e.length (runE (e.drop i) i out stack)) ∧ ref10_structure.L0 e out stack i = some (finE e.length (runE (e.drop i) i out stack)) := by
  intro d
  induction d with
  | zero =>
    intro i out stack hi ho hs
    rw [expr_starts.L0_eq, expr_starts.SL0, ref10_structure.L0_eq, ref10_structure.SL0, decide_eq_false (by omega), cond_false, cond_false, List.drop_of_length_le (by omega)]
    simp only [runE, finE]
    by_cases h1 : (stack.length : Int) > 1
    · simp only [decide_eq_true h1, cond_true]
      rw [if_pos (by omega)]
      exact ⟨rfl, rfl⟩
    · simp only [decide_eq_false h1, cond_false]
      rw [if_neg (by omega)]
      exact ⟨rfl, rfl⟩
  | succ d ih =>
    intro i out stack hi ho hs
    have hie : i < e.length := by omega
    rw [expr_starts.L0_eq, expr_starts.SL0, ref10_structure.L0_eq, ref10_structure.SL0, decide_eq_true (by omega), cond_true, cond_true, idx_nat, List.getElem?_eq_getElem hie, Option.bind_some, Option.bind_some, expr_Arity_val, ref10_Arity_val,
      Option.bind_some, Option.bind_some, List.drop_eq_getElem_cons hie, runE]
    simp only
    obtain ⟨a1, a2⟩ := arity_le e[i].1
    have htop : top i e[i].1 stack = if 0 < arity e[i].1 then stack.getD (stack.length - (arity e[i].1).toNat) 0 else (i : Int) := rfl
    generalize arity e[i].1 = k at *
    generalize top i e[i].1 stack = t at *
    by_cases h1 : k < 0
    · simp only [decide_eq_true h1, cond_true, if_pos h1, finE, and_self]
    · simp only [decide_eq_false h1, cond_false, if_neg h1]
      by_cases h2 : k > (stack.length : Int)
      · simp only [decide_eq_true h2, cond_true, if_pos (show (stack.length : Int) < k from h2), finE, and_self]
      · simp only [decide_eq_false h2, cond_false, if_neg (show ¬ (stack.length : Int) < k from h2)]
        obtain ⟨n, rfl⟩ : ∃ n : Nat, k = n := ⟨k.toNat, by omega⟩
        have hw : IntKind.i64.wrap ((stack.length : Int) - (n : Int)) = ((stack.length - n : Nat) : Int) := by rw [wrap64 (by omega) (by omega)]; omega
        have hroom : room = 140737488355328 := rfl
        rw [Int.toNat_natCast] at htop
        -- the step
        have step : expr_starts.J1 e out stack i n t e e.length i = some (finE e.length (if 12 < stack.length - n + 1 then .inl (↑i, 16) else runE (e.drop (i + 1)) (i + 1) (out ++ [t]) (stack.take (stack.length - n) ++ [t]))) ∧
            ref10_structure.J1 e out (stack.take (stack.length - n)) i t = some (finE e.length (if 12 < stack.length - n + 1 then .inl (↑i, 16) else runE (e.drop (i + 1)) (i + 1) (out ++ [t]) (stack.take (stack.length - n) ++ [t]))) := by
          have hl : (stack.take (stack.length - n)).length = stack.length - n := by simp
          rw [expr_starts.J1_eq, expr_starts.SJ1, ref10_structure.J1_eq, ref10_structure.SJ1, hw]
          simp only [Int.toNat_natCast, hl, List.length_append, List.length_cons, List.length_nil]
          rw [decide_eq_true (show (0 : Int) ≤ 0 by omega), decide_eq_true (show (0 : Int) ≤ ((stack.length - n : Nat) : Int) by omega), decide_eq_true (show ((stack.length - n : Nat) : Int) ≤ (stack.length : Int) by omega),
            decide_eq_true (show (stack.length - n + 1) * 8 ≤ room by rw [hroom]; omega), decide_eq_true (show (out.length + 1) * 8 ≤ room by rw [hroom]; omega)]
          simp only [Bool.and_self, cond_true, show decide (0 < Ty.nc (.int .i64)) = true from rfl]
          by_cases h3 : ((stack.length - n + (0 + 1) : Nat) : Int) > 12
          · simp only [decide_eq_true h3, cond_true, if_pos (show 12 < stack.length - n + 1 by omega), finE, and_self]
          · simp only [decide_eq_false h3, cond_false, wrap_succ (show i < 9223372036854775807 by omega), if_neg (show ¬ 12 < stack.length - n + 1 by omega)]
            exact ih (i + 1) (out ++ [t]) _ (by omega) (by simp [ho]) (by simp; omega)
        rw [Int.toNat_natCast]
        by_cases h3 : (n : Int) > 0
        · rw [if_pos h3] at htop
          simp only [decide_eq_true h3, cond_true, hw, Int.toNat_natCast]
          rw [decide_eq_true (show (0 : Int) ≤ ((stack.length - n : Nat) : Int) by omega), decide_eq_true (show ((stack.length - n : Nat) : Int) < (stack.length : Int) by omega),
            decide_eq_true (show (0 : Int) ≤ 0 by omega), decide_eq_true (show ((stack.length - n : Nat) : Int) ≤ (stack.length : Int) by omega)]
          simp only [Bool.and_self, cond_true, ← htop]
          exact step
        · have hn : n = 0 := by omega
          subst hn
          rw [if_neg h3] at htop
          subst htop
          simp only [decide_eq_false h3, cond_false]
          simpa using step

theorem starts_spec (e : List api_TypeV) : expr_starts e = some (startsSpec e) ∧ ref10_structure e = some (startsSpec e) := by
  unfold expr_starts ref10_structure startsSpec
  rw [expr_starts.Se, ref10_structure.Se]
  by_cases h1 : (e.length : Int) > 48
  · simp only [decide_eq_true h1, cond_true, if_pos (show 48 < e.length by omega), and_self]
  · simp only [decide_eq_false h1, cond_false, if_neg (show ¬ 48 < e.length by omega)]
    by_cases h2 : (e.length : Int) = 0
    · simp only [h2, beq_self_eq_true, cond_true, if_pos (show e.length = 0 by omega), and_self]
    · simp only [show ((e.length : Int) == 0) = false from beq_eq_false_iff_ne.2 h2, cond_false, if_neg (show ¬ e.length = 0 by omega)]
      exact starts_run (e := e) (by omega) e.length 0 [] [] (by omega) rfl (by simp)

theorem runE_append : ∀ (a b : List api_TypeV) (i : Nat) (out st : List Int), runE (a ++ b) i out st = match runE a i out st with
    | .inl x => .inl x
    | .inr (o, s) => runE b (i + a.length) o s := by
  intro a
  induction a with
  | nil => intro b i out st; simp [runE]
  | cons x a ih =>
    intro b i out st
    simp only [List.cons_append, runE]
    split
    · rfl
    · split
      · rfl
      · split
        · rfl
        · rw [ih]
          simp only [List.length_cons, show i + 1 + a.length = i + (a.length + 1) by omega]

/-- What a run leaves: the subexpressions one behind the other; the new starts. -/
theorem runE_ok : ∀ (e : List api_TypeV) (i : Nat) (out st o s : List Int), runE e i out st = .inr (o, s) → out.length = i → Chain out st.reverse ((i : Int) - 1) →
    ∃ new, o = out ++ new ∧ new.length = e.length ∧ Chain o s.reverse (((i + e.length : Nat) : Int) - 1) ∧ (e ≠ [] → s ≠ []) := by
  intro e
  induction e with
  | nil =>
    intro i out st o s h ho hc
    simp only [runE, Sum.inr.injEq, Prod.mk.injEq] at h
    obtain ⟨rfl, rfl⟩ := h
    exact ⟨[], by simp, rfl, by simpa using hc, by simp⟩
  | cons x e ih =>
    intro i out st o s h ho hc
    simp only [runE] at h
    obtain ⟨a1, a2⟩ := arity_le x.1
    split at h
    · cases h
    · split at h
      · cases h
      · split at h
        · cases h
        · rename_i h1 h2 _
          obtain ⟨n, hn⟩ : ∃ n : Nat, arity x.1 = n := ⟨(arity x.1).toNat, by omega⟩
          have hch : Chain (out ++ [top i x.1 st]) ((st.take (st.length - (arity x.1).toNat) ++ [top i x.1 st]).reverse) (((i + 1 : Nat) : Int) - 1) := by
            rw [List.reverse_append, List.reverse_singleton, List.singleton_append, show ((i + 1 : Nat) : Int) - 1 = i by omega]
            have hget : (out ++ [top i x.1 st])[(i : Int).toNat]? = some (top i x.1 st) := by rw [Int.toNat_natCast, ← ho, List.getElem?_concat_length]
            rw [hn, Int.toNat_natCast]
            by_cases h3 : 0 < n
            · have hlt : n - 1 < st.reverse.length := by rw [List.length_reverse]; omega
              obtain ⟨t, g1, g2, g3, g4⟩ := Chain.drop (n - 1) hc hlt
              rw [show n - 1 + 1 = n by omega] at g4
              have ht : top i x.1 st = t := by
                unfold top
                rw [hn, if_pos (by omega), Int.toNat_natCast]
                rw [List.getElem?_reverse (by rw [List.length_reverse] at hlt; exact hlt)] at g1
                rw [List.getD_eq_getElem?_getD, show st.length - n = st.length - 1 - (n - 1) by omega, g1]
                rfl
              rw [ht] at hget ⊢
              refine ⟨g2, by omega, by simp; omega, hget, ?_⟩
              rw [List.reverse_take, show st.length - (st.length - n) = n by omega]
              exact g4.more
            · have hn0 : n = 0 := by omega
              subst hn0
              have ht : top i x.1 st = i := by unfold top; rw [hn, if_neg (by omega)]
              rw [ht] at hget ⊢
              refine ⟨by omega, by omega, by simp; omega, hget, ?_⟩
              simpa using hc.more
          obtain ⟨new, e1, e2, e3, e4⟩ := ih (i + 1) _ _ o s h (by simp [ho]) hch
          refine ⟨top i x.1 st :: new, by simp [e1], by simp [e2], by rw [show i + (x :: e).length = i + 1 + e.length by simp; omega]; exact e3, fun _ hs => ?_⟩
          by_cases he : e = []
          · subst he
            simp only [runE, Sum.inr.injEq, Prod.mk.injEq] at h
            rw [← h.2] at hs
            simp at hs
          · exact e4 he hs

/-- A run that ends with one subexpression: it begins at 0. -/
theorem runE_one {e : List api_TypeV} {o s : List Int} (h : runE e 0 [] [] = .inr (o, s)) (hs : s.length ≤ 1) (he : e ≠ []) : s = [0] ∧ o.length = e.length := by
  obtain ⟨new, e1, e2, e3, e4⟩ := runE_ok e 0 [] [] o s h rfl (show (((0 : Nat) : Int) - 1) = -1 by omega)
  match s, hs, e4 he with
  | [t], _, _ =>
    obtain ⟨g1, g2, g3, g4, g5⟩ := e3
    have g5' : t - 1 = -1 := g5
    have : t = 0 := by omega
    subst this
    exact ⟨rfl, by simp [e1, e2]⟩

/-- The numbers that a run yields lie between 0 and the number of nodes. -/
theorem runE_range : ∀ (e : List api_TypeV) (i : Nat) (out st o s : List Int), runE e i out st = .inr (o, s) → (∀ t ∈ out, 0 ≤ t ∧ t < i) → (∀ t ∈ st, 0 ≤ t ∧ t < i) →
    (∀ t ∈ o, 0 ≤ t ∧ t < ((i + e.length : Nat) : Int)) ∧ (∀ t ∈ s, 0 ≤ t ∧ t < ((i + e.length : Nat) : Int)) := by
  intro e
  induction e with
  | nil =>
    intro i out st o s h ho hs
    simp only [runE, Sum.inr.injEq, Prod.mk.injEq] at h
    obtain ⟨rfl, rfl⟩ := h
    exact ⟨by simpa using ho, by simpa using hs⟩
  | cons x e ih =>
    intro i out st o s h ho hs
    simp only [runE] at h
    obtain ⟨a1, a2⟩ := arity_le x.1
    split at h
    · cases h
    · split at h
      · cases h
      · split at h
        · cases h
        · rename_i h1 h2 _
          have ht : 0 ≤ top i x.1 st ∧ top i x.1 st < ((i + 1 : Nat) : Int) := by
            unfold top
            split
            · rename_i h3
              have hlt : st.length - (arity x.1).toNat < st.length := by omega
              rw [List.getD_eq_getElem?_getD, List.getElem?_eq_getElem hlt]
              have := hs _ (List.getElem_mem hlt)
              simp only [Option.getD_some]
              omega
            · omega
          have := ih (i + 1) _ _ o s h (fun t htm => ?_) (fun t htm => ?_)
          · rw [show i + (x :: e).length = i + 1 + e.length by simp; omega]
            exact this
          · rcases List.mem_append.1 htm with htm | htm
            · have := ho t htm; omega
            · rw [List.mem_singleton] at htm; rw [htm]; exact ht
          · rcases List.mem_append.1 htm with htm | htm
            · have := hs t (List.mem_of_mem_take htm); omega
            · rw [List.mem_singleton] at htm; rw [htm]; exact ht

/-- The same nodes further behind, over a stack that is not empty. -/
theorem runE_shift (B : List Int) (d : Nat) : ∀ (e : List api_TypeV) (i : Nat) (out st o s O : List Int), runE e i out st = .inr (o, s) →
    (∃ j : Int, runE e (i + d) O (B ++ st.map (· + (d : Int))) = .inl (j, 16)) ∨
    ∃ new, o = out ++ new ∧ runE e (i + d) O (B ++ st.map (· + (d : Int))) = .inr (O ++ new.map (· + (d : Int)), B ++ s.map (· + (d : Int))) := by
  intro e
  induction e with
  | nil =>
    intro i out st o s O h
    simp only [runE, Sum.inr.injEq, Prod.mk.injEq] at h
    obtain ⟨rfl, rfl⟩ := h
    exact .inr ⟨[], by simp, by simp [runE]⟩
  | cons x e ih =>
    intro i out st o s O h
    simp only [runE] at h ⊢
    obtain ⟨a1, a2⟩ := arity_le x.1
    split at h
    · cases h
    · split at h
      · cases h
      · split at h
        · cases h
        · rename_i h1 h2 _
          rw [if_neg h1, if_neg (by simp; omega)]
          have htop : top (i + d) x.1 (B ++ st.map (· + (d : Int))) = top i x.1 st + d := by
            unfold top
            split
            · rename_i h3
              have e1 : (B ++ st.map (· + (d : Int))).length - (arity x.1).toNat = B.length + (st.length - (arity x.1).toNat) := by simp; omega
              have hlt : st.length - (arity x.1).toNat < st.length := by omega
              rw [e1, List.getD_eq_getElem?_getD, List.getD_eq_getElem?_getD, List.getElem?_append_right (by omega), Nat.add_sub_cancel_left, List.getElem?_map, List.getElem?_eq_getElem hlt]
              rfl
            · omega
          have htake : (B ++ st.map (· + (d : Int))).take ((B ++ st.map (· + (d : Int))).length - (arity x.1).toNat) ++ [top (i + d) x.1 (B ++ st.map (· + (d : Int)))] =
              B ++ (st.take (st.length - (arity x.1).toNat) ++ [top i x.1 st]).map (· + (d : Int)) := by
            rw [htop, show (B ++ st.map (· + (d : Int))).length - (arity x.1).toNat = B.length + (st.length - (arity x.1).toNat) by simp; omega, List.take_length_add_append]
            simp [List.map_take]
          by_cases h3 : 12 < (B ++ st.map (· + (d : Int))).length - (arity x.1).toNat + 1
          · rw [if_pos h3]
            exact .inl ⟨_, rfl⟩
          · rw [if_neg h3, htake, htop]
            rcases ih (i + 1) _ _ o s (O ++ [top i x.1 st + d]) h with ⟨j, hj⟩ | ⟨new, e1, e2⟩
            · exact .inl ⟨j, by rw [← hj]; congr 1; omega⟩
            · refine .inr ⟨top i x.1 st :: new, by simp [e1], ?_⟩
              rw [show i + d + 1 = i + 1 + d by omega, e2]
              simp

theorem expr_Starts_val (e : List api_TypeV) : expr_Starts e = some ((startsSpec e).1, (startsSpec e).2.2.1, ()) := by
  unfold expr_Starts
  rw [expr_Starts.Se, (starts_spec e).1]
  rfl

/-- A valid expression. -/
theorem spec_ok {e : List api_TypeV} (h : (startsSpec e).2.2.1 = 0) : e ≠ [] ∧ e.length ≤ 48 ∧ runE e 0 [] [] = .inr ((startsSpec e).1, [0]) ∧ (startsSpec e).1.length = e.length := by
  unfold startsSpec at h ⊢
  split at h
  · cases h
  · rename_i h1
    rw [if_neg h1]
    split at h
    · cases h
    · rename_i h2
      rw [if_neg h2]
      cases hr : runE e 0 [] [] with
      | inl x =>
        obtain ⟨j, err⟩ := x
        rw [hr] at h
        simp only [finE] at h
        subst h
        exfalso
        -- no error is 0
        have : ∀ (e : List api_TypeV) (i : Nat) (out st : List Int) (j : Int), runE e i out st ≠ .inl (j, 0) := by
          intro e
          induction e with
          | nil => intro i out st j h; cases h
          | cons x e ih =>
            intro i out st j h
            simp only [runE] at h
            split at h
            · cases h
            · split at h
              · cases h
              · split at h
                · cases h
                · exact ih _ _ _ _ h
        exact this _ _ _ _ _ hr
      | inr x =>
        obtain ⟨o, s⟩ := x
        rw [hr] at h
        simp only [finE] at h ⊢
        split at h
        · cases h
        · rename_i h3
          rw [if_neg h3]
          have hne : e ≠ [] := fun he => h2 (by rw [he]; rfl)
          obtain ⟨g1, g2⟩ := runE_one hr (by omega) hne
          subst g1
          exact ⟨hne, by omega, rfl, g2⟩

end Go.Proofs.Ytmkkdjnojcmihaa
