/- Plain laws of the lifted functions. -/
import Derived.Test.YtbfckejaihblmaaPTypes3
set_option maxRecDepth 100000
set_option linter.unusedVariables false
set_option linter.unusedSimpArgs false
namespace Go.Proofs.Ytbfckejaihblmaa
open Go Go.Lift

/-! ### An expression consists of its operands -/

def offs : Nat → List (List api_TypeV) → List Int
  | _, [] => []
  | i, g :: gs => (i : Int) :: offs (i + g.length) gs

def endsOf : Nat → List (List api_TypeV) → List Int
  | _, [] => []
  | i, g :: gs => ((i : Int) + g.length - 1) :: endsOf (i + g.length) gs

theorem offs_length : ∀ (gs : List (List api_TypeV)) (i : Nat), (offs i gs).length = gs.length := by
  intro gs
  induction gs with
  | nil => intro i; rfl
  | cons g gs ih => intro i; simp [offs, ih]

theorem endsOf_length : ∀ (gs : List (List api_TypeV)) (i : Nat), (endsOf i gs).length = gs.length := by
  intro gs
  induction gs with
  | nil => intro i; rfl
  | cons g gs ih => intro i; simp [endsOf, ih]

theorem offs_append : ∀ (a b : List (List api_TypeV)) (i : Nat), offs i (a ++ b) = offs i a ++ offs (i + a.flatten.length) b := by
  intro a
  induction a with
  | nil => intro b i; simp [offs]
  | cons g a ih => intro b i; simp only [List.cons_append, offs, ih, List.flatten_cons, List.length_append, Nat.add_assoc]

def nxt : List Int → Int → Int
  | [], k => k
  | s :: r, _ => nxt r (s - 1)

theorem ends_append : ∀ (a b : List Int) (k : Int), ends (a ++ b) k = ends a k ++ ends b (nxt a k) := by
  intro a
  induction a with
  | nil => intro b k; rfl
  | cons s a ih => intro b k; simp [ends, nxt, ih]

theorem nxt_append : ∀ (a b : List Int) (k : Int), nxt (a ++ b) k = nxt b (nxt a k) := by
  intro a
  induction a with
  | nil => intro b k; rfl
  | cons s a ih => intro b k; simp [nxt, ih]

theorem ends_offs : ∀ (gs : List (List api_TypeV)) (i : Nat), ends (offs i gs).reverse ((i : Int) + gs.flatten.length - 1) = (endsOf i gs).reverse ∧ nxt (offs i gs).reverse ((i : Int) + gs.flatten.length - 1) = (i : Int) - 1 := by
  intro gs
  induction gs with
  | nil => intro i; simp [offs, ends, endsOf, nxt]
  | cons g gs ih =>
    intro i
    obtain ⟨h1, h2⟩ := ih (i + g.length)
    have e : (i : Int) + (g :: gs).flatten.length - 1 = ((i + g.length : Nat) : Int) + gs.flatten.length - 1 := by simp; omega
    rw [e, offs, List.reverse_cons, ends_append, nxt_append, h1, h2, endsOf, List.reverse_cons]
    refine ⟨?_, rfl⟩
    simp only [ends]
    congr 2

theorem Chain.at {l : List Int} : ∀ {r : List Int} {k : Int}, Chain l r k → ∀ (m : Nat) (y : Int), (ends r k)[m]? = some y → ∃ s, r[m]? = some s ∧ l[y.toNat]? = some s := by
  intro r
  induction r with
  | nil => intro k _ m y h; cases h
  | cons s r ih =>
    intro k ⟨h1, h2, h3, h4, h5⟩ m y h
    cases m with
    | zero =>
      simp only [ends, List.getElem?_cons_zero, Option.some.injEq] at h
      subst h
      exact ⟨s, rfl, h4⟩
    | succ m => exact ih h5 m y (by simpa [ends] using h)

/-- A part that is an expression by itself, of the type t, over a stack of at most c. -/
def Comp (s : api_SignatureV) (g : List api_TypeV) (t : api_TypeV) (c : Nat) : Prop :=
  g ≠ [] ∧ ∀ (i : Nat) (out st : List Int) (tst : List api_TypeV), st.length ≤ c → tst.length = st.length → (∃ new, runE g i out st = .inr (out ++ new, st ++ [(i : Int)])) ∧ tyRun s g i tst = .inr (tst ++ [t])

def Comps (s : api_SignatureV) : Nat → List (List api_TypeV) → List api_TypeV → Prop
  | _, [], [] => True
  | b, g :: gs, t :: ts => Comp s g t b ∧ Comps s (b + 1) gs ts
  | _, _, _ => False

theorem Comps.length {s : api_SignatureV} : ∀ {gs : List (List api_TypeV)} {ts : List api_TypeV} {b : Nat}, Comps s b gs ts → gs.length = ts.length := by
  intro gs
  induction gs with
  | nil => intro ts b h; cases ts <;> simp_all [Comps]
  | cons g gs ih => intro ts b h; cases ts with
    | nil => simp [Comps] at h
    | cons t ts => simp [ih h.2]

theorem Comps.split {s : api_SignatureV} : ∀ (a c : List (List api_TypeV)) (ts : List api_TypeV) (b : Nat), Comps s b (a ++ c) ts ↔ Comps s b a (ts.take a.length) ∧ Comps s (b + a.length) c (ts.drop a.length) := by
  intro a
  induction a with
  | nil => intro c ts b; simp [Comps]
  | cons g a ih =>
    intro c ts b
    cases ts with
    | nil => simp [Comps]
    | cons t ts =>
      simp only [List.cons_append, Comps, ih, List.length_cons, List.take_succ_cons, List.drop_succ_cons, and_assoc]
      rw [show b + 1 + a.length = b + (a.length + 1) by omega]

theorem tyRun_append (s : api_SignatureV) : ∀ (a b : List api_TypeV) (i : Nat) (st : List api_TypeV), tyRun s (a ++ b) i st = match tyRun s a i st with
    | .inl x => .inl x
    | .inr t => tyRun s b (i + a.length) t := by
  intro a
  induction a with
  | nil => intro b i st; simp [tyRun]
  | cons x a ih =>
    intro b i st
    simp only [List.cons_append, tyRun]
    split
    · split
      · rw [ih]
        simp only [List.length_cons, show i + 1 + a.length = i + (a.length + 1) by omega]
      · rfl
    · rfl

theorem comps_run {s : api_SignatureV} : ∀ (gs : List (List api_TypeV)) (ts : List api_TypeV) (b i : Nat) (out st : List Int) (tst : List api_TypeV), Comps s b gs ts → st.length ≤ b → tst.length = st.length →
    (∃ new, runE gs.flatten i out st = .inr (out ++ new, st ++ offs i gs)) ∧ tyRun s gs.flatten i tst = .inr (tst ++ ts) := by
  intro gs
  induction gs with
  | nil =>
    intro ts b i out st tst h _ _
    cases ts with
    | nil => exact ⟨⟨[], by simp [runE, offs]⟩, by simp [tyRun]⟩
    | cons t ts => simp [Comps] at h
  | cons g gs ih =>
    intro ts b i out st tst h h1 h2
    cases ts with
    | nil => simp [Comps] at h
    | cons t ts =>
      obtain ⟨⟨h3, h4⟩, h5⟩ := h
      obtain ⟨⟨n1, e1⟩, e2⟩ := h4 i out st tst h1 h2
      obtain ⟨⟨n2, e3⟩, e4⟩ := ih ts (b + 1) (i + g.length) (out ++ n1) (st ++ [(i : Int)]) (tst ++ [t]) h5 (by simp; omega) (by simp [h2])
      refine ⟨⟨n1 ++ n2, ?_⟩, ?_⟩
      · rw [List.flatten_cons, runE_append, e1]
        simp only
        rw [e3]
        simp [offs]
      · rw [List.flatten_cons, tyRun_append, e2]
        simp only
        rw [e4]
        simp

/-- A node behind its operands. -/
theorem comp_node {s : api_SignatureV} {gs : List (List api_TypeV)} {ts : List api_TypeV} {b : Nat} {x t : api_TypeV} (h : Comps s b gs ts) (hb : b + 1 ≤ 12) (ha : arity x.1 = gs.length) (ht : ∃ u, expr_typeOf x ts s = some (t, 0, u)) :
    Comp s (gs.flatten ++ [x]) t b := by
  refine ⟨by simp, fun i out st tst h1 h2 => ?_⟩
  obtain ⟨⟨n1, e1⟩, e2⟩ := comps_run gs ts b i out st tst h h1 h2
  obtain ⟨u, ht⟩ := ht
  have hl := h.length
  have hlo := offs_length gs i
  refine ⟨⟨n1 ++ [(i : Int)], ?_⟩, ?_⟩
  · rw [runE_append, e1]
    simp only [runE]
    have htop : top (i + gs.flatten.length) x.1 (st ++ offs i gs) = i := by
      unfold top
      rw [ha]
      cases gs with
      | nil => simp
      | cons g gs =>
        rw [if_pos (by simp)]
        simp only [List.length_append, hlo, Int.toNat_natCast, Nat.add_sub_cancel]
        rw [List.getD_eq_getElem?_getD, List.getElem?_append_right (Nat.le_refl _)]
        simp [offs]
    rw [htop, if_neg (by omega), if_neg (by simp [hlo]; omega), if_neg (by simp [hlo]; omega)]
    have e3 : (st ++ offs i gs).length - (arity x.1).toNat = st.length := by rw [ha]; simp [hlo]
    rw [e3]
    simp
  · rw [tyRun_append, e2]
    simp only [tyRun]
    have e3 : (tst ++ ts).length - (arity x.1).toNat = tst.length := by rw [ha]; simp [hl]
    rw [e3, List.drop_left, ht]
    simp

theorem segs_run {s : api_SignatureV} : ∀ (rest : List api_TypeV) (gs : List (List api_TypeV)) (ts : List api_TypeV) (out o sf : List Int) (tf : List api_TypeV), Comps s 0 gs ts →
    runE rest gs.flatten.length out (offs 0 gs) = .inr (o, sf) → tyRun s rest gs.flatten.length ts = .inr tf → ∃ gs', sf = offs 0 gs' ∧ Comps s 0 gs' tf ∧ gs'.flatten = gs.flatten ++ rest := by
  intro rest
  induction rest with
  | nil =>
    intro gs ts out o sf tf h h1 h2
    simp only [runE, Sum.inr.injEq, Prod.mk.injEq] at h1
    simp only [tyRun, Sum.inr.injEq] at h2
    exact ⟨gs, h1.2.symm, h2 ▸ h, by simp⟩
  | cons x rest ih =>
    intro gs ts out o sf tf h h1 h2
    have hl := h.length
    simp only [runE, offs_length] at h1
    obtain ⟨a1, a2⟩ := arity_le x.1
    split at h1
    · cases h1
    · split at h1
      · cases h1
      · split at h1
        · cases h1
        · rename_i g1 g2 g3
          obtain ⟨n, hn⟩ : ∃ n : Nat, arity x.1 = n := ⟨(arity x.1).toNat, by omega⟩
          rw [hn, Int.toNat_natCast] at h1 g3
          have hnl : n ≤ gs.length := by omega
          simp only [tyRun, hn, Int.toNat_natCast] at h2
          split at h2
          · rename_i t err u ht
            split at h2
            · rename_i herr
              subst herr
              have hsplit : gs = gs.take (gs.length - n) ++ gs.drop (gs.length - n) := (List.take_append_drop _ _).symm
              have hlen1 : (gs.take (gs.length - n)).length = gs.length - n := by simp
              have hlen2 : (gs.drop (gs.length - n)).length = n := by simp; omega
              have hc := h
              rw [hsplit, Comps.split, hlen1] at hc
              obtain ⟨c1, c2⟩ := hc
              rw [hl] at c2
              have hnode := comp_node (b := 0 + ts.length - n) (x := x) (t := t) (gs := gs.drop (gs.length - n)) (ts := ts.drop (ts.length - n)) (s := s) (by rw [hl]; simpa [Nat.add_sub_assoc (show n ≤ ts.length by omega)] using c2) (by omega) (by rw [hlen2, hn]) ⟨u, ht⟩
              have hcs : Comps s 0 (gs.take (gs.length - n) ++ [(gs.drop (gs.length - n)).flatten ++ [x]]) (ts.take (ts.length - n) ++ [t]) := by
                have hq : (ts.take (ts.length - n)).length = gs.length - n := by simp; omega
                rw [Comps.split, hlen1, List.take_left' hq, List.drop_left' hq]
                refine ⟨?_, ?_, trivial⟩
                · have : ts.take (ts.length - n) = ts.take (gs.length - n) := by rw [hl]
                  rw [this]
                  exact c1
                · have : 0 + (gs.length - n) = 0 + ts.length - n := by omega
                  rw [this]
                  exact hnode
              have hfl : (gs.take (gs.length - n) ++ [(gs.drop (gs.length - n)).flatten ++ [x]]).flatten = gs.flatten ++ [x] := by
                rw [List.flatten_append, List.flatten_cons, List.flatten_nil, List.append_nil, ← List.append_assoc, ← List.flatten_append, List.take_append_drop]
              have hof : (offs 0 gs).take (gs.length - n) ++ [top gs.flatten.length x.1 (offs 0 gs)] = offs 0 (gs.take (gs.length - n) ++ [(gs.drop (gs.length - n)).flatten ++ [x]]) := by
                rw [offs_append]
                congr 1
                · have := offs_append (gs.take (gs.length - n)) (gs.drop (gs.length - n)) 0
                  rw [List.take_append_drop] at this
                  rw [this, List.take_left' (by rw [offs_length, hlen1])]
                · simp only [offs, List.cons.injEq, and_true]
                  unfold top
                  rw [hn]
                  by_cases hn0 : n = 0
                  · subst hn0
                    rw [if_neg (by omega), Nat.sub_zero, List.take_length, Nat.zero_add]
                  · rw [if_pos (by omega), offs_length, Int.toNat_natCast]
                    have := offs_append (gs.take (gs.length - n)) (gs.drop (gs.length - n)) 0
                    rw [List.take_append_drop] at this
                    rw [this, List.getD_eq_getElem?_getD, List.getElem?_append_right (by rw [offs_length, hlen1]; omega), offs_length, hlen1, Nat.sub_self]
                    match hg : gs.drop (gs.length - n) with
                    | [] => rw [hg] at hlen2; simp at hlen2; omega
                    | g :: gr => rfl
              have := ih (gs.take (gs.length - n) ++ [(gs.drop (gs.length - n)).flatten ++ [x]]) (ts.take (ts.length - n) ++ [t]) (out ++ [top gs.flatten.length x.1 (offs 0 gs)]) o sf tf hcs (by rw [hfl, List.length_append, List.length_singleton, ← hof]; exact h1)
                (by rw [hfl, List.length_append, List.length_singleton]; exact h2)
              obtain ⟨gs', q1, q2, q3⟩ := this
              exact ⟨gs', q1, q2, by rw [q3, hfl]; simp⟩
            · cases h2
          · cases h2

theorem starts_of_run {e : List api_TypeV} {o : List Int} (he : e.length ≤ 48) (h0 : e ≠ []) (h : runE e 0 [] [] = .inr (o, [0])) : startsSpec e = (o, 0, 0, ()) := by
  unfold startsSpec
  have : e.length ≠ 0 := by simpa using h0
  rw [if_neg (by omega), if_neg this, h]
  rfl

theorem comp_spec {s : api_SignatureV} {g : List api_TypeV} {t : api_TypeV} {c : Nat} (hg : g.length ≤ 48) (h : Comp s g t c) : typeSpec g s = (t, 0, 0, ()) := by
  obtain ⟨⟨new, e1⟩, e2⟩ := h.2 0 [] [] [] (by simp) rfl
  unfold typeSpec
  rw [starts_of_run hg h.1 e1, if_pos rfl, e2]
  rfl

theorem typeOf_inputs (x : api_TypeV) (args : List api_TypeV) (s : api_SignatureV) (inp : List api_TypeV) (h : args ≠ []) : expr_typeOf x args (s.1, s.2.1, inp, s.2.2.2.1, s.2.2.2.2.1, s.2.2.2.2.2.1, ()) = expr_typeOf x args s := by
  have : ((args.length : Int) == 0) = false := by
    have : args.length ≠ 0 := by simpa using h
    exact beq_eq_false_iff_ne.2 (by omega)
  simp only [expr_typeOf, expr_typeOf.Se, expr_typeOf.J0_eq, expr_typeOf.SJ0, expr_typeOf.J1_eq, expr_typeOf.SJ1, expr_table, expr_table.Se, this, cond_false]

theorem input_type {s : api_SignatureV} {inp : List api_TypeV} {j : Nat} {u : api_TypeV} (h : inp[j]? = some u) (hv : validT u s.1.length = true) : expr_typeOf (7, (j : Int), ()) [] (s.1, s.2.1, inp, s.2.2.2.1, s.2.2.2.2.1, s.2.2.2.2.2.1, ()) = some (u, 0, ()) := by
  obtain ⟨k, m, z⟩ := u
  have hi : idx inp (j : Int) = some (k, m, z) := by rw [idx_nat]; exact h
  simp [expr_typeOf, expr_typeOf.Se, expr_typeOf.J0_eq, expr_typeOf.SJ0, expr_typeOf.J1_eq, expr_typeOf.SJ1, expr_number, expr_number.Se, expr_number.J0_eq, expr_number.SJ0, expr_number.J1_eq, expr_number.SJ1, expr_number.J2_eq, expr_number.SJ2, expr_meaning, expr_meaning.Se, expr_leaf, expr_leaf.Se, expr_leaf.J0_eq, expr_leaf.SJ0, expr_leaf.J1_eq, expr_leaf.SJ1, expr_leaf.J2_eq, expr_leaf.SJ2, expr_aggregate, expr_aggregate.Se, expr_aggregate.J0_eq, expr_aggregate.SJ0, Option.bind_some, cond_true, cond_false, Bool.and_true, Bool.true_and, Bool.and_false, Bool.false_and, Bool.and_self, Bool.not_true, Bool.not_false, Bool.cond_eq_ite, hi, at_Type_val, value_ValidType_val, hv]

/-- Types of the parts are valid. -/
theorem tyRun_valid {s : api_SignatureV} (hs : s.1.length ≤ 10) : ∀ (e : List api_TypeV) (i : Nat) (out st o sf : List Int) (tst tf : List api_TypeV), (∀ x ∈ e, -9223372036854775808 ≤ x.2.1 ∧ x.2.1 ≤ 9223372036854775807) → runE e i out st = .inr (o, sf) →
    tst.length = st.length → tyRun s e i tst = .inr tf → (∀ t ∈ tst, validT t s.1.length = true) → ∀ t ∈ tf, validT t s.1.length = true := by
  intro e
  induction e with
  | nil =>
    intro i out st o sf tst tf _ _ _ h hv
    simp only [tyRun, Sum.inr.injEq] at h
    exact h ▸ hv
  | cons x e ih =>
    intro i out st o sf tst tf hok hr hl h hv
    obtain ⟨a1, a2⟩ := arity_le x.1
    simp only [runE] at hr
    split at hr
    · cases hr
    · split at hr
      · cases hr
      · split at hr
        · cases hr
        · rename_i g1 g2 g3
          simp only [tyRun] at h
          obtain ⟨t, t', err, p1, p2, p3⟩ := node_agree x (tst.drop (tst.length - (arity x.1).toNat)) s (by omega) (by simp; omega) (hok x (by simp)) hs (fun t ht => hv t (List.mem_of_mem_drop ht))
          rw [p1] at h
          simp only at h
          split at h
          · rename_i herr
            refine ih _ _ _ _ _ _ _ (fun y hy => hok y (List.mem_cons_of_mem _ hy)) hr (by simp; omega) h ?_
            intro y hy
            rcases List.mem_append.1 hy with hy | hy
            · exact hv y (List.mem_of_mem_take hy)
            · rw [List.mem_singleton] at hy; rw [hy]; exact (p3 herr).2
          · cases h

end Go.Proofs.Ytbfckejaihblmaa
