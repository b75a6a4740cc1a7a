import Derived.Test.YtgnigfnonoicmaaPA
set_option maxRecDepth 100000
set_option linter.unusedVariables false
set_option linter.unusedSimpArgs false
namespace Go.Proofs.Ytgnigfnonoicmaa
open Go Go.Lift
theorem fst1_shift {α : Type} (p : α → Bool) : ∀ (l : List α) (n : Nat), (fst1 p n l = none ↔ ∀ x ∈ l, p x = false)
  | [], n => by simp [fst1]
  | x :: l, n => by
    cases e : p x with
    | true => simp [fst1, e]
    | false => simp [fst1, e, fst1_shift p l (n + 1)]
theorem val_L2 (e : List api_EnumV) (t : api_TableV) (i : Nat) (r : api_RowV) (R : List api_RowV) (n : Int) : ∀ (rest pre : List api_RowV), (pre ++ rest).length ≤ 200000 →
    table_Validate.L2 e t (i : Int) r R n (i : Int) (pre ++ rest) ((pre ++ rest).length : Int) (pre.length : Int) = match fst1 (conf · r) pre.length rest with
      | some _ => some ((i : Int), 11, ())
      | none => table_Validate.L1 e t R n (IntKind.i64.wrap ((i : Int) + 1))
  | [], pre, h => by
    rw [table_Validate.L2_eq, table_Validate.SL2, cd_f (by simp)]
    rfl
  | x :: rest, pre, h => by
    have h' := h
    rw [len_mid] at h'
    have ih := val_L2 e t i r R n rest (pre ++ [x]) (by rw [← mid_shift]; exact h)
    rw [← mid_shift, len_snoc] at ih
    rw [show (pre ++ [x]).length = pre.length + 1 by simp] at ih
    rw [table_Validate.L2_eq, table_Validate.SL2, cd_t (by rw [len_mid]; omega), idx_mid]
    simp only [bind_some', conflict_val, wrap_succ (show pre.length < 9223372036854775807 by omega), ih, fst1]
    cases conf x r <;> simp
theorem rval_L2 (e : List api_EnumV) (t : api_TableV) (x : api_RowV) (more : List api_RowV) : ∀ (rest pre : List api_RowV), t.2.2.2.1 = pre ++ rest ++ x :: more → t.2.2.2.1.length ≤ 200000 →
    ref12_Validate.L2 e t ((pre ++ rest).length : Int) (pre.length : Int) = match fst1 (conf · x) pre.length rest with
      | some _ => some (((pre ++ rest).length : Int), 11, ())
      | none => ref12_Validate.L1 e t (IntKind.i64.wrap (((pre ++ rest).length : Int) + 1))
  | [], pre, eq, h => by
    rw [ref12_Validate.L2_eq, ref12_Validate.SL2, cd_f (by simp)]
    rfl
  | y :: rest, pre, eq, h => by
    have h' := h
    rw [eq] at h'
    simp only [List.length_append, List.length_cons] at h'
    have ih := rval_L2 e t x more rest (pre ++ [y]) (by rw [eq]; simp) h
    rw [← mid_shift, len_snoc] at ih
    rw [show (pre ++ [y]).length = pre.length + 1 by simp] at ih
    have i1 : idx t.2.2.2.1 (pre.length : Int) = some y := by rw [eq, List.append_assoc, List.cons_append]; exact idx_mid ..
    have i2 : idx t.2.2.2.1 ((pre ++ y :: rest).length : Int) = some x := by rw [eq]; exact idx_mid ..
    rw [ref12_Validate.L2_eq, ref12_Validate.SL2, cd_t (by rw [len_mid]; omega), i1, i2]
    simp only [bind_some', rconflict_val, wrap_succ (show pre.length < 9223372036854775807 by omega), ih, fst1]
    cases conf y x <;> simp
/-- What Validate comes to: a fault, or all rows are without. -/
def ValR (pre rest : List api_RowV) (z : Int × Int × Unit) : Prop := z = (0, 0, ()) ∧ (∀ a x b, rest = a ++ x :: b → ∀ y ∈ pre ++ a, conf y x = false) ∨ z.2.1 ≠ 0
theorem val_L1 (e : List api_EnumV) (t : api_TableV) : ∀ (rest pre : List api_RowV), t.2.2.2.1 = pre ++ rest → t.2.2.2.1.length ≤ 200000 →
    ∃ z, table_Validate.L1 e t (pre ++ rest) ((pre ++ rest).length : Int) (pre.length : Int) = some z ∧ ref12_Validate.L1 e t (pre.length : Int) = some z ∧ ValR pre rest z
  | [], pre, eq, h => by
    refine ⟨(0, 0, ()), ?_, ?_, .inl ⟨rfl, fun a x b h => by simp at h⟩⟩
    · rw [table_Validate.L1_eq, table_Validate.SL1, cd_f (by simp)]
    · rw [ref12_Validate.L1_eq, ref12_Validate.SL1, eq, cd_f (by simp)]
  | x :: rest, pre, eq, h => by
    have h' := h
    rw [eq, len_mid] at h'
    obtain ⟨z, z1, z2, z3⟩ := val_L1 e t rest (pre ++ [x]) (by rw [eq]; simp) h
    rw [← mid_shift, len_snoc] at z1
    rw [len_snoc] at z2
    obtain ⟨b, b1, b2⟩ := wrong_check x t e
    have i1 : idx t.2.2.2.1 (pre.length : Int) = some x := by rw [eq]; exact idx_mid ..
    have ht : t.2.2.2.1.take pre.length = pre := by rw [eq]; simp
    have r2 := rval_L2 e t x rest pre [] (by rw [eq]; rfl) h
    have c2 := val_L2 e t pre.length x (pre ++ x :: rest) ((pre ++ x :: rest).length : Int) pre [] (by simp; omega)
    simp only [List.nil_append, List.length_nil] at r2 c2
    cases b with
    | true =>
      refine ⟨((pre.length : Int), 3, ()), ?_, ?_, .inr (by simp)⟩
      · rw [table_Validate.L1_eq, table_Validate.SL1, cd_t (by rw [len_mid]; omega), idx_mid]
        simp only [bind_some', b2, cond_true]
        rfl
      · rw [ref12_Validate.L1_eq, ref12_Validate.SL1, cd_t (by rw [eq, len_mid]; omega), i1]
        simp only [bind_some', b1, cond_true]
    | false =>
      have s1 : table_Validate.L1 e t (pre ++ x :: rest) ((pre ++ x :: rest).length : Int) (pre.length : Int) = match fst1 (conf · x) 0 pre with
          | some _ => some ((pre.length : Int), 11, ())
          | none => table_Validate.L1 e t (pre ++ x :: rest) ((pre ++ x :: rest).length : Int) (IntKind.i64.wrap ((pre.length : Int) + 1)) := by
        rw [table_Validate.L1_eq, table_Validate.SL1, cd_t (by rw [len_mid]; omega), idx_mid]
        simp only [bind_some', b2, cond_false, Int.toNat_natCast, ht]
        rw [cd_3 (by omega) (by omega) (by rw [eq, len_mid]; omega)]
        exact c2
      have s2 : ref12_Validate.L1 e t (pre.length : Int) = match fst1 (conf · x) 0 pre with
          | some _ => some ((pre.length : Int), 11, ())
          | none => ref12_Validate.L1 e t (IntKind.i64.wrap ((pre.length : Int) + 1)) := by
        rw [ref12_Validate.L1_eq, ref12_Validate.SL1, cd_t (by rw [eq, len_mid]; omega), i1]
        simp only [bind_some', b1, cond_false]
        exact r2
      cases hf : fst1 (conf · x) 0 pre with
      | some k =>
        rw [hf] at s1 s2
        exact ⟨_, s1, s2, .inr (by simp)⟩
      | none =>
        rw [hf] at s1 s2
        simp only [wrap_succ (show pre.length < 9223372036854775807 by omega)] at s1 s2
        refine ⟨z, s1.trans z1, s2.trans z2, ?_⟩
        rcases z3 with ⟨e1, e2⟩ | e1
        · refine .inl ⟨e1, fun a y b hab => ?_⟩
          cases a with
          | nil =>
            simp only [List.nil_append, List.cons.injEq] at hab
            obtain ⟨rfl, rfl⟩ := hab
            simpa using (fst1_shift _ _ _).1 hf
          | cons a0 a =>
            simp only [List.cons_append, List.cons.injEq] at hab
            obtain ⟨rfl, hab⟩ := hab
            have := e2 a y b hab
            simpa using this
        · exact .inr e1
theorem validate_val (t : api_TableV) (e : List api_EnumV) : ∃ z, table_Validate t e = some z ∧ ref12_Validate t e = some z ∧ (z.2.1 = 0 → t.2.2.2.1.length ≤ 64 ∧ ∀ a x b, t.2.2.2.1 = a ++ x :: b → ∀ y ∈ a, conf y x = false) := by
  simp only [table_Validate, table_Validate.Se, table_Validate.J0_eq, table_Validate.SJ0, ref12_Validate, ref12_Validate.Se, ref12_Validate.J0_eq, ref12_Validate.SJ0, vtype_eq, rvtype_val, bind_some']
  by_cases h : (t.2.2.2.1.length : Int) > 64
  · rw [cd_t h, cd_t h]
    exact ⟨_, rfl, rfl, fun h => by cases h⟩
  · rw [cd_f h, cd_f h]
    cases vty t.2.1 e with
    | false => exact ⟨_, rfl, rfl, fun h => by cases h⟩
    | true =>
      cases vty t.2.2.1 e with
      | false => exact ⟨_, rfl, rfl, fun h => by cases h⟩
      | true =>
        simp only [Bool.not_true, cond_false]
        obtain ⟨z, z1, z2, z3⟩ := val_L1 e t t.2.2.2.1 [] rfl (by omega)
        refine ⟨z, by simpa using z1, by simpa using z2, fun h0 => ⟨by omega, ?_⟩⟩
        rcases z3 with ⟨_, z3⟩ | z3
        · simpa using z3
        · exact absurd h0 z3
theorem few_val (t : api_TableV) (n : Int) : law12_few t n = some (decide ((t.2.2.2.1.length : Int) ≤ n), ()) := rfl
theorem enumsFew_val (e : List api_EnumV) : law12_enumsFew e = some (decide ((e.length : Int) ≤ 20), ()) := rfl
/-- How many rows match. -/
def cnt (date key : Int) (l : List api_RowV) : Nat := (l.filter (mat · date key)).length
theorem mat_conf {x y : api_RowV} {date key : Int} (hx : mat x date key = true) (hy : mat y date key = true) : conf x y = true := by
  simp only [mat, inD, Bool.and_eq_true, decide_eq_true_eq] at hx hy
  obtain ⟨⟨v1, d1, d2⟩, k1, k2⟩ := hx
  obtain ⟨⟨v2, d3, d4⟩, k3, k4⟩ := hy
  have hi : vld x.1 = true ∧ vld y.1 = true ∧ max y.1.1 x.1.1 < min y.1.2.1 x.1.2.1 := ⟨v1, v2, by omega⟩
  simp only [conf, isec, if_pos hi, Bool.true_and, decide_eq_true_eq]
  omega
theorem unique_L1 (t : api_TableV) (aw : law12_awake = some (true, ())) (hl : t.2.2.2.1.length ≤ 64) (date key at' : Int) (ok : Bool) : ∀ (rest pre : List api_RowV), t.2.2.2.1 = pre ++ rest →
    (∀ a x b, rest = a ++ x :: b → mat x date key = true → ok = true ∧ at' = ((pre.length + a.length : Nat) : Int)) →
    (∃ p : Int × Int × Bool × Unit, table_FirstConflict t = some p ∧ p.2.2.1 = false) →
    (∀ n : Nat, n + cnt date key rest ≤ 1 → (ok = true ↔ n + cnt date key rest = 1) → law12_TableUnique.L1 date key t at' ok (n : Int) (pre.length : Int) = some (true, ()))
  | [], pre, e, hm, ⟨p, p1, p2⟩ => by
    intro n hn hok
    rw [law12_TableUnique.L1_eq, law12_TableUnique.SL1, e, cd_f (by simp), p1]
    simp only [bind_some', aw, p2, Bool.not_false, cond_true]
    have hn0 : n ≤ 1 := by omega
    rw [cd_t (by omega)]
    have : (ok == ((n : Int) == 1)) = true := by
      simp only [cnt, List.filter_nil, List.length_nil, Nat.add_zero] at hok
      cases ok with
      | true => have := hok.1 rfl; subst this; rfl
      | false =>
        have : n ≠ 1 := fun h => by have := hok.2 h; cases this
        have : n = 0 := by omega
        subst this; rfl
    rw [this, cond_true]
  | x :: rest, pre, e, hm, hp => by
    intro n hn hok
    have hlen := hl
    rw [e, len_mid] at hlen
    have i1 : idx t.2.2.2.1 (pre.length : Int) = some x := by rw [e]; exact idx_mid ..
    have ih := unique_L1 t aw hl date key at' ok rest (pre ++ [x]) (by rw [e]; simp) (fun a y b h1 h2 => by
      have := hm (x :: a) y b (by rw [h1]; rfl) h2
      simp only [List.length_cons, List.length_append, List.length_nil] at this ⊢
      exact ⟨this.1, by rw [this.2]; omega⟩) hp
    rw [len_snoc] at ih
    rw [law12_TableUnique.L1_eq, law12_TableUnique.SL1, cd_t (by rw [e, len_mid]; omega), i1]
    simp only [bind_some', matches_val, wrap_succ (show pre.length < 9223372036854775807 by omega)]
    cases hx : mat x date key with
    | true =>
      obtain ⟨h1, h2⟩ := hm [] x rest rfl hx
      have hc : cnt date key (x :: rest) = cnt date key rest + 1 := by simp [cnt, hx]
      rw [hc] at hn hok
      subst h1
      simp only [cond_true, Bool.not_true, cond_false]
      rw [show (at' != (pre.length : Int)) = false by simp [h2], cond_false, wrap_succ (by omega)]
      exact ih (n + 1) (by omega) (by rw [hok]; omega)
    | false =>
      have hc : cnt date key (x :: rest) = cnt date key rest := by simp [cnt, hx]
      rw [hc] at hn hok
      rw [cond_false]
      exact ih n hn hok
theorem pair1_none : ∀ (rest pre : List api_RowV), (∀ a x b, rest = a ++ x :: b → ∀ y ∈ pre ++ a, conf y x = false) → (pair1 pre rest).2.2.1 = false
  | [], pre, h => rfl
  | x :: rest, pre, h => by
    have h0 := h [] x rest rfl
    simp only [List.append_nil] at h0
    rw [pair1, (fst1_shift _ _ _).2 h0]
    exact pair1_none rest (pre ++ [x]) (fun a y b hab z hz => by
      have := h (x :: a) y b (by rw [hab]; rfl) z (by simpa using hz)
      exact this)
theorem fst1_spec {α : Type} (p : α → Bool) : ∀ (l : List α) (n : Nat) (k : Nat), fst1 p n l = some k → ∃ a x b, l = a ++ x :: b ∧ k = n + a.length ∧ p x = true ∧ ∀ y ∈ a, p y = false
  | [], n, k, h => by simp [fst1] at h
  | x :: l, n, k, h => by
    rw [fst1] at h
    cases e : p x with
    | true =>
      rw [e] at h
      simp only [cond_true, Option.some.injEq] at h
      exact ⟨[], x, l, rfl, by simp [h], e, fun y hy => by cases hy⟩
    | false =>
      rw [e] at h
      obtain ⟨a, y, b, h1, h2, h3, h4⟩ := fst1_spec p l (n + 1) k h
      refine ⟨x :: a, y, b, by rw [h1]; rfl, by simp; omega, h3, fun z hz => ?_⟩
      rcases List.mem_cons.1 hz with h | h
      · rw [h]; exact e
      · exact h4 z h
theorem tableUnique_true (aw : law12_awake = some (true, ())) (t : api_TableV) (e : List api_EnumV) (date key : Int) : law12_TableUnique t e date key = some (true, ()) := by
  simp only [law12_TableUnique, law12_TableUnique.Se, law12_TableUnique.J0_eq, law12_TableUnique.SJ0, few_val, enumsFew_val, aw, bind_some']
  by_cases h : (t.2.2.2.1.length : Int) ≤ 64
  · rw [decide_eq_true h]
    cases hd : decide ((e.length : Int) ≤ 20) with
    | false => rfl
    | true =>
      obtain ⟨z, z1, _, z3⟩ := validate_val t e
      simp only [z1, bind_some', Bool.not_true, cond_false]
      by_cases hz : z.2.1 = 0
      · rw [show (z.2.1 != 0) = false by simp [hz], cond_false, lookup_val t date key (by omega)]
        simp only [bind_some']
        obtain ⟨hl, hc⟩ := z3 hz
        have hp : (pair1 [] t.2.2.2.1).2.2.1 = false := pair1_none t.2.2.2.1 [] (by simpa using hc)
        have key' : ∀ a x b, t.2.2.2.1 = a ++ x :: b → mat x date key = true → (∀ y ∈ a, mat y date key = false) ∧ ∀ y ∈ b, mat y date key = false := by
          intro a x b hab hx
          refine ⟨fun y hy => ?_, fun y hy => ?_⟩
          · cases hm : mat y date key with
            | false => rfl
            | true =>
              have := hc a x b hab y hy
              rw [mat_conf hm hx] at this
              cases this
          · cases hm : mat y date key with
            | false => rfl
            | true =>
              obtain ⟨b1, b2, rfl⟩ := List.append_of_mem hy
              have := hc (a ++ x :: b1) y b2 (by rw [hab]; simp) x (by simp)
              rw [mat_conf hx hm] at this
              cases this
        have fin := unique_L1 t aw hl date key (fres (fst1 (mat · date key) 0 t.2.2.2.1)).1 (fres (fst1 (mat · date key) 0 t.2.2.2.1)).2.1 t.2.2.2.1 [] rfl
        have := fin (fun a x b hab hx => ?_) ⟨_, first_val t (by omega), hp⟩ 0 ?_ ?_
        · simpa using this
        · cases hf : fst1 (mat · date key) 0 t.2.2.2.1 with
          | none =>
            have := (fst1_shift _ _ _).1 hf x (by rw [hab]; simp)
            rw [hx] at this; cases this
          | some k =>
            obtain ⟨a', x', b', h1, h2, h3, h4⟩ := fst1_spec _ _ _ _ hf
            refine ⟨rfl, ?_⟩
            show (k : Int) = _
            have : a'.length = a.length := by
              obtain ⟨n1, n2⟩ := key' a x b hab hx
              obtain ⟨n3, n4⟩ := key' a' x' b' h1 h3
              rcases Nat.lt_trichotomy a.length a'.length with g | g | g
              · have e1 : t.2.2.2.1[a.length]? = some x := by rw [hab]; simp
                rw [h1, List.getElem?_append_left g] at e1
                have := n3 x (List.mem_of_getElem? e1)
                rw [hx] at this; cases this
              · exact g.symm
              · have e1 : t.2.2.2.1[a'.length]? = some x' := by rw [h1]; simp
                rw [hab, List.getElem?_append_left g] at e1
                have := n1 x' (List.mem_of_getElem? e1)
                rw [h3] at this; cases this
            simp; omega
        · cases hf : fst1 (mat · date key) 0 t.2.2.2.1 with
          | none =>
            have := (fst1_shift _ _ _).1 hf
            have : cnt date key t.2.2.2.1 = 0 := by
              rw [cnt, List.length_eq_zero_iff, List.filter_eq_nil_iff]
              intro y hy; rw [this y hy]; simp
            omega
          | some k =>
            obtain ⟨a', x', b', h1, h2, h3, h4⟩ := fst1_spec _ _ _ _ hf
            obtain ⟨n3, n4⟩ := key' a' x' b' h1 h3
            have : cnt date key t.2.2.2.1 = 1 := by
              have f1 : a'.filter (mat · date key) = [] := List.filter_eq_nil_iff.2 (fun y hy => by simp [n3 y hy])
              have f2 : b'.filter (mat · date key) = [] := List.filter_eq_nil_iff.2 (fun y hy => by simp [n4 y hy])
              rw [cnt, h1, List.filter_append, f1, List.filter_cons, f2]
              simp [h3]
            omega
        · cases hf : fst1 (mat · date key) 0 t.2.2.2.1 with
          | none =>
            have := (fst1_shift _ _ _).1 hf
            have : cnt date key t.2.2.2.1 = 0 := by
              rw [cnt, List.length_eq_zero_iff, List.filter_eq_nil_iff]
              intro y hy; rw [this y hy]; simp
            rw [this]
            simp [fres]
          | some k =>
            obtain ⟨a', x', b', h1, h2, h3, h4⟩ := fst1_spec _ _ _ _ hf
            obtain ⟨n3, n4⟩ := key' a' x' b' h1 h3
            have : cnt date key t.2.2.2.1 = 1 := by
              have f1 : a'.filter (mat · date key) = [] := List.filter_eq_nil_iff.2 (fun y hy => by simp [n3 y hy])
              have f2 : b'.filter (mat · date key) = [] := List.filter_eq_nil_iff.2 (fun y hy => by simp [n4 y hy])
              rw [cnt, h1, List.filter_append, f1, List.filter_cons, f2]
              simp [h3]
            rw [this]
            simp [fres]
      · rw [show (z.2.1 != 0) = true by simp [hz], cond_true]
  · rw [decide_eq_false h]; rfl
end Go.Proofs.Ytgnigfnonoicmaa
