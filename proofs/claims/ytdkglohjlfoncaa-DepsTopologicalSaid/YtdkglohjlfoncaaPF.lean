import Derived.Test.YtdkglohjlfoncaaPE
set_option maxRecDepth 100000
set_option linter.unusedVariables false
set_option linter.unusedSimpArgs false
namespace Go.Proofs.Ytdkglohjlfoncaa
open Go Go.Lift
theorem reach_L2 {s : api_ScopeV} (to steps : Int) (front : List Int) (i k : Int) : ∀ (rest pre out : List Int), (pre ++ rest).length ≤ 1000 → out.length + rest.length ≤ 90000 → SS out →
    ∃ out', ref16_reach.L2 to steps s front i out k (pre ++ rest) (pre.length : Int) = ref16_reach.L1 to steps s front i out' (IntKind.i64.wrap (k + 1)) ∧ SS out' ∧ out'.length ≤ out.length + rest.length ∧ ∀ x, x ∈ out' ↔ x ∈ out ∨ x ∈ rest := by
  intro rest
  induction rest with
  | nil =>
    intro pre out h h2 h3
    rw [ref16_reach.L2_eq, ref16_reach.SL2, cd_f (by simp)]
    exact ⟨out, rfl, h3, by simp, fun x => by simp⟩
  | cons y rest ih =>
    intro pre out h h2 h3
    have hl := len_mid pre y rest
    rw [List.length_cons] at h2
    rw [ref16_reach.L2_eq, ref16_reach.SL2, cd_t (by rw [hl]; omega), cd_b (by omega) (by rw [hl]; omega), Int.toNat_natCast, getD_mid, wrap_succ (by omega), ins16_val _ _ (by omega), bind_some']
    have li := insS_length out y
    obtain ⟨o, h4, h5, h6, h7⟩ := ih (pre ++ [y]) (insS out y) (by rw [← mid_shift]; exact h) (by omega) (insS_SS _ _ h3)
    rw [len_snoc, ← mid_shift] at h4
    refine ⟨o, h4, h5, by simp; omega, fun x => ?_⟩
    rw [h7 x, insS_mem, List.mem_cons, or_assoc]
theorem reach_L1 {s : api_ScopeV} (hs : Sm s) (to steps i : Int) : ∀ (rest pre out : List Int), (pre ++ rest).length ≤ 1000 → out.length ≤ 20 * pre.length → SS out →
    ∃ out', ref16_reach.L1 to steps s (pre ++ rest) i out (pre.length : Int) = ref16_reach.L0 to steps s out' (IntKind.i64.wrap (i + 1)) ∧ SS out' ∧ ∀ x, x ∈ out' ↔ x ∈ out ∨ ∃ y ∈ rest, x ∈ dir s y := by
  intro rest
  induction rest with
  | nil =>
    intro pre out h h2 h3
    rw [ref16_reach.L1_eq, ref16_reach.SL1, cd_f (by simp)]
    exact ⟨out, rfl, h3, fun x => by simp⟩
  | cons y rest ih =>
    intro pre out h h2 h3
    have hl := len_mid pre y rest
    obtain ⟨d1, d2, d3, d4⟩ := direct_val hs y
    have dl := dir_le hs y
    rw [ref16_reach.L1_eq, ref16_reach.SL1, cd_t (by rw [hl]; omega), cd_b (by omega) (by rw [hl]; omega), Int.toNat_natCast, getD_mid, d2, bind_some']
    obtain ⟨o, q1, q2, q3, q4⟩ := reach_L2 (s := s) to steps (pre ++ y :: rest) i (pre.length : Int) (dir s y) [] out (by simp; omega) (by omega) h3
    simp only [List.nil_append, List.length_nil] at q1
    rw [wrap_succ (by omega)] at q1
    obtain ⟨o', h4, h5, h7⟩ := ih (pre ++ [y]) o (by rw [← mid_shift]; exact h) (by simp; omega) q2
    rw [len_snoc, ← mid_shift] at h4
    refine ⟨o', q1.trans h4, h5, fun x => ?_⟩
    rw [h7 x, q4, or_assoc]
    simp only [List.mem_cons, exists_eq_or_imp]
theorem reach_L0 {s : api_ScopeV} (hs : Sm s) (to : Int) (n : Nat) (hn : n ≤ 1000) : ∀ (k i : Nat) (front : List Int), i + k = n → front.length ≤ 1000 →
    ∃ b, ref16_reach.L0 to (n : Int) s front (i : Int) = some (b, ()) ∧ (b = true ↔ ∃ y ∈ front, Wk s k y to) := by
  have hN := hs.d
  intro k
  induction k with
  | zero =>
    intro i front h hl
    rw [ref16_reach.L0_eq, ref16_reach.SL0, cd_f (by omega), has_val _ _ (by omega), bind_some']
    refine ⟨_, rfl, ?_⟩
    rw [decide_eq_true_iff]
    constructor
    · intro h; exact ⟨to, h, rfl⟩
    · rintro ⟨y, h1, h2⟩
      have : y = to := h2
      exact this ▸ h1
  | succ k ih =>
    intro i front h hl
    rw [ref16_reach.L0_eq, ref16_reach.SL0, cd_t (by omega)]
    obtain ⟨o, q1, q2, q3⟩ := reach_L1 hs to (n : Int) (i : Int) front [] [] (by simpa using hl) (by simp) .nil
    simp only [List.nil_append, List.length_nil] at q1
    rw [wrap_succ (by omega)] at q1
    have ol := range_le q2 (fun x hx => by
      rcases (q3 x).1 hx with q | ⟨y, _, q⟩
      · cases q
      · exact ((direct_val hs y).2.2.2 x q).1)
    obtain ⟨b, r1, r2⟩ := ih (i + 1) o (by omega) (by omega)
    refine ⟨b, q1.trans r1, r2.trans ?_⟩
    constructor
    · rintro ⟨x, h1, h2⟩
      rcases (q3 x).1 h1 with q | ⟨y, e1, e2⟩
      · cases q
      · exact ⟨y, e1, x, e2, h2⟩
    · rintro ⟨y, e1, x, e2, h2⟩
      exact ⟨x, (q3 x).2 (.inr ⟨y, e1, e2⟩), h2⟩
theorem reach_val {s : api_ScopeV} (hs : Sm s) (a b : Int) (n : Nat) (hn : n ≤ 1000) : ∃ r, ref16_reach s a b (n : Int) = some (r, ()) ∧ (r = true ↔ Wk s n a b) := by
  obtain ⟨r, r1, r2⟩ := reach_L0 hs b n hn n 0 [a] (by omega) (by simp)
  simp only [ref16_reach, ref16_reach.Se]
  refine ⟨r, r1, r2.trans ?_⟩
  constructor
  · rintro ⟨y, h1, h2⟩; rw [List.mem_singleton.1 h1] at h2; exact h2
  · intro h; exact ⟨a, List.mem_singleton.2 rfl, h⟩
/-- What is known of the cycles in Q. -/
def Inv (s : api_ScopeV) (Q : Int → Nat → Prop) (best first : Int) (from_ : List Int) : Prop :=
  (best = 0 ∧ ∀ e m, ¬ Q e m) ∨ (∃ n : Nat, best = (n : Int) + 1 ∧ n + 1 ≤ nD s ∧ okD s first ∧ Q first (n + 1) ∧ Dist s first from_ ∧ ∀ e m, Q e m → n + 1 ≤ m ∧ (m = n + 1 → first ≤ e))
/-- The cycles known after the definitions before d and the members of pre at d. -/
def Qd (s : api_ScopeV) (d : Int) (pre : List Int) (e : Int) (m : Nat) : Prop := okD s e ∧ ∃ k x, m = k + 1 ∧ Wk s k x e ∧ ((e < d ∧ x ∈ dir s e) ∨ (e = d ∧ x ∈ pre))
theorem Inv.congr {s : api_ScopeV} {Q Q' : Int → Nat → Prop} {b f : Int} {l : List Int} (h : ∀ e m, Q e m ↔ Q' e m) (i : Inv s Q b f l) : Inv s Q' b f l := by
  rcases i with ⟨h1, h2⟩ | ⟨n, h1, h2, h3, h4, h5, h6⟩
  · exact .inl ⟨h1, fun e m q => h2 e m ((h e m).2 q)⟩
  · exact .inr ⟨n, h1, h2, h3, (h _ _).1 h4, h5, fun e m q => h6 e m ((h e m).2 q)⟩
theorem Qd_snoc {s : api_ScopeV} {d x : Int} {pre : List Int} (hd : okD s d) (e : Int) (m : Nat) : Qd s d (pre ++ [x]) e m ↔ Qd s d pre e m ∨ (e = d ∧ ∃ k, m = k + 1 ∧ Wk s k x d) := by
  unfold Qd
  constructor
  · rintro ⟨h0, k, y, h1, h2, h3 | ⟨h3, h4⟩⟩
    · exact .inl ⟨h0, k, y, h1, h2, .inl h3⟩
    · rcases List.mem_append.1 h4 with q | q
      · exact .inl ⟨h0, k, y, h1, h2, .inr ⟨h3, q⟩⟩
      · rw [List.mem_singleton.1 q] at h2
        exact .inr ⟨h3, k, h1, h3 ▸ h2⟩
  · rintro (⟨h0, k, y, h1, h2, h3 | ⟨h3, h4⟩⟩ | ⟨h0, k, h1, h2⟩)
    · exact ⟨h0, k, y, h1, h2, .inl h3⟩
    · exact ⟨h0, k, y, h1, h2, .inr ⟨h3, List.mem_append_left _ h4⟩⟩
    · subst h0
      exact ⟨hd, k, x, h1, h2, .inr ⟨rfl, by simp⟩⟩
theorem Qd_next {s : api_ScopeV} {d : Int} (e : Int) (m : Nat) : Qd s d (dir s d) e m ↔ Qd s (d + 1) [] e m := by
  unfold Qd
  constructor
  · rintro ⟨h0, k, y, h1, h2, ⟨h3, h4⟩ | ⟨h3, h4⟩⟩
    · exact ⟨h0, k, y, h1, h2, .inl ⟨by omega, h4⟩⟩
    · subst h3; exact ⟨h0, k, y, h1, h2, .inl ⟨by omega, h4⟩⟩
  · rintro ⟨h0, k, y, h1, h2, ⟨h3, h4⟩ | ⟨h3, h4⟩⟩
    · by_cases q : e = d
      · subst q; exact ⟨h0, k, y, h1, h2, .inr ⟨rfl, h4⟩⟩
      · exact ⟨h0, k, y, h1, h2, .inl ⟨by omega, h4⟩⟩
    · cases h4
theorem cycle_L2 {s : api_ScopeV} (hs : Sm s) (d : Nat) (hd : okD s (d : Int)) (dist : List Int) (D : Dist s (d : Int) dist) (N : Int) : ∀ (rest pre : List Int) (best first : Int) (from_ : List Int), dir s (d : Int) = pre ++ rest → Inv s (Qd s (d : Int) pre) best first from_ →
    ∃ b f l, deps_FindCycle.L2 (dtab s) best first from_ (d : Int) dist N (d : Int) (dir s (d : Int)) ((dir s (d : Int)).length : Int) (pre.length : Int) = deps_FindCycle.L1 (dtab s) b f l N ((d + 1 : Nat) : Int) ∧ Inv s (Qd s ((d + 1 : Nat) : Int) []) b f l := by
  have hN := hs.d
  have hd1 := hd.1
  have hd2 := hd.2
  obtain ⟨_, _, _, d4⟩ := direct_val hs (d : Int)
  have dl := dir_le hs (d : Int)
  intro rest
  induction rest with
  | nil =>
    intro pre best first from_ e i
    rw [List.append_nil] at e
    rw [deps_FindCycle.L2_eq, deps_FindCycle.SL2, e, cd_f (by omega), wrap_succ (by omega)]
    refine ⟨best, first, from_, rfl, ?_⟩
    rw [← e] at i
    exact i.congr (fun a m => Qd_next a m)
  | cons x rest ih =>
    intro pre best first from_ e i
    have hl : (dir s (d : Int)).length = pre.length + (rest.length + 1) := by rw [e]; exact len_mid _ _ _
    have hx : idx (dir s (d : Int)) (pre.length : Int) = some x := by rw [e]; exact idx_mid _ _ _
    have xm : x ∈ dir s (d : Int) := by rw [e]; simp
    have xo := (d4 x xm).1
    have eo : dist.getD x.toNat 0 = og dist x := rfl
    have nx : ∀ b f l, Inv s (Qd s (d : Int) (pre ++ [x])) b f l → ∃ b' f' l', deps_FindCycle.L2 (dtab s) b f l (d : Int) dist N (d : Int) (dir s (d : Int)) ((dir s (d : Int)).length : Int) ((pre.length + 1 : Nat) : Int) = deps_FindCycle.L1 (dtab s) b' f' l' N ((d + 1 : Nat) : Int) ∧ Inv s (Qd s ((d + 1 : Nat) : Int) []) b' f' l' := by
      intro b f l i'
      have := ih (pre ++ [x]) b f l (by rw [e, mid_shift]) i'
      rwa [len_snoc] at this
    rw [deps_FindCycle.L2_eq, deps_FindCycle.SL2, cd_t (by omega), hx, bind_some', idx_gd 0 xo.1 (by rw [D.len]; exact xo.2), bind_some', eo, wrap_succ (by omega)]
    by_cases c : og dist x = -1
    · have w : IntKind.i64.wrap (og dist x + 1) = 0 := by rw [c]; exact wrap64 (by omega) (by omega)
      rw [w, cd_f (by omega)]
      refine nx _ _ _ (i.congr (fun a m => ?_))
      rw [Qd_snoc hd]
      constructor
      · exact .inl
      · rintro (q | ⟨_, k, _, q⟩)
        · exact q
        · exact absurd q (D.none x xo c k)
    · obtain ⟨n, n1, n2, n3, n4⟩ := D.some x xo c
      have w : IntKind.i64.wrap (og dist x + 1) = (n : Int) + 1 := by rw [n1]; exact wrap64 (by omega) (by omega)
      rw [w, cd_t (by omega)]
      have new : (∀ a m, Qd s (d : Int) pre a m → n + 1 < m) → Inv s (Qd s (d : Int) (pre ++ [x])) ((n : Int) + 1) (d : Int) dist := by
        intro q
        refine .inr ⟨n, rfl, by omega, hd, (Qd_snoc hd _ _).2 (.inr ⟨rfl, n, rfl, n3⟩), D, fun a m h => ?_⟩
        rcases (Qd_snoc hd _ _).1 h with h | ⟨h1, k, h2, h3⟩
        · have := q a m h; exact ⟨by omega, by omega⟩
        · have := n4 k h3; exact ⟨by omega, by omega⟩
      rcases i with ⟨i1, i2⟩ | ⟨b, i1, i2, i3, i4, i5, i6⟩
      · rw [beq_iff_eq.2 i1, cond_true]
        exact nx _ _ _ (new (fun a m h => absurd h (i2 a m)))
      · rw [beq_eq_false_iff_ne.2 (by omega), cond_false]
        by_cases c2 : n < b
        · rw [cd_t (by omega)]
          exact nx _ _ _ (new (fun a m h => by have := (i6 a m h).1; omega))
        · rw [cd_f (by omega)]
          refine nx _ _ _ (.inr ⟨b, i1, i2, i3, (Qd_snoc hd _ _).2 (.inl i4), i5, fun a m h => ?_⟩)
          rcases (Qd_snoc hd _ _).1 h with h | ⟨h1, k, h2, h3⟩
          · exact i6 a m h
          · have := n4 k h3
            refine ⟨by omega, fun _ => ?_⟩
            obtain ⟨_, _, _, _, _, q | q⟩ := i4
            · omega
            · omega
theorem cycle_L1 {s : api_ScopeV} (hs : Sm s) : ∀ (k d : Nat) (best first : Int) (from_ : List Int), d + k = nD s → Inv s (Qd s (d : Int) []) best first from_ →
    ∃ b f l, deps_FindCycle.L1 (dtab s) best first from_ (nD s : Int) (d : Int) = (cond (b == 0) (some ([], ())) (deps_FindCycle.L3 (dtab s) b l [f])) ∧ Inv s (Qd s (nD s : Int) []) b f l := by
  have hN := hs.d
  intro k
  induction k with
  | zero =>
    intro d best first from_ h i
    have : d = nD s := by omega
    subst this
    rw [deps_FindCycle.L1_eq, deps_FindCycle.SL1, cd_f (by omega)]
    exact ⟨best, first, from_, rfl, i⟩
  | succ k ih =>
    intro d best first from_ h i
    have hd : okD s (d : Int) := ⟨by omega, by omega⟩
    have tg := dtab_get hd
    obtain ⟨o, e1, D⟩ := distances_val hs (d : Int) hd
    rw [deps_FindCycle.L1_eq, deps_FindCycle.SL1, cd_t (by omega), cd_b (by omega) (by rw [dtab_len]; omega), e1, bind_some', tg]
    obtain ⟨b, f, l, e2, i2⟩ := cycle_L2 hs d hd o D (nD s : Int) (dir s (d : Int)) [] best first from_ rfl i
    have e2' : deps_FindCycle.L2 (dtab s) best first from_ (d : Int) o (nD s : Int) (d : Int) (dir s (d : Int)) ((dir s (d : Int)).length : Int) 0 = _ := e2
    rw [e2']
    exact ih (d + 1) b f l (by omega) i2
theorem Qd_all {s : api_ScopeV} (e : Int) (m : Nat) : Qd s (nD s : Int) [] e m ↔ okD s e ∧ ∃ k, m = k + 1 ∧ Wk s (k + 1) e e := by
  unfold Qd
  constructor
  · rintro ⟨h0, k, y, h1, h2, ⟨_, h4⟩ | ⟨_, h4⟩⟩
    · exact ⟨h0, k, h1, y, h4, h2⟩
    · cases h4
  · rintro ⟨h0, k, h1, y, h4, h2⟩
    exact ⟨h0, k, y, h1, h2, .inl ⟨h0.2, h4⟩⟩
structure Cyc (s : api_ScopeV) (n : Nat) (a : Int) (out : List Int) : Prop where
  nod : out.Nodup
  len : 1 ≤ out.length
  lee : out.length ≤ n + 1
  cha : ∀ p x y q, out = p ++ x :: y :: q → y ∈ dir s x
  wlk : ∀ p x q, out = p ++ x :: q → Wk s p.length a x
  bac : ∀ p x, out = p ++ [x] → Wk s (n + 1 - p.length) x a
  fst : out.head? = some a
theorem Cyc.snoc {s : api_ScopeV} {n : Nat} {a : Int} {p : List Int} {z x : Int} (c : Cyc s n a (p ++ [z])) (hmin : ∀ m, Wk s (m + 1) a a → n ≤ m) (hx : x ∈ dir s z) (hl : p.length + 1 < n + 1) (hw : Wk s (n - p.length) x a) : Cyc s n a ((p ++ [z]) ++ [x]) := by
  have wz := c.wlk p z [] rfl
  refine ⟨?_, by simp, by simp; omega, fun p' u v q e => ?_, fun p' u q e => ?_, fun p' u e => ?_, ?_⟩
  · rw [List.nodup_append]
    refine ⟨c.nod, by simp, fun u hu v hv e => ?_⟩
    rw [List.mem_singleton.1 hv] at e
    subst e
    obtain ⟨p', q', e'⟩ := List.append_of_mem hu
    have w1 := c.wlk p' u q' e'
    have w2 := Wk.trans hw w1
    have hlen : p.length + 1 = p'.length + (q'.length + 1) := by have := congrArg List.length e'; simpa using this
    have e3 : p'.length + (n - p.length) = (p'.length + (n - p.length) - 1) + 1 := by omega
    rw [e3] at w2
    have := hmin _ w2
    omega
  · rcases List.eq_nil_or_concat q with e2 | ⟨q', w, e2⟩
    · subst e2
      have e' : (p ++ [z]) ++ [x] = (p' ++ [u]) ++ [v] := by rw [e]; simp
      obtain ⟨e3, e4⟩ := List.append_inj' e' rfl
      obtain ⟨e5, e6⟩ := List.append_inj' e3 rfl
      have e7 : x = v := by simpa using e4
      have e8 : z = u := by simpa using e6
      subst e7 e8
      exact hx
    · subst e2
      have e' : (p ++ [z]) ++ [x] = (p' ++ u :: v :: q') ++ [w] := by rw [e]; simp
      obtain ⟨e3, e4⟩ := List.append_inj' e' rfl
      exact c.cha p' u v q' e3
  · rcases List.eq_nil_or_concat q with e2 | ⟨q', w, e2⟩
    · subst e2
      obtain ⟨e3, e4⟩ := List.append_inj' e rfl
      have e7 : x = u := by simpa using e4
      subst e3 e7
      rw [List.length_append, List.length_singleton]
      exact Wk.trans (Wk.one hx) wz
    · subst e2
      have e' : (p ++ [z]) ++ [x] = (p' ++ u :: q') ++ [w] := by rw [e]; simp
      obtain ⟨e3, e4⟩ := List.append_inj' e' rfl
      exact c.wlk p' u q' e3
  · obtain ⟨e3, e4⟩ := List.append_inj' e rfl
    have e7 : x = u := by simpa using e4
    subst e3 e7
    have e8 : n + 1 - (p ++ [z]).length = n - p.length := by simp
    rw [e8]
    exact hw
  · have := c.fst
    rw [List.head?_append, this]
    rfl
theorem own_L0 (fr : List Int) (best : Int) (out : List Int) (K : Nat) (hK : IntKind.i64.wrap (best - (out.length : Int)) = (K : Int)) : ∀ (rest pre : List Int), (pre ++ rest).length ≤ 1000 → (∀ x ∈ rest, 0 ≤ x ∧ x < (fr.length : Int)) → (∃ x ∈ rest, og fr x = (K : Int)) →
    ∃ (i : Nat) (x : Int), slices_IndexFunc_int_int_deps_FindCycle_1.L0 (pre ++ rest) fr best out ((pre ++ rest).length : Int) (pre.length : Int) = some ((i : Int), ()) ∧ (pre ++ rest)[i]? = some x ∧ x ∈ rest ∧ og fr x = (K : Int) ∧ ∃ p q, rest = p ++ x :: q ∧ i = pre.length + p.length ∧ ∀ y ∈ p, og fr y ≠ (K : Int) := by
  intro rest
  induction rest with
  | nil => intro pre _ _ h; obtain ⟨x, h1, _⟩ := h; cases h1
  | cons y rest ih =>
    intro pre h h2 h3
    have hl := len_mid pre y rest
    have hy := h2 y List.mem_cons_self
    have eo : fr.getD y.toNat 0 = og fr y := rfl
    rw [slices_IndexFunc_int_int_deps_FindCycle_1.L0_eq, slices_IndexFunc_int_int_deps_FindCycle_1.SL0, cd_t (by rw [hl]; omega), idx_mid, bind_some']
    simp only [deps_FindCycle_1, deps_FindCycle_1.Se]
    rw [idx_gd 0 hy.1 hy.2, bind_some', hK, eo, bind_some']
    by_cases c : og fr y = (K : Int)
    · simp only [c, beq_self_eq_true, cond_true]
      exact ⟨pre.length, y, rfl, by rw [List.getElem?_append_right (by omega)]; simp, List.mem_cons_self, c, [], rest, rfl, by simp, fun y hy => by cases hy⟩
    · simp only [beq_eq_false_iff_ne.2 c, cond_false]
      rw [wrap_succ (by omega)]
      obtain ⟨i, x, a1, a2, a3, a4, p, q, a5, a6, a7⟩ := ih (pre ++ [y]) (by rw [← mid_shift]; exact h) (fun z hz => h2 z (List.mem_cons_of_mem _ hz)) (by
        obtain ⟨x, h4, h5⟩ := h3
        rcases List.mem_cons.1 h4 with e | e
        · subst e; exact absurd h5 c
        · exact ⟨x, e, h5⟩)
      rw [len_snoc, ← mid_shift] at a1
      rw [← mid_shift] at a2
      refine ⟨i, x, a1, a2, List.mem_cons_of_mem _ a3, a4, y :: p, q, by rw [a5]; rfl, by simp at a6 ⊢; omega, fun z hz => ?_⟩
      rcases List.mem_cons.1 hz with e | e
      · subst e; exact c
      · exact a7 z e
theorem ref_L3 {s : api_ScopeV} (hs : Sm s) (n3 : Int) (a : Int) (out : List Int) (ho : out.length ≤ 1000) (K : Nat) (hK1 : K ≤ 1000) (hK : IntKind.i64.wrap (n3 - (out.length : Int)) = (K : Int)) : ∀ (p pre q : List Int) (x : Int), (pre ++ (p ++ x :: q)).length ≤ 1000 → (∀ y ∈ p, ¬ Wk s K y a) → Wk s K x a →
    ref16_FindCycle.L3 s n3 a out (pre ++ (p ++ x :: q)) (pre.length : Int) = ref16_FindCycle.L2 s n3 a (out ++ [x]) := by
  intro p
  induction p with
  | nil =>
    intro pre q x h h1 h2
    rw [List.nil_append] at h ⊢
    have hl := len_mid pre x q
    obtain ⟨r, r1, r2⟩ := reach_val hs x a K hK1
    rw [ref16_FindCycle.L3_eq, ref16_FindCycle.SL3, cd_b (by omega) (by rw [hl]; omega), Int.toNat_natCast, getD_mid, hK, r1, bind_some', r2.2 h2, Bool.not_true, cond_false, cd_b (by omega) (by rw [hl]; omega), rm8 (by omega), cond_true]
  | cons y p ih =>
    intro pre q x h h1 h2
    have hl := len_mid pre y (p ++ x :: q)
    obtain ⟨r, r1, r2⟩ := reach_val hs y a K hK1
    have rf : r = false := Bool.eq_false_iff.2 (fun e => h1 y List.mem_cons_self (r2.1 e))
    subst rf
    rw [List.cons_append] at h ⊢
    rw [ref16_FindCycle.L3_eq, ref16_FindCycle.SL3, cd_b (by omega) (by rw [hl]; omega), Int.toNat_natCast, getD_mid, hK, r1, bind_some', Bool.not_false, cond_true, wrap_succ (by omega)]
    have := ih (pre ++ [y]) q x (by rw [← mid_shift]; exact h) (fun z hz => h1 z (List.mem_cons_of_mem _ hz)) h2
    rw [len_snoc, ← mid_shift] at this
    exact this
theorem cycle_L3 {s : api_ScopeV} (hs : Sm s) (n : Nat) (hn : n + 1 ≤ nD s) (a : Int) (ha : okD s a) (fr : List Int) (D : Dist s a fr) (hmin : ∀ m, Wk s (m + 1) a a → n ≤ m) : ∀ (k : Nat) (out : List Int), out.length + k = n + 1 → Cyc s n a out →
    ∃ l, deps_FindCycle.L3 (dtab s) ((n : Int) + 1) fr out = some (l, ()) ∧ ref16_FindCycle.L2 s ((n : Int) + 1) a out = some (l, ()) ∧ Cyc s n a l ∧ l.length = n + 1 := by
  have hN := hs.d
  intro k
  induction k with
  | zero =>
    intro out h c
    rw [deps_FindCycle.L3_eq, deps_FindCycle.SL3, cd_f (by omega), ref16_FindCycle.L2_eq, ref16_FindCycle.SL2, cd_f (by omega)]
    exact ⟨out, rfl, rfl, c, by omega⟩
  | succ k ih =>
    intro out h c
    have c1 := c.len
    rcases List.eq_nil_or_concat out with e | ⟨p, z, e⟩
    · subst e; simp at c1
    rw [List.concat_eq_append] at e
    subst e
    have pl : (p ++ [z]).length = p.length + 1 := by simp
    rw [pl] at h
    have wz := c.wlk p z [] rfl
    have zok : okD s z := by
      rcases Nat.eq_zero_or_pos p.length with e | e
      · rw [e] at wz
        have : a = z := wz
        exact this ▸ ha
      · have e2 : p.length = (p.length - 1) + 1 := by omega
        rw [e2] at wz
        exact Rch.ok hs (Wk.rch wz)
    obtain ⟨d1, d2, d3, d4⟩ := direct_val hs z
    have dl := dir_le hs z
    have w : IntKind.i64.wrap (((p ++ [z]).length : Int) - 1) = (p.length : Int) := by rw [pl]; exact (wrap64 (by omega) (by omega)).trans (by omega)
    have gz : (p ++ [z]).getD p.length 0 = z := getD_mid p z 0 []
    have tg := dtab_get zok
    have zl : z < ((dtab s).length : Int) := by rw [dtab_len]; exact zok.2
    -- the rest of the cycle
    have hK : IntKind.i64.wrap (((n : Int) + 1) - ((p ++ [z]).length : Int)) = ((n - p.length : Nat) : Int) := by rw [pl]; exact (wrap64 (by omega) (by omega)).trans (by omega)
    have bz := c.bac p z rfl
    have iff : ∀ x ∈ dir s z, og fr x = ((n - p.length : Nat) : Int) ↔ Wk s (n - p.length) x a := by
      intro x hx
      have xo := (d4 x hx).1
      constructor
      · intro q
        obtain ⟨m, m1, m2, m3, m4⟩ := D.some x xo (by omega)
        have : m = n - p.length := by omega
        exact this ▸ m3
      · intro q
        by_cases c2 : og fr x = -1
        · exact absurd q (D.none x xo c2 _)
        · obtain ⟨m, m1, m2, m3, m4⟩ := D.some x xo c2
          have h1 := m4 _ q
          have w2 := Wk.trans (Wk.trans m3 (Wk.one hx)) wz
          have e3 : p.length + (1 + m) = (p.length + m) + 1 := by omega
          rw [e3] at w2
          have := hmin _ w2
          omega
    have ex : ∃ x ∈ dir s z, og fr x = ((n - p.length : Nat) : Int) := by
      have e3 : n + 1 - p.length = (n - p.length) + 1 := by omega
      rw [e3] at bz
      obtain ⟨x, h1, h2⟩ := bz
      exact ⟨x, h1, (iff x h1).2 h2⟩
    obtain ⟨i, x, a1, a2, a3, a4, p', q', a5, a6, a7⟩ := own_L0 fr ((n : Int) + 1) (p ++ [z]) (n - p.length) hK (dir s z) [] (by simp; omega) (fun x hx => by rw [D.len]; exact (d4 x hx).1) ex
    have a1' : slices_IndexFunc_int_int_deps_FindCycle_1.L0 (dir s z) fr ((n : Int) + 1) (p ++ [z]) ((dir s z).length : Int) 0 = some ((i : Int), ()) := a1
    have a2' : (dir s z)[i]? = some x := a2
    have r := ref_L3 hs ((n : Int) + 1) a (p ++ [z]) (by omega) (n - p.length) (by omega) hK p' [] q' x (by rw [← a5]; simp; omega) (fun y hy => fun q => a7 y hy ((iff y (by rw [a5]; simp [hy])).2 q)) ((iff x a3).1 a4)
    rw [List.nil_append, ← a5] at r
    have r' : ref16_FindCycle.L3 s ((n : Int) + 1) a (p ++ [z]) (dir s z) 0 = _ := r
    obtain ⟨l, l1, l2, l3, l4⟩ := ih ((p ++ [z]) ++ [x]) (by simp; omega) (c.snoc hmin a3 (by omega) ((iff x a3).1 a4))
    refine ⟨l, ?_, ?_, l3, l4⟩
    · rw [deps_FindCycle.L3_eq, deps_FindCycle.SL3, cd_t (by rw [pl]; omega), w, cd_b (by omega) (by rw [pl]; omega), Int.toNat_natCast, gz, cd_b zok.1 zl, tg]
      simp only [slices_IndexFunc_int_int_deps_FindCycle_1, slices_IndexFunc_int_int_deps_FindCycle_1.Se]
      rw [a1', bind_some', cd_b zok.1 zl, idx_nat, a2', bind_some', rm8 (by rw [pl]; omega), cond_true]
      exact l1
    · rw [ref16_FindCycle.L2_eq, ref16_FindCycle.SL2, cd_t (by rw [pl]; omega), w, cd_b (by omega) (by rw [pl]; omega), Int.toNat_natCast, gz, d2, bind_some', r']
      exact l2
theorem Cyc.start {s : api_ScopeV} {n : Nat} {a : Int} (h : Wk s (n + 1) a a) : Cyc s n a [a] := by
  refine ⟨by simp, by simp, by simp, fun p x y q e => ?_, fun p x q e => ?_, fun p x e => ?_, rfl⟩
  · have := congrArg List.length e
    simp at this
    omega
  · have h1 : 1 = p.length + (q.length + 1) := by have := congrArg List.length e; simpa using this
    have : p = [] := List.eq_nil_of_length_eq_zero (by omega)
    subst this
    have : a = x := by simp at e; exact e.1
    exact this
  · have h1 : 1 = p.length + 1 := by have := congrArg List.length e; simpa using this
    have : p = [] := List.eq_nil_of_length_eq_zero (by omega)
    subst this
    have : a = x := by simpa using e
    subst this
    exact h
theorem rcycle_L1 {s : api_ScopeV} (hs : Sm s) (m : Nat) (hm : m ≤ 900) : ∀ (k a : Nat), a + k = nD s →
    ((∀ e, okD s e → (a : Int) ≤ e → ¬ Wk s m e e) ∧ ref16_FindCycle.L1 s (m : Int) (a : Int) = ref16_FindCycle.L0 s ((m + 1 : Nat) : Int)) ∨
    (∃ e, okD s e ∧ (a : Int) ≤ e ∧ Wk s m e e ∧ (∀ e', okD s e' → (a : Int) ≤ e' → Wk s m e' e' → e ≤ e') ∧ ref16_FindCycle.L1 s (m : Int) (a : Int) = ref16_FindCycle.L2 s (m : Int) e [e]) := by
  have hN := hs.d
  have en : (s.2.2.2.1.length : Int) = (nD s : Int) := rfl
  intro k
  induction k with
  | zero =>
    intro a h
    refine .inl ⟨fun e he hle => by have := he.2; omega, ?_⟩
    rw [ref16_FindCycle.L1_eq, ref16_FindCycle.SL1, en, cd_f (by omega), wrap_succ (by omega)]
  | succ k ih =>
    intro a h
    have ha : okD s (a : Int) := ⟨by omega, by omega⟩
    obtain ⟨r, r1, r2⟩ := reach_val hs (a : Int) (a : Int) m (by omega)
    rw [ref16_FindCycle.L1_eq, ref16_FindCycle.SL1, en, cd_t (by omega), r1, bind_some']
    cases r with
    | true =>
      rw [Bool.not_true, cond_false]
      exact .inr ⟨(a : Int), ha, by omega, r2.1 rfl, fun e' _ h _ => h, rfl⟩
    | false =>
      rw [Bool.not_false, cond_true, wrap_succ (by omega)]
      have na : ¬ Wk s m (a : Int) (a : Int) := fun q => Bool.false_ne_true (r2.2 q)
      rcases ih (a + 1) (by omega) with ⟨h1, h2⟩ | ⟨e, h1, h2, h3, h4, h5⟩
      · refine .inl ⟨fun e he hle => ?_, h2⟩
        by_cases q : e = (a : Int)
        · subst q; exact na
        · exact h1 e he (by omega)
      · refine .inr ⟨e, h1, by omega, h3, fun e' he' hle hw => ?_, h5⟩
        by_cases q : e' = (a : Int)
        · subst q; exact absurd hw na
        · exact h4 e' he' (by omega) hw
theorem rcycle_none {s : api_ScopeV} (hs : Sm s) (hno : ∀ e, okD s e → ∀ m, ¬ Wk s (m + 1) e e) : ∀ (k m : Nat), m + k = nD s → ref16_FindCycle.L0 s ((m + 1 : Nat) : Int) = some ([], ()) := by
  have hN := hs.d
  have en : (s.2.2.2.1.length : Int) = (nD s : Int) := rfl
  intro k
  induction k with
  | zero =>
    intro m h
    rw [ref16_FindCycle.L0_eq, ref16_FindCycle.SL0, en, cd_f (by omega)]
  | succ k ih =>
    intro m h
    rw [ref16_FindCycle.L0_eq, ref16_FindCycle.SL0, en, cd_t (by omega)]
    rcases rcycle_L1 hs (m + 1) (by omega) (nD s) 0 (by omega) with ⟨_, h2⟩ | ⟨e, h1, _, h3, _⟩
    · have h2' : ref16_FindCycle.L1 s ((m + 1 : Nat) : Int) 0 = _ := h2
      rw [h2']
      exact ih (m + 1) (by omega)
    · exact absurd h3 (hno e h1 m)
theorem rcycle_some {s : api_ScopeV} (hs : Sm s) (n : Nat) (hn : n + 1 ≤ nD s) (a : Int) (ha : okD s a) (hw : Wk s (n + 1) a a) (hmin : ∀ e m, okD s e → Wk s (m + 1) e e → n ≤ m ∧ (m = n → a ≤ e)) : ∀ (k m : Nat), m + k = n → ref16_FindCycle.L0 s ((m + 1 : Nat) : Int) = ref16_FindCycle.L2 s ((n : Int) + 1) a [a] := by
  have hN := hs.d
  have en : (s.2.2.2.1.length : Int) = (nD s : Int) := rfl
  intro k
  induction k with
  | zero =>
    intro m h
    have : m = n := by omega
    subst this
    rw [ref16_FindCycle.L0_eq, ref16_FindCycle.SL0, en, cd_t (by omega)]
    rcases rcycle_L1 hs (m + 1) (by omega) (nD s) 0 (by omega) with ⟨h1, _⟩ | ⟨e, h1, _, h3, h4, h5⟩
    · exact absurd hw (h1 a ha ha.1)
    · have e1 := (hmin e m h1 h3).2 rfl
      have e2 := h4 a ha ha.1 hw
      have : e = a := by omega
      subst this
      have h5' : ref16_FindCycle.L1 s ((m + 1 : Nat) : Int) 0 = _ := h5
      rw [h5']
      rfl
  | succ k ih =>
    intro m h
    rw [ref16_FindCycle.L0_eq, ref16_FindCycle.SL0, en, cd_t (by omega)]
    rcases rcycle_L1 hs (m + 1) (by omega) (nD s) 0 (by omega) with ⟨_, h2⟩ | ⟨e, h1, _, h3, _⟩
    · have h2' : ref16_FindCycle.L1 s ((m + 1 : Nat) : Int) 0 = _ := h2
      rw [h2']
      exact ih (m + 1) (by omega)
    · have := (hmin e m h1 h3).1; omega
theorem cycle_val {s : api_ScopeV} (hs : Sm s) :
    (deps_FindCycle s = some ([], ()) ∧ ref16_FindCycle s = some ([], ()) ∧ ∀ e, okD s e → ∀ m, ¬ Wk s (m + 1) e e) ∨
    (∃ n a l, deps_FindCycle s = some (l, ()) ∧ ref16_FindCycle s = some (l, ()) ∧ okD s a ∧ Cyc s n a l ∧ l.length = n + 1 ∧ n + 1 ≤ nD s ∧ Wk s (n + 1) a a) := by
  have hN := hs.d
  simp only [deps_FindCycle, deps_FindCycle.Se, ref16_FindCycle, ref16_FindCycle.Se]
  rw [mkt (n := s.2.2.2.1.length) (by have : s.2.2.2.1.length ≤ 14 := hN; omega), cond_true]
  have e := cycle_L0 hs (nD s) 0 (by omega)
  have e' : deps_FindCycle.L0 s (List.replicate s.2.2.2.1.length []) (s.2.2.2.1.length : Int) 0 = _ := e
  rw [e']
  obtain ⟨b, f, l, e1, i⟩ := cycle_L1 hs (nD s) 0 0 0 [] (by omega) (.inl ⟨rfl, fun e m q => by
    obtain ⟨h0, k, x, _, _, ⟨q, _⟩ | ⟨_, q⟩⟩ := q
    · have := h0.1; omega
    · cases q⟩)
  have e1' : deps_FindCycle.L1 (dtab s) 0 0 [] (nD s : Int) 0 = _ := e1
  rw [e1']
  rcases i with ⟨i1, i2⟩ | ⟨n, i1, i2, i3, i4, i5, i6⟩
  · have hno : ∀ e, okD s e → ∀ m, ¬ Wk s (m + 1) e e := fun e he m hw => i2 e (m + 1) ((Qd_all e (m + 1)).2 ⟨he, m, rfl, hw⟩)
    rw [beq_iff_eq.2 i1, cond_true]
    exact .inl ⟨rfl, rcycle_none hs hno (nD s) 0 (by omega), hno⟩
  · rw [beq_eq_false_iff_ne.2 (by omega), cond_false, i1]
    obtain ⟨_, k, k1, k2⟩ := (Qd_all _ _).1 i4
    have : k = n := by omega
    subst this
    have hmin : ∀ e m, okD s e → Wk s (m + 1) e e → k ≤ m ∧ (m = k → f ≤ e) := fun e m he hw => by
      obtain ⟨q1, q2⟩ := i6 e (m + 1) ((Qd_all e (m + 1)).2 ⟨he, m, rfl, hw⟩)
      exact ⟨by omega, fun q => q2 (by omega)⟩
    obtain ⟨r, r1, r2, r3, r4⟩ := cycle_L3 hs k i2 f i3 l i5 (fun m hw => (hmin f m i3 hw).1) k [f] (by simp; omega) (Cyc.start k2)
    refine .inr ⟨k, f, r, r1, ?_, i3, r3, r4, i2, k2⟩
    have := rcycle_some hs k i2 f i3 k2 hmin k 0 (by omega)
    exact this.trans r2
end Go.Proofs.Ytdkglohjlfoncaa
