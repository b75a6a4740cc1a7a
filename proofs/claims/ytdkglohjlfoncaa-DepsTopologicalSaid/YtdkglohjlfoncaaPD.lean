import Derived.Test.YtdkglohjlfoncaaPC
set_option maxRecDepth 100000
set_option linter.unusedVariables false
set_option linter.unusedSimpArgs false
namespace Go.Proofs.Ytdkglohjlfoncaa
open Go Go.Lift
noncomputable def dtab (s : api_ScopeV) : List (List Int) := (List.range (nD s)).map (fun (i : Nat) => dir s (i : Int))
theorem dtab_len (s : api_ScopeV) : (dtab s).length = nD s := by simp [dtab]
theorem dtab_get {s : api_ScopeV} {d : Int} (h : okD s d) : (dtab s).getD d.toNat [] = dir s d := by
  obtain ⟨h0, h1⟩ := h
  have e : ((d.toNat : Nat) : Int) = d := by omega
  unfold dtab
  rw [List.getD_eq_getElem?_getD, List.getElem?_map, List.getElem?_range (by omega)]
  simp [e]
theorem idx_gd {α : Type} {l : List α} {i : Int} (z : α) (h0 : 0 ≤ i) (h1 : i < l.length) : idx l i = some (l.getD i.toNat z) := by
  rw [idx_some h0 h1, List.getD_eq_getElem?_getD, List.getElem?_eq_getElem (by omega)]
  rfl
theorem tab_snoc (s : api_ScopeV) (i d : Nat) (h : i + (d + 1) = nD s) : (((List.range i).map (fun (j : Nat) => dir s (j : Int))) ++ List.replicate (d + 1) ([] : List Int)).set i (dir s (i : Int)) = ((List.range (i + 1)).map (fun (j : Nat) => dir s (j : Int))) ++ List.replicate d [] := by
  have hl : ((List.range i).map (fun (j : Nat) => dir s (j : Int))).length = i := by simp
  rw [List.set_append_right _ _ (by omega), hl, Nat.sub_self, List.replicate_succ, List.set_cons_zero, List.range_succ, List.map_append]
  simp
theorem order_L0 {s : api_ScopeV} (hs : Sm s) : ∀ (d i : Nat), i + d = nD s →
    deps_EvaluationOrder.L0 s (((List.range i).map (fun (j : Nat) => dir s (j : Int))) ++ List.replicate d []) (nD s : Int) (i : Int) = deps_EvaluationOrder.L1 s (dtab s) (List.replicate (nD s) false) [] := by
  have hN := hs.d
  have hN' : s.2.2.2.1.length ≤ 14 := hN
  intro d
  induction d with
  | zero =>
    intro i h
    have hi : i = nD s := by omega
    subst hi
    rw [deps_EvaluationOrder.L0_eq, deps_EvaluationOrder.SL0, cd_f (by omega), mk1 (by omega), cond_true]
    simp only [List.replicate_zero, List.append_nil]
    rfl
  | succ d ih =>
    intro i h
    obtain ⟨d1, d2, d3, d4⟩ := direct_val hs (i : Int)
    rw [deps_EvaluationOrder.L0_eq, deps_EvaluationOrder.SL0, cd_t (by omega), d1, bind_some', cd_b (by omega) (by simp; omega), wrap_succ (by omega), Int.toNat_natCast]
    dsimp only
    rw [tab_snoc s i d h]
    exact ih (i + 1) (by omega)
theorem cycle_L0 {s : api_ScopeV} (hs : Sm s) : ∀ (d i : Nat), i + d = nD s →
    deps_FindCycle.L0 s (((List.range i).map (fun (j : Nat) => dir s (j : Int))) ++ List.replicate d []) (nD s : Int) (i : Int) = deps_FindCycle.L1 (dtab s) 0 0 [] (nD s : Int) 0 := by
  have hN := hs.d
  intro d
  induction d with
  | zero =>
    intro i h
    have hi : i = nD s := by omega
    subst hi
    rw [deps_FindCycle.L0_eq, deps_FindCycle.SL0, cd_f (by omega)]
    simp only [List.replicate_zero, List.append_nil]
    have e : ((List.range (nD s)).map (fun (j : Nat) => dir s (j : Int))) = dtab s := rfl
    rw [e, dtab_len]
  | succ d ih =>
    intro i h
    obtain ⟨d1, d2, d3, d4⟩ := direct_val hs (i : Int)
    rw [deps_FindCycle.L0_eq, deps_FindCycle.SL0, cd_t (by omega), d1, bind_some', cd_b (by omega) (by simp; omega), wrap_succ (by omega), Int.toNat_natCast]
    dsimp only
    rw [tab_snoc s i d h]
    exact ih (i + 1) (by omega)
theorem blocked_L0 (placed : List Bool) : ∀ (rest pre : List Int), (pre ++ rest).length ≤ 1000 → (∀ x ∈ rest, 0 ≤ x ∧ x < (placed.length : Int)) →
    ∃ r, slices_IndexFunc_int_int_deps_EvaluationOrder_1.L0 (pre ++ rest) placed ((pre ++ rest).length : Int) (pre.length : Int) = some (r, ()) ∧ (r ≥ 0 ↔ ∃ x ∈ rest, ¬ Tk placed x) := by
  intro rest
  induction rest with
  | nil =>
    intro pre h h2
    rw [slices_IndexFunc_int_int_deps_EvaluationOrder_1.L0_eq, slices_IndexFunc_int_int_deps_EvaluationOrder_1.SL0, cd_f (by simp)]
    exact ⟨_, rfl, by simp⟩
  | cons x rest ih =>
    intro pre h h2
    have hl := len_mid pre x rest
    have hx := h2 x List.mem_cons_self
    rw [slices_IndexFunc_int_int_deps_EvaluationOrder_1.L0_eq, slices_IndexFunc_int_int_deps_EvaluationOrder_1.SL0, cd_t (by rw [hl]; omega), idx_mid, bind_some']
    simp only [deps_EvaluationOrder_1, deps_EvaluationOrder_1.Se]
    rw [idx_gd false hx.1 hx.2]
    simp only [bind_some']
    by_cases c : Tk placed x
    · have c' : placed.getD x.toNat false = true := c
      rw [c', Bool.not_true, cond_false, wrap_succ (by omega)]
      obtain ⟨r, a1, a2⟩ := ih (pre ++ [x]) (by rw [← mid_shift]; exact h) (fun y hy => h2 y (List.mem_cons_of_mem _ hy))
      rw [len_snoc, ← mid_shift] at a1
      exact ⟨r, a1, a2.trans ⟨fun ⟨y, q1, q2⟩ => ⟨y, List.mem_cons_of_mem _ q1, q2⟩, fun ⟨y, q1, q2⟩ => by
        rcases List.mem_cons.1 q1 with e | e
        · subst e; exact absurd c q2
        · exact ⟨y, e, q2⟩⟩⟩
    · have c' : placed.getD x.toNat false = false := by unfold Tk at c; exact Bool.eq_false_iff.2 c
      rw [c', Bool.not_false, cond_true]
      exact ⟨_, rfl, ⟨fun _ => ⟨x, List.mem_cons_self, c⟩, fun _ => by omega⟩⟩
theorem blocked_val (placed : List Bool) (l : List Int) (h : l.length ≤ 1000) (h2 : ∀ x ∈ l, 0 ≤ x ∧ x < (placed.length : Int)) :
    ∃ b, slices_ContainsFunc_int_int_deps_EvaluationOrder_1 l (placed, ()) = some (b, ()) ∧ (b = true ↔ ∃ x ∈ l, ¬ Tk placed x) := by
  obtain ⟨r, a1, a2⟩ := blocked_L0 placed l [] (by simpa using h) h2
  have a1' : slices_IndexFunc_int_int_deps_EvaluationOrder_1.L0 l placed (l.length : Int) 0 = some (r, ()) := a1
  simp only [slices_ContainsFunc_int_int_deps_EvaluationOrder_1, slices_ContainsFunc_int_int_deps_EvaluationOrder_1.Se, slices_IndexFunc_int_int_deps_EvaluationOrder_1, slices_IndexFunc_int_int_deps_EvaluationOrder_1.Se, a1', bind_some']
  exact ⟨_, rfl, by rw [decide_eq_true_iff]; exact a2⟩
theorem ready_L0 (placed : List Int) (hp : placed.length ≤ 1000) : ∀ (rest pre : List Int), (pre ++ rest).length ≤ 1000 → ref16_ready.L0 placed (pre ++ rest) (pre.length : Int) = some (decide (∀ x ∈ rest, x ∈ placed), ()) := by
  intro rest
  induction rest with
  | nil =>
    intro pre h
    rw [ref16_ready.L0_eq, ref16_ready.SL0, cd_f (by simp), decide_eq_true (by intro x hx; cases hx)]
  | cons x rest ih =>
    intro pre h
    have hl := len_mid pre x rest
    rw [ref16_ready.L0_eq, ref16_ready.SL0, cd_t (by rw [hl]; omega), cd_b (by omega) (by rw [hl]; omega), Int.toNat_natCast, getD_mid, has_val _ _ (by omega), bind_some', wrap_succ (by omega)]
    have := ih (pre ++ [x]) (by rw [← mid_shift]; exact h)
    rw [len_snoc, ← mid_shift] at this
    rw [this]
    by_cases c : x ∈ placed
    · rw [decide_eq_true c, Bool.not_true, cond_false]
      congr 2
      simp [c]
    · rw [decide_eq_false c, Bool.not_false, cond_true]
      congr 2
      simp [c]
theorem ready_val {s : api_ScopeV} (hs : Sm s) (d : Int) (placed : List Int) (hp : placed.length ≤ 1000) : ref16_ready s d placed = some (decide (∀ x ∈ dir s d, x ∈ placed), ()) := by
  obtain ⟨d1, d2, d3, d4⟩ := direct_val hs d
  have dl := dir_le hs d
  simp only [ref16_ready, ref16_ready.Se, d2, bind_some']
  exact ready_L0 placed hp (dir s d) [] (by simp; omega)
/-- The scan has found its definition: it runs to the end. -/
theorem order_skip (s : api_ScopeV) (placed : List Bool) (out : List Int) (next : Int) (h0 : 0 ≤ next) (h1 : next < (placed.length : Int)) (ho : out.length ≤ 1000) (hN : nD s ≤ 1000) : ∀ (k j : Nat), j + k = nD s →
    deps_EvaluationOrder.L2 s (dtab s) placed out next (nD s : Int) (j : Int) = deps_EvaluationOrder.L1 s (dtab s) (placed.set next.toNat true) (out ++ [next]) := by
  intro k
  induction k with
  | zero =>
    intro j h
    rw [deps_EvaluationOrder.L2_eq, deps_EvaluationOrder.SL2, cd_f (by omega), cd_f (by omega), cd_b (by omega) (by omega), rm8 (by omega), cond_true]
  | succ k ih =>
    intro j h
    rw [deps_EvaluationOrder.L2_eq, deps_EvaluationOrder.SL2, cd_t (by omega), cd_f (by omega), wrap_succ (by omega)]
    exact ih (j + 1) (by omega)
theorem order_scan {s : api_ScopeV} (hs : Sm s) (placed : List Bool) (out : List Int) (hp : placed.length = nD s) (hm : ∀ d, okD s d → (Tk placed d ↔ d ∈ out)) (ho : out.length ≤ 1000) : ∀ (k j : Nat), j + k = nD s →
    (∃ n, okD s n ∧ n ∉ out ∧ (∀ y ∈ dir s n, y ∈ out) ∧ deps_EvaluationOrder.L2 s (dtab s) placed out (-1) (nD s : Int) (j : Int) = deps_EvaluationOrder.L1 s (dtab s) (placed.set n.toNat true) (out ++ [n]) ∧
      ref16_EvaluationOrder.L2 s out (j : Int) = ref16_EvaluationOrder.L0 s (out ++ [n])) ∨
    (deps_EvaluationOrder.L2 s (dtab s) placed out (-1) (nD s : Int) (j : Int) = some ([], 9, ()) ∧ ref16_EvaluationOrder.L2 s out (j : Int) = some ([], 9, ()) ∧ ∀ d, okD s d → (j : Int) ≤ d → d ∈ out ∨ ∃ y ∈ dir s d, y ∉ out) := by
  have hN := hs.d
  have en : (s.2.2.2.1.length : Int) = (nD s : Int) := rfl
  intro k
  induction k with
  | zero =>
    intro j h
    refine .inr ⟨?_, ?_, fun d hd hj => by have := hd.2; omega⟩
    · rw [deps_EvaluationOrder.L2_eq, deps_EvaluationOrder.SL2, cd_f (by omega), cd_t (by omega)]
    · rw [ref16_EvaluationOrder.L2_eq, ref16_EvaluationOrder.SL2, en, cd_f (by omega), ref16_EvaluationOrder.J1_eq, ref16_EvaluationOrder.SJ1, en, beq_iff_eq.2 (by omega), cond_true]
  | succ k ih =>
    intro j h
    have hj : okD s (j : Int) := ⟨by omega, by omega⟩
    have dl := dir_le hs (j : Int)
    obtain ⟨_, _, _, d4⟩ := direct_val hs (j : Int)
    have tg : (dtab s).getD j [] = dir s (j : Int) := by have := dtab_get hj; rwa [Int.toNat_natCast] at this
    have go : ((j : Int) ∈ out ∨ ∃ y ∈ dir s (j : Int), y ∉ out) → deps_EvaluationOrder.L2 s (dtab s) placed out (-1) (nD s : Int) (j : Int) = deps_EvaluationOrder.L2 s (dtab s) placed out (-1) (nD s : Int) ((j + 1 : Nat) : Int) → ref16_EvaluationOrder.L2 s out (j : Int) = ref16_EvaluationOrder.L2 s out ((j + 1 : Nat) : Int) →
        (∃ n, okD s n ∧ n ∉ out ∧ (∀ y ∈ dir s n, y ∈ out) ∧ deps_EvaluationOrder.L2 s (dtab s) placed out (-1) (nD s : Int) (j : Int) = deps_EvaluationOrder.L1 s (dtab s) (placed.set n.toNat true) (out ++ [n]) ∧
          ref16_EvaluationOrder.L2 s out (j : Int) = ref16_EvaluationOrder.L0 s (out ++ [n])) ∨
        (deps_EvaluationOrder.L2 s (dtab s) placed out (-1) (nD s : Int) (j : Int) = some ([], 9, ()) ∧ ref16_EvaluationOrder.L2 s out (j : Int) = some ([], 9, ()) ∧ ∀ d, okD s d → (j : Int) ≤ d → d ∈ out ∨ ∃ y ∈ dir s d, y ∉ out) := by
      intro hb e1 e2
      rw [e1, e2]
      rcases ih (j + 1) (by omega) with ⟨n, a⟩ | ⟨a1, a2, a3⟩
      · exact .inl ⟨n, a⟩
      · refine .inr ⟨a1, a2, fun d hd hj' => ?_⟩
        by_cases e : d = (j : Int)
        · subst e; exact hb
        · exact a3 d hd (by omega)
    have r0 : ref16_EvaluationOrder.L2 s out (j : Int) = cond (decide ((j : Int) ∈ out)) (ref16_EvaluationOrder.L2 s out ((j + 1 : Nat) : Int)) (cond (!decide (∀ x ∈ dir s (j : Int), x ∈ out)) (ref16_EvaluationOrder.L2 s out ((j + 1 : Nat) : Int)) (ref16_EvaluationOrder.J1 s out (j : Int))) := by
      rw [ref16_EvaluationOrder.L2_eq, ref16_EvaluationOrder.SL2, en, cd_t (by omega), has_val _ _ (by omega), bind_some', ready_val hs _ _ ho, bind_some', wrap_succ (by omega)]
    have o0 : deps_EvaluationOrder.L2 s (dtab s) placed out (-1) (nD s : Int) (j : Int) = cond (!(placed.getD j false)) (Option.bind (slices_ContainsFunc_int_int_deps_EvaluationOrder_1 (dir s (j : Int)) (placed, ())) fun x1 =>
            cond (!x1.1)
              (deps_EvaluationOrder.L2 s (dtab s) placed out (j : Int) (nD s : Int) ((j + 1 : Nat) : Int))
              (deps_EvaluationOrder.L2 s (dtab s) placed out (-1) (nD s : Int) ((j + 1 : Nat) : Int))) (deps_EvaluationOrder.L2 s (dtab s) placed out (-1) (nD s : Int) ((j + 1 : Nat) : Int)) := by
      rw [deps_EvaluationOrder.L2_eq, deps_EvaluationOrder.SL2, cd_t (by omega), cd_t (by omega), cd_b (by omega) (by omega), cd_b (by omega) (by rw [dtab_len]; omega), Int.toNat_natCast, tg, wrap_succ (by omega)]
    obtain ⟨b, b1, b2⟩ := blocked_val placed (dir s (j : Int)) (by omega) (fun x hx => by rw [hp]; exact (d4 x hx).1)
    have hmj := hm _ hj
    unfold Tk at hmj
    rw [Int.toNat_natCast] at hmj
    by_cases c : (j : Int) ∈ out
    · rw [hmj.2 c, Bool.not_true, cond_false] at o0
      rw [decide_eq_true c, cond_true] at r0
      exact go (.inl c) o0 r0
    · have c' : placed.getD j false = false := Bool.eq_false_iff.2 (fun q => c (hmj.1 q))
      rw [c', Bool.not_false, cond_true, b1, bind_some'] at o0
      rw [decide_eq_false c, cond_false] at r0
      by_cases c2 : ∀ x ∈ dir s (j : Int), x ∈ out
      · have bf : b = false := Bool.eq_false_iff.2 (fun q => by
          obtain ⟨x, q1, q2⟩ := b2.1 q
          exact q2 ((hm x (d4 x q1).1).2 (c2 x q1)))
        subst bf
        rw [decide_eq_true c2, Bool.not_true, cond_false] at r0
        rw [Bool.not_false, cond_true] at o0
        refine .inl ⟨(j : Int), hj, c, c2, ?_, ?_⟩
        · rw [o0]
          exact order_skip s placed out (j : Int) (by omega) (by rw [hp]; omega) ho (by omega) k (j + 1) (by omega)
        · rw [r0, ref16_EvaluationOrder.J1_eq, ref16_EvaluationOrder.SJ1, en, beq_eq_false_iff_ne.2 (by omega), cond_false, rm8 (by omega), cond_true]
      · have bt : b = true := b2.2 (by
          simp only [Classical.not_forall] at c2
          obtain ⟨x, q1, q2⟩ := c2
          exact ⟨x, q1, fun q => q2 ((hm x (d4 x q1).1).1 q)⟩)
        subst bt
        rw [decide_eq_false c2, Bool.not_false, cond_true] at r0
        rw [Bool.not_true, cond_false] at o0
        refine go (.inr ?_) o0 r0
        simp only [Classical.not_forall] at c2
        obtain ⟨x, q1, q2⟩ := c2
        exact ⟨x, q1, q2⟩
/-- Each element follows all on which it depends. -/
def Topo (s : api_ScopeV) (l : List Int) : Prop := l.Nodup ∧ (∀ x ∈ l, okD s x) ∧ ∀ (p : List Int) (x : Int) (q : List Int), l = p ++ x :: q → ∀ y ∈ dir s x, y ∈ p
theorem Topo.snoc {s : api_ScopeV} {l : List Int} (h : Topo s l) {n : Int} (h1 : okD s n) (h2 : n ∉ l) (h3 : ∀ y ∈ dir s n, y ∈ l) : Topo s (l ++ [n]) := by
  obtain ⟨a, b, c⟩ := h
  refine ⟨?_, fun x hx => ?_, fun p x q e y hy => ?_⟩
  · rw [List.nodup_append]
    exact ⟨a, by simp, fun x hx y hy => by rw [List.mem_singleton.1 hy]; exact fun e => h2 (e ▸ hx)⟩
  · rcases List.mem_append.1 hx with q | q
    · exact b x q
    · rw [List.mem_singleton.1 q]; exact h1
  · rcases List.eq_nil_or_concat q with e2 | ⟨q', z, e2⟩
    · subst e2
      obtain ⟨e3, e4⟩ := List.append_inj' e rfl
      have e5 : n = x := by simpa using e4
      subst e3 e5
      exact h3 y hy
    · subst e2
      have e' : l ++ [n] = (p ++ x :: q') ++ [z] := by rw [e]; simp
      obtain ⟨e3, e4⟩ := List.append_inj' e' rfl
      exact c p x q' e3 y hy
theorem order_main {s : api_ScopeV} (hs : Sm s) : ∀ (k : Nat) (placed : List Bool) (out : List Int), out.length + k = nD s → placed.length = nD s → (∀ d, okD s d → (Tk placed d ↔ d ∈ out)) → Topo s out →
    (∃ l, deps_EvaluationOrder.L1 s (dtab s) placed out = some (l, 0, ()) ∧ ref16_EvaluationOrder.L0 s out = some (l, 0, ()) ∧ Topo s l ∧ l.length = nD s) ∨
    (deps_EvaluationOrder.L1 s (dtab s) placed out = some ([], 9, ()) ∧ ref16_EvaluationOrder.L0 s out = some ([], 9, ()) ∧ ∃ l : List Int, l.length < nD s ∧ ∀ d, okD s d → d ∈ l ∨ ∃ y ∈ dir s d, y ∉ l) := by
  have hN := hs.d
  have en : (s.2.2.2.1.length : Int) = (nD s : Int) := rfl
  intro k
  induction k with
  | zero =>
    intro placed out h1 h2 h3 h4
    refine .inl ⟨out, ?_, ?_, h4, by omega⟩
    · rw [deps_EvaluationOrder.L1_eq, deps_EvaluationOrder.SL1, en, cd_f (by omega)]
    · rw [ref16_EvaluationOrder.L0_eq, ref16_EvaluationOrder.SL0, en, cd_f (by omega)]
  | succ k ih =>
    intro placed out h1 h2 h3 h4
    rw [deps_EvaluationOrder.L1_eq, deps_EvaluationOrder.SL1, en, cd_t (by omega), ref16_EvaluationOrder.L0_eq, ref16_EvaluationOrder.SL0, en, cd_t (by omega)]
    rcases order_scan hs placed out h2 h3 (by omega) (nD s) 0 (by omega) with ⟨n, a1, a2, a3, a4, a5⟩ | ⟨a1, a2, a3⟩
    · have a4' : deps_EvaluationOrder.L2 s (dtab s) placed out (-1) (nD s : Int) 0 = _ := a4
      have a5' : ref16_EvaluationOrder.L2 s out 0 = _ := a5
      rw [a4', a5']
      refine ih (placed.set n.toNat true) (out ++ [n]) (by simp; omega) (by rw [List.length_set]; exact h2) (fun d hd => ?_) (h4.snoc a1 a2 a3)
      rw [Tk_set a1.1 (by rw [h2]; exact a1.2) hd.1, h3 d hd, List.mem_append, List.mem_singleton]
      exact Or.comm
    · exact .inr ⟨a1, a2, out, by omega, fun d hd => a3 d hd hd.1⟩
theorem mkt {n : Nat} (h : n ≤ 1000) : (decide (0 ≤ ((n : Int) : Int)) && (decide (((n : Int) : Int) ≤ (n : Int)) && (decide (((n : Int) : Int) * 24 ≤ room) && (decide (((n : Int) : Int) ≤ maxLen) && decide (0 < Ty.nc (.sl (.int .i64))))))) = true := by
  have a : ((n : Int) : Int) * 24 ≤ room := by rw [room_eq]; omega
  have b : ((n : Int) : Int) ≤ maxLen := by rw [maxLen_eq]; omega
  have c : 0 < Ty.nc (.sl (.int .i64)) := by decide
  rw [decide_eq_true (show (0 : Int) ≤ (n : Int) by omega), decide_eq_true (Int.le_refl (n : Int)), decide_eq_true a, decide_eq_true b, decide_eq_true c]
  rfl
theorem order_val {s : api_ScopeV} (hs : Sm s) :
    (∃ l, deps_EvaluationOrder s = some (l, 0, ()) ∧ ref16_EvaluationOrder s = some (l, 0, ()) ∧ Topo s l ∧ l.length = nD s) ∨
    (deps_EvaluationOrder s = some ([], 9, ()) ∧ ref16_EvaluationOrder s = some ([], 9, ()) ∧ ∃ l : List Int, l.length < nD s ∧ ∀ d, okD s d → d ∈ l ∨ ∃ y ∈ dir s d, y ∉ l) := by
  have hN := hs.d
  simp only [deps_EvaluationOrder, deps_EvaluationOrder.Se, ref16_EvaluationOrder, ref16_EvaluationOrder.Se]
  rw [mkt (n := s.2.2.2.1.length) (by have : s.2.2.2.1.length ≤ 14 := hN; omega), cond_true]
  have e := order_L0 hs (nD s) 0 (by omega)
  have e' : deps_EvaluationOrder.L0 s (List.replicate s.2.2.2.1.length []) (s.2.2.2.1.length : Int) 0 = _ := e
  rw [e']
  refine order_main hs (nD s) (List.replicate (nD s) false) [] (by simp) (by simp) (fun d hd => ?_) ⟨by simp, by simp, fun p x q e => by simp at e⟩
  constructor
  · intro h
    unfold Tk at h
    rw [List.getD_eq_getElem?_getD, List.getElem?_replicate] at h
    split at h <;> simp at h
  · intro h; cases h
end Go.Proofs.Ytdkglohjlfoncaa
