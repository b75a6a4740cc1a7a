import Derived.Test.YtdkglohjlfoncaaPA
set_option maxRecDepth 100000
set_option linter.unusedVariables false
set_option linter.unusedSimpArgs false
namespace Go.Proofs.Ytdkglohjlfoncaa
open Go Go.Lift
inductive Rch (s : api_ScopeV) : Int → Int → Prop
  | base {d x : Int} : x ∈ dir s d → Rch s d x
  | step {d y x : Int} : Rch s d y → x ∈ dir s y → Rch s d x
theorem Rch.front {s : api_ScopeV} {d y x : Int} (h : y ∈ dir s d) (h2 : Rch s y x) : Rch s d x := by
  induction h2 with
  | base h3 => exact .step (.base h) h3
  | step _ h4 ih => exact .step ih h4
theorem Rch.ok {s : api_ScopeV} (h : Sm s) {d x : Int} (h2 : Rch s d x) : okD s x := by
  cases h2 with
  | base h3 => exact ((direct_val h _).2.2.2 x h3).1
  | step _ h3 => exact ((direct_val h _).2.2.2 x h3).1
theorem Rch.ok' {s : api_ScopeV} (h : Sm s) {d x : Int} (h2 : Rch s d x) : okD s d := by
  induction h2 with
  | base h3 => exact ((direct_val h _).2.2.2 _ h3).2
  | step _ _ ih => exact ih
/-- The mark at i. -/
def Tk (seen : List Bool) (i : Int) : Prop := seen.getD i.toNat false = true
theorem Tk_set {seen : List Bool} {k i : Int} (hk : 0 ≤ k) (hk2 : k < (seen.length : Int)) (hi : 0 ≤ i) : Tk (seen.set k.toNat true) i ↔ i = k ∨ Tk seen i := by
  unfold Tk
  rw [List.getD_eq_getElem?_getD, List.getD_eq_getElem?_getD, List.getElem?_set]
  by_cases e : k.toNat = i.toNat
  · have : i = k := by omega
    rw [if_pos e, if_pos (by omega)]
    simp [this]
  · have : i ≠ k := by omega
    rw [if_neg e]
    simp [this]
def cntF (l : List Bool) : Nat := l.countP (fun b => !b)
theorem cntF_set : ∀ (l : List Bool) (k : Nat), k < l.length → l.getD k false = false → cntF (l.set k true) + 1 = cntF l := by
  intro l
  induction l with
  | nil => intro k h; cases h
  | cons b l ih =>
    intro k h h2
    cases k with
    | zero =>
      simp at h2
      subst h2
      simp [cntF]
    | succ k =>
      have := ih k (by simpa using h) (by simpa using h2)
      unfold cntF at this ⊢
      rw [List.set_cons_succ, List.countP_cons, List.countP_cons]
      omega
theorem trans_L0 {s : api_ScopeV} (hs : Sm s) : ∀ (n : Nat) (seen : List Bool) (todo : List Int), seen.length = nD s → (∀ x ∈ todo, okD s x) → todo.length + 15 * cntF seen ≤ n → n ≤ 100000 →
    ∃ seen', deps_Transitive.L0 s seen todo = deps_Transitive.L1 [] seen' (nD s : Int) 0 ∧ seen'.length = nD s ∧ (∀ i, 0 ≤ i → Tk seen i → Tk seen' i) ∧ (∀ x ∈ todo, Tk seen' x) ∧
      (∀ i, okD s i → Tk seen' i → Tk seen i ∨ ∃ y ∈ todo, i = y ∨ Rch s y i) ∧ (∀ i, okD s i → Tk seen' i → ¬ Tk seen i → ∀ z ∈ dir s i, Tk seen' z) := by
  intro n
  induction n with
  | zero =>
    intro seen todo h1 h2 h3 h4
    have : todo = [] := List.eq_nil_of_length_eq_zero (by omega)
    subst this
    rw [deps_Transitive.L0_eq, deps_Transitive.SL0, cd_f (by simp), h1]
    exact ⟨seen, rfl, h1, fun _ _ h => h, fun x hx => by (cases hx), fun i _ h => .inl h, fun i _ h h' => absurd h h'⟩
  | succ n ih =>
    intro seen todo h1 h2 h3 h4
    cases todo with
    | nil =>
      rw [deps_Transitive.L0_eq, deps_Transitive.SL0, cd_f (by simp), h1]
      exact ⟨seen, rfl, h1, fun _ _ h => h, fun x hx => by (cases hx), fun i _ h => .inl h, fun i _ h h' => absurd h h'⟩
    | cons x rest =>
      have hx := h2 x List.mem_cons_self
      have hx' := (okD_iff s x).1 hx
      have hlen : (seen.length : Int) = (s.2.2.2.1.length : Int) := by rw [h1]; rfl
      have g0 : ∀ (l : List Int), (x :: l).getD 0 0 = x := fun _ => rfl
      have hle : (x :: rest).length = rest.length + 1 := rfl
      rw [hle] at h3
      rw [deps_Transitive.L0_eq, deps_Transitive.SL0, cd_t (by rw [hle]; omega), cd_b (by omega) (by rw [hle]; omega), g0, cd_b (by omega) (by omega)]
      by_cases c : Tk seen x
      · have c' : seen.getD x.toNat false = true := c
        have e1 : List.take ((x :: rest).length - 1) (List.drop 1 (x :: rest)) = rest := by simp
        rw [c', Bool.not_true, cond_false, e1, decide_eq_true (show (0 : Int) ≤ 1 by omega), decide_eq_true (show (1 : Int) ≤ ((x :: rest).length : Int) by rw [hle]; omega), decide_eq_true (show ((x :: rest).length : Int) ≤ ((x :: rest).length : Int) by omega)]
        simp only [Bool.and_self, cond_true]
        obtain ⟨sn, a1, a2, a3, a4, a5, a6⟩ := ih seen rest h1 (fun q hq => h2 q (List.mem_cons_of_mem _ hq)) (by omega) (by omega)
        refine ⟨sn, a1, a2, a3, fun q hq => ?_, fun i hi ht => ?_, a6⟩
        · rcases List.mem_cons.1 hq with e | e
          · subst e; exact a3 _ hx.1 c
          · exact a4 q e
        · rcases a5 i hi ht with b | ⟨y, b1, b2⟩
          · exact .inl b
          · exact .inr ⟨y, List.mem_cons_of_mem _ b1, b2⟩
      · have c' : seen.getD x.toNat false = false := by
          unfold Tk at c
          exact Bool.eq_false_iff.2 c
        obtain ⟨d1, d2, d3, d4⟩ := direct_val hs x
        have dl := dir_le hs x
        have hle2 : (x :: rest ++ dir s x).length = rest.length + (dir s x).length + 1 := by rw [List.length_append, hle]; omega
        have e1 : List.take ((x :: rest ++ dir s x).length - 1) (List.drop 1 (x :: rest ++ dir s x)) = rest ++ dir s x := by
          rw [hle2]; simp only [List.cons_append, List.drop_succ_cons, List.drop_zero]; exact List.take_of_length_le (by simp)
        rw [c', Bool.not_false, cond_true, cd_b (by omega) (by rw [hle]; omega), cd_b (by omega) (by omega), cd_b (by omega) (by rw [hle]; omega), d1, bind_some']
        dsimp only
        rw [rm8 (by rw [hle]; omega), cond_true, e1, decide_eq_true (show (0 : Int) ≤ 1 by omega), decide_eq_true (show (1 : Int) ≤ ((x :: rest ++ dir s x).length : Int) by rw [hle2]; omega), decide_eq_true (show ((x :: rest ++ dir s x).length : Int) ≤ ((x :: rest ++ dir s x).length : Int) by omega)]
        simp only [Bool.and_self, cond_true]
        have cs := cntF_set seen x.toNat (by omega) c'
        obtain ⟨sn, a1, a2, a3, a4, a5, a6⟩ := ih (seen.set x.toNat true) (rest ++ dir s x) (by rw [List.length_set]; exact h1) (fun q hq => by
          rcases List.mem_append.1 hq with b | b
          · exact h2 q (List.mem_cons_of_mem _ b)
          · exact (d4 q b).1) (by rw [List.length_append]; omega) (by omega)
        have st : ∀ i, 0 ≤ i → (Tk (seen.set x.toNat true) i ↔ i = x ∨ Tk seen i) := fun i hi => Tk_set hx.1 (by omega) hi
        refine ⟨sn, a1, a2, fun i hi ht => a3 i hi ((st i hi).2 (.inr ht)), fun q hq => ?_, fun i hi ht => ?_, fun i hi ht hn z hz => ?_⟩
        · rcases List.mem_cons.1 hq with e | e
          · subst e; exact a3 _ hx.1 ((st _ hx.1).2 (.inl rfl))
          · exact a4 q (List.mem_append_left _ e)
        · rcases a5 i hi ht with b | ⟨y, b1, b2⟩
          · rcases (st i hi.1).1 b with e | e
            · exact .inr ⟨x, List.mem_cons_self, .inl e⟩
            · exact .inl e
          · rcases List.mem_append.1 b1 with e | e
            · exact .inr ⟨y, List.mem_cons_of_mem _ e, b2⟩
            · refine .inr ⟨x, List.mem_cons_self, .inr ?_⟩
              rcases b2 with e2 | e2
              · subst e2; exact .base e
              · exact Rch.front e e2
        · by_cases e : i = x
          · subst e
            exact a4 z (List.mem_append_right _ hz)
          · exact a6 i hi ht (fun q => ((st i hi.1).1 q).elim e hn) z hz
theorem trans_L1 : ∀ (rest pre : List Bool) (out : List Int), (pre ++ rest).length ≤ 1000 → SS out → (∀ x ∈ out, x < (pre.length : Int)) → out.length ≤ pre.length →
    ∃ l, deps_Transitive.L1 out (pre ++ rest) ((pre ++ rest).length : Int) (pre.length : Int) = some (l, ()) ∧ SS l ∧ ∀ x, x ∈ l ↔ x ∈ out ∨ ((pre.length : Int) ≤ x ∧ x < ((pre ++ rest).length : Int) ∧ Tk (pre ++ rest) x) := by
  intro rest
  induction rest with
  | nil =>
    intro pre out h h2 h3 h4
    rw [deps_Transitive.L1_eq, deps_Transitive.SL1, cd_f (by simp)]
    refine ⟨out, rfl, h2, fun x => ⟨.inl, ?_⟩⟩
    rintro (a | ⟨a, b, _⟩)
    · exact a
    · simp at b; omega
  | cons y rest ih =>
    intro pre out h h2 h3 h4
    have hl := len_mid pre y rest
    have ty : Tk (pre ++ y :: rest) (pre.length : Int) ↔ y = true := by
      unfold Tk; rw [Int.toNat_natCast, getD_mid]
    rw [deps_Transitive.L1_eq, deps_Transitive.SL1, cd_t (by rw [hl]; omega), cd_b (by omega) (by rw [hl]; omega), Int.toNat_natCast, getD_mid, wrap_succ (by omega)]
    cases y with
    | true =>
      rw [cond_true, rm8 (by omega), cond_true]
      obtain ⟨l, e1, e2, e3⟩ := ih (pre ++ [true]) (out ++ [(pre.length : Int)]) (by rw [← mid_shift]; exact h) (by
        rw [SS, List.pairwise_append]
        exact ⟨h2, List.pairwise_singleton _ _, fun a ha b hb => by rw [List.mem_singleton.1 hb]; exact h3 a ha⟩) (fun x hx => by
        rw [len_snoc]
        rcases List.mem_append.1 hx with q | q
        · have := h3 x q; omega
        · rw [List.mem_singleton.1 q]; omega) (by simp; omega)
      rw [len_snoc, ← mid_shift] at e1
      refine ⟨l, e1, e2, fun x => ?_⟩
      rw [e3, List.mem_append, List.mem_singleton, len_snoc, ← mid_shift]
      constructor
      · rintro ((a | a) | ⟨a, b, c⟩)
        · exact .inl a
        · subst a; exact .inr ⟨by omega, by rw [hl]; omega, ty.2 rfl⟩
        · exact .inr ⟨by omega, b, c⟩
      · rintro (a | ⟨a, b, c⟩)
        · exact .inl (.inl a)
        · by_cases e : x = (pre.length : Int)
          · exact .inl (.inr e)
          · exact .inr ⟨by omega, b, c⟩
    | false =>
      rw [cond_false]
      obtain ⟨l, e1, e2, e3⟩ := ih (pre ++ [false]) out (by rw [← mid_shift]; exact h) h2 (fun x hx => by
        rw [len_snoc]
        have := h3 x hx; omega) (by simp; omega)
      rw [len_snoc, ← mid_shift] at e1
      refine ⟨l, e1, e2, fun x => ?_⟩
      rw [e3, len_snoc, ← mid_shift]
      constructor
      · rintro (a | ⟨a, b, c⟩)
        · exact .inl a
        · exact .inr ⟨by omega, b, c⟩
      · rintro (a | ⟨a, b, c⟩)
        · exact .inl a
        · by_cases e : x = (pre.length : Int)
          · subst e; exact absurd (ty.1 c) (by decide)
          · exact .inr ⟨by omega, b, c⟩
theorem mk1 {n : Nat} (h : n ≤ 1000) : (decide (0 ≤ ((n : Int) : Int)) && (decide (((n : Int) : Int) ≤ (n : Int)) && (decide (((n : Int) : Int) * 1 ≤ room) && (decide (((n : Int) : Int) ≤ maxLen) && decide (0 < Ty.nc .bool))))) = true := by
  have a : ((n : Int) : Int) * 1 ≤ room := by unfold room; omega
  have b : ((n : Int) : Int) ≤ maxLen := by unfold maxLen; omega
  have c : 0 < Ty.nc .bool := by decide
  rw [decide_eq_true (show (0 : Int) ≤ (n : Int) by omega), decide_eq_true (Int.le_refl (n : Int)), decide_eq_true a, decide_eq_true b, decide_eq_true c]
  rfl
theorem trans_own {s : api_ScopeV} (hs : Sm s) (d : Int) : ∃ l, deps_Transitive s d = some (l, ()) ∧ SS l ∧ ∀ x, x ∈ l ↔ Rch s d x := by
  have hN := hs.d
  have hN' : s.2.2.2.1.length ≤ 14 := hN
  simp only [deps_Transitive, deps_Transitive.Se, valid_val, bind_some']
  by_cases c : okD s d
  · rw [decide_eq_true c, Bool.not_true, cond_false]
    obtain ⟨d1, d2, d3, d4⟩ := direct_val hs d
    have dl := dir_le hs d
    rw [mk1 (by omega), cond_true, d1, bind_some']
    obtain ⟨sn, a1, a2, a3, a4, a5, a6⟩ := trans_L0 hs 1000 (List.replicate s.2.2.2.1.length false) (dir s d) (by simp [nD]) (fun x hx => (d4 x hx).1) (by
      have : cntF (List.replicate s.2.2.2.1.length false) ≤ s.2.2.2.1.length := by
        have := List.countP_le_length (p := fun b => !b) (l := List.replicate s.2.2.2.1.length false)
        rw [List.length_replicate] at this
        exact this
      omega) (by omega)
    obtain ⟨l, b1, b2, b3⟩ := trans_L1 sn [] [] (by simp; omega) .nil (fun x hx => by cases hx) (by simp)
    simp only [List.nil_append, List.length_nil, a2] at b1 b3
    have nt : ∀ i, ¬ Tk (List.replicate s.2.2.2.1.length false) i := by
      intro i h
      unfold Tk at h
      rw [List.getD_eq_getElem?_getD, List.getElem?_replicate] at h
      split at h <;> simp at h
    refine ⟨l, a1.trans b1, b2, fun x => ?_⟩
    rw [b3]
    constructor
    · rintro (h | ⟨h1, h2, h3⟩)
      · cases h
      · rcases a5 x ⟨h1, h2⟩ h3 with q | ⟨y, q1, q2⟩
        · exact absurd q (nt x)
        · rcases q2 with q2 | q2
          · subst q2; exact .base q1
          · exact Rch.front q1 q2
    · intro h
      have hk : Tk sn x := by
        induction h with
        | base h => exact a4 _ h
        | step h1 h2 ih => exact a6 _ (Rch.ok hs h1) ih (nt _) _ h2
      exact .inr ⟨(Rch.ok hs h).1, (Rch.ok hs h).2, hk⟩
  · rw [decide_eq_false c, Bool.not_false, cond_true]
    exact ⟨[], rfl, .nil, fun x => ⟨fun h => by (cases h), fun h => absurd (Rch.ok' hs h) c⟩⟩
theorem rtrans_L2 {s : api_ScopeV} (round : Int) (l : List Int) (i : Int) : ∀ (rest pre out : List Int), (pre ++ rest).length ≤ 1000 → out.length + rest.length ≤ 90000 → SS out →
    ∃ out', ref16_Transitive.L2 s out round l i (pre ++ rest) (pre.length : Int) = ref16_Transitive.L1 s out' round l (IntKind.i64.wrap (i + 1)) ∧ SS out' ∧ out'.length ≤ out.length + rest.length ∧ ∀ x, x ∈ out' ↔ x ∈ out ∨ x ∈ rest := by
  intro rest
  induction rest with
  | nil =>
    intro pre out h h2 h3
    rw [ref16_Transitive.L2_eq, ref16_Transitive.SL2, cd_f (by simp)]
    exact ⟨out, rfl, h3, by simp, fun x => by simp⟩
  | cons y rest ih =>
    intro pre out h h2 h3
    have hl := len_mid pre y rest
    rw [List.length_cons] at h2
    rw [ref16_Transitive.L2_eq, ref16_Transitive.SL2, cd_t (by rw [hl]; omega), cd_b (by omega) (by rw [hl]; omega), Int.toNat_natCast, getD_mid, wrap_succ (by omega), ins16_val _ _ (by omega), bind_some']
    have li := insS_length out y
    obtain ⟨o, h4, h5, h6, h7⟩ := ih (pre ++ [y]) (insS out y) (by rw [← mid_shift]; exact h) (by omega) (insS_SS _ _ h3)
    rw [len_snoc, ← mid_shift] at h4
    refine ⟨o, h4, h5, by simp; omega, fun x => ?_⟩
    rw [h7 x, insS_mem, List.mem_cons, or_assoc]
theorem rtrans_L1 {s : api_ScopeV} (hs : Sm s) (round : Int) : ∀ (rest pre out : List Int), (pre ++ rest).length ≤ 1000 → out.length ≤ 20 * pre.length + 1000 → SS out →
    ∃ out', ref16_Transitive.L1 s out round (pre ++ rest) (pre.length : Int) = ref16_Transitive.L0 s out' (IntKind.i64.wrap (round + 1)) ∧ SS out' ∧ ∀ x, x ∈ out' ↔ x ∈ out ∨ ∃ y ∈ rest, x ∈ dir s y := by
  intro rest
  induction rest with
  | nil =>
    intro pre out h h2 h3
    rw [ref16_Transitive.L1_eq, ref16_Transitive.SL1, cd_f (by simp)]
    exact ⟨out, rfl, h3, fun x => by simp⟩
  | cons y rest ih =>
    intro pre out h h2 h3
    have hl := len_mid pre y rest
    obtain ⟨d1, d2, d3, d4⟩ := direct_val hs y
    have dl := dir_le hs y
    rw [ref16_Transitive.L1_eq, ref16_Transitive.SL1, cd_t (by rw [hl]; omega), idx_mid, bind_some', d2, bind_some']
    obtain ⟨o, q1, q2, q3, q4⟩ := rtrans_L2 round (pre ++ y :: rest) (pre.length : Int) (dir s y) [] out (by simp; omega) (by omega) h3
    simp only [List.nil_append, List.length_nil] at q1
    rw [wrap_succ (by omega)] at q1
    obtain ⟨o', h4, h5, h7⟩ := ih (pre ++ [y]) o (by rw [← mid_shift]; exact h) (by simp; omega) q2
    rw [len_snoc, ← mid_shift] at h4
    refine ⟨o', q1.trans h4, h5, fun x => ?_⟩
    rw [h7 x, q4, or_assoc]
    simp only [List.mem_cons, exists_eq_or_imp]
theorem rtrans_L0 {s : api_ScopeV} (hs : Sm s) : ∀ (k : Nat) (round : Nat) (out : List Int), round + k = nD s → SS out → (∀ x ∈ out, okD s x) → ((∀ y ∈ out, ∀ x ∈ dir s y, x ∈ out) ∨ round + 1 ≤ out.length) →
    ∃ l, ref16_Transitive.L0 s out (round : Int) = some (l, ()) ∧ SS l ∧ (∀ x ∈ out, x ∈ l) ∧ (∀ y ∈ l, ∀ x ∈ dir s y, x ∈ l) ∧ ∀ x ∈ l, x ∈ out ∨ ∃ y ∈ out, Rch s y x := by
  intro k
  induction k with
  | zero =>
    intro round out h1 h2 h3 h4
    have hl : (round : Int) = (s.2.2.2.1.length : Int) := by have : round = s.2.2.2.1.length := h1; omega
    rw [ref16_Transitive.L0_eq, ref16_Transitive.SL0, cd_f (by omega)]
    refine ⟨out, rfl, h2, fun x h => h, ?_, fun x h => .inl h⟩
    rcases h4 with h | h
    · exact h
    · have := range_le h2 h3; omega
  | succ k ih =>
    intro round out h1 h2 h3 h4
    have hl : round + (k + 1) = s.2.2.2.1.length := h1
    have hN := hs.d
    have ol := range_le h2 h3
    rw [ref16_Transitive.L0_eq, ref16_Transitive.SL0, cd_t (by omega)]
    obtain ⟨o, q1, q2, q3⟩ := rtrans_L1 hs (round : Int) out [] out (by simp; omega) (by simp; omega) h2
    simp only [List.nil_append, List.length_nil] at q1
    rw [wrap_succ (by omega)] at q1
    have ho : ∀ x ∈ o, okD s x := fun x hx => by
      rcases (q3 x).1 hx with h | ⟨y, _, h⟩
      · exact h3 x h
      · exact ((direct_val hs y).2.2.2 x h).1
    obtain ⟨l, r1, r2, r3, r4, r5⟩ := ih (round + 1) o (by omega) q2 ho (by
      by_cases c : ∀ y ∈ out, ∀ x ∈ dir s y, x ∈ out
      · have e : ∀ x, x ∈ o ↔ x ∈ out := fun x => by
          rw [q3]
          exact ⟨fun h => h.elim id (fun ⟨y, h1, h2⟩ => c y h1 x h2), .inl⟩
        exact .inl (fun y hy x hx => (e x).2 (c y ((e y).1 hy) x hx))
      · refine .inr ?_
        have h4' : round + 1 ≤ out.length := h4.resolve_left c
        simp only [Classical.not_forall] at c
        obtain ⟨y, hy, x, hx, hn⟩ := c
        have := nodup_le (x :: out) o (List.nodup_cons.2 ⟨hn, h2.imp (fun h => by omega)⟩) (fun z hz => by
          rcases List.mem_cons.1 hz with e | e
          · subst e; exact (q3 _).2 (.inr ⟨y, hy, hx⟩)
          · exact (q3 _).2 (.inl e))
        simp at this
        omega)
    refine ⟨l, q1.trans r1, r2, fun x h => r3 x ((q3 x).2 (.inl h)), r4, fun x hx => ?_⟩
    rcases r5 x hx with h | ⟨y, h1, h2⟩
    · rcases (q3 x).1 h with h | ⟨y, h1, h2⟩
      · exact .inl h
      · exact .inr ⟨y, h1, .base h2⟩
    · rcases (q3 y).1 h1 with h | ⟨z, h3, h4⟩
      · exact .inr ⟨y, h, h2⟩
      · exact .inr ⟨z, h3, Rch.front h4 h2⟩
theorem trans_ref {s : api_ScopeV} (hs : Sm s) (d : Int) : ∃ l, ref16_Transitive s d = some (l, ()) ∧ SS l ∧ ∀ x, x ∈ l ↔ Rch s d x := by
  obtain ⟨d1, d2, d3, d4⟩ := direct_val hs d
  simp only [ref16_Transitive, ref16_Transitive.Se, d2, bind_some']
  obtain ⟨l, r1, r2, r3, r4, r5⟩ := rtrans_L0 hs (nD s) 0 (dir s d) (by omega) d3 (fun x hx => (d4 x hx).1) (by
    by_cases c : dir s d = []
    · rw [c]; exact .inl (fun y hy => by cases hy)
    · exact .inr (by have := List.length_pos_iff.2 c; omega))
  refine ⟨l, r1, r2, fun x => ⟨fun h => ?_, fun h => ?_⟩⟩
  · rcases r5 x h with h | ⟨y, h1, h2⟩
    · exact .base h
    · exact Rch.front h1 h2
  · induction h with
    | base h => exact r3 _ h
    | step h1 h2 ih => exact r4 _ ih _ h2
/-- What Transitive returns. -/
noncomputable def trs (s : api_ScopeV) (d : Int) : List Int := ((deps_Transitive s d).map fun x => x.1).getD []
theorem trans_val {s : api_ScopeV} (hs : Sm s) (d : Int) : deps_Transitive s d = some (trs s d, ()) ∧ ref16_Transitive s d = some (trs s d, ()) ∧ SS (trs s d) ∧ ∀ x, x ∈ trs s d ↔ Rch s d x := by
  obtain ⟨l, a1, a2, a3⟩ := trans_own hs d
  obtain ⟨l', b1, b2, b3⟩ := trans_ref hs d
  have := SS_unique a2 b2 (fun x => by rw [a3, b3])
  subst this
  have : trs s d = l := by unfold trs; rw [a1]; rfl
  rw [this]
  exact ⟨a1, b1, a2, a3⟩
theorem trs_le {s : api_ScopeV} (hs : Sm s) (d : Int) : (trs s d).length ≤ 14 := by
  obtain ⟨_, _, h3, h4⟩ := trans_val hs d
  have := range_le h3 (fun x hx => Rch.ok hs ((h4 x).1 hx))
  have := hs.d
  omega
end Go.Proofs.Ytdkglohjlfoncaa
