import Derived.Test.YtojafdgkcamliaaPC
set_option maxRecDepth 100000
set_option linter.unusedVariables false
set_option linter.unusedSimpArgs false
namespace Go.Proofs.Ytojafdgkcamliaa
open Go Go.Lift
theorem inD_same {l : List api_DateRangeV} {u : List Int} (hu : ∀ x, x ∈ u ↔ isEnd l x) {a b : Int} (ha : 0 ≤ a) (hab : a ≤ b) (hb : b ≤ 109572) (hn : ∀ c ∈ u.filter (fun x => !outd x), ¬ (a < c ∧ c ≤ b)) {r : api_DateRangeV} (hr : r ∈ l) : inD r a = inD r b := by
  unfold inD
  cases hv : vld r with
  | false => rfl
  | true =>
    rw [Bool.true_and, Bool.true_and, decide_eq_decide]
    simp only [vld, decide_eq_true_eq] at hv
    by_cases hp : r.1 < r.2.1
    · have hpr : prp r = true := prp_iff.2 ⟨by omega, hp, by omega⟩
      have key : ∀ c, (c = r.1 ∨ c = r.2.1) → ¬ (a < c ∧ c ≤ b) := fun c hc h => by
        refine hn c (List.mem_filter.2 ⟨(hu c).2 ⟨r, hr, hpr, hc⟩, ?_⟩) h
        simp only [outd]
        rw [decide_eq_false (by omega)]; rfl
      have k1 := key r.1 (.inl rfl)
      have k2 := key r.2.1 (.inr rfl)
      omega
    · omega
theorem sel_congr {α : Type} {p q : α → Bool} : ∀ (l : List α) (n : Nat), (∀ x ∈ l, p x = q x) → sel p n l = sel q n l
  | [], n, _ => rfl
  | x :: l, n, h => by
    rw [sel, sel, h x List.mem_cons_self, sel_congr l (n + 1) (fun y hy => h y (List.mem_cons_of_mem _ hy))]
theorem lawOn_same {l : api_LawV} {a b : Int} (h : ∀ r ∈ rangesOf l, inD r a = inD r b) : lawOn a l = lawOn b l := by
  have ht : ∀ t ∈ l.2.1, tabOn a t = tabOn b t := fun t ht => by
    have : rowsNow a t.2.2.2.1 = rowsNow b t.2.2.2.1 := by
      unfold rowsNow
      congr 1
      refine List.filter_congr fun x hx => h x.1 ?_
      exact List.mem_append_left _ (List.mem_flatMap.2 ⟨t, ht, List.mem_map.2 ⟨x, hx, rfl⟩⟩)
    simp only [tabOn, this]
  have hs : ∀ s ∈ l.2.2.1, scpOn a s = scpOn b s := fun s hs => by
    have : keptOf a s = keptOf b s := sel_congr _ _ fun r hr => h r.2.2.2.2.1 (List.mem_append_right _ (List.mem_flatMap.2 ⟨s, hs, List.mem_map.2 ⟨r, hr, rfl⟩⟩))
    simp only [scpOn, this]
  unfold lawOn
  rw [List.map_congr_left ht, List.map_congr_left hs]
theorem onL_same {l : api_LawV} {a b def_1 : Int} (h : ∀ r ∈ rangesOf l, inD r a = inD r b) {s : api_ScopeV} (hs : s ∈ l.2.2.1) : onL s def_1 a = onL s def_1 b :=
  sel_congr _ _ fun r hr => by
    simp only [frc]
    rw [h r.2.2.2.2.1 (List.mem_append_right _ (List.mem_flatMap.2 ⟨s, hs, List.mem_map.2 ⟨r, hr, rfl⟩⟩))]
theorem same_Ints_self {l : List Int} (h : l.length ≤ 1000000) : same_Ints l l = some (true, ()) := by rw [same_Ints_val (by rw [maxLen_eq]; omega)]; simp
theorem stable_L2 (aw : law15_awake = some (true, ())) {l : api_LawV} (hl : lawS l) {a b def_1 : Int} (h : ∀ r ∈ rangesOf l, inD r a = inD r b) : ∀ (rest pre : List api_ScopeV), l.2.2.1 = pre ++ rest → law15_EffectiveStable.L2 a b def_1 l (pre.length : Int) = some (true, ())
  | [], pre, e => by
    rw [law15_EffectiveStable.L2_eq, law15_EffectiveStable.SL2, e, cd_f (by simp)]
    simp only [lawOn_small hl, bind_some', lawOn_same h, law_refl _ (lawB_of (lawOn_S b hl)), cond_true, aw]
  | s :: rest, pre, e => by
    have hpl : pre.length + (rest.length + 1) ≤ 5 := by have := hl.2.2.1; rw [e, len_mid] at this; exact this
    have ih := stable_L2 aw hl (def_1 := def_1) h rest (pre ++ [s]) (by rw [e]; simp)
    rw [len_snoc] at ih
    have hm : s ∈ l.2.2.1 := by rw [e]; simp
    have hr := (hl.2.2.2 s hm).2.2.1
    obtain ⟨_, _, k3⟩ := onL_bd s def_1 b
    have i1 : idx l.2.2.1 (pre.length : Int) = some s := by rw [e]; exact idx_mid ..
    have e1 := same_Ints_self (l := onL s def_1 b) (by omega)
    have e2 := same_Ints_self (l := parentsOf s (onL s def_1 b) (onL s def_1 b)) (by rw [parentsOf, List.length_map]; omega)
    have e3 := same_Ints_self (l := priosOf s (onL s def_1 b)) (by rw [priosOf, List.length_map]; omega)
    rw [law15_EffectiveStable.L2_eq, law15_EffectiveStable.SL2, cd_t (by rw [e, len_mid]; omega), i1]
    simp only [bind_some', treeOn_val s def_1 a (by omega), treeOn_val s def_1 b (by omega), onL_same h hm, e1, e2, e3, Bool.not_true, cond_false, wrap_succ (show pre.length < 9223372036854775807 by omega), ih]
theorem stable_L1 (aw : law15_awake = some (true, ())) (l : api_LawV) (a b def_1 : Int) (C : List Int) (hC : C.length ≤ 1000000) (hend : (∀ c ∈ C, ¬ (a < c ∧ c ≤ b)) → law15_EffectiveStable.L2 a b def_1 l 0 = some (true, ())) :
    ∀ (rest pre : List Int), C = pre ++ rest → (∀ c ∈ pre, ¬ (a < c ∧ c ≤ b)) → law15_EffectiveStable.L1 a b def_1 l C (pre.length : Int) = some (true, ())
  | [], pre, e, hp => by
    rw [law15_EffectiveStable.L1_eq, law15_EffectiveStable.SL1, cd_f (by rw [e]; simp)]
    exact hend (by rw [e]; simpa using hp)
  | c :: rest, pre, e, hp => by
    have hpl : pre.length + (rest.length + 1) ≤ 1000000 := by rw [e, len_mid] at hC; exact hC
    have ih := fun hc => stable_L1 aw l a b def_1 C hC hend rest (pre ++ [c]) (by rw [e]; simp) hc
    rw [len_snoc] at ih
    have g0 : C.getD pre.length 0 = c := by rw [e]; exact getD_mid ..
    have cb : (decide (0 ≤ (pre.length : Int)) && decide ((pre.length : Int) < (C.length : Int))) = true := by
      rw [decide_eq_true (by omega), decide_eq_true (by rw [e, len_mid]; omega)]; rfl
    rw [law15_EffectiveStable.L1_eq, law15_EffectiveStable.SL1, cd_t (by rw [e, len_mid]; omega), cb]
    simp only [cond_true, Int.toNat_natCast, g0, aw, bind_some', wrap_succ (show pre.length < 9223372036854775807 by omega)]
    by_cases h1 : a < c
    · rw [cd_t h1]
      by_cases h2 : c ≤ b
      · rw [cd_t h2]
      · rw [cd_f h2]
        exact ih (fun y hy => by
          rcases List.mem_append.1 hy with h | h
          · exact hp y h
          · rw [List.mem_singleton] at h; subst h; exact fun h => h2 h.2)
    · rw [cd_f h1]
      exact ih (fun y hy => by
        rcases List.mem_append.1 hy with h | h
        · exact hp y h
        · rw [List.mem_singleton] at h; subst h; exact fun h => h1 h.1)
theorem effectiveStable_true (aw : law15_awake = some (true, ())) {l : api_LawV} (o : Ty.szd api_Law l) (a b def_1 : Int) : law15_EffectiveStable l a b def_1 = some (true, ()) := by
  obtain ⟨z, b1, b2⟩ := smallLaw_val o
  simp only [law15_EffectiveStable, law15_EffectiveStable.Se, b1, aw, bind_some']
  cases z with
  | false => rfl
  | true =>
    have h := b2 rfl
    simp only [Bool.not_true, cond_false]
    by_cases g1 : a < 0
    · rw [cd_t g1]
    by_cases g2 : a > b
    · rw [cd_f g1, cd_t g2]
    by_cases g3 : b > 109572
    · rw [cd_f g1, cd_f g2, cd_t g3]
    rw [cd_f g1, cd_f g2, cd_f g3, law15_EffectiveStable.J0_eq, law15_EffectiveStable.SJ0]
    obtain ⟨u, _, u2, u3, u4, _⟩ := changeDates_val h
    have hf := List.length_filter_le (fun x => !outd x) u
    simp only [u4, bind_some']
    exact stable_L1 aw l a b def_1 (u.filter (fun x => !outd x)) (by omega) (fun hn => stable_L2 aw h (fun r hr => inD_same u2 (by omega) (by omega) (by omega) hn hr) l.2.2.1 [] rfl) _ [] rfl (by simp)
end Go.Proofs.Ytojafdgkcamliaa
