import Derived.Test.YtojafdgkcamliaaPI
set_option maxRecDepth 100000
set_option linter.unusedVariables false
set_option linter.unusedSimpArgs false
namespace Go.Proofs.Ytojafdgkcamliaa
open Go Go.Lift
theorem sel_back {α : Type} (z : α) (P : α → Bool) : ∀ (L : List α) (m : Nat), (sel P m L).map (fun j : Int => L.getD (j - (m : Int)).toNat z) = L.filter P
  | [], m => rfl
  | x :: L, m => by
    have ih := sel_back z P L (m + 1)
    have hc : (sel P (m + 1) L).map (fun j : Int => (x :: L).getD (j - (m : Int)).toNat z) = (sel P (m + 1) L).map (fun j : Int => L.getD (j - ((m + 1 : Nat) : Int)).toNat z) := by
      refine List.map_congr_left fun j hj => ?_
      have := ((sel_bd P L (m + 1)).1 j hj).1
      rw [show (j - (m : Int)).toNat = (j - ((m + 1 : Nat) : Int)).toNat + 1 by omega]
      rfl
    rw [sel]
    cases hp : P x with
    | true =>
      rw [cond_true, List.map_cons, hc, ih, List.filter_cons_of_pos hp, Int.sub_self]
      rfl
    | false =>
      rw [cond_false, hc, ih, List.filter_cons_of_neg (by simp [hp])]
theorem sel_filter {α : Type} {q p : α → Bool} {P : Int → Bool} : ∀ (R : List α) (n : Nat), (∀ (i : Nat) x, R[i]? = some x → P ((n + i : Nat) : Int) = p x) → (sel q n R).filter P = sel (fun x => q x && p x) n R
  | [], n, _ => rfl
  | x :: R, n, h => by
    have ih := sel_filter (q := q) (p := p) R (n + 1) (fun i y hy => by rw [show n + 1 + i = n + (i + 1) by omega]; exact h (i + 1) y (by simpa using hy))
    have h0 := h 0 x rfl
    simp only [Nat.add_zero] at h0
    rw [sel, sel]
    cases hq : q x with
    | false => rw [cond_false, ih]; simp
    | true =>
      rw [cond_true]
      cases hp : p x with
      | true =>
        rw [hp] at h0
        rw [List.filter_cons_of_pos h0, ih]; simp
      | false =>
        rw [hp] at h0
        rw [List.filter_cons_of_neg (by simp [h0]), ih]; simp
theorem sel_map {α β : Type} (f : α → β) (p : β → Bool) : ∀ (K : List α) (m : Nat), sel p m (K.map f) = sel (fun k => p (f k)) m K
  | [], m => rfl
  | x :: K, m => by rw [List.map_cons, sel, sel, sel_map f p K (m + 1)]
theorem onL_on {s : api_ScopeV} (def_1 : Int) {date : Int} (h0 : 0 ≤ date) (h1 : date ≤ 109572) : onL s def_1 date = (onL (scpOn date s) def_1 date).map (fun j => (keptOf date s).getD j.toNat 0) := by
  have e1 : onL (scpOn date s) def_1 date = sel (fun k => frc def_1 date (ruleNow s (keptOf date s) k)) 0 (keptOf date s) := sel_map _ _ _ _
  have hP : ∀ k, frc def_1 date (ruleNow s (keptOf date s) k) = ((s.2.2.2.2.1.getD k.toNat rule0).2.1 == def_1) := fun k => by
    show (_ == def_1 && inD ((0, 109573, ()) : api_DateRangeV) date) = _
    rw [inD_all h0 h1, Bool.and_true]
    rfl
  have e2 := sel_back 0 (fun k => frc def_1 date (ruleNow s (keptOf date s) k)) (keptOf date s) 0
  simp only [Int.natCast_zero, Int.sub_zero] at e2
  rw [e1, e2]
  have e3 := sel_filter (q := fun r : api_RuleV => inD r.2.2.2.2.1 date) (p := fun r : api_RuleV => r.2.1 == def_1) (P := fun k => frc def_1 date (ruleNow s (keptOf date s) k)) s.2.2.2.2.1 0 (fun i x hx => by
    rw [hP, Nat.zero_add, Int.toNat_natCast, List.getD_eq_getElem?_getD, hx]; rfl)
  show _ = (sel (fun r : api_RuleV => inD r.2.2.2.2.1 date) 0 s.2.2.2.2.1).filter _
  rw [e3]
  exact sel_congr _ _ fun r _ => by simp only [frc]; exact Bool.and_comm _ _
theorem restr_L2 {l : api_LawV} (hl : lawS l) {def_1 date : Int} (h0 : 0 ≤ date) (h1 : date ≤ 109572) {i : Nat} {s : api_ScopeV} (hi : l.2.2.1[i]? = some s) : ∀ (rest pre : List Int), onL (scpOn date s) def_1 date = pre ++ rest →
    law15_EffectiveRestricted.L2 date def_1 l (lawOn date l) (i : Int) (onL s def_1 date) (onL (scpOn date s) def_1 date) (pre.length : Int) = law15_EffectiveRestricted.L1 date def_1 l (lawOn date l) ((i + 1 : Nat) : Int) := by
  have hm : s ∈ l.2.2.1 := List.mem_of_getElem? hi
  have hS := hl.2.2.2 s hm
  have hi' : (lawOn date l).2.2.1[i]? = some (scpOn date s) := by
    show (l.2.2.1.map (scpOn date))[i]? = _
    rw [List.getElem?_map, hi]; rfl
  have hil : i < 5 := by have := (List.getElem?_eq_some_iff.1 hi).1; have := hl.2.2.1; omega
  obtain ⟨A, hA⟩ : ∃ A, onL s def_1 date = A := ⟨_, rfl⟩
  obtain ⟨B, hB⟩ : ∃ B, onL (scpOn date s) def_1 date = B := ⟨_, rfl⟩
  obtain ⟨K, hK⟩ : ∃ K, keptOf date s = K := ⟨_, rfl⟩
  have hAB := onL_on (s := s) def_1 h0 h1
  rw [hA, hB, hK] at hAB
  have hR' : (scpOn date s).2.2.2.2.1 = K.map (ruleNow s K) := by simp only [scpOn, hK]
  obtain ⟨k1, k2, k3⟩ := keptOf_bd date s
  rw [hK] at k1 k2 k3
  obtain ⟨c1, _, c3⟩ := onL_bd (scpOn date s) def_1 date
  rw [hB, hR', List.length_map] at c1 c3
  have hlen : A.length = B.length := by rw [hAB, List.length_map]
  have hBl : B.length ≤ 60 := by have := hS.2.2.1; omega
  rw [hA, hB]
  intro rest
  induction rest with
  | nil =>
    intro pre e
    rw [law15_EffectiveRestricted.L2_eq, law15_EffectiveRestricted.SL2, cd_f (by rw [hlen, e]; simp), wrap_succ (by omega)]
  | cons x rest ih =>
    intro pre e
    have ih := ih (pre ++ [x]) (by rw [e]; simp)
    rw [len_snoc] at ih
    have hpl : pre.length + (rest.length + 1) ≤ 60 := by rw [e, len_mid] at hBl; exact hBl
    have hx := c1 x (by rw [e]; simp)
    have hy : K.getD x.toNat 0 ∈ K := getD_mem 0 hx.1 hx.2
    obtain ⟨y, hyd⟩ : ∃ y, K.getD x.toNat 0 = y := ⟨_, rfl⟩
    rw [hyd] at hy
    obtain ⟨y0, y1⟩ := k1 y hy
    have gB : B.getD pre.length 0 = x := by rw [e]; exact getD_mid ..
    have gA : A.getD pre.length 0 = y := by
      rw [hAB, e, List.map_append, List.map_cons, hyd]
      have := getD_mid (pre.map fun j => K.getD j.toNat 0) y 0 (rest.map fun j => K.getD j.toNat 0)
      rw [List.length_map] at this
      exact this
    have ca : (decide (0 ≤ (pre.length : Int)) && decide ((pre.length : Int) < (A.length : Int))) = true := by
      rw [decide_eq_true (by omega), decide_eq_true (by rw [hlen, e, len_mid]; omega)]; rfl
    have cb : (decide (0 ≤ (pre.length : Int)) && decide ((pre.length : Int) < (B.length : Int))) = true := by
      rw [decide_eq_true (by omega), decide_eq_true (by rw [e, len_mid]; omega)]; rfl
    have r1 : idx s.2.2.2.2.1 y = some (s.2.2.2.2.1.getD y.toNat rule0) := idx_getD rule0 y0 y1
    have r2 : idx (scpOn date s).2.2.2.2.1 x = some (ruleNow s K y) := by
      rw [hR']
      obtain ⟨q, rfl⟩ : ∃ q : Nat, x = (q : Int) := ⟨x.toNat, by omega⟩
      rw [idx_nat, List.getElem?_map]
      rw [Int.toNat_natCast, List.getD_eq_getElem?_getD] at hyd
      have hq : q < K.length := by omega
      rw [List.getElem?_eq_getElem hq] at hyd ⊢
      simp only [Option.getD_some] at hyd
      rw [hyd]; rfl
    obtain ⟨q1, q2⟩ := hS.2.2.2 _ (getD_mem rule0 y0 y1)
    have n1 := same_Nodes_refl (s.2.2.2.2.1.getD y.toNat rule0).2.2.2.2.2.1 (by omega) (fun _ _ => trivial)
    have n2 := same_Nodes_refl (s.2.2.2.2.1.getD y.toNat rule0).2.2.2.2.2.2.1 (by omega) (fun _ _ => trivial)
    rw [law15_EffectiveRestricted.L2_eq, law15_EffectiveRestricted.SL2, cd_t (by rw [hlen, e, len_mid]; omega), ca, cb, law15_EffectiveRestricted.J3_eq, law15_EffectiveRestricted.SJ3, ca, cb]
    simp only [cond_true, Int.toNat_natCast, gA, gB, idx_nat, hi, hi', bind_some', r1, r2]
    rw [cd_f (by omega), cd_f (by omega), cd_f (by omega), cd_f (by rw [hR', List.length_map]; omega)]
    simp only [ruleNow, beq_self_eq_true, bne_self_eq_false, Bool.not_true, cond_false, n1, n2, bind_some', wrap_succ (show pre.length < 9223372036854775807 by omega)]
    exact ih
theorem restr_L1 (aw : law15_awake = some (true, ())) {l : api_LawV} (hl : lawS l) {def_1 date : Int} (h0 : 0 ≤ date) (h1 : date ≤ 109572) : ∀ (d i : Nat), i + d = l.2.2.1.length → law15_EffectiveRestricted.L1 date def_1 l (lawOn date l) (i : Int) = some (true, ())
  | 0, i, h => by
    rw [law15_EffectiveRestricted.L1_eq, law15_EffectiveRestricted.SL1, cd_f (by omega), aw]
    rfl
  | d + 1, i, h => by
    have hlt : i < l.2.2.1.length := by omega
    have hi : l.2.2.1[i]? = some l.2.2.1[i] := List.getElem?_eq_getElem hlt
    have hS := hl.2.2.2 _ (List.getElem_mem hlt)
    have hi' : (lawOn date l).2.2.1[i]? = some (scpOn date l.2.2.1[i]) := by
      show (l.2.2.1.map (scpOn date))[i]? = _
      rw [List.getElem?_map, hi]; rfl
    have l2 := restr_L2 hl (def_1 := def_1) h0 h1 hi (onL (scpOn date l.2.2.1[i]) def_1 date) [] rfl
    simp only [List.length_nil] at l2
    rw [show ((0 : Nat) : Int) = 0 from rfl] at l2
    have hlen : (onL l.2.2.1[i] def_1 date).length = (onL (scpOn date l.2.2.1[i]) def_1 date).length := by rw [onL_on def_1 h0 h1, List.length_map]
    have v1 := rulesOn_val l.2.2.1[i] def_1 date (by have := hS.2.2.1; omega)
    have v2 := rulesOn_val (scpOn date l.2.2.1[i]) def_1 date (by have := (scpOn_S date hS).2.2.1; omega)
    rw [law15_EffectiveRestricted.L1_eq, law15_EffectiveRestricted.SL1, cd_t (by omega), idx_nat, hi, idx_nat, hi']
    simp only [bind_some', v1, v2]
    show cond (((onL l.2.2.1[i] def_1 date).length : Int) != ((onL (scpOn date l.2.2.1[i]) def_1 date).length : Int)) _ (law15_EffectiveRestricted.L2 date def_1 l (lawOn date l) (i : Int) (onL l.2.2.1[i] def_1 date) (onL (scpOn date l.2.2.1[i]) def_1 date) 0) = _
    rw [hlen, bne_self_eq_false, cond_false, l2]
    exact restr_L1 aw hl h0 h1 d (i + 1) (by omega)
theorem effectiveRestricted_true (aw : law15_awake = some (true, ())) {l : api_LawV} (o : Ty.szd api_Law l) (date def_1 : Int) : law15_EffectiveRestricted l date def_1 = some (true, ()) := by
  obtain ⟨z, b1, b2⟩ := smallLaw_val o
  simp only [law15_EffectiveRestricted, law15_EffectiveRestricted.Se, b1, aw, bind_some']
  cases z with
  | false => rfl
  | true =>
    have h := b2 rfl
    simp only [Bool.not_true, cond_false]
    by_cases g1 : date < 0
    · rw [cd_t g1]
    by_cases g3 : date > 109572
    · rw [cd_f g1, cd_t g3]
    rw [cd_f g1, cd_f g3, law15_EffectiveRestricted.J0_eq, law15_EffectiveRestricted.SJ0]
    simp only [lawOn_small h, bind_some']
    have hlen : ((lawOn date l).2.2.1.length : Int) = (l.2.2.1.length : Int) := by
      show ((l.2.2.1.map (scpOn date)).length : Int) = _
      rw [List.length_map]
    rw [hlen, bne_self_eq_false, cond_false]
    exact restr_L1 aw h (by omega) (by omega) l.2.2.1.length 0 (by omega)
end Go.Proofs.Ytojafdgkcamliaa
