import Derived.Test.YtfifnmmihekldaaPCd
set_option maxRecDepth 100000
set_option linter.unusedVariables false
set_option linter.unusedSimpArgs false
namespace Go.Proofs.Ytfifnmmihekldaa
open Go Go.Lift
theorem eqTy_refl (t : Ty) (x : t.den) (h : t.flat = true) : eqTy t x x = true := (eqTy_iff t x x h).2 rfl
def anyP {α : Type} (_ : α) : Prop := True
theorem same_Awards_L0 (a : List api_AwardV) (hn : a.length ≤ 1000000) (hp : ∀ x ∈ a, anyP x) : ∀ (d i : Nat), i + d = a.length → same_Awards.L0 a a (i : Int) = some (true, ())
  | 0, i, h => by rw [same_Awards.L0_eq, same_Awards.SL0, cd_f (by omega)]
  | d + 1, i, h => by
    have h1 : i < a.length := by omega
    have ih := same_Awards_L0 a hn hp d (i + 1) (by omega)
    have hx := hp a[i] (List.getElem_mem h1)
    rw [same_Awards.L0_eq, same_Awards.SL0, cd_t (by omega), cd_t (by omega), same_Awards.J1_eq, same_Awards.SJ1, idx_nat, List.getElem?_eq_getElem h1, wrap_succ (by omega), ih]
    generalize a[i] = x at hx ⊢
    simp only [bind_some', eqTy_refl (.pair (.int .i64) (.pair (.int .i64) (.pair (.int .i64) .unit))) x rfl, Bool.not_true, cond_false]
theorem same_Awards_refl (a : List api_AwardV) (hn : a.length ≤ 1000000) (hp : ∀ x ∈ a, anyP x) : same_Awards a a = some (true, ()) := by
  simp only [same_Awards, same_Awards.Se, bne_self_eq_false, cond_false]
  exact same_Awards_L0 a hn hp a.length 0 (by omega)
theorem clone_award (l : List api_AwardV) (h : l.length ≤ 1000000) : slices_Clone_api_Award_api_Award l = some (l, ()) := by
  rw [slices_Clone_api_Award_api_Award.plain, slices_Clone_api_Award_api_Award.P, room_eq, decide_eq_true (by omega)]
  rfl
theorem granted_val (l : List api_AppealV) (m : Int) : ruling_Granted l m = some (grantedR l m) := rfl
/-- An award after the appeals. -/
def apl (l : List api_AppealV) (x : api_AwardV) : api_AwardV := cond (grantedR l x.1).2.1 (x.1, (grantedR l x.1).1, 0, ()) x
theorem apply_L0 (l : List api_AppealV) : ∀ (rest pre : List api_AwardV), (pre ++ rest).length ≤ 1000000 → ruling_Apply.L0 l (pre ++ rest) ((pre ++ rest).length : Int) (pre.length : Int) = some (pre ++ rest.map (apl l), ())
  | [], pre, h => by
    rw [ruling_Apply.L0_eq, ruling_Apply.SL0, cd_f (by simp)]
    simp
  | x :: rest, pre, h => by
    have h' := h
    rw [len_mid] at h'
    have ih := fun y => apply_L0 l rest (pre ++ [y]) (by rw [← mid_shift, len_mid]; exact h')
    have hl : ∀ y, ((pre ++ [y]) ++ rest).length = (pre ++ x :: rest).length := fun y => by simp
    have hp : ∀ y, ((pre ++ [y]).length : Int) = ((pre.length + 1 : Nat) : Int) := fun y => by simp
    have hs : ∀ y, (pre ++ x :: rest).set pre.length y = (pre ++ [y]) ++ rest := fun y => by
      rw [List.set_append_right _ _ (Nat.le_refl _), Nat.sub_self]; simp
    have cb : (decide (0 ≤ (pre.length : Int)) && decide ((pre.length : Int) < ((pre ++ x :: rest).length : Int))) = true := by
      rw [decide_eq_true (by omega), decide_eq_true (by rw [len_mid]; omega)]; rfl
    rw [ruling_Apply.L0_eq, ruling_Apply.SL0, cd_t (by rw [len_mid]; omega), cb]
    simp only [cond_true, Int.toNat_natCast, getD_mid, granted_val, bind_some', wrap_succ (show pre.length < 9223372036854775807 by omega), hs]
    cases hg : (grantedR l x.1).2.1 with
    | false =>
      have i1 := ih x
      rw [hl, hp, ← mid_shift] at i1
      rw [cond_false, i1]
      simp [apl, hg]
    | true =>
      have i1 := ih (x.1, (grantedR l x.1).1, 0, ())
      rw [hl, hp] at i1
      rw [cond_true, i1]
      simp [apl, hg]
theorem apply_val (a : List api_AwardV) (l : List api_AppealV) (h : a.length ≤ 1000000) : ruling_Apply a l = some (a.map (apl l), ()) := by
  simp only [ruling_Apply, ruling_Apply.Se, clone_award a h, bind_some']
  exact apply_L0 l a [] (by simpa using h)
theorem apl_month (l : List api_AppealV) (x : api_AwardV) : (apl l x).1 = x.1 := by
  unfold apl; cases (grantedR l x.1).2.1 <;> rfl
theorem apl_idem (l : List api_AppealV) (x : api_AwardV) : apl l (apl l x) = apl l x := by
  have h := apl_month l x
  cases hg : (grantedR l x.1).2.1 with
  | false =>
    have e : apl l x = x := by simp [apl, hg]
    rw [e, e]
  | true =>
    have e : apl l x = (x.1, (grantedR l x.1).1, 0, ()) := by simp [apl, hg]
    rw [e]
    simp [apl, hg]
theorem rulingIdempotent_true (aw : law42_awake = some (true, ())) (a : List api_AwardV) (l : List api_AppealV) : law42_RulingIdempotent a l = some (true, ()) := by
  simp only [law42_RulingIdempotent, law42_RulingIdempotent.Se, aw, bind_some']
  by_cases g1 : (a.length : Int) > 200
  · rw [cd_t g1]
  by_cases g2 : (l.length : Int) > 100
  · rw [cd_f g1, cd_t g2]
  rw [cd_f g1, cd_f g2, law42_RulingIdempotent.J0_eq, law42_RulingIdempotent.SJ0]
  simp only [apply_val a l (by omega), bind_some', List.length_map, bne_self_eq_false, cond_false]
  have hmm : (a.map (apl l)).map (apl l) = a.map (apl l) := by
    rw [List.map_map]
    exact List.map_congr_left fun x _ => apl_idem l x
  have step : ∀ (rest pre : List api_AwardV), a = pre ++ rest → law42_RulingIdempotent.L1 a l (a.map (apl l)) (pre.length : Int) = some (true, ()) := by
    intro rest
    induction rest with
    | nil =>
      intro pre e
      rw [law42_RulingIdempotent.L1_eq, law42_RulingIdempotent.SL1, cd_f (by rw [e]; simp)]
      simp only [apply_val (a.map (apl l)) l (by simp; omega), hmm, bind_some', same_Awards_refl (a.map (apl l)) (by simp; omega) (fun _ _ => trivial), cond_true, aw]
    | cons x rest ih =>
      intro pre e
      have ih := ih (pre ++ [x]) (by rw [e]; simp)
      rw [len_snoc] at ih
      have hpl : pre.length + (rest.length + 1) = a.length := by rw [e, len_mid]
      have g0 : (a.map (apl l)).getD pre.length (0, 0, 0, ()) = apl l x := by
        rw [e, List.map_append, List.map_cons]
        have := getD_mid (pre.map (apl l)) (apl l x) (0, 0, 0, ()) (rest.map (apl l))
        rw [List.length_map] at this
        exact this
      have i0 : idx a (pre.length : Int) = some x := by rw [e]; exact idx_mid ..
      have cb : (decide (0 ≤ (pre.length : Int)) && decide ((pre.length : Int) < ((a.map (apl l)).length : Int))) = true := by
        rw [decide_eq_true (by omega), decide_eq_true (by rw [List.length_map]; omega)]; rfl
      rw [law42_RulingIdempotent.L1_eq, law42_RulingIdempotent.SL1, cd_t (by omega), i0, cb]
      simp only [bind_some', cond_true, Int.toNat_natCast, g0, granted_val, apl_month, bne_self_eq_false, cond_false, wrap_succ (show pre.length < 9223372036854775807 by omega), ih]
      cases hg : (grantedR l x.1).2.1 with
      | false =>
        have e : apl l x = x := by simp [apl, hg]
        rw [e]
        simp only [eqTy_refl api_Award x rfl, Bool.not_false, Bool.not_true, cond_true, cond_false]
      | true =>
        have e : apl l x = (x.1, (grantedR l x.1).1, 0, ()) := by simp [apl, hg]
        rw [e]
        simp only [bne_self_eq_false, Bool.not_true, cond_true, cond_false]
  exact step a [] rfl
end Go.Proofs.Ytfifnmmihekldaa
