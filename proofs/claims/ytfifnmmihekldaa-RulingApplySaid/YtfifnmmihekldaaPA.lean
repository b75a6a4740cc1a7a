import Derived.Test.YtfifnmmihekldaaPCd
set_option maxRecDepth 100000
set_option linter.unusedVariables false
set_option linter.unusedSimpArgs false
namespace Go.Proofs.Ytfifnmmihekldaa
open Go Go.Lift
theorem eqTy_refl (t : Ty) (x : t.den) (h : t.flat = true) : eqTy t x x = true := (eqTy_iff t x x h).2 rfl
def anyP {α : Type} (_ : α) : Prop := True
theorem same_Awards_L0 (a : List api_AwardV) (hn : a.length ≤ 1000000) (hp : ∀ x ∈ a, anyP x) : ∀ (d i : Nat), i + d = a.length → same_Awards.L0 a a (i : Int) = some (true, ())
  | 0, i, h => by rw [same_Awards.L0_eq, same_Awards.SL0, cd_f (by omega)]
  | d + 1, i, h => by
    have h1 : i < a.length := by omega
    have ih := same_Awards_L0 a hn hp d (i + 1) (by omega)
    have hx := hp a[i] (List.getElem_mem h1)
    rw [same_Awards.L0_eq, same_Awards.SL0, cd_t (by omega), cd_t (by omega), same_Awards.J1_eq, same_Awards.SJ1, idx_nat, List.getElem?_eq_getElem h1, wrap_succ (by omega), ih]
    generalize a[i] = x at hx ⊢
    simp only [bind_some', eqTy_refl (.pair (.int .i64) (.pair (.int .i64) (.pair (.int .i64) .unit))) x rfl, Bool.not_true, cond_false]
theorem same_Awards_refl (a : List api_AwardV) (hn : a.length ≤ 1000000) (hp : ∀ x ∈ a, anyP x) : same_Awards a a = some (true, ()) := by
  simp only [same_Awards, same_Awards.Se, bne_self_eq_false, cond_false]
  exact same_Awards_L0 a hn hp a.length 0 (by omega)
theorem clone_award (l : List api_AwardV) (h : l.length ≤ 1000000) : slices_Clone_api_Award_api_Award l = some (l, ()) := by
  rw [slices_Clone_api_Award_api_Award.plain, slices_Clone_api_Award_api_Award.P, room_eq, decide_eq_true (by omega)]
  rfl
theorem granted_snoc (l : List api_AppealV) (x : api_AppealV) (m : Int) : grantedR (l ++ [x]) m = cond (cvr m x) (x.2.2.2.2.2.2.1, true, ()) (grantedR l m) := by
  unfold grantedR
  rw [List.reverse_append, List.reverse_cons, List.reverse_nil, List.nil_append, List.cons_append, List.nil_append, List.find?_cons]
  cases cvr m x <;> rfl
theorem covers_val (x : api_AppealV) (m : Int) : ref42_Covers x m = some (decide (x.2.1 ≤ m) && decide (m < x.2.2.1), ()) := by
  simp only [ref42_Covers, ref42_Covers.Se]
  cases decide (x.2.1 ≤ m) <;> rfl
theorem rgranted_L0 (l : List api_AppealV) (m : Int) (hl : l.length ≤ 1000000) : ∀ k : Nat, k ≤ l.length → ref42_Granted.L0 l m ((k : Int) - 1) = some (grantedR (l.take k) m)
  | 0, _ => by
    rw [ref42_Granted.L0_eq, ref42_Granted.SL0, cd_f (by omega)]
    rfl
  | k + 1, h => by
    have hk : k < l.length := by omega
    have ih := rgranted_L0 l m hl k (by omega)
    have e : (((k + 1 : Nat) : Int) - 1) = (k : Int) := by omega
    have et : l.take (k + 1) = l.take k ++ [l[k]] := by rw [List.take_add_one, List.getElem?_eq_getElem hk]; rfl
    rw [e, ref42_Granted.L0_eq, ref42_Granted.SL0, cd_t (by omega), idx_nat, List.getElem?_eq_getElem hk, et, granted_snoc]
    simp only [bind_some', covers_val, wrap64 (n := (k : Int) - 1) (by omega) (by omega), ih]
    generalize l[k] = x
    show _ = some (cond ((x.2.2.2.2.2.1 == 3) && (decide (x.2.1 ≤ m) && decide (m < x.2.2.1))) _ _)
    cases x.2.2.2.2.2.1 == 3 with
    | false => rfl
    | true => cases decide (x.2.1 ≤ m) && decide (m < x.2.2.1) <;> rfl
theorem rgranted_val (l : List api_AppealV) (m : Int) (hl : l.length ≤ 1000000) : ref42_Granted l m = some (grantedR l m) := by
  simp only [ref42_Granted, ref42_Granted.Se]
  rw [wrap64 (by omega) (by omega), rgranted_L0 l m hl l.length (Nat.le_refl _), List.take_length]
theorem granted_val (l : List api_AppealV) (m : Int) : ruling_Granted l m = some (grantedR l m) := rfl
theorem rm24 {n : Nat} (h : n ≤ 1000000) : (decide (n * 24 ≤ room) && decide (0 < Ty.nc api_Award)) = true := by rw [room_eq, decide_eq_true (by omega)]; rfl
/-- An award after the appeals. -/
def apl (l : List api_AppealV) (x : api_AwardV) : api_AwardV := cond (grantedR l x.1).2.1 (x.1, (grantedR l x.1).1, 0, ()) x
theorem apply_L0 (l : List api_AppealV) : ∀ (rest pre : List api_AwardV), (pre ++ rest).length ≤ 1000000 → ruling_Apply.L0 l (pre ++ rest) ((pre ++ rest).length : Int) (pre.length : Int) = some (pre ++ rest.map (apl l), ())
  | [], pre, h => by
    rw [ruling_Apply.L0_eq, ruling_Apply.SL0, cd_f (by simp)]
    simp
  | x :: rest, pre, h => by
    have h' := h
    rw [len_mid] at h'
    have ih := fun y => apply_L0 l rest (pre ++ [y]) (by rw [← mid_shift, len_mid]; exact h')
    have hl : ∀ y, ((pre ++ [y]) ++ rest).length = (pre ++ x :: rest).length := fun y => by simp
    have hp : ∀ y, ((pre ++ [y]).length : Int) = ((pre.length + 1 : Nat) : Int) := fun y => by simp
    have hs : ∀ y, (pre ++ x :: rest).set pre.length y = (pre ++ [y]) ++ rest := fun y => by
      rw [List.set_append_right _ _ (Nat.le_refl _), Nat.sub_self]; simp
    have cb : (decide (0 ≤ (pre.length : Int)) && decide ((pre.length : Int) < ((pre ++ x :: rest).length : Int))) = true := by
      rw [decide_eq_true (by omega), decide_eq_true (by rw [len_mid]; omega)]; rfl
    rw [ruling_Apply.L0_eq, ruling_Apply.SL0, cd_t (by rw [len_mid]; omega), cb]
    simp only [cond_true, Int.toNat_natCast, getD_mid, granted_val, bind_some', wrap_succ (show pre.length < 9223372036854775807 by omega), hs]
    cases hg : (grantedR l x.1).2.1 with
    | false =>
      have i1 := ih x
      rw [hl, hp, ← mid_shift] at i1
      rw [cond_false, i1]
      simp [apl, hg]
    | true =>
      have i1 := ih (x.1, (grantedR l x.1).1, 0, ())
      rw [hl, hp] at i1
      rw [cond_true, i1]
      simp [apl, hg]
theorem apply_val (a : List api_AwardV) (l : List api_AppealV) (h : a.length ≤ 1000000) : ruling_Apply a l = some (a.map (apl l), ()) := by
  simp only [ruling_Apply, ruling_Apply.Se, clone_award a h, bind_some']
  exact apply_L0 l a [] (by simpa using h)
theorem rapply_L0 (l : List api_AppealV) (hl : l.length ≤ 1000000) : ∀ (rest pre out : List api_AwardV), (pre ++ rest).length ≤ 900000 → out.length ≤ pre.length → ref42_Apply.L0 (pre ++ rest) l out (pre.length : Int) = some (out ++ rest.map (apl l), ())
  | [], pre, out, h, ho => by
    rw [ref42_Apply.L0_eq, ref42_Apply.SL0, cd_f (by simp)]
    simp
  | x :: rest, pre, out, h, ho => by
    have h' := h
    rw [len_mid] at h'
    have ih := rapply_L0 l hl rest (pre ++ [x]) (out ++ [apl l x]) (by rw [← mid_shift]; exact h) (by simp; omega)
    rw [← mid_shift, len_snoc] at ih
    rw [ref42_Apply.L0_eq, ref42_Apply.SL0, cd_t (by rw [len_mid]; omega), idx_mid]
    simp only [bind_some', rgranted_val l _ hl, rm24 (show out.length + 1 ≤ 1000000 by omega), cond_true, wrap_succ (show pre.length < 9223372036854775807 by omega)]
    cases hg : (grantedR l x.1).2.1 with
    | false =>
      have e : apl l x = x := by simp [apl, hg]
      rw [e] at ih
      rw [cond_false, ih]
      simp [e]
    | true =>
      have e : apl l x = (x.1, (grantedR l x.1).1, 0, ()) := by simp [apl, hg]
      rw [e] at ih
      rw [cond_true, ih]
      simp [e]
theorem rapply_val (a : List api_AwardV) (l : List api_AppealV) (h : a.length ≤ 900000) (hl : l.length ≤ 1000000) : ref42_Apply a l = some (a.map (apl l), ()) := by
  simp only [ref42_Apply, ref42_Apply.Se]
  exact rapply_L0 l hl a [] [] (by simpa using h) (by simp)
theorem rulingApply_true (aw : law42_awake = some (true, ())) (a : List api_AwardV) (l : List api_AppealV) (m : Int) : law42_RulingApply a l m = some (true, ()) := by
  simp only [law42_RulingApply, law42_RulingApply.Se, aw, bind_some']
  by_cases g1 : (a.length : Int) > 200
  · rw [cd_t g1]
  by_cases g2 : (l.length : Int) > 100
  · rw [cd_f g1, cd_t g2]
  rw [cd_f g1, cd_f g2, law42_RulingApply.J0_eq, law42_RulingApply.SJ0]
  simp only [granted_val, rgranted_val l m (by omega), bind_some', beq_self_eq_true, cond_true, apply_val a l (by omega), rapply_val a l (by omega) (by omega), same_Awards_refl (a.map (apl l)) (by simp; omega) (fun _ _ => trivial), aw]
end Go.Proofs.Ytfifnmmihekldaa
