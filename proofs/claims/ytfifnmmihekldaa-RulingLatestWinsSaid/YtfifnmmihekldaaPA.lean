import Derived.Test.YtfifnmmihekldaaPCd
set_option maxRecDepth 100000
set_option linter.unusedVariables false
set_option linter.unusedSimpArgs false
namespace Go.Proofs.Ytfifnmmihekldaa
open Go Go.Lift
theorem granted_snoc (l : List api_AppealV) (x : api_AppealV) (m : Int) : grantedR (l ++ [x]) m = cond (cvr m x) (x.2.2.2.2.2.2.1, true, ()) (grantedR l m) := by
  unfold grantedR
  rw [List.reverse_append, List.reverse_cons, List.reverse_nil, List.nil_append, List.cons_append, List.nil_append, List.find?_cons]
  cases cvr m x <;> rfl
theorem covers_val (x : api_AppealV) (m : Int) : ref42_Covers x m = some (decide (x.2.1 ≤ m) && decide (m < x.2.2.1), ()) := by
  simp only [ref42_Covers, ref42_Covers.Se]
  cases decide (x.2.1 ≤ m) <;> rfl
theorem granted_val (l : List api_AppealV) (m : Int) : ruling_Granted l m = some (grantedR l m) := rfl
theorem rm56 {n : Nat} (h : n ≤ 1000000) : (decide (n * 56 ≤ room) && decide (0 < Ty.nc api_Appeal)) = true := by rw [room_eq, decide_eq_true (by omega)]; rfl
theorem rulingLatestWins_true (aw : law42_awake = some (true, ())) (l : List api_AppealV) (x : api_AppealV) (m : Int) : law42_RulingLatestWins l x m = some (true, ()) := by
  simp only [law42_RulingLatestWins, law42_RulingLatestWins.Se, aw, bind_some', granted_val]
  by_cases g1 : (l.length : Int) > 100
  · rw [cd_t g1]
  rw [cd_f g1, rm56 (show 0 + l.length ≤ 1000000 by omega), rm56 (show l.length + 1 ≤ 1000000 by omega)]
  simp only [cond_true, covers_val, bind_some', law42_RulingLatestWins.J0_eq, law42_RulingLatestWins.SJ0, granted_snoc, cvr, aw]
  cases x.2.2.2.2.2.1 == 3 with
  | false => simp
  | true =>
    cases decide (x.2.1 ≤ m) && decide (m < x.2.2.1) with
    | false => simp
    | true => simp
end Go.Proofs.Ytfifnmmihekldaa
