import Derived.Test.YtojafdgkcamliaaTys
set_option maxRecDepth 100000
set_option linter.unusedVariables false
namespace Go.Proofs.Ytojafdgkcamliaa
open Go Go.Lift
namespace law15_example
abbrev ps : List PM := []
abbrev rs : List RM := [.pure api_Scope]
abbrev R : Type := Option (api_ScopeV × Unit)
noncomputable def E : Env := { tt := tt, ctx := [], nt := 9, ann := [] }
noncomputable def fin : ASt → R := Kret E Try.f23.results.toList ps rs
noncomputable def Se : R :=
  some (([], (-1), [], [], [([], 0, (-1), 0, (0, 100, ()), [], [], [], ()), ([], 0, 0, 3, (50, 200, ()), [], [], [], ()), ([], 0, 1, 0, (0, 109573, ()), [], [], [], ())], ()), ())
theorem se (x : (argTy ps).den) : run E (lim E fin) fin depth (bodyOf Try.f23) .ret (entryFrom 0 ps x) = Se := by kernel_rfl
end law15_example
noncomputable def law15_example : law15_example.R :=
  law15_example.Se 
namespace law15_example
noncomputable def sig : Sig := ⟨ps, rs, fun x => law15_example⟩
theorem val (x : (argTy ps).den) : lim E fin (.code (bodyOf Try.f23) .ret) (entryFrom 0 ps x) = sig.run x := (lim_eq (.code (bodyOf Try.f23) .ret) (entryFrom 0 ps x)).trans (se x)
theorem ok : CallOK Try.prog 23 sig :=
  callOK_of_lim (E := E) mixed tt_ok ctxOk_nil Try.func23 (by kernel_rfl : Try.f23.body = some (bodyOf Try.f23)) Try.ntmps23 (of_decide_eq_true (by kernel_rfl)) (of_decide_eq_true (by kernel_rfl)) fun x y h => (val x).trans h
noncomputable def ctxc (n : Nat) : List (Nat × Sig) := []
noncomputable def sigc (n : Nat) : Sig := ⟨ps, rs, fun x => runs (withCtx E (ctxc n)) fin n (.code (bodyOf Try.f23) .ret) (entryFrom 0 ps x)⟩
theorem sigc_le (n : Nat) : ∀ x y, (sigc n).run x = some y → sig.run x = some y := fun x y h => (val x).symm.trans (runs_lim (E := E) (c := ctxc n) ctxLe_nil h)
end law15_example
namespace daterange_Valid
abbrev ps : List PM := [.pure api_DateRange]
abbrev rs : List RM := [.pure .bool]
abbrev R : Type := Option (Bool × Unit)
noncomputable def E : Env := { tt := tt, ctx := [], nt := 18, ann := [] }
noncomputable def fin : ASt → R := Kret E Try.f44.results.toList ps rs
noncomputable def Se (r_0 : api_DateRangeV) : R :=
  cond (decide (0 ≤ r_0.1))
    (cond (decide (r_0.1 ≤ r_0.2.1))
      (some (decide (r_0.2.1 ≤ 109573), ()))
      (some (false, ())))
    (some (false, ()))
theorem se (x : (argTy ps).den) : run E (lim E fin) fin depth (bodyOf Try.f44) .ret (entryFrom 0 ps x) = Se x.1 := by kernel_rfl
end daterange_Valid
noncomputable def daterange_Valid (r_0 : api_DateRangeV) : daterange_Valid.R :=
  daterange_Valid.Se r_0
namespace daterange_Valid
noncomputable def sig : Sig := ⟨ps, rs, fun x => daterange_Valid x.1⟩
theorem val (x : (argTy ps).den) : lim E fin (.code (bodyOf Try.f44) .ret) (entryFrom 0 ps x) = sig.run x := (lim_eq (.code (bodyOf Try.f44) .ret) (entryFrom 0 ps x)).trans (se x)
theorem ok : CallOK Try.prog 44 sig :=
  callOK_of_lim (E := E) mixed tt_ok ctxOk_nil Try.func44 (by kernel_rfl : Try.f44.body = some (bodyOf Try.f44)) Try.ntmps44 (of_decide_eq_true (by kernel_rfl)) (of_decide_eq_true (by kernel_rfl)) fun x y h => (val x).trans h
noncomputable def ctxc (n : Nat) : List (Nat × Sig) := []
noncomputable def sigc (n : Nat) : Sig := ⟨ps, rs, fun x => runs (withCtx E (ctxc n)) fin n (.code (bodyOf Try.f44) .ret) (entryFrom 0 ps x)⟩
theorem sigc_le (n : Nat) : ∀ x y, (sigc n).run x = some y → sig.run x = some y := fun x y h => (val x).symm.trans (runs_lim (E := E) (c := ctxc n) ctxLe_nil h)
end daterange_Valid
namespace daterange_Contains
abbrev ps : List PM := [.pure api_DateRange, .pure (.int .i64)]
abbrev rs : List RM := [.pure .bool]
abbrev R : Type := Option (Bool × Unit)
noncomputable def E : Env := { tt := tt, ctx := [(44, daterange_Valid.sig)], nt := 19, ann := [] }
noncomputable def fin : ASt → R := Kret E Try.f27.results.toList ps rs
noncomputable def Se (r_0 : api_DateRangeV) (date : Int) : R :=
  Option.bind (daterange_Valid r_0) fun x1 =>
  cond x1.1
    (cond (decide (r_0.1 ≤ date))
      (some (decide (date < r_0.2.1), ()))
      (some (false, ())))
    (some (false, ()))
theorem se (x : (argTy ps).den) : run E (lim E fin) fin depth (bodyOf Try.f27) .ret (entryFrom 0 ps x) = Se x.1 x.2.1 := by kernel_rfl
end daterange_Contains
noncomputable def daterange_Contains (r_0 : api_DateRangeV) (date : Int) : daterange_Contains.R :=
  daterange_Contains.Se r_0 date
namespace daterange_Contains
noncomputable def sig : Sig := ⟨ps, rs, fun x => daterange_Contains x.1 x.2.1⟩
theorem val (x : (argTy ps).den) : lim E fin (.code (bodyOf Try.f27) .ret) (entryFrom 0 ps x) = sig.run x := (lim_eq (.code (bodyOf Try.f27) .ret) (entryFrom 0 ps x)).trans (se x)
theorem ok : CallOK Try.prog 27 sig :=
  callOK_of_lim (E := E) mixed tt_ok (ctxOk_cons ctxOk_nil daterange_Valid.ok Try.func44 (by kernel_rfl) (by kernel_rfl)) Try.func27 (by kernel_rfl : Try.f27.body = some (bodyOf Try.f27)) Try.ntmps27 (of_decide_eq_true (by kernel_rfl)) (of_decide_eq_true (by kernel_rfl)) fun x y h => (val x).trans h
noncomputable def ctxc (n : Nat) : List (Nat × Sig) := [(44, daterange_Valid.sigc n)]
noncomputable def sigc (n : Nat) : Sig := ⟨ps, rs, fun x => runs (withCtx E (ctxc n)) fin n (.code (bodyOf Try.f27) .ret) (entryFrom 0 ps x)⟩
theorem sigc_le (n : Nat) : ∀ x y, (sigc n).run x = some y → sig.run x = some y := fun x y h => (val x).symm.trans (runs_lim (E := E) (c := ctxc n) (ctxLe_cons ctxLe_nil (daterange_Valid.sigc_le n)) h)
end daterange_Contains
namespace effective_RulesOn
abbrev ps : List PM := [.pure api_Scope, .pure (.int .i64), .pure (.int .i64)]
abbrev rs : List RM := [.own (.int .i64)]
abbrev R : Type := Option (List Int × Unit)
noncomputable def E : Env := { tt := tt, ctx := [(27, daterange_Contains.sig)], nt := 34, ann := [(1000003, [(1, .keep), (2, .keep), (7, .own (.int .i64)), (11, .keep), (12, .keep), (13, .keep)])] }
noncomputable def c0 : Code := sub [1, 1, 1] (bodyOf Try.f14)
noncomputable def c1 : Code := sub [1, 1, 0, 1, 0, 0] (bodyOf Try.f14)
noncomputable def K3 : Kont := .seq c0 .ret
noncomputable def K5 : Kont := .blk 0 K3
noncomputable def fin : ASt → R := Kret E Try.f14.results.toList ps rs
def tL0 (def_1 : Int) (date : Int) (out : List Int) (v_11 : List api_RuleV) (v_12 : Int) (v_13 : Int) : ASt := ⟨[(13, .one (.val (.int .i64) v_13)), (12, .one (.val (.int .i64) v_12)), (11, .one (.val (.sl api_Rule) v_11)), (7, .one (.own 7)), (2, .one (.val (.int .i64) date)), (1, .one (.val (.int .i64) def_1))], [(7, some ⟨.free, .int .i64, out⟩)]⟩
noncomputable def L0 (def_1 : Int) (date : Int) (out : List Int) (v_11 : List api_RuleV) (v_12 : Int) (v_13 : Int) : R := lim E fin (.loop c1 K5) (tL0 def_1 date out v_11 v_12 v_13)
noncomputable def SL0 (def_1 : Int) (date : Int) (out : List Int) (v_11 : List api_RuleV) (v_12 : Int) (v_13 : Int) : R :=
  cond (decide (v_13 < v_12))
    (Option.bind (idx v_11 v_13) fun x1 =>
    cond (x1.2.1 == def_1)
      (Option.bind (daterange_Contains x1.2.2.2.2.1 date) fun x2 =>
      cond x2.1
        (cond (decide ((out.length + 1) * 8 ≤ room) && decide (0 < Ty.nc (.int .i64)))
          (L0 def_1 date (out ++ [v_13]) v_11 v_12 (IntKind.i64.wrap (v_13 + 1)))
          none)
        (L0 def_1 date out v_11 v_12 (IntKind.i64.wrap (v_13 + 1))))
      (L0 def_1 date out v_11 v_12 (IntKind.i64.wrap (v_13 + 1))))
    (some (out, ()))
noncomputable def Se (s : api_ScopeV) (def_1 : Int) (date : Int) : R :=
  L0 def_1 date [] s.2.2.2.2.1 (s.2.2.2.2.1.length : Int) 0
theorem L0_eq (def_1 date out v_11 v_12 v_13) : L0 def_1 date out v_11 v_12 v_13 = SL0 def_1 date out v_11 v_12 v_13 := (lim_eq (.loop c1 K5) (tL0 def_1 date out v_11 v_12 v_13)).trans (by kernel_rfl)
theorem se (x : (argTy ps).den) : run E (lim E fin) fin depth (bodyOf Try.f14) .ret (entryFrom 0 ps x) = Se x.1 x.2.1 x.2.2.1 := by kernel_rfl
end effective_RulesOn
noncomputable def effective_RulesOn (s : api_ScopeV) (def_1 : Int) (date : Int) : effective_RulesOn.R :=
  effective_RulesOn.Se s def_1 date
namespace effective_RulesOn
noncomputable def sig : Sig := ⟨ps, rs, fun x => effective_RulesOn x.1 x.2.1 x.2.2.1⟩
theorem val (x : (argTy ps).den) : lim E fin (.code (bodyOf Try.f14) .ret) (entryFrom 0 ps x) = sig.run x := (lim_eq (.code (bodyOf Try.f14) .ret) (entryFrom 0 ps x)).trans (se x)
theorem ok : CallOK Try.prog 14 sig :=
  callOK_of_lim (E := E) mixed tt_ok (ctxOk_cons ctxOk_nil daterange_Contains.ok Try.func27 (by kernel_rfl) (by kernel_rfl)) Try.func14 (by kernel_rfl : Try.f14.body = some (bodyOf Try.f14)) Try.ntmps14 (of_decide_eq_true (by kernel_rfl)) (of_decide_eq_true (by kernel_rfl)) fun x y h => (val x).trans h
noncomputable def ctxc (n : Nat) : List (Nat × Sig) := [(27, daterange_Contains.sigc n)]
noncomputable def sigc (n : Nat) : Sig := ⟨ps, rs, fun x => runs (withCtx E (ctxc n)) fin n (.code (bodyOf Try.f14) .ret) (entryFrom 0 ps x)⟩
theorem sigc_le (n : Nat) : ∀ x y, (sigc n).run x = some y → sig.run x = some y := fun x y h => (val x).symm.trans (runs_lim (E := E) (c := ctxc n) (ctxLe_cons ctxLe_nil (daterange_Contains.sigc_le n)) h)
end effective_RulesOn
namespace slices_Index_int_int
abbrev ps : List PM := [.pure (.sl (.int .i64)), .pure (.int .i64)]
abbrev rs : List RM := [.pure (.int .i64)]
abbrev R : Type := Option (Int × Unit)
noncomputable def E : Env := { tt := tt, ctx := [], nt := 19, ann := [(1000002, [(0, .keep), (1, .keep), (7, .keep), (8, .keep)])] }
noncomputable def c0 : Code := sub [1, 1] (bodyOf Try.f41)
noncomputable def c1 : Code := sub [1, 0, 1, 0, 0] (bodyOf Try.f41)
noncomputable def K2 : Kont := .seq c0 .ret
noncomputable def K4 : Kont := .blk 0 K2
noncomputable def fin : ASt → R := Kret E Try.f41.results.toList ps rs
def tL0 (s : List Int) (v_1 : Int) (v_7 : Int) (v_8 : Int) : ASt := ⟨[(8, .one (.val (.int .i64) v_8)), (7, .one (.val (.int .i64) v_7)), (1, .one (.val (.int .i64) v_1)), (0, .one (.val (.sl (.int .i64)) s))], []⟩
noncomputable def L0 (s : List Int) (v_1 : Int) (v_7 : Int) (v_8 : Int) : R := lim E fin (.loop c1 K4) (tL0 s v_1 v_7 v_8)
noncomputable def SL0 (s : List Int) (v_1 : Int) (v_7 : Int) (v_8 : Int) : R :=
  cond (decide (v_8 < v_7))
    (Option.bind (idx s v_8) fun x1 =>
    cond (v_1 == x1)
      (some (v_8, ()))
      (L0 s v_1 v_7 (IntKind.i64.wrap (v_8 + 1))))
    (some ((-1), ()))
noncomputable def Se (s : List Int) (v : Int) : R :=
  L0 s v (s.length : Int) 0
theorem L0_eq (s v_1 v_7 v_8) : L0 s v_1 v_7 v_8 = SL0 s v_1 v_7 v_8 := (lim_eq (.loop c1 K4) (tL0 s v_1 v_7 v_8)).trans (by kernel_rfl)
theorem se (x : (argTy ps).den) : run E (lim E fin) fin depth (bodyOf Try.f41) .ret (entryFrom 0 ps x) = Se x.1 x.2.1 := by kernel_rfl
end slices_Index_int_int
noncomputable def slices_Index_int_int (s : List Int) (v : Int) : slices_Index_int_int.R :=
  slices_Index_int_int.Se s v
namespace slices_Index_int_int
noncomputable def sig : Sig := ⟨ps, rs, fun x => slices_Index_int_int x.1 x.2.1⟩
theorem val (x : (argTy ps).den) : lim E fin (.code (bodyOf Try.f41) .ret) (entryFrom 0 ps x) = sig.run x := (lim_eq (.code (bodyOf Try.f41) .ret) (entryFrom 0 ps x)).trans (se x)
theorem ok : CallOK Try.prog 41 sig :=
  callOK_of_lim (E := E) mixed tt_ok ctxOk_nil Try.func41 (by kernel_rfl : Try.f41.body = some (bodyOf Try.f41)) Try.ntmps41 (of_decide_eq_true (by kernel_rfl)) (of_decide_eq_true (by kernel_rfl)) fun x y h => (val x).trans h
noncomputable def ctxc (n : Nat) : List (Nat × Sig) := []
noncomputable def sigc (n : Nat) : Sig := ⟨ps, rs, fun x => runs (withCtx E (ctxc n)) fin n (.code (bodyOf Try.f41) .ret) (entryFrom 0 ps x)⟩
theorem sigc_le (n : Nat) : ∀ x y, (sigc n).run x = some y → sig.run x = some y := fun x y h => (val x).symm.trans (runs_lim (E := E) (c := ctxc n) ctxLe_nil h)
end slices_Index_int_int
namespace effective_ancestor
abbrev ps : List PM := [.pure api_Scope, .pure (.int .i64), .pure (.sl (.int .i64))]
abbrev rs : List RM := [.pure (.int .i64)]
abbrev R : Type := Option (Int × Unit)
noncomputable def E : Env := { tt := tt, ctx := [(41, slices_Index_int_int.sig)], nt := 29, ann := [(1000001, [(1, .keep), (2, .keep), (3, .keep)]), (4, [(2, .keep), (3, .keep), (7, .keep)])] }
noncomputable def c0 : Code := sub [1, 0, 0] (bodyOf Try.f24)
noncomputable def c1 : Code := sub [1, 0, 0, 0, 1, 1] (bodyOf Try.f24)
noncomputable def K2 : Kont := .blk 0 .ret
noncomputable def K3 : Kont := .loop c0 K2
noncomputable def K4 : Kont := .blk 1 K3
noncomputable def fin : ASt → R := Kret E Try.f24.results.toList ps rs
def tL0 (i : Int) (kept : List Int) (s : api_ScopeV) : ASt := ⟨[(3, .one (.optr 3 0 [])), (2, .one (.val (.sl (.int .i64)) kept)), (1, .one (.val (.int .i64) i))], [(3, some ⟨.free, api_Scope, [s]⟩)]⟩
def tJ1 (kept : List Int) (s : api_ScopeV) (p : Int) : ASt := ⟨[(7, .one (.val (.int .i64) p)), (3, .one (.optr 3 0 [])), (2, .one (.val (.sl (.int .i64)) kept))], [(3, some ⟨.free, api_Scope, [s]⟩)]⟩
noncomputable def L0 (i : Int) (kept : List Int) (s : api_ScopeV) : R := lim E fin (.loop c0 K2) (tL0 i kept s)
noncomputable def J1 (kept : List Int) (s : api_ScopeV) (p : Int) : R := lim E fin (.code c1 K4) (tJ1 kept s p)
noncomputable def SL0 (i : Int) (kept : List Int) (s : api_ScopeV) : R :=
  Option.bind (idx s.2.2.2.2.1 i) fun x1 =>
  cond (decide (x1.2.2.1 < 0))
    (some ((-1), ()))
    (cond (decide (x1.2.2.1 ≥ i))
      (some ((-1), ()))
      (J1 kept s x1.2.2.1))
noncomputable def SJ1 (kept : List Int) (s : api_ScopeV) (p : Int) : R :=
  Option.bind (slices_Index_int_int kept p) fun x1 =>
  cond (decide (x1.1 ≥ 0))
    (some (x1.1, ()))
    (L0 p kept s)
noncomputable def Se (s : api_ScopeV) (i : Int) (kept : List Int) : R :=
  L0 i kept s
theorem L0_eq (i kept s) : L0 i kept s = SL0 i kept s := (lim_eq (.loop c0 K2) (tL0 i kept s)).trans (by kernel_rfl)
theorem J1_eq (kept s p) : J1 kept s p = SJ1 kept s p := (lim_eq (.code c1 K4) (tJ1 kept s p)).trans (by kernel_rfl)
theorem se (x : (argTy ps).den) : run E (lim E fin) fin depth (bodyOf Try.f24) .ret (entryFrom 0 ps x) = Se x.1 x.2.1 x.2.2.1 := by kernel_rfl
end effective_ancestor
noncomputable def effective_ancestor (s : api_ScopeV) (i : Int) (kept : List Int) : effective_ancestor.R :=
  effective_ancestor.Se s i kept
namespace effective_ancestor
noncomputable def sig : Sig := ⟨ps, rs, fun x => effective_ancestor x.1 x.2.1 x.2.2.1⟩
theorem val (x : (argTy ps).den) : lim E fin (.code (bodyOf Try.f24) .ret) (entryFrom 0 ps x) = sig.run x := (lim_eq (.code (bodyOf Try.f24) .ret) (entryFrom 0 ps x)).trans (se x)
theorem ok : CallOK Try.prog 24 sig :=
  callOK_of_lim (E := E) mixed tt_ok (ctxOk_cons ctxOk_nil slices_Index_int_int.ok Try.func41 (by kernel_rfl) (by kernel_rfl)) Try.func24 (by kernel_rfl : Try.f24.body = some (bodyOf Try.f24)) Try.ntmps24 (of_decide_eq_true (by kernel_rfl)) (of_decide_eq_true (by kernel_rfl)) fun x y h => (val x).trans h
noncomputable def ctxc (n : Nat) : List (Nat × Sig) := [(41, slices_Index_int_int.sigc n)]
noncomputable def sigc (n : Nat) : Sig := ⟨ps, rs, fun x => runs (withCtx E (ctxc n)) fin n (.code (bodyOf Try.f24) .ret) (entryFrom 0 ps x)⟩
theorem sigc_le (n : Nat) : ∀ x y, (sigc n).run x = some y → sig.run x = some y := fun x y h => (val x).symm.trans (runs_lim (E := E) (c := ctxc n) (ctxLe_cons ctxLe_nil (slices_Index_int_int.sigc_le n)) h)
end effective_ancestor
namespace effective_TreeOn
abbrev ps : List PM := [.pure api_Scope, .pure (.int .i64), .pure (.int .i64)]
abbrev rs : List RM := [.own (.int .i64), .own (.int .i64), .own (.int .i64)]
abbrev R : Type := Option (List Int × List Int × List Int × Unit)
noncomputable def E : Env := { tt := tt, ctx := [(14, effective_RulesOn.sig), (24, effective_ancestor.sig)], nt := 44, ann := [(1000004, [(3, .keep), (9, .keep), (10, .own (.int .i64)), (11, .own (.int .i64)), (18, .keep), (19, .keep), (20, .keep)])] }
noncomputable def c0 : Code := sub [1, 1, 1, 1] (bodyOf Try.f11)
noncomputable def c1 : Code := sub [1, 1, 1, 0, 1, 0, 0] (bodyOf Try.f11)
noncomputable def K4 : Kont := .seq c0 .ret
noncomputable def K6 : Kont := .blk 0 K4
noncomputable def fin : ASt → R := Kret E Try.f11.results.toList ps rs
def tL0 (s : api_ScopeV) (rules : List Int) (parents : List Int) (priorities : List Int) (v_19 : Int) (v_20 : Int) : ASt := ⟨[(20, .one (.val (.int .i64) v_20)), (19, .one (.val (.int .i64) v_19)), (18, .one (.own 9)), (11, .one (.own 11)), (10, .one (.own 10)), (9, .one (.own 9)), (3, .one (.optr 3 0 []))], [(11, some ⟨.free, .int .i64, priorities⟩), (10, some ⟨.free, .int .i64, parents⟩), (9, some ⟨.free, .int .i64, rules⟩), (3, some ⟨.free, api_Scope, [s]⟩)]⟩
noncomputable def L0 (s : api_ScopeV) (rules : List Int) (parents : List Int) (priorities : List Int) (v_19 : Int) (v_20 : Int) : R := lim E fin (.loop c1 K6) (tL0 s rules parents priorities v_19 v_20)
noncomputable def SL0 (s : api_ScopeV) (rules : List Int) (parents : List Int) (priorities : List Int) (v_19 : Int) (v_20 : Int) : R :=
  cond (decide (v_20 < v_19))
    (cond (decide (0 ≤ v_20) && decide (v_20 < (rules.length : Int)))
      (Option.bind (effective_ancestor s (rules.getD v_20.toNat 0) rules) fun x1 =>
      cond (decide ((parents.length + 1) * 8 ≤ room) && decide (0 < Ty.nc (.int .i64)))
        (Option.bind (idx s.2.2.2.2.1 (rules.getD v_20.toNat 0)) fun x2 =>
        cond (decide ((priorities.length + 1) * 8 ≤ room) && decide (0 < Ty.nc (.int .i64)))
          (L0 s rules (parents ++ [x1.1]) (priorities ++ [x2.2.2.2.1]) v_19 (IntKind.i64.wrap (v_20 + 1)))
          none)
        none)
      none)
    (some (rules, parents, priorities, ()))
noncomputable def Se (s : api_ScopeV) (def_1 : Int) (date : Int) : R :=
  Option.bind (effective_RulesOn s def_1 date) fun x1 =>
  L0 s x1.1 [] [] (x1.1.length : Int) 0
theorem L0_eq (s rules parents priorities v_19 v_20) : L0 s rules parents priorities v_19 v_20 = SL0 s rules parents priorities v_19 v_20 := (lim_eq (.loop c1 K6) (tL0 s rules parents priorities v_19 v_20)).trans (by kernel_rfl)
theorem se (x : (argTy ps).den) : run E (lim E fin) fin depth (bodyOf Try.f11) .ret (entryFrom 0 ps x) = Se x.1 x.2.1 x.2.2.1 := by kernel_rfl
end effective_TreeOn
noncomputable def effective_TreeOn (s : api_ScopeV) (def_1 : Int) (date : Int) : effective_TreeOn.R :=
  effective_TreeOn.Se s def_1 date
namespace effective_TreeOn
noncomputable def sig : Sig := ⟨ps, rs, fun x => effective_TreeOn x.1 x.2.1 x.2.2.1⟩
theorem val (x : (argTy ps).den) : lim E fin (.code (bodyOf Try.f11) .ret) (entryFrom 0 ps x) = sig.run x := (lim_eq (.code (bodyOf Try.f11) .ret) (entryFrom 0 ps x)).trans (se x)
theorem ok : CallOK Try.prog 11 sig :=
  callOK_of_lim (E := E) mixed tt_ok (ctxOk_cons (ctxOk_cons ctxOk_nil effective_ancestor.ok Try.func24 (by kernel_rfl) (by kernel_rfl)) effective_RulesOn.ok Try.func14 (by kernel_rfl) (by kernel_rfl)) Try.func11 (by kernel_rfl : Try.f11.body = some (bodyOf Try.f11)) Try.ntmps11 (of_decide_eq_true (by kernel_rfl)) (of_decide_eq_true (by kernel_rfl)) fun x y h => (val x).trans h
noncomputable def ctxc (n : Nat) : List (Nat × Sig) := [(14, effective_RulesOn.sigc n), (24, effective_ancestor.sigc n)]
noncomputable def sigc (n : Nat) : Sig := ⟨ps, rs, fun x => runs (withCtx E (ctxc n)) fin n (.code (bodyOf Try.f11) .ret) (entryFrom 0 ps x)⟩
theorem sigc_le (n : Nat) : ∀ x y, (sigc n).run x = some y → sig.run x = some y := fun x y h => (val x).symm.trans (runs_lim (E := E) (c := ctxc n) (ctxLe_cons (ctxLe_cons ctxLe_nil (effective_ancestor.sigc_le n)) (effective_RulesOn.sigc_le n)) h)
end effective_TreeOn
namespace slices_Clone_string_string
abbrev ps : List PM := [.pure (.sl .str)]
abbrev rs : List RM := [.own .str]
abbrev R : Type := Option (List (List UInt8) × Unit)
noncomputable def E : Env := { tt := tt, ctx := [], nt := 8, ann := [] }
noncomputable def fin : ASt → R := Kret E Try.f32.results.toList ps rs
noncomputable def Se (s : List (List UInt8)) : R :=
  cond (List.isEmpty s)
    (both
      (some ([], ()))
      (cond (decide ((0 + s.length) * 16 ≤ room) && decide (0 < Ty.nc .str))
        (some (s, ()))
        none))
    (cond (decide ((0 + s.length) * 16 ≤ room) && decide (0 < Ty.nc .str))
      (some (s, ()))
      none)
theorem se (x : (argTy ps).den) : run E (lim E fin) fin depth (bodyOf Try.f32) .ret (entryFrom 0 ps x) = Se x.1 := by kernel_rfl
end slices_Clone_string_string
noncomputable def slices_Clone_string_string (s : List (List UInt8)) : slices_Clone_string_string.R :=
  slices_Clone_string_string.Se s
namespace slices_Clone_string_string
noncomputable def sig : Sig := ⟨ps, rs, fun x => slices_Clone_string_string x.1⟩
theorem val (x : (argTy ps).den) : lim E fin (.code (bodyOf Try.f32) .ret) (entryFrom 0 ps x) = sig.run x := (lim_eq (.code (bodyOf Try.f32) .ret) (entryFrom 0 ps x)).trans (se x)
theorem ok : CallOK Try.prog 32 sig :=
  callOK_of_lim (E := E) mixed tt_ok ctxOk_nil Try.func32 (by kernel_rfl : Try.f32.body = some (bodyOf Try.f32)) Try.ntmps32 (of_decide_eq_true (by kernel_rfl)) (of_decide_eq_true (by kernel_rfl)) fun x y h => (val x).trans h
noncomputable def P (s : List (List UInt8)) : R :=
  cond (decide ((0 + s.length) * 16 ≤ room) && decide (0 < Ty.nc .str))
    (some (s, ()))
    none
theorem plain (s : List (List UInt8)) : slices_Clone_string_string s = P s := by
  cases s with
  | nil => exact both_eq (by kernel_rfl)
  | cons x l => rfl
noncomputable def sigc (_ : Nat) : Sig := ⟨ps, rs, fun x => P x.1⟩
theorem sigc_le (n : Nat) : ∀ x y, (sigc n).run x = some y → sig.run x = some y := fun x y h => (plain x.1).trans h
end slices_Clone_string_string
namespace slices_Clone_api_Field_api_Field
abbrev ps : List PM := [.pure (.sl api_Field)]
abbrev rs : List RM := [.own api_Field]
abbrev R : Type := Option (List api_FieldV × Unit)
noncomputable def E : Env := { tt := tt, ctx := [], nt := 8, ann := [] }
noncomputable def fin : ASt → R := Kret E Try.f49.results.toList ps rs
noncomputable def Se (s : List api_FieldV) : R :=
  cond (List.isEmpty s)
    (both
      (some ([], ()))
      (cond (decide ((0 + s.length) * 32 ≤ room) && decide (0 < Ty.nc (.pair .str (.pair (.pair (.int .i64) (.pair (.int .i64) .unit)) .unit))))
        (some (s, ()))
        none))
    (cond (decide ((0 + s.length) * 32 ≤ room) && decide (0 < Ty.nc (.pair .str (.pair (.pair (.int .i64) (.pair (.int .i64) .unit)) .unit))))
      (some (s, ()))
      none)
theorem se (x : (argTy ps).den) : run E (lim E fin) fin depth (bodyOf Try.f49) .ret (entryFrom 0 ps x) = Se x.1 := by kernel_rfl
end slices_Clone_api_Field_api_Field
noncomputable def slices_Clone_api_Field_api_Field (s : List api_FieldV) : slices_Clone_api_Field_api_Field.R :=
  slices_Clone_api_Field_api_Field.Se s
namespace slices_Clone_api_Field_api_Field
noncomputable def sig : Sig := ⟨ps, rs, fun x => slices_Clone_api_Field_api_Field x.1⟩
theorem val (x : (argTy ps).den) : lim E fin (.code (bodyOf Try.f49) .ret) (entryFrom 0 ps x) = sig.run x := (lim_eq (.code (bodyOf Try.f49) .ret) (entryFrom 0 ps x)).trans (se x)
theorem ok : CallOK Try.prog 49 sig :=
  callOK_of_lim (E := E) mixed tt_ok ctxOk_nil Try.func49 (by kernel_rfl : Try.f49.body = some (bodyOf Try.f49)) Try.ntmps49 (of_decide_eq_true (by kernel_rfl)) (of_decide_eq_true (by kernel_rfl)) fun x y h => (val x).trans h
noncomputable def P (s : List api_FieldV) : R :=
  cond (decide ((0 + s.length) * 32 ≤ room) && decide (0 < Ty.nc (.pair .str (.pair (.pair (.int .i64) (.pair (.int .i64) .unit)) .unit))))
    (some (s, ()))
    none
theorem plain (s : List api_FieldV) : slices_Clone_api_Field_api_Field s = P s := by
  cases s with
  | nil => exact both_eq (by kernel_rfl)
  | cons x l => rfl
noncomputable def sigc (_ : Nat) : Sig := ⟨ps, rs, fun x => P x.1⟩
theorem sigc_le (n : Nat) : ∀ x y, (sigc n).run x = some y → sig.run x = some y := fun x y h => (plain x.1).trans h
end slices_Clone_api_Field_api_Field
namespace slices_Clone_api_Node_api_Node
abbrev ps : List PM := [.pure (.sl api_DateRange)]
abbrev rs : List RM := [.own api_DateRange]
abbrev R : Type := Option (List api_DateRangeV × Unit)
noncomputable def E : Env := { tt := tt, ctx := [], nt := 8, ann := [] }
noncomputable def fin : ASt → R := Kret E Try.f48.results.toList ps rs
noncomputable def Se (s : List api_DateRangeV) : R :=
  cond (List.isEmpty s)
    (both
      (some ([], ()))
      (cond (decide ((0 + s.length) * 16 ≤ room) && decide (0 < Ty.nc (.pair (.int .i64) (.pair (.int .i64) .unit))))
        (some (s, ()))
        none))
    (cond (decide ((0 + s.length) * 16 ≤ room) && decide (0 < Ty.nc (.pair (.int .i64) (.pair (.int .i64) .unit))))
      (some (s, ()))
      none)
theorem se (x : (argTy ps).den) : run E (lim E fin) fin depth (bodyOf Try.f48) .ret (entryFrom 0 ps x) = Se x.1 := by kernel_rfl
end slices_Clone_api_Node_api_Node
noncomputable def slices_Clone_api_Node_api_Node (s : List api_DateRangeV) : slices_Clone_api_Node_api_Node.R :=
  slices_Clone_api_Node_api_Node.Se s
namespace slices_Clone_api_Node_api_Node
noncomputable def sig : Sig := ⟨ps, rs, fun x => slices_Clone_api_Node_api_Node x.1⟩
theorem val (x : (argTy ps).den) : lim E fin (.code (bodyOf Try.f48) .ret) (entryFrom 0 ps x) = sig.run x := (lim_eq (.code (bodyOf Try.f48) .ret) (entryFrom 0 ps x)).trans (se x)
theorem ok : CallOK Try.prog 48 sig :=
  callOK_of_lim (E := E) mixed tt_ok ctxOk_nil Try.func48 (by kernel_rfl : Try.f48.body = some (bodyOf Try.f48)) Try.ntmps48 (of_decide_eq_true (by kernel_rfl)) (of_decide_eq_true (by kernel_rfl)) fun x y h => (val x).trans h
noncomputable def P (s : List api_DateRangeV) : R :=
  cond (decide ((0 + s.length) * 16 ≤ room) && decide (0 < Ty.nc (.pair (.int .i64) (.pair (.int .i64) .unit))))
    (some (s, ()))
    none
theorem plain (s : List api_DateRangeV) : slices_Clone_api_Node_api_Node s = P s := by
  cases s with
  | nil => exact both_eq (by kernel_rfl)
  | cons x l => rfl
noncomputable def sigc (_ : Nat) : Sig := ⟨ps, rs, fun x => P x.1⟩
theorem sigc_le (n : Nat) : ∀ x y, (sigc n).run x = some y → sig.run x = some y := fun x y h => (plain x.1).trans h
end slices_Clone_api_Node_api_Node
namespace effective_scopeOn
abbrev ps : List PM := [.pure api_Scope, .pure (.int .i64)]
abbrev rs : List RM := [.pure api_Scope]
abbrev R : Type := Option (api_ScopeV × Unit)
noncomputable def E : Env := { tt := tt, ctx := [(27, daterange_Contains.sig), (24, effective_ancestor.sig), (48, slices_Clone_api_Node_api_Node.sig), (49, slices_Clone_api_Field_api_Field.sig)], nt := 71, ann := [(1000003, [(1, .keep), (2, .keep), (4, .keep), (5, .own (.int .i64)), (13, .keep), (14, .keep), (15, .keep)]), (1000010, [(2, .keep), (4, .keep), (5, .own (.int .i64)), (8, .own api_Rule), (29, .own (.int .i64)), (30, .keep), (31, .keep)])] }
noncomputable def c0 : Code := sub [1, 1, 1] (bodyOf Try.f33)
noncomputable def c1 : Code := sub [1, 1, 1, 1, 1] (bodyOf Try.f33)
noncomputable def c2 : Code := sub [1, 1, 0, 1, 0, 0] (bodyOf Try.f33)
noncomputable def c3 : Code := sub [1, 1, 1, 1, 0, 1, 0, 0] (bodyOf Try.f33)
noncomputable def K3 : Kont := .seq c0 .ret
noncomputable def K5 : Kont := .blk 0 K3
noncomputable def K14 : Kont := .seq c1 .ret
noncomputable def K16 : Kont := .blk 2 K14
noncomputable def fin : ASt → R := Kret E Try.f33.results.toList ps rs
def tL0 (date : Int) (s : api_ScopeV) (v_4 : api_ScopeV) (kept : List Int) (v_13 : List api_RuleV) (v_14 : Int) (v_15 : Int) : ASt := ⟨[(15, .one (.val (.int .i64) v_15)), (14, .one (.val (.int .i64) v_14)), (13, .one (.val (.sl api_Rule) v_13)), (5, .one (.own 5)), (4, .one (.optr 4 0 [])), (2, .one (.optr 2 0 [])), (1, .one (.val (.int .i64) date))], [(5, some ⟨.free, .int .i64, kept⟩), (4, some ⟨.free, api_Scope, [v_4]⟩), (2, some ⟨.free, api_Scope, [s]⟩)]⟩
def tL1 (s : api_ScopeV) (v_4 : api_ScopeV) (kept : List Int) (rules : List api_RuleV) (v_30 : Int) (v_31 : Int) : ASt := ⟨[(31, .one (.val (.int .i64) v_31)), (30, .one (.val (.int .i64) v_30)), (29, .one (.own 5)), (8, .one (.own 8)), (5, .one (.own 5)), (4, .one (.optr 4 0 [])), (2, .one (.optr 2 0 []))], [(8, some ⟨.free, api_Rule, rules⟩), (5, some ⟨.free, .int .i64, kept⟩), (4, some ⟨.free, api_Scope, [v_4]⟩), (2, some ⟨.free, api_Scope, [s]⟩)]⟩
noncomputable def L0 (date : Int) (s : api_ScopeV) (v_4 : api_ScopeV) (kept : List Int) (v_13 : List api_RuleV) (v_14 : Int) (v_15 : Int) : R := lim E fin (.loop c2 K5) (tL0 date s v_4 kept v_13 v_14 v_15)
noncomputable def L1 (s : api_ScopeV) (v_4 : api_ScopeV) (kept : List Int) (rules : List api_RuleV) (v_30 : Int) (v_31 : Int) : R := lim E fin (.loop c3 K16) (tL1 s v_4 kept rules v_30 v_31)
noncomputable def SL0 (date : Int) (s : api_ScopeV) (v_4 : api_ScopeV) (kept : List Int) (v_13 : List api_RuleV) (v_14 : Int) (v_15 : Int) : R :=
  cond (decide (v_15 < v_14))
    (Option.bind (idx v_13 v_15) fun x1 =>
    Option.bind (daterange_Contains x1.2.2.2.2.1 date) fun x2 =>
    cond x2.1
      (cond (decide ((kept.length + 1) * 8 ≤ room) && decide (0 < Ty.nc (.int .i64)))
        (L0 date s v_4 (kept ++ [v_15]) v_13 v_14 (IntKind.i64.wrap (v_15 + 1)))
        none)
      (L0 date s v_4 kept v_13 v_14 (IntKind.i64.wrap (v_15 + 1))))
    (L1 s v_4 kept [] (kept.length : Int) 0)
noncomputable def SL1 (s : api_ScopeV) (v_4 : api_ScopeV) (kept : List Int) (rules : List api_RuleV) (v_30 : Int) (v_31 : Int) : R :=
  cond (decide (v_31 < v_30))
    (cond (decide (0 ≤ v_31) && decide (v_31 < (kept.length : Int)))
      (Option.bind (idx s.2.2.2.2.1 (kept.getD v_31.toNat 0)) fun x1 =>
      Option.bind (effective_ancestor s (kept.getD v_31.toNat 0) kept) fun x2 =>
      Option.bind (slices_Clone_api_Node_api_Node x1.2.2.2.2.2.1) fun x3 =>
      Option.bind (slices_Clone_api_Node_api_Node x1.2.2.2.2.2.2.1) fun x4 =>
      cond (decide ((rules.length + 1) * 120 ≤ room) && decide (0 < Ty.nc (.pair .str (.pair (.int .i64) (.pair (.int .i64) (.pair (.int .i64) (.pair (.pair (.int .i64) (.pair (.int .i64) .unit)) (.pair (.sl (.pair (.int .i64) (.pair (.int .i64) .unit))) (.pair (.sl (.pair (.int .i64) (.pair (.int .i64) .unit))) (.pair .str .unit))))))))))
        (L1 s v_4 kept (rules ++ [(x1.1, x1.2.1, x2.1, x1.2.2.2.1, (0, 109573, ()), x3.1, x4.1, x1.2.2.2.2.2.2.2.1, ())]) v_30 (IntKind.i64.wrap (v_31 + 1)))
        none)
      none)
    (Option.bind (slices_Clone_api_Field_api_Field s.2.2.1) fun x5 =>
    Option.bind (slices_Clone_api_Field_api_Field s.2.2.2.1) fun x6 =>
    some ((s.1, s.2.1, x5.1, x6.1, rules, ()), ()))
noncomputable def Se (s : api_ScopeV) (date : Int) : R :=
  L0 date s ([], 0, [], [], [], ()) [] s.2.2.2.2.1 (s.2.2.2.2.1.length : Int) 0
theorem L0_eq (date s v_4 kept v_13 v_14 v_15) : L0 date s v_4 kept v_13 v_14 v_15 = SL0 date s v_4 kept v_13 v_14 v_15 := (lim_eq (.loop c2 K5) (tL0 date s v_4 kept v_13 v_14 v_15)).trans (by kernel_rfl)
theorem L1_eq (s v_4 kept rules v_30 v_31) : L1 s v_4 kept rules v_30 v_31 = SL1 s v_4 kept rules v_30 v_31 := (lim_eq (.loop c3 K16) (tL1 s v_4 kept rules v_30 v_31)).trans (by kernel_rfl)
theorem se (x : (argTy ps).den) : run E (lim E fin) fin depth (bodyOf Try.f33) .ret (entryFrom 0 ps x) = Se x.1 x.2.1 := by kernel_rfl
end effective_scopeOn
noncomputable def effective_scopeOn (s : api_ScopeV) (date : Int) : effective_scopeOn.R :=
  effective_scopeOn.Se s date
namespace effective_scopeOn
noncomputable def sig : Sig := ⟨ps, rs, fun x => effective_scopeOn x.1 x.2.1⟩
theorem val (x : (argTy ps).den) : lim E fin (.code (bodyOf Try.f33) .ret) (entryFrom 0 ps x) = sig.run x := (lim_eq (.code (bodyOf Try.f33) .ret) (entryFrom 0 ps x)).trans (se x)
theorem ok : CallOK Try.prog 33 sig :=
  callOK_of_lim (E := E) mixed tt_ok (ctxOk_cons (ctxOk_cons (ctxOk_cons (ctxOk_cons ctxOk_nil slices_Clone_api_Field_api_Field.ok Try.func49 (by kernel_rfl) (by kernel_rfl)) slices_Clone_api_Node_api_Node.ok Try.func48 (by kernel_rfl) (by kernel_rfl)) effective_ancestor.ok Try.func24 (by kernel_rfl) (by kernel_rfl)) daterange_Contains.ok Try.func27 (by kernel_rfl) (by kernel_rfl)) Try.func33 (by kernel_rfl : Try.f33.body = some (bodyOf Try.f33)) Try.ntmps33 (of_decide_eq_true (by kernel_rfl)) (of_decide_eq_true (by kernel_rfl)) fun x y h => (val x).trans h
noncomputable def ctxc (n : Nat) : List (Nat × Sig) := [(27, daterange_Contains.sigc n), (24, effective_ancestor.sigc n), (48, slices_Clone_api_Node_api_Node.sigc n), (49, slices_Clone_api_Field_api_Field.sigc n)]
noncomputable def sigc (n : Nat) : Sig := ⟨ps, rs, fun x => runs (withCtx E (ctxc n)) fin n (.code (bodyOf Try.f33) .ret) (entryFrom 0 ps x)⟩
theorem sigc_le (n : Nat) : ∀ x y, (sigc n).run x = some y → sig.run x = some y := fun x y h => (val x).symm.trans (runs_lim (E := E) (c := ctxc n) (ctxLe_cons (ctxLe_cons (ctxLe_cons (ctxLe_cons ctxLe_nil (slices_Clone_api_Field_api_Field.sigc_le n)) (slices_Clone_api_Node_api_Node.sigc_le n)) (effective_ancestor.sigc_le n)) (daterange_Contains.sigc_le n)) h)
end effective_scopeOn
namespace effective_LawOn
abbrev ps : List PM := [.pure api_Law, .pure (.int .i64)]
abbrev rs : List RM := [.pure api_Law]
abbrev R : Type := Option (api_LawV × Unit)
noncomputable def E : Env := { tt := tt, ctx := [(32, slices_Clone_string_string.sig), (27, daterange_Contains.sig), (33, effective_scopeOn.sig)], nt := 85, ann := [(1000003, [(1, .keep), (2, .keep), (4, .keep), (5, .var [(0, .own api_Enum), (1, .keep), (2, .keep)]), (16, .keep), (17, .keep), (18, .keep)]), (1000008, [(1, .keep), (2, .keep), (4, .keep), (5, .var [(0, .own api_Enum), (1, .own api_Table), (2, .keep)]), (35, .keep), (36, .keep), (37, .keep)]), (1000012, [(1, .keep), (2, .keep), (4, .keep), (5, .var [(0, .own api_Enum), (1, .own api_Table), (2, .keep)]), (9, .keep), (10, .own api_Row), (35, .keep), (36, .keep), (37, .keep), (42, .keep), (43, .keep), (44, .keep)]), (1000022, [(1, .keep), (4, .keep), (5, .var [(0, .own api_Enum), (1, .own api_Table), (2, .own api_Scope)]), (69, .keep), (70, .keep), (71, .keep)]), (2000005, [])] }
noncomputable def c0 : Code := sub [1, 1, 1] (bodyOf Try.f17)
noncomputable def c1 : Code := sub [1, 1, 1, 1] (bodyOf Try.f17)
noncomputable def c2 : Code := sub [1, 1, 1, 0, 1, 0, 0] (bodyOf Try.f17)
noncomputable def c3 : Code := sub [1, 1, 1, 0, 1, 0, 0, 1, 1, 1] (bodyOf Try.f17)
noncomputable def c4 : Code := sub [1, 1, 1, 0, 1, 0, 0, 1, 1, 0, 0, 1, 1, 1] (bodyOf Try.f17)
noncomputable def c5 : Code := sub [1, 1, 1, 1, 1] (bodyOf Try.f17)
noncomputable def c6 : Code := sub [1, 1, 0, 1, 0, 0] (bodyOf Try.f17)
noncomputable def c7 : Code := sub [1, 1, 1, 0, 1, 0, 0, 1, 1, 0, 0, 1, 1, 0, 1, 0, 0] (bodyOf Try.f17)
noncomputable def c8 : Code := sub [1, 1, 1, 1, 0, 1, 0, 0] (bodyOf Try.f17)
noncomputable def K3 : Kont := .seq c0 .ret
noncomputable def K5 : Kont := .blk 0 K3
noncomputable def K12 : Kont := .seq c1 .ret
noncomputable def K14 : Kont := .blk 2 K12
noncomputable def K15 : Kont := .loop c2 K14
noncomputable def K18 : Kont := .seq c3 K15
noncomputable def K19 : Kont := .blk 3 K18
noncomputable def K22 : Kont := .seq c4 K19
noncomputable def K24 : Kont := .blk 4 K22
noncomputable def K26 : Kont := .seq c5 .ret
noncomputable def K28 : Kont := .blk 6 K26
noncomputable def fin : ASt → R := Kret E Try.f17.results.toList ps rs
def tL0 (date : Int) (l : api_LawV) (v_4 : api_LawV) (out_0 : List api_EnumV) (v_16 : List api_EnumV) (v_17 : Int) (v_18 : Int) : ASt := ⟨[(18, .one (.val (.int .i64) v_18)), (17, .one (.val (.int .i64) v_17)), (16, .one (.val (.sl api_Enum) v_16)), (5, .one (.vptr 5 api_Law 0)), (4, .one (.optr 4 0 [])), (2, .one (.optr 2 0 [])), (1, .one (.val (.int .i64) date))], [(5, some ⟨.var [(0, .own 100320), (1, .nilsl), (2, .nilsl)], api_Law, []⟩), (100320, some ⟨.free, api_Enum, out_0⟩), (4, some ⟨.free, api_Law, [v_4]⟩), (2, some ⟨.free, api_Law, [l]⟩)]⟩
def tL1 (date : Int) (l : api_LawV) (v_4 : api_LawV) (out_0 : List api_EnumV) (out_1 : List api_TableV) (v_35 : List api_TableV) (v_36 : Int) (v_37 : Int) : ASt := ⟨[(37, .one (.val (.int .i64) v_37)), (36, .one (.val (.int .i64) v_36)), (35, .one (.val (.sl api_Table) v_35)), (5, .one (.vptr 5 api_Law 0)), (4, .one (.optr 4 0 [])), (2, .one (.optr 2 0 [])), (1, .one (.val (.int .i64) date))], [(5, some ⟨.var [(0, .own 100320), (1, .own 100321), (2, .nilsl)], api_Law, []⟩), (100321, some ⟨.free, api_Table, out_1⟩), (100320, some ⟨.free, api_Enum, out_0⟩), (4, some ⟨.free, api_Law, [v_4]⟩), (2, some ⟨.free, api_Law, [l]⟩)]⟩
def tL2 (date : Int) (l : api_LawV) (v_4 : api_LawV) (out_0 : List api_EnumV) (out_1 : List api_TableV) (t : api_TableV) (rows : List api_RowV) (v_35 : List api_TableV) (v_36 : Int) (v_37 : Int) (v_42 : List api_RowV) (v_43 : Int) (v_44 : Int) : ASt := ⟨[(44, .one (.val (.int .i64) v_44)), (43, .one (.val (.int .i64) v_43)), (42, .one (.val (.sl api_Row) v_42)), (37, .one (.val (.int .i64) v_37)), (36, .one (.val (.int .i64) v_36)), (35, .one (.val (.sl api_Table) v_35)), (10, .one (.own 10)), (9, .one (.optr 9 0 [])), (5, .one (.vptr 5 api_Law 0)), (4, .one (.optr 4 0 [])), (2, .one (.optr 2 0 [])), (1, .one (.val (.int .i64) date))], [(10, some ⟨.free, api_Row, rows⟩), (9, some ⟨.free, api_Table, [t]⟩), (5, some ⟨.var [(0, .own 100320), (1, .own 100321), (2, .nilsl)], api_Law, []⟩), (100321, some ⟨.free, api_Table, out_1⟩), (100320, some ⟨.free, api_Enum, out_0⟩), (4, some ⟨.free, api_Law, [v_4]⟩), (2, some ⟨.free, api_Law, [l]⟩)]⟩
def tL3 (date : Int) (v_4 : api_LawV) (out_0 : List api_EnumV) (out_1 : List api_TableV) (out_2 : List api_ScopeV) (v_69 : List api_ScopeV) (v_70 : Int) (v_71 : Int) : ASt := ⟨[(71, .one (.val (.int .i64) v_71)), (70, .one (.val (.int .i64) v_70)), (69, .one (.val (.sl api_Scope) v_69)), (5, .one (.vptr 5 api_Law 0)), (4, .one (.optr 4 0 [])), (1, .one (.val (.int .i64) date))], [(5, some ⟨.var [(0, .own 100320), (1, .own 100321), (2, .own 100322)], api_Law, []⟩), (100322, some ⟨.free, api_Scope, out_2⟩), (100321, some ⟨.free, api_Table, out_1⟩), (100320, some ⟨.free, api_Enum, out_0⟩), (4, some ⟨.free, api_Law, [v_4]⟩)]⟩
noncomputable def L0 (date : Int) (l : api_LawV) (v_4 : api_LawV) (out_0 : List api_EnumV) (v_16 : List api_EnumV) (v_17 : Int) (v_18 : Int) : R := lim E fin (.loop c6 K5) (tL0 date l v_4 out_0 v_16 v_17 v_18)
noncomputable def L1 (date : Int) (l : api_LawV) (v_4 : api_LawV) (out_0 : List api_EnumV) (out_1 : List api_TableV) (v_35 : List api_TableV) (v_36 : Int) (v_37 : Int) : R := lim E fin (.loop c2 K14) (tL1 date l v_4 out_0 out_1 v_35 v_36 v_37)
noncomputable def L2 (date : Int) (l : api_LawV) (v_4 : api_LawV) (out_0 : List api_EnumV) (out_1 : List api_TableV) (t : api_TableV) (rows : List api_RowV) (v_35 : List api_TableV) (v_36 : Int) (v_37 : Int) (v_42 : List api_RowV) (v_43 : Int) (v_44 : Int) : R := lim E fin (.loop c7 K24) (tL2 date l v_4 out_0 out_1 t rows v_35 v_36 v_37 v_42 v_43 v_44)
noncomputable def L3 (date : Int) (v_4 : api_LawV) (out_0 : List api_EnumV) (out_1 : List api_TableV) (out_2 : List api_ScopeV) (v_69 : List api_ScopeV) (v_70 : Int) (v_71 : Int) : R := lim E fin (.loop c8 K28) (tL3 date v_4 out_0 out_1 out_2 v_69 v_70 v_71)
noncomputable def SL0 (date : Int) (l : api_LawV) (v_4 : api_LawV) (out_0 : List api_EnumV) (v_16 : List api_EnumV) (v_17 : Int) (v_18 : Int) : R :=
  cond (decide (v_18 < v_17))
    (Option.bind (idx v_16 v_18) fun x1 =>
    Option.bind (slices_Clone_string_string x1.2.1) fun x2 =>
    cond (decide ((out_0.length + 1) * 40 ≤ room) && decide (0 < Ty.nc (.pair .str (.pair (.sl .str) .unit))))
      (L0 date l v_4 (out_0 ++ [(x1.1, x2.1, ())]) v_16 v_17 (IntKind.i64.wrap (v_18 + 1)))
      none)
    (L1 date l v_4 out_0 [] l.2.1 (l.2.1.length : Int) 0)
noncomputable def SL1 (date : Int) (l : api_LawV) (v_4 : api_LawV) (out_0 : List api_EnumV) (out_1 : List api_TableV) (v_35 : List api_TableV) (v_36 : Int) (v_37 : Int) : R :=
  cond (decide (v_37 < v_36))
    (Option.bind (idx v_35 v_37) fun x1 =>
    L2 date l v_4 out_0 out_1 x1 [] v_35 v_36 v_37 x1.2.2.2.1 (x1.2.2.2.1.length : Int) 0)
    (L3 date v_4 out_0 out_1 [] l.2.2.1 (l.2.2.1.length : Int) 0)
noncomputable def SL2 (date : Int) (l : api_LawV) (v_4 : api_LawV) (out_0 : List api_EnumV) (out_1 : List api_TableV) (t : api_TableV) (rows : List api_RowV) (v_35 : List api_TableV) (v_36 : Int) (v_37 : Int) (v_42 : List api_RowV) (v_43 : Int) (v_44 : Int) : R :=
  cond (decide (v_44 < v_43))
    (Option.bind (idx v_42 v_44) fun x1 =>
    Option.bind (daterange_Contains x1.1 date) fun x2 =>
    cond x2.1
      (cond (decide ((rows.length + 1) * 40 ≤ room) && decide (0 < Ty.nc (.pair (.pair (.int .i64) (.pair (.int .i64) .unit)) (.pair (.int .i64) (.pair (.int .i64) (.pair (.int .i64) .unit))))))
        (L2 date l v_4 out_0 out_1 t (rows ++ [((0, 109573, ()), x1.2.1, x1.2.2.1, x1.2.2.2.1, ())]) v_35 v_36 v_37 v_42 v_43 (IntKind.i64.wrap (v_44 + 1)))
        none)
      (L2 date l v_4 out_0 out_1 t rows v_35 v_36 v_37 v_42 v_43 (IntKind.i64.wrap (v_44 + 1))))
    (cond (decide ((out_1.length + 1) * 72 ≤ room) && decide (0 < Ty.nc (.pair .str (.pair (.pair (.int .i64) (.pair (.int .i64) .unit)) (.pair (.pair (.int .i64) (.pair (.int .i64) .unit)) (.pair (.sl (.pair (.pair (.int .i64) (.pair (.int .i64) .unit)) (.pair (.int .i64) (.pair (.int .i64) (.pair (.int .i64) .unit))))) .unit))))))
      (L1 date l v_4 out_0 (out_1 ++ [(t.1, t.2.1, t.2.2.1, rows, ())]) v_35 v_36 (IntKind.i64.wrap (v_37 + 1)))
      none)
noncomputable def SL3 (date : Int) (v_4 : api_LawV) (out_0 : List api_EnumV) (out_1 : List api_TableV) (out_2 : List api_ScopeV) (v_69 : List api_ScopeV) (v_70 : Int) (v_71 : Int) : R :=
  cond (decide (v_71 < v_70))
    (Option.bind (idx v_69 v_71) fun x1 =>
    Option.bind (effective_scopeOn x1 date) fun x2 =>
    cond (decide ((out_2.length + 1) * 96 ≤ room) && decide (0 < Ty.nc (.pair .str (.pair (.int .i64) (.pair (.sl (.pair .str (.pair (.pair (.int .i64) (.pair (.int .i64) .unit)) .unit))) (.pair (.sl (.pair .str (.pair (.pair (.int .i64) (.pair (.int .i64) .unit)) .unit))) (.pair (.sl (.pair .str (.pair (.int .i64) (.pair (.int .i64) (.pair (.int .i64) (.pair (.pair (.int .i64) (.pair (.int .i64) .unit)) (.pair (.sl (.pair (.int .i64) (.pair (.int .i64) .unit))) (.pair (.sl (.pair (.int .i64) (.pair (.int .i64) .unit))) (.pair .str .unit))))))))) .unit)))))))
      (L3 date v_4 out_0 out_1 (out_2 ++ [x2.1]) v_69 v_70 (IntKind.i64.wrap (v_71 + 1)))
      none)
    (some ((out_0, out_1, out_2, ()), ()))
noncomputable def Se (l : api_LawV) (date : Int) : R :=
  L0 date l ([], [], [], ()) [] l.1 (l.1.length : Int) 0
theorem L0_eq (date l v_4 out_0 v_16 v_17 v_18) : L0 date l v_4 out_0 v_16 v_17 v_18 = SL0 date l v_4 out_0 v_16 v_17 v_18 := (lim_eq (.loop c6 K5) (tL0 date l v_4 out_0 v_16 v_17 v_18)).trans (by kernel_rfl)
theorem L1_eq (date l v_4 out_0 out_1 v_35 v_36 v_37) : L1 date l v_4 out_0 out_1 v_35 v_36 v_37 = SL1 date l v_4 out_0 out_1 v_35 v_36 v_37 := (lim_eq (.loop c2 K14) (tL1 date l v_4 out_0 out_1 v_35 v_36 v_37)).trans (by kernel_rfl)
theorem L2_eq (date l v_4 out_0 out_1 t rows v_35 v_36 v_37 v_42 v_43 v_44) : L2 date l v_4 out_0 out_1 t rows v_35 v_36 v_37 v_42 v_43 v_44 = SL2 date l v_4 out_0 out_1 t rows v_35 v_36 v_37 v_42 v_43 v_44 := (lim_eq (.loop c7 K24) (tL2 date l v_4 out_0 out_1 t rows v_35 v_36 v_37 v_42 v_43 v_44)).trans (by kernel_rfl)
theorem L3_eq (date v_4 out_0 out_1 out_2 v_69 v_70 v_71) : L3 date v_4 out_0 out_1 out_2 v_69 v_70 v_71 = SL3 date v_4 out_0 out_1 out_2 v_69 v_70 v_71 := (lim_eq (.loop c8 K28) (tL3 date v_4 out_0 out_1 out_2 v_69 v_70 v_71)).trans (by kernel_rfl)
theorem se (x : (argTy ps).den) : run E (lim E fin) fin depth (bodyOf Try.f17) .ret (entryFrom 0 ps x) = Se x.1 x.2.1 := by kernel_rfl
end effective_LawOn
noncomputable def effective_LawOn (l : api_LawV) (date : Int) : effective_LawOn.R :=
  effective_LawOn.Se l date
namespace effective_LawOn
noncomputable def sig : Sig := ⟨ps, rs, fun x => effective_LawOn x.1 x.2.1⟩
theorem val (x : (argTy ps).den) : lim E fin (.code (bodyOf Try.f17) .ret) (entryFrom 0 ps x) = sig.run x := (lim_eq (.code (bodyOf Try.f17) .ret) (entryFrom 0 ps x)).trans (se x)
theorem ok : CallOK Try.prog 17 sig :=
  callOK_of_lim (E := E) mixed tt_ok (ctxOk_cons (ctxOk_cons (ctxOk_cons ctxOk_nil effective_scopeOn.ok Try.func33 (by kernel_rfl) (by kernel_rfl)) daterange_Contains.ok Try.func27 (by kernel_rfl) (by kernel_rfl)) slices_Clone_string_string.ok Try.func32 (by kernel_rfl) (by kernel_rfl)) Try.func17 (by kernel_rfl : Try.f17.body = some (bodyOf Try.f17)) Try.ntmps17 (of_decide_eq_true (by kernel_rfl)) (of_decide_eq_true (by kernel_rfl)) fun x y h => (val x).trans h
noncomputable def ctxc (n : Nat) : List (Nat × Sig) := [(32, slices_Clone_string_string.sigc n), (27, daterange_Contains.sigc n), (33, effective_scopeOn.sigc n)]
noncomputable def sigc (n : Nat) : Sig := ⟨ps, rs, fun x => runs (withCtx E (ctxc n)) fin n (.code (bodyOf Try.f17) .ret) (entryFrom 0 ps x)⟩
theorem sigc_le (n : Nat) : ∀ x y, (sigc n).run x = some y → sig.run x = some y := fun x y h => (val x).symm.trans (runs_lim (E := E) (c := ctxc n) (ctxLe_cons (ctxLe_cons (ctxLe_cons ctxLe_nil (effective_scopeOn.sigc_le n)) (daterange_Contains.sigc_le n)) (slices_Clone_string_string.sigc_le n)) h)
end effective_LawOn
namespace same_Ints
abbrev ps : List PM := [.pure (.sl (.int .i64)), .pure (.sl (.int .i64))]
abbrev rs : List RM := [.pure .bool]
abbrev R : Type := Option (Bool × Unit)
noncomputable def E : Env := { tt := tt, ctx := [], nt := 32, ann := [(1000004, [(0, .keep), (1, .keep), (5, .keep)]), (6, [(0, .keep), (1, .keep), (5, .keep)])] }
noncomputable def c0 : Code := sub [1, 1, 1] (bodyOf Try.f13)
noncomputable def c1 : Code := sub [1, 1, 0, 1, 0, 0] (bodyOf Try.f13)
noncomputable def c2 : Code := sub [1, 1, 0, 1, 0, 0, 1] (bodyOf Try.f13)
noncomputable def K5 : Kont := .seq c0 .ret
noncomputable def K7 : Kont := .blk 0 K5
noncomputable def K8 : Kont := .loop c1 K7
noncomputable def fin : ASt → R := Kret E Try.f13.results.toList ps rs
def tL0 (a : List Int) (b : List Int) (i : Int) : ASt := ⟨[(5, .one (.val (.int .i64) i)), (1, .one (.val (.sl (.int .i64)) b)), (0, .one (.val (.sl (.int .i64)) a))], []⟩
def tJ1 (a : List Int) (b : List Int) (i : Int) : ASt := ⟨[(5, .one (.val (.int .i64) i)), (1, .one (.val (.sl (.int .i64)) b)), (0, .one (.val (.sl (.int .i64)) a))], []⟩
noncomputable def L0 (a : List Int) (b : List Int) (i : Int) : R := lim E fin (.loop c1 K7) (tL0 a b i)
noncomputable def J1 (a : List Int) (b : List Int) (i : Int) : R := lim E fin (.code c2 K8) (tJ1 a b i)
noncomputable def SL0 (a : List Int) (b : List Int) (i : Int) : R :=
  cond (decide (i < (a.length : Int)))
    (cond (decide (i < (b.length : Int)))
      (J1 a b i)
      (some (true, ())))
    (some (true, ()))
noncomputable def SJ1 (a : List Int) (b : List Int) (i : Int) : R :=
  Option.bind (idx a i) fun x1 =>
  Option.bind (idx b i) fun x2 =>
  cond (x1 != x2)
    (some (false, ()))
    (L0 a b (IntKind.i64.wrap (i + 1)))
noncomputable def Se (a : List Int) (b : List Int) : R :=
  cond ((a.length : Int) != (b.length : Int))
    (some (false, ()))
    (L0 a b 0)
theorem L0_eq (a b i) : L0 a b i = SL0 a b i := (lim_eq (.loop c1 K7) (tL0 a b i)).trans (by kernel_rfl)
theorem J1_eq (a b i) : J1 a b i = SJ1 a b i := (lim_eq (.code c2 K8) (tJ1 a b i)).trans (by kernel_rfl)
theorem se (x : (argTy ps).den) : run E (lim E fin) fin depth (bodyOf Try.f13) .ret (entryFrom 0 ps x) = Se x.1 x.2.1 := by kernel_rfl
end same_Ints
noncomputable def same_Ints (a : List Int) (b : List Int) : same_Ints.R :=
  same_Ints.Se a b
namespace same_Ints
noncomputable def sig : Sig := ⟨ps, rs, fun x => same_Ints x.1 x.2.1⟩
theorem val (x : (argTy ps).den) : lim E fin (.code (bodyOf Try.f13) .ret) (entryFrom 0 ps x) = sig.run x := (lim_eq (.code (bodyOf Try.f13) .ret) (entryFrom 0 ps x)).trans (se x)
theorem ok : CallOK Try.prog 13 sig :=
  callOK_of_lim (E := E) mixed tt_ok ctxOk_nil Try.func13 (by kernel_rfl : Try.f13.body = some (bodyOf Try.f13)) Try.ntmps13 (of_decide_eq_true (by kernel_rfl)) (of_decide_eq_true (by kernel_rfl)) fun x y h => (val x).trans h
noncomputable def ctxc (n : Nat) : List (Nat × Sig) := []
noncomputable def sigc (n : Nat) : Sig := ⟨ps, rs, fun x => runs (withCtx E (ctxc n)) fin n (.code (bodyOf Try.f13) .ret) (entryFrom 0 ps x)⟩
theorem sigc_le (n : Nat) : ∀ x y, (sigc n).run x = some y → sig.run x = some y := fun x y h => (val x).symm.trans (runs_lim (E := E) (c := ctxc n) ctxLe_nil h)
end same_Ints
namespace daterange_proper
abbrev ps : List PM := [.pure api_DateRange]
abbrev rs : List RM := [.pure .bool]
abbrev R : Type := Option (Bool × Unit)
noncomputable def E : Env := { tt := tt, ctx := [(44, daterange_Valid.sig)], nt := 12, ann := [] }
noncomputable def fin : ASt → R := Kret E Try.f52.results.toList ps rs
noncomputable def Se (r_0 : api_DateRangeV) : R :=
  Option.bind (daterange_Valid r_0) fun x1 =>
  cond x1.1
    (some (decide (r_0.1 < r_0.2.1), ()))
    (some (false, ()))
theorem se (x : (argTy ps).den) : run E (lim E fin) fin depth (bodyOf Try.f52) .ret (entryFrom 0 ps x) = Se x.1 := by kernel_rfl
end daterange_proper
noncomputable def daterange_proper (r_0 : api_DateRangeV) : daterange_proper.R :=
  daterange_proper.Se r_0
namespace daterange_proper
noncomputable def sig : Sig := ⟨ps, rs, fun x => daterange_proper x.1⟩
theorem val (x : (argTy ps).den) : lim E fin (.code (bodyOf Try.f52) .ret) (entryFrom 0 ps x) = sig.run x := (lim_eq (.code (bodyOf Try.f52) .ret) (entryFrom 0 ps x)).trans (se x)
theorem ok : CallOK Try.prog 52 sig :=
  callOK_of_lim (E := E) mixed tt_ok (ctxOk_cons ctxOk_nil daterange_Valid.ok Try.func44 (by kernel_rfl) (by kernel_rfl)) Try.func52 (by kernel_rfl : Try.f52.body = some (bodyOf Try.f52)) Try.ntmps52 (of_decide_eq_true (by kernel_rfl)) (of_decide_eq_true (by kernel_rfl)) fun x y h => (val x).trans h
noncomputable def ctxc (n : Nat) : List (Nat × Sig) := [(44, daterange_Valid.sigc n)]
noncomputable def sigc (n : Nat) : Sig := ⟨ps, rs, fun x => runs (withCtx E (ctxc n)) fin n (.code (bodyOf Try.f52) .ret) (entryFrom 0 ps x)⟩
theorem sigc_le (n : Nat) : ∀ x y, (sigc n).run x = some y → sig.run x = some y := fun x y h => (val x).symm.trans (runs_lim (E := E) (c := ctxc n) (ctxLe_cons ctxLe_nil (daterange_Valid.sigc_le n)) h)
end daterange_proper
namespace math_bits_Len64
abbrev ps : List PM := [.pure (.int .u64)]
abbrev rs : List RM := [.pure (.int .i64)]
abbrev R : Type := Option (Int × Unit)
noncomputable def E : Env := { tt := tt, ctx := [], nt := 25, ann := [(4, [(0, .keep), (2, .keep)]), (7, [(0, .keep), (2, .keep)])] }
noncomputable def c0 : Code := sub [1, 1] (bodyOf Try.f75)
noncomputable def c1 : Code := sub [1, 1, 1] (bodyOf Try.f75)
noncomputable def fin : ASt → R := Kret E Try.f75.results.toList ps rs
def tJ0 (x_0 : Int) (n_2 : Int) : ASt := ⟨[(2, .one (.val (.int .i64) n_2)), (0, .one (.val (.int .u64) x_0))], []⟩
def tJ1 (x_0 : Int) (n_2 : Int) : ASt := ⟨[(2, .one (.val (.int .i64) n_2)), (0, .one (.val (.int .u64) x_0))], []⟩
noncomputable def J0 (x_0 : Int) (n_2 : Int) : R := lim E fin (.code c0 .ret) (tJ0 x_0 n_2)
noncomputable def J1 (x_0 : Int) (n_2 : Int) : R := lim E fin (.code c1 .ret) (tJ1 x_0 n_2)
noncomputable def SJ0 (x_0 : Int) (n_2 : Int) : R :=
  cond (decide (x_0 ≥ 65536))
    (J1 (Int.fdiv x_0 (2 ^ (min 16 IntKind.u64.bits))) (IntKind.i64.wrap (n_2 + 16)))
    (J1 x_0 n_2)
noncomputable def SJ1 (x_0 : Int) (n_2 : Int) : R :=
  cond (decide (x_0 ≥ 256))
    (Option.bind (idx ([0, 1, 2, 2, 3, 3, 3, 3, 4, 4, 4, 4, 4, 4, 4, 4, 5, 5, 5, 5, 5, 5, 5, 5, 5, 5, 5, 5, 5, 5, 5, 5, 6, 6, 6, 6, 6, 6, 6, 6, 6, 6, 6, 6, 6, 6, 6, 6, 6, 6, 6, 6, 6, 6, 6, 6, 6, 6, 6, 6, 6, 6, 6, 6, 7, 7, 7, 7, 7, 7, 7, 7, 7, 7, 7, 7, 7, 7, 7, 7, 7, 7, 7, 7, 7, 7, 7, 7, 7, 7, 7, 7, 7, 7, 7, 7, 7, 7, 7, 7, 7, 7, 7, 7, 7, 7, 7, 7, 7, 7, 7, 7, 7, 7, 7, 7, 7, 7, 7, 7, 7, 7, 7, 7, 7, 7, 7, 7, 8, 8, 8, 8, 8, 8, 8, 8, 8, 8, 8, 8, 8, 8, 8, 8, 8, 8, 8, 8, 8, 8, 8, 8, 8, 8, 8, 8, 8, 8, 8, 8, 8, 8, 8, 8, 8, 8, 8, 8, 8, 8, 8, 8, 8, 8, 8, 8, 8, 8, 8, 8, 8, 8, 8, 8, 8, 8, 8, 8, 8, 8, 8, 8, 8, 8, 8, 8, 8, 8, 8, 8, 8, 8, 8, 8, 8, 8, 8, 8, 8, 8, 8, 8, 8, 8, 8, 8, 8, 8, 8, 8, 8, 8, 8, 8, 8, 8, 8, 8, 8, 8, 8, 8, 8, 8, 8, 8, 8, 8, 8, 8, 8, 8, 8, 8, 8, 8, 8, 8, 8, 8, 8, 8, 8, 8, 8, 8] : List UInt8) (IntKind.u8.wrap (Int.fdiv x_0 (2 ^ (min 8 IntKind.u64.bits))))) fun x1 =>
    some (IntKind.i64.wrap ((IntKind.i64.wrap (n_2 + 8)) + (IntKind.i64.wrap (x1.toNat : Int))), ()))
    (Option.bind (idx ([0, 1, 2, 2, 3, 3, 3, 3, 4, 4, 4, 4, 4, 4, 4, 4, 5, 5, 5, 5, 5, 5, 5, 5, 5, 5, 5, 5, 5, 5, 5, 5, 6, 6, 6, 6, 6, 6, 6, 6, 6, 6, 6, 6, 6, 6, 6, 6, 6, 6, 6, 6, 6, 6, 6, 6, 6, 6, 6, 6, 6, 6, 6, 6, 7, 7, 7, 7, 7, 7, 7, 7, 7, 7, 7, 7, 7, 7, 7, 7, 7, 7, 7, 7, 7, 7, 7, 7, 7, 7, 7, 7, 7, 7, 7, 7, 7, 7, 7, 7, 7, 7, 7, 7, 7, 7, 7, 7, 7, 7, 7, 7, 7, 7, 7, 7, 7, 7, 7, 7, 7, 7, 7, 7, 7, 7, 7, 7, 8, 8, 8, 8, 8, 8, 8, 8, 8, 8, 8, 8, 8, 8, 8, 8, 8, 8, 8, 8, 8, 8, 8, 8, 8, 8, 8, 8, 8, 8, 8, 8, 8, 8, 8, 8, 8, 8, 8, 8, 8, 8, 8, 8, 8, 8, 8, 8, 8, 8, 8, 8, 8, 8, 8, 8, 8, 8, 8, 8, 8, 8, 8, 8, 8, 8, 8, 8, 8, 8, 8, 8, 8, 8, 8, 8, 8, 8, 8, 8, 8, 8, 8, 8, 8, 8, 8, 8, 8, 8, 8, 8, 8, 8, 8, 8, 8, 8, 8, 8, 8, 8, 8, 8, 8, 8, 8, 8, 8, 8, 8, 8, 8, 8, 8, 8, 8, 8, 8, 8, 8, 8, 8, 8, 8, 8, 8, 8] : List UInt8) (IntKind.u8.wrap x_0)) fun x2 =>
    some (IntKind.i64.wrap (n_2 + (IntKind.i64.wrap (x2.toNat : Int))), ()))
noncomputable def Se (x_0 : Int) : R :=
  cond (decide (x_0 ≥ 4294967296))
    (J0 (Int.fdiv x_0 (2 ^ (min 32 IntKind.u64.bits))) 32)
    (J0 x_0 0)
theorem J0_eq (x_0 n_2) : J0 x_0 n_2 = SJ0 x_0 n_2 := (lim_eq (.code c0 .ret) (tJ0 x_0 n_2)).trans (by kernel_rfl)
theorem J1_eq (x_0 n_2) : J1 x_0 n_2 = SJ1 x_0 n_2 := (lim_eq (.code c1 .ret) (tJ1 x_0 n_2)).trans (by kernel_rfl)
theorem se (x : (argTy ps).den) : run E (lim E fin) fin depth (bodyOf Try.f75) .ret (entryFrom 0 ps x) = Se x.1 := by kernel_rfl
end math_bits_Len64
noncomputable def math_bits_Len64 (x_0 : Int) : math_bits_Len64.R :=
  math_bits_Len64.Se x_0
namespace math_bits_Len64
noncomputable def sig : Sig := ⟨ps, rs, fun x => math_bits_Len64 x.1⟩
theorem val (x : (argTy ps).den) : lim E fin (.code (bodyOf Try.f75) .ret) (entryFrom 0 ps x) = sig.run x := (lim_eq (.code (bodyOf Try.f75) .ret) (entryFrom 0 ps x)).trans (se x)
theorem ok : CallOK Try.prog 75 sig :=
  callOK_of_lim (E := E) mixed tt_ok ctxOk_nil Try.func75 (by kernel_rfl : Try.f75.body = some (bodyOf Try.f75)) Try.ntmps75 (of_decide_eq_true (by kernel_rfl)) (of_decide_eq_true (by kernel_rfl)) fun x y h => (val x).trans h
noncomputable def ctxc (n : Nat) : List (Nat × Sig) := []
noncomputable def sigc (n : Nat) : Sig := ⟨ps, rs, fun x => runs (withCtx E (ctxc n)) fin n (.code (bodyOf Try.f75) .ret) (entryFrom 0 ps x)⟩
theorem sigc_le (n : Nat) : ∀ x y, (sigc n).run x = some y → sig.run x = some y := fun x y h => (val x).symm.trans (runs_lim (E := E) (c := ctxc n) ctxLe_nil h)
end math_bits_Len64
namespace math_bits_Len
abbrev ps : List PM := [.pure (.int .u64)]
abbrev rs : List RM := [.pure (.int .i64)]
abbrev R : Type := Option (Int × Unit)
noncomputable def E : Env := { tt := tt, ctx := [(75, math_bits_Len64.sig)], nt := 8, ann := [] }
noncomputable def fin : ASt → R := Kret E Try.f63.results.toList ps rs
noncomputable def Se (x_0 : Int) : R :=
  Option.bind (math_bits_Len64 x_0) fun x1 =>
  some (x1.1, ())
theorem se (x : (argTy ps).den) : run E (lim E fin) fin depth (bodyOf Try.f63) .ret (entryFrom 0 ps x) = Se x.1 := by kernel_rfl
end math_bits_Len
noncomputable def math_bits_Len (x_0 : Int) : math_bits_Len.R :=
  math_bits_Len.Se x_0
namespace math_bits_Len
noncomputable def sig : Sig := ⟨ps, rs, fun x => math_bits_Len x.1⟩
theorem val (x : (argTy ps).den) : lim E fin (.code (bodyOf Try.f63) .ret) (entryFrom 0 ps x) = sig.run x := (lim_eq (.code (bodyOf Try.f63) .ret) (entryFrom 0 ps x)).trans (se x)
theorem ok : CallOK Try.prog 63 sig :=
  callOK_of_lim (E := E) mixed tt_ok (ctxOk_cons ctxOk_nil math_bits_Len64.ok Try.func75 (by kernel_rfl) (by kernel_rfl)) Try.func63 (by kernel_rfl : Try.f63.body = some (bodyOf Try.f63)) Try.ntmps63 (of_decide_eq_true (by kernel_rfl)) (of_decide_eq_true (by kernel_rfl)) fun x y h => (val x).trans h
noncomputable def ctxc (n : Nat) : List (Nat × Sig) := [(75, math_bits_Len64.sigc n)]
noncomputable def sigc (n : Nat) : Sig := ⟨ps, rs, fun x => runs (withCtx E (ctxc n)) fin n (.code (bodyOf Try.f63) .ret) (entryFrom 0 ps x)⟩
theorem sigc_le (n : Nat) : ∀ x y, (sigc n).run x = some y → sig.run x = some y := fun x y h => (val x).symm.trans (runs_lim (E := E) (c := ctxc n) (ctxLe_cons ctxLe_nil (math_bits_Len64.sigc_le n)) h)
end math_bits_Len
namespace cmp_isNaN_int
abbrev ps : List PM := [.pure (.int .i64)]
abbrev rs : List RM := [.pure .bool]
abbrev R : Type := Option (Bool × Unit)
noncomputable def E : Env := { tt := tt, ctx := [], nt := 6, ann := [] }
noncomputable def fin : ASt → R := Kret E Try.f81.results.toList ps rs
noncomputable def Se (x_0 : Int) : R :=
  some ((x_0 != x_0), ())
theorem se (x : (argTy ps).den) : run E (lim E fin) fin depth (bodyOf Try.f81) .ret (entryFrom 0 ps x) = Se x.1 := by kernel_rfl
end cmp_isNaN_int
noncomputable def cmp_isNaN_int (x_0 : Int) : cmp_isNaN_int.R :=
  cmp_isNaN_int.Se x_0
namespace cmp_isNaN_int
noncomputable def sig : Sig := ⟨ps, rs, fun x => cmp_isNaN_int x.1⟩
theorem val (x : (argTy ps).den) : lim E fin (.code (bodyOf Try.f81) .ret) (entryFrom 0 ps x) = sig.run x := (lim_eq (.code (bodyOf Try.f81) .ret) (entryFrom 0 ps x)).trans (se x)
theorem ok : CallOK Try.prog 81 sig :=
  callOK_of_lim (E := E) mixed tt_ok ctxOk_nil Try.func81 (by kernel_rfl : Try.f81.body = some (bodyOf Try.f81)) Try.ntmps81 (of_decide_eq_true (by kernel_rfl)) (of_decide_eq_true (by kernel_rfl)) fun x y h => (val x).trans h
noncomputable def ctxc (n : Nat) : List (Nat × Sig) := []
noncomputable def sigc (n : Nat) : Sig := ⟨ps, rs, fun x => runs (withCtx E (ctxc n)) fin n (.code (bodyOf Try.f81) .ret) (entryFrom 0 ps x)⟩
theorem sigc_le (n : Nat) : ∀ x y, (sigc n).run x = some y → sig.run x = some y := fun x y h => (val x).symm.trans (runs_lim (E := E) (c := ctxc n) ctxLe_nil h)
end cmp_isNaN_int
namespace cmp_Less_int
abbrev ps : List PM := [.pure (.int .i64), .pure (.int .i64)]
abbrev rs : List RM := [.pure .bool]
abbrev R : Type := Option (Bool × Unit)
noncomputable def E : Env := { tt := tt, ctx := [(81, cmp_isNaN_int.sig)], nt := 17, ann := [] }
noncomputable def fin : ASt → R := Kret E Try.f71.results.toList ps rs
noncomputable def Se (x_0 : Int) (y : Int) : R :=
  Option.bind (cmp_isNaN_int x_0) fun x1 =>
  cond x1.1
    (Option.bind (cmp_isNaN_int y) fun x2 =>
    cond (!x2.1)
      (some (true, ()))
      (some (decide (x_0 < y), ())))
    (some (decide (x_0 < y), ()))
theorem se (x : (argTy ps).den) : run E (lim E fin) fin depth (bodyOf Try.f71) .ret (entryFrom 0 ps x) = Se x.1 x.2.1 := by kernel_rfl
end cmp_Less_int
noncomputable def cmp_Less_int (x_0 : Int) (y : Int) : cmp_Less_int.R :=
  cmp_Less_int.Se x_0 y
namespace cmp_Less_int
noncomputable def sig : Sig := ⟨ps, rs, fun x => cmp_Less_int x.1 x.2.1⟩
theorem val (x : (argTy ps).den) : lim E fin (.code (bodyOf Try.f71) .ret) (entryFrom 0 ps x) = sig.run x := (lim_eq (.code (bodyOf Try.f71) .ret) (entryFrom 0 ps x)).trans (se x)
theorem ok : CallOK Try.prog 71 sig :=
  callOK_of_lim (E := E) mixed tt_ok (ctxOk_cons ctxOk_nil cmp_isNaN_int.ok Try.func81 (by kernel_rfl) (by kernel_rfl)) Try.func71 (by kernel_rfl : Try.f71.body = some (bodyOf Try.f71)) Try.ntmps71 (of_decide_eq_true (by kernel_rfl)) (of_decide_eq_true (by kernel_rfl)) fun x y h => (val x).trans h
noncomputable def ctxc (n : Nat) : List (Nat × Sig) := [(81, cmp_isNaN_int.sigc n)]
noncomputable def sigc (n : Nat) : Sig := ⟨ps, rs, fun x => runs (withCtx E (ctxc n)) fin n (.code (bodyOf Try.f71) .ret) (entryFrom 0 ps x)⟩
theorem sigc_le (n : Nat) : ∀ x y, (sigc n).run x = some y → sig.run x = some y := fun x y h => (val x).symm.trans (runs_lim (E := E) (c := ctxc n) (ctxLe_cons ctxLe_nil (cmp_isNaN_int.sigc_le n)) h)
end cmp_Less_int
namespace slices_insertionSortOrdered_int
abbrev ps : List PM := [.own (.int .i64), .pure (.int .i64), .pure (.int .i64)]
abbrev rs : List RM := []
abbrev R : Type := Option (List Int × Unit)
noncomputable def E : Env := { tt := tt, ctx := [(71, cmp_Less_int.sig)], nt := 49, ann := [(1000001, [(0, .keep), (1, .keep), (2, .keep), (6, .keep)]), (1000004, [(0, .keep), (1, .keep), (2, .keep), (6, .keep), (7, .keep)]), (6, [(0, .keep), (1, .keep), (2, .keep), (6, .keep), (7, .keep)])] }
noncomputable def c0 : Code := sub [1, 0, 0] (bodyOf Try.f65)
noncomputable def c1 : Code := sub [1, 0, 0, 1, 1] (bodyOf Try.f65)
noncomputable def c2 : Code := sub [1, 0, 0, 1, 0, 0, 1, 0, 0] (bodyOf Try.f65)
noncomputable def c3 : Code := sub [1, 0, 0, 1, 0, 0, 1, 0, 0, 1] (bodyOf Try.f65)
noncomputable def K2 : Kont := .blk 0 .ret
noncomputable def K3 : Kont := .loop c0 K2
noncomputable def K6 : Kont := .seq c1 K3
noncomputable def K7 : Kont := .blk 1 K6
noncomputable def K9 : Kont := .blk 2 K7
noncomputable def K10 : Kont := .loop c2 K9
noncomputable def fin : ASt → R := Kret E Try.f65.results.toList ps rs
def tL0 (a : Int) (b : Int) (i : Int) (data_P : List Int) : ASt := ⟨[(6, .one (.val (.int .i64) i)), (2, .one (.val (.int .i64) b)), (1, .one (.val (.int .i64) a)), (0, .one (.own 10000))], [(10000, some ⟨.fixed, .int .i64, data_P⟩)]⟩
def tL1 (a : Int) (b : Int) (i : Int) (j : Int) (data_P : List Int) : ASt := ⟨[(7, .one (.val (.int .i64) j)), (6, .one (.val (.int .i64) i)), (2, .one (.val (.int .i64) b)), (1, .one (.val (.int .i64) a)), (0, .one (.own 10000))], [(10000, some ⟨.fixed, .int .i64, data_P⟩)]⟩
def tJ2 (a : Int) (b : Int) (i : Int) (j : Int) (data_P : List Int) : ASt := ⟨[(7, .one (.val (.int .i64) j)), (6, .one (.val (.int .i64) i)), (2, .one (.val (.int .i64) b)), (1, .one (.val (.int .i64) a)), (0, .one (.own 10000))], [(10000, some ⟨.fixed, .int .i64, data_P⟩)]⟩
noncomputable def L0 (a : Int) (b : Int) (i : Int) (data_P : List Int) : R := lim E fin (.loop c0 K2) (tL0 a b i data_P)
noncomputable def L1 (a : Int) (b : Int) (i : Int) (j : Int) (data_P : List Int) : R := lim E fin (.loop c2 K9) (tL1 a b i j data_P)
noncomputable def J2 (a : Int) (b : Int) (i : Int) (j : Int) (data_P : List Int) : R := lim E fin (.code c3 K10) (tJ2 a b i j data_P)
noncomputable def SL0 (a : Int) (b : Int) (i : Int) (data_P : List Int) : R :=
  cond (decide (i < b))
    (L1 a b i i data_P)
    (some (data_P, ()))
noncomputable def SL1 (a : Int) (b : Int) (i : Int) (j : Int) (data_P : List Int) : R :=
  cond (decide (j > a))
    (cond (decide (0 ≤ j) && decide (j < (data_P.length : Int)))
      (cond (decide (0 ≤ IntKind.i64.wrap (j - 1)) && decide (IntKind.i64.wrap (j - 1) < (data_P.length : Int)))
        (Option.bind (cmp_Less_int (data_P.getD j.toNat 0) (data_P.getD ((IntKind.i64.wrap (j - 1)).toNat) 0)) fun x1 =>
        cond x1.1
          (J2 a b i j data_P)
          (L0 a b (IntKind.i64.wrap (i + 1)) data_P))
        none)
      none)
    (L0 a b (IntKind.i64.wrap (i + 1)) data_P)
noncomputable def SJ2 (a : Int) (b : Int) (i : Int) (j : Int) (data_P : List Int) : R :=
  cond (decide (0 ≤ IntKind.i64.wrap (j - 1)) && decide (IntKind.i64.wrap (j - 1) < (data_P.length : Int)))
    (cond (decide (0 ≤ j) && decide (j < (data_P.length : Int)))
      (cond (decide (0 ≤ j) && decide (j < (data_P.length : Int)))
        (cond (decide (0 ≤ IntKind.i64.wrap (j - 1)) && decide (IntKind.i64.wrap (j - 1) < ((data_P.set j.toNat (data_P.getD ((IntKind.i64.wrap (j - 1)).toNat) 0)).length : Int)))
          (L1 a b i (IntKind.i64.wrap (j - 1)) ((data_P.set j.toNat (data_P.getD ((IntKind.i64.wrap (j - 1)).toNat) 0)).set ((IntKind.i64.wrap (j - 1)).toNat) (data_P.getD j.toNat 0)))
          none)
        none)
      none)
    none
noncomputable def Se (data : List Int) (a : Int) (b : Int) : R :=
  L0 a b (IntKind.i64.wrap (a + 1)) data
theorem L0_eq (a b i data_P) : L0 a b i data_P = SL0 a b i data_P := (lim_eq (.loop c0 K2) (tL0 a b i data_P)).trans (by kernel_rfl)
theorem L1_eq (a b i j data_P) : L1 a b i j data_P = SL1 a b i j data_P := (lim_eq (.loop c2 K9) (tL1 a b i j data_P)).trans (by kernel_rfl)
theorem J2_eq (a b i j data_P) : J2 a b i j data_P = SJ2 a b i j data_P := (lim_eq (.code c3 K10) (tJ2 a b i j data_P)).trans (by kernel_rfl)
theorem se (x : (argTy ps).den) : run E (lim E fin) fin depth (bodyOf Try.f65) .ret (entryFrom 0 ps x) = Se x.1 x.2.1 x.2.2.1 := by kernel_rfl
end slices_insertionSortOrdered_int
noncomputable def slices_insertionSortOrdered_int (data : List Int) (a : Int) (b : Int) : slices_insertionSortOrdered_int.R :=
  slices_insertionSortOrdered_int.Se data a b
namespace slices_insertionSortOrdered_int
noncomputable def sig : Sig := ⟨ps, rs, fun x => slices_insertionSortOrdered_int x.1 x.2.1 x.2.2.1⟩
theorem val (x : (argTy ps).den) : lim E fin (.code (bodyOf Try.f65) .ret) (entryFrom 0 ps x) = sig.run x := (lim_eq (.code (bodyOf Try.f65) .ret) (entryFrom 0 ps x)).trans (se x)
theorem ok : CallOK Try.prog 65 sig :=
  callOK_of_lim (E := E) mixed tt_ok (ctxOk_cons ctxOk_nil cmp_Less_int.ok Try.func71 (by kernel_rfl) (by kernel_rfl)) Try.func65 (by kernel_rfl : Try.f65.body = some (bodyOf Try.f65)) Try.ntmps65 (of_decide_eq_true (by kernel_rfl)) (of_decide_eq_true (by kernel_rfl)) fun x y h => (val x).trans h
noncomputable def ctxc (n : Nat) : List (Nat × Sig) := [(71, cmp_Less_int.sigc n)]
noncomputable def sigc (n : Nat) : Sig := ⟨ps, rs, fun x => runs (withCtx E (ctxc n)) fin n (.code (bodyOf Try.f65) .ret) (entryFrom 0 ps x)⟩
theorem sigc_le (n : Nat) : ∀ x y, (sigc n).run x = some y → sig.run x = some y := fun x y h => (val x).symm.trans (runs_lim (E := E) (c := ctxc n) (ctxLe_cons ctxLe_nil (cmp_Less_int.sigc_le n)) h)
end slices_insertionSortOrdered_int
namespace slices_siftDownOrdered_int
abbrev ps : List PM := [.own (.int .i64), .pure (.int .i64), .pure (.int .i64), .pure (.int .i64)]
abbrev rs : List RM := []
abbrev R : Type := Option (List Int × Unit)
noncomputable def E : Env := { tt := tt, ctx := [(71, cmp_Less_int.sig)], nt := 76, ann := [(1000001, [(0, .keep), (2, .keep), (3, .keep), (8, .keep)]), (5, [(0, .keep), (2, .keep), (3, .keep), (8, .keep), (9, .keep)])] }
noncomputable def c0 : Code := sub [1, 0, 0] (bodyOf Try.f76)
noncomputable def c1 : Code := sub [1, 0, 0, 0, 1, 1, 1] (bodyOf Try.f76)
noncomputable def K2 : Kont := .blk 0 .ret
noncomputable def K3 : Kont := .loop c0 K2
noncomputable def K4 : Kont := .blk 1 K3
noncomputable def fin : ASt → R := Kret E Try.f76.results.toList ps rs
def tL0 (hi : Int) (first : Int) (root : Int) (data_P : List Int) : ASt := ⟨[(8, .one (.val (.int .i64) root)), (3, .one (.val (.int .i64) first)), (2, .one (.val (.int .i64) hi)), (0, .one (.own 10000))], [(10000, some ⟨.fixed, .int .i64, data_P⟩)]⟩
def tJ1 (hi : Int) (first : Int) (root : Int) (child : Int) (data_P : List Int) : ASt := ⟨[(9, .one (.val (.int .i64) child)), (8, .one (.val (.int .i64) root)), (3, .one (.val (.int .i64) first)), (2, .one (.val (.int .i64) hi)), (0, .one (.own 10000))], [(10000, some ⟨.fixed, .int .i64, data_P⟩)]⟩
noncomputable def L0 (hi : Int) (first : Int) (root : Int) (data_P : List Int) : R := lim E fin (.loop c0 K2) (tL0 hi first root data_P)
noncomputable def J1 (hi : Int) (first : Int) (root : Int) (child : Int) (data_P : List Int) : R := lim E fin (.code c1 K4) (tJ1 hi first root child data_P)
noncomputable def SL0 (hi : Int) (first : Int) (root : Int) (data_P : List Int) : R :=
  cond (decide ((IntKind.i64.wrap ((IntKind.i64.wrap (2 * root)) + 1)) ≥ hi))
    (some (data_P, ()))
    (cond (decide ((IntKind.i64.wrap ((IntKind.i64.wrap ((IntKind.i64.wrap (2 * root)) + 1)) + 1)) < hi))
      (cond (decide (0 ≤ IntKind.i64.wrap (first + (IntKind.i64.wrap ((IntKind.i64.wrap (2 * root)) + 1)))) && decide (IntKind.i64.wrap (first + (IntKind.i64.wrap ((IntKind.i64.wrap (2 * root)) + 1))) < (data_P.length : Int)))
        (cond (decide (0 ≤ IntKind.i64.wrap ((IntKind.i64.wrap (first + (IntKind.i64.wrap ((IntKind.i64.wrap (2 * root)) + 1)))) + 1)) && decide (IntKind.i64.wrap ((IntKind.i64.wrap (first + (IntKind.i64.wrap ((IntKind.i64.wrap (2 * root)) + 1)))) + 1) < (data_P.length : Int)))
          (Option.bind (cmp_Less_int (data_P.getD ((IntKind.i64.wrap (first + (IntKind.i64.wrap ((IntKind.i64.wrap (2 * root)) + 1)))).toNat) 0) (data_P.getD ((IntKind.i64.wrap ((IntKind.i64.wrap (first + (IntKind.i64.wrap ((IntKind.i64.wrap (2 * root)) + 1)))) + 1)).toNat) 0)) fun x1 =>
          cond x1.1
            (J1 hi first root (IntKind.i64.wrap ((IntKind.i64.wrap ((IntKind.i64.wrap (2 * root)) + 1)) + 1)) data_P)
            (J1 hi first root (IntKind.i64.wrap ((IntKind.i64.wrap (2 * root)) + 1)) data_P))
          none)
        none)
      (J1 hi first root (IntKind.i64.wrap ((IntKind.i64.wrap (2 * root)) + 1)) data_P))
noncomputable def SJ1 (hi : Int) (first : Int) (root : Int) (child : Int) (data_P : List Int) : R :=
  cond (decide (0 ≤ IntKind.i64.wrap (first + root)) && decide (IntKind.i64.wrap (first + root) < (data_P.length : Int)))
    (cond (decide (0 ≤ IntKind.i64.wrap (first + child)) && decide (IntKind.i64.wrap (first + child) < (data_P.length : Int)))
      (Option.bind (cmp_Less_int (data_P.getD ((IntKind.i64.wrap (first + root)).toNat) 0) (data_P.getD ((IntKind.i64.wrap (first + child)).toNat) 0)) fun x1 =>
      cond (!x1.1)
        (some (data_P, ()))
        (cond (decide (0 ≤ IntKind.i64.wrap (first + child)) && decide (IntKind.i64.wrap (first + child) < (data_P.length : Int)))
          (cond (decide (0 ≤ IntKind.i64.wrap (first + root)) && decide (IntKind.i64.wrap (first + root) < (data_P.length : Int)))
            (cond (decide (0 ≤ IntKind.i64.wrap (first + root)) && decide (IntKind.i64.wrap (first + root) < (data_P.length : Int)))
              (cond (decide (0 ≤ IntKind.i64.wrap (first + child)) && decide (IntKind.i64.wrap (first + child) < ((data_P.set ((IntKind.i64.wrap (first + root)).toNat) (data_P.getD ((IntKind.i64.wrap (first + child)).toNat) 0)).length : Int)))
                (L0 hi first child ((data_P.set ((IntKind.i64.wrap (first + root)).toNat) (data_P.getD ((IntKind.i64.wrap (first + child)).toNat) 0)).set ((IntKind.i64.wrap (first + child)).toNat) (data_P.getD ((IntKind.i64.wrap (first + root)).toNat) 0)))
                none)
              none)
            none)
          none))
      none)
    none
noncomputable def Se (data : List Int) (lo : Int) (hi : Int) (first : Int) : R :=
  L0 hi first lo data
theorem L0_eq (hi first root data_P) : L0 hi first root data_P = SL0 hi first root data_P := (lim_eq (.loop c0 K2) (tL0 hi first root data_P)).trans (by kernel_rfl)
theorem J1_eq (hi first root child data_P) : J1 hi first root child data_P = SJ1 hi first root child data_P := (lim_eq (.code c1 K4) (tJ1 hi first root child data_P)).trans (by kernel_rfl)
theorem se (x : (argTy ps).den) : run E (lim E fin) fin depth (bodyOf Try.f76) .ret (entryFrom 0 ps x) = Se x.1 x.2.1 x.2.2.1 x.2.2.2.1 := by kernel_rfl
end slices_siftDownOrdered_int
noncomputable def slices_siftDownOrdered_int (data : List Int) (lo : Int) (hi : Int) (first : Int) : slices_siftDownOrdered_int.R :=
  slices_siftDownOrdered_int.Se data lo hi first
namespace slices_siftDownOrdered_int
noncomputable def sig : Sig := ⟨ps, rs, fun x => slices_siftDownOrdered_int x.1 x.2.1 x.2.2.1 x.2.2.2.1⟩
theorem val (x : (argTy ps).den) : lim E fin (.code (bodyOf Try.f76) .ret) (entryFrom 0 ps x) = sig.run x := (lim_eq (.code (bodyOf Try.f76) .ret) (entryFrom 0 ps x)).trans (se x)
theorem ok : CallOK Try.prog 76 sig :=
  callOK_of_lim (E := E) mixed tt_ok (ctxOk_cons ctxOk_nil cmp_Less_int.ok Try.func71 (by kernel_rfl) (by kernel_rfl)) Try.func76 (by kernel_rfl : Try.f76.body = some (bodyOf Try.f76)) Try.ntmps76 (of_decide_eq_true (by kernel_rfl)) (of_decide_eq_true (by kernel_rfl)) fun x y h => (val x).trans h
noncomputable def ctxc (n : Nat) : List (Nat × Sig) := [(71, cmp_Less_int.sigc n)]
noncomputable def sigc (n : Nat) : Sig := ⟨ps, rs, fun x => runs (withCtx E (ctxc n)) fin n (.code (bodyOf Try.f76) .ret) (entryFrom 0 ps x)⟩
theorem sigc_le (n : Nat) : ∀ x y, (sigc n).run x = some y → sig.run x = some y := fun x y h => (val x).symm.trans (runs_lim (E := E) (c := ctxc n) (ctxLe_cons ctxLe_nil (cmp_Less_int.sigc_le n)) h)
end slices_siftDownOrdered_int
namespace slices_heapSortOrdered_int
abbrev ps : List PM := [.own (.int .i64), .pure (.int .i64), .pure (.int .i64)]
abbrev rs : List RM := []
abbrev R : Type := Option (List Int × Unit)
noncomputable def E : Env := { tt := tt, ctx := [(76, slices_siftDownOrdered_int.sig)], nt := 56, ann := [(1000004, [(0, .keep), (6, .keep), (7, .keep), (8, .keep), (9, .keep)]), (1000008, [(0, .keep), (6, .keep), (7, .keep), (10, .keep)])] }
noncomputable def c0 : Code := sub [1, 1, 1, 1] (bodyOf Try.f66)
noncomputable def c1 : Code := sub [1, 1, 1, 0, 1, 0, 0] (bodyOf Try.f66)
noncomputable def c2 : Code := sub [1, 1, 1, 1, 1, 0, 0] (bodyOf Try.f66)
noncomputable def K4 : Kont := .seq c0 .ret
noncomputable def K6 : Kont := .blk 0 K4
noncomputable def K13 : Kont := .blk 2 .ret
noncomputable def fin : ASt → R := Kret E Try.f66.results.toList ps rs
def tL0 (first : Int) (lo : Int) (hi : Int) (i : Int) (data_P : List Int) : ASt := ⟨[(9, .one (.val (.int .i64) i)), (8, .one (.val (.int .i64) hi)), (7, .one (.val (.int .i64) lo)), (6, .one (.val (.int .i64) first)), (0, .one (.own 10000))], [(10000, some ⟨.fixed, .int .i64, data_P⟩)]⟩
def tL1 (first : Int) (lo : Int) (i : Int) (data_P : List Int) : ASt := ⟨[(10, .one (.val (.int .i64) i)), (7, .one (.val (.int .i64) lo)), (6, .one (.val (.int .i64) first)), (0, .one (.own 10000))], [(10000, some ⟨.fixed, .int .i64, data_P⟩)]⟩
noncomputable def L0 (first : Int) (lo : Int) (hi : Int) (i : Int) (data_P : List Int) : R := lim E fin (.loop c1 K6) (tL0 first lo hi i data_P)
noncomputable def L1 (first : Int) (lo : Int) (i : Int) (data_P : List Int) : R := lim E fin (.loop c2 K13) (tL1 first lo i data_P)
noncomputable def SL0 (first : Int) (lo : Int) (hi : Int) (i : Int) (data_P : List Int) : R :=
  cond (decide (i ≥ 0))
    (Option.bind (slices_siftDownOrdered_int data_P i hi first) fun x1 =>
    L0 first lo hi (IntKind.i64.wrap (i - 1)) x1.1)
    (L1 first lo (IntKind.i64.wrap (hi - 1)) data_P)
noncomputable def SL1 (first : Int) (lo : Int) (i : Int) (data_P : List Int) : R :=
  cond (decide (i ≥ 0))
    (cond (decide (0 ≤ IntKind.i64.wrap (first + i)) && decide (IntKind.i64.wrap (first + i) < (data_P.length : Int)))
      (cond (decide (0 ≤ first) && decide (first < (data_P.length : Int)))
        (cond (decide (0 ≤ first) && decide (first < (data_P.length : Int)))
          (cond (decide (0 ≤ IntKind.i64.wrap (first + i)) && decide (IntKind.i64.wrap (first + i) < ((data_P.set first.toNat (data_P.getD ((IntKind.i64.wrap (first + i)).toNat) 0)).length : Int)))
            (Option.bind (slices_siftDownOrdered_int ((data_P.set first.toNat (data_P.getD ((IntKind.i64.wrap (first + i)).toNat) 0)).set ((IntKind.i64.wrap (first + i)).toNat) (data_P.getD first.toNat 0)) lo i first) fun x1 =>
            L1 first lo (IntKind.i64.wrap (i - 1)) x1.1)
            none)
          none)
        none)
      none)
    (some (data_P, ()))
noncomputable def Se (data : List Int) (a : Int) (b : Int) : R :=
  L0 a 0 (IntKind.i64.wrap (b - a)) (IntKind.i64.wrap (Int.tdiv (IntKind.i64.wrap ((IntKind.i64.wrap (b - a)) - 1)) 2)) data
theorem L0_eq (first lo hi i data_P) : L0 first lo hi i data_P = SL0 first lo hi i data_P := (lim_eq (.loop c1 K6) (tL0 first lo hi i data_P)).trans (by kernel_rfl)
theorem L1_eq (first lo i data_P) : L1 first lo i data_P = SL1 first lo i data_P := (lim_eq (.loop c2 K13) (tL1 first lo i data_P)).trans (by kernel_rfl)
theorem se (x : (argTy ps).den) : run E (lim E fin) fin depth (bodyOf Try.f66) .ret (entryFrom 0 ps x) = Se x.1 x.2.1 x.2.2.1 := by kernel_rfl
end slices_heapSortOrdered_int
noncomputable def slices_heapSortOrdered_int (data : List Int) (a : Int) (b : Int) : slices_heapSortOrdered_int.R :=
  slices_heapSortOrdered_int.Se data a b
namespace slices_heapSortOrdered_int
noncomputable def sig : Sig := ⟨ps, rs, fun x => slices_heapSortOrdered_int x.1 x.2.1 x.2.2.1⟩
theorem val (x : (argTy ps).den) : lim E fin (.code (bodyOf Try.f66) .ret) (entryFrom 0 ps x) = sig.run x := (lim_eq (.code (bodyOf Try.f66) .ret) (entryFrom 0 ps x)).trans (se x)
theorem ok : CallOK Try.prog 66 sig :=
  callOK_of_lim (E := E) mixed tt_ok (ctxOk_cons ctxOk_nil slices_siftDownOrdered_int.ok Try.func76 (by kernel_rfl) (by kernel_rfl)) Try.func66 (by kernel_rfl : Try.f66.body = some (bodyOf Try.f66)) Try.ntmps66 (of_decide_eq_true (by kernel_rfl)) (of_decide_eq_true (by kernel_rfl)) fun x y h => (val x).trans h
noncomputable def ctxc (n : Nat) : List (Nat × Sig) := [(76, slices_siftDownOrdered_int.sigc n)]
noncomputable def sigc (n : Nat) : Sig := ⟨ps, rs, fun x => runs (withCtx E (ctxc n)) fin n (.code (bodyOf Try.f66) .ret) (entryFrom 0 ps x)⟩
theorem sigc_le (n : Nat) : ∀ x y, (sigc n).run x = some y → sig.run x = some y := fun x y h => (val x).symm.trans (runs_lim (E := E) (c := ctxc n) (ctxLe_cons ctxLe_nil (slices_siftDownOrdered_int.sigc_le n)) h)
end slices_heapSortOrdered_int
namespace slices_nextPowerOfTwo
abbrev ps : List PM := [.pure (.int .i64)]
abbrev rs : List RM := [.pure (.int .u64)]
abbrev R : Type := Option (Int × Unit)
noncomputable def E : Env := { tt := tt, ctx := [(63, math_bits_Len.sig)], nt := 7, ann := [] }
noncomputable def fin : ASt → R := Kret E Try.f77.results.toList ps rs
noncomputable def Se (length_0 : Int) : R :=
  Option.bind (math_bits_Len (IntKind.u64.wrap length_0)) fun x1 =>
  cond (decide (x1.1 < 0))
    none
    (some (IntKind.u64.wrap (1 * 2 ^ (min x1.1.toNat IntKind.u64.bits)), ()))
theorem se (x : (argTy ps).den) : run E (lim E fin) fin depth (bodyOf Try.f77) .ret (entryFrom 0 ps x) = Se x.1 := by kernel_rfl
end slices_nextPowerOfTwo
noncomputable def slices_nextPowerOfTwo (length_0 : Int) : slices_nextPowerOfTwo.R :=
  slices_nextPowerOfTwo.Se length_0
namespace slices_nextPowerOfTwo
noncomputable def sig : Sig := ⟨ps, rs, fun x => slices_nextPowerOfTwo x.1⟩
theorem val (x : (argTy ps).den) : lim E fin (.code (bodyOf Try.f77) .ret) (entryFrom 0 ps x) = sig.run x := (lim_eq (.code (bodyOf Try.f77) .ret) (entryFrom 0 ps x)).trans (se x)
theorem ok : CallOK Try.prog 77 sig :=
  callOK_of_lim (E := E) mixed tt_ok (ctxOk_cons ctxOk_nil math_bits_Len.ok Try.func63 (by kernel_rfl) (by kernel_rfl)) Try.func77 (by kernel_rfl : Try.f77.body = some (bodyOf Try.f77)) Try.ntmps77 (of_decide_eq_true (by kernel_rfl)) (of_decide_eq_true (by kernel_rfl)) fun x y h => (val x).trans h
noncomputable def ctxc (n : Nat) : List (Nat × Sig) := [(63, math_bits_Len.sigc n)]
noncomputable def sigc (n : Nat) : Sig := ⟨ps, rs, fun x => runs (withCtx E (ctxc n)) fin n (.code (bodyOf Try.f77) .ret) (entryFrom 0 ps x)⟩
theorem sigc_le (n : Nat) : ∀ x y, (sigc n).run x = some y → sig.run x = some y := fun x y h => (val x).symm.trans (runs_lim (E := E) (c := ctxc n) (ctxLe_cons ctxLe_nil (math_bits_Len.sigc_le n)) h)
end slices_nextPowerOfTwo
namespace slices_xorshift_Next
abbrev ps : List PM := [.ptr (.int .u64)]
abbrev rs : List RM := [.pure (.int .u64)]
abbrev R : Type := Option (Int × Int × Unit)
noncomputable def E : Env := { tt := tt, ctx := [], nt := 33, ann := [] }
noncomputable def fin : ASt → R := Kret E Try.f78.results.toList ps rs
noncomputable def Se (r_0 : Int) : R :=
  some (IntKind.u64.wrap (BitVec.ofInt IntKind.u64.bits (IntKind.u64.wrap (BitVec.ofInt IntKind.u64.bits (IntKind.u64.wrap (BitVec.ofInt IntKind.u64.bits r_0 ^^^ BitVec.ofInt IntKind.u64.bits (IntKind.u64.wrap (r_0 * 2 ^ (min 13 IntKind.u64.bits)))).toNat) ^^^ BitVec.ofInt IntKind.u64.bits (Int.fdiv (IntKind.u64.wrap (BitVec.ofInt IntKind.u64.bits r_0 ^^^ BitVec.ofInt IntKind.u64.bits (IntKind.u64.wrap (r_0 * 2 ^ (min 13 IntKind.u64.bits)))).toNat) (2 ^ (min 7 IntKind.u64.bits)))).toNat) ^^^ BitVec.ofInt IntKind.u64.bits (IntKind.u64.wrap ((IntKind.u64.wrap (BitVec.ofInt IntKind.u64.bits (IntKind.u64.wrap (BitVec.ofInt IntKind.u64.bits r_0 ^^^ BitVec.ofInt IntKind.u64.bits (IntKind.u64.wrap (r_0 * 2 ^ (min 13 IntKind.u64.bits)))).toNat) ^^^ BitVec.ofInt IntKind.u64.bits (Int.fdiv (IntKind.u64.wrap (BitVec.ofInt IntKind.u64.bits r_0 ^^^ BitVec.ofInt IntKind.u64.bits (IntKind.u64.wrap (r_0 * 2 ^ (min 13 IntKind.u64.bits)))).toNat) (2 ^ (min 7 IntKind.u64.bits)))).toNat) * 2 ^ (min 17 IntKind.u64.bits)))).toNat, IntKind.u64.wrap (BitVec.ofInt IntKind.u64.bits (IntKind.u64.wrap (BitVec.ofInt IntKind.u64.bits (IntKind.u64.wrap (BitVec.ofInt IntKind.u64.bits r_0 ^^^ BitVec.ofInt IntKind.u64.bits (IntKind.u64.wrap (r_0 * 2 ^ (min 13 IntKind.u64.bits)))).toNat) ^^^ BitVec.ofInt IntKind.u64.bits (Int.fdiv (IntKind.u64.wrap (BitVec.ofInt IntKind.u64.bits r_0 ^^^ BitVec.ofInt IntKind.u64.bits (IntKind.u64.wrap (r_0 * 2 ^ (min 13 IntKind.u64.bits)))).toNat) (2 ^ (min 7 IntKind.u64.bits)))).toNat) ^^^ BitVec.ofInt IntKind.u64.bits (IntKind.u64.wrap ((IntKind.u64.wrap (BitVec.ofInt IntKind.u64.bits (IntKind.u64.wrap (BitVec.ofInt IntKind.u64.bits r_0 ^^^ BitVec.ofInt IntKind.u64.bits (IntKind.u64.wrap (r_0 * 2 ^ (min 13 IntKind.u64.bits)))).toNat) ^^^ BitVec.ofInt IntKind.u64.bits (Int.fdiv (IntKind.u64.wrap (BitVec.ofInt IntKind.u64.bits r_0 ^^^ BitVec.ofInt IntKind.u64.bits (IntKind.u64.wrap (r_0 * 2 ^ (min 13 IntKind.u64.bits)))).toNat) (2 ^ (min 7 IntKind.u64.bits)))).toNat) * 2 ^ (min 17 IntKind.u64.bits)))).toNat, ())
theorem se (x : (argTy ps).den) : run E (lim E fin) fin depth (bodyOf Try.f78) .ret (entryFrom 0 ps x) = Se x.1 := by kernel_rfl
end slices_xorshift_Next
noncomputable def slices_xorshift_Next (r_0 : Int) : slices_xorshift_Next.R :=
  slices_xorshift_Next.Se r_0
namespace slices_xorshift_Next
noncomputable def sig : Sig := ⟨ps, rs, fun x => slices_xorshift_Next x.1⟩
theorem val (x : (argTy ps).den) : lim E fin (.code (bodyOf Try.f78) .ret) (entryFrom 0 ps x) = sig.run x := (lim_eq (.code (bodyOf Try.f78) .ret) (entryFrom 0 ps x)).trans (se x)
theorem ok : CallOK Try.prog 78 sig :=
  callOK_of_lim (E := E) mixed tt_ok ctxOk_nil Try.func78 (by kernel_rfl : Try.f78.body = some (bodyOf Try.f78)) Try.ntmps78 (of_decide_eq_true (by kernel_rfl)) (of_decide_eq_true (by kernel_rfl)) fun x y h => (val x).trans h
noncomputable def ctxc (n : Nat) : List (Nat × Sig) := []
noncomputable def sigc (n : Nat) : Sig := ⟨ps, rs, fun x => runs (withCtx E (ctxc n)) fin n (.code (bodyOf Try.f78) .ret) (entryFrom 0 ps x)⟩
theorem sigc_le (n : Nat) : ∀ x y, (sigc n).run x = some y → sig.run x = some y := fun x y h => (val x).symm.trans (runs_lim (E := E) (c := ctxc n) ctxLe_nil h)
end slices_xorshift_Next
namespace slices_breakPatternsOrdered_int
abbrev ps : List PM := [.own (.int .i64), .pure (.int .i64), .pure (.int .i64)]
abbrev rs : List RM := []
abbrev R : Type := Option (List Int × Unit)
noncomputable def E : Env := { tt := tt, ctx := [(77, slices_nextPowerOfTwo.sig), (78, slices_xorshift_Next.sig)], nt := 65, ann := [(1000005, [(0, .keep), (1, .keep), (6, .keep), (7, .keep), (8, .keep), (9, .keep)]), (10, [(0, .keep), (1, .keep), (6, .keep), (7, .keep), (8, .keep), (9, .keep), (10, .keep)])] }
noncomputable def c0 : Code := sub [1, 1, 0, 1, 1, 1, 0, 0] (bodyOf Try.f67)
noncomputable def c1 : Code := sub [1, 1, 0, 1, 1, 1, 0, 0, 1, 1] (bodyOf Try.f67)
noncomputable def c2 : Code := sub [1, 1, 0, 1, 1, 1, 0, 0, 1, 0, 0, 1, 1] (bodyOf Try.f67)
noncomputable def K6 : Kont := .blk 0 .ret
noncomputable def K7 : Kont := .loop c0 K6
noncomputable def K10 : Kont := .seq c1 K7
noncomputable def K11 : Kont := .blk 1 K10
noncomputable def fin : ASt → R := Kret E Try.f67.results.toList ps rs
def tL0 (a : Int) (length_6 : Int) (random : Int) (modulus : Int) (idx_9 : Int) (data_P : List Int) : ASt := ⟨[(9, .one (.val (.int .i64) idx_9)), (8, .one (.val (.int .u64) modulus)), (7, .one (.optr 7 0 [])), (6, .one (.val (.int .i64) length_6)), (1, .one (.val (.int .i64) a)), (0, .one (.own 10000))], [(7, some ⟨.free, .int .u64, [random]⟩), (10000, some ⟨.fixed, .int .i64, data_P⟩)]⟩
def tJ1 (a : Int) (length_6 : Int) (random : Int) (modulus : Int) (idx_9 : Int) (other : Int) (data_P : List Int) : ASt := ⟨[(10, .one (.val (.int .i64) other)), (9, .one (.val (.int .i64) idx_9)), (8, .one (.val (.int .u64) modulus)), (7, .one (.optr 7 0 [])), (6, .one (.val (.int .i64) length_6)), (1, .one (.val (.int .i64) a)), (0, .one (.own 10000))], [(7, some ⟨.free, .int .u64, [random]⟩), (10000, some ⟨.fixed, .int .i64, data_P⟩)]⟩
noncomputable def L0 (a : Int) (length_6 : Int) (random : Int) (modulus : Int) (idx_9 : Int) (data_P : List Int) : R := lim E fin (.loop c0 K6) (tL0 a length_6 random modulus idx_9 data_P)
noncomputable def J1 (a : Int) (length_6 : Int) (random : Int) (modulus : Int) (idx_9 : Int) (other : Int) (data_P : List Int) : R := lim E fin (.code c2 K11) (tJ1 a length_6 random modulus idx_9 other data_P)
noncomputable def SL0 (a : Int) (length_6 : Int) (random : Int) (modulus : Int) (idx_9 : Int) (data_P : List Int) : R :=
  cond (decide (idx_9 ≤ (IntKind.i64.wrap ((IntKind.i64.wrap (a + (IntKind.i64.wrap ((IntKind.i64.wrap (Int.tdiv length_6 4)) * 2)))) + 1))))
    (Option.bind (slices_xorshift_Next random) fun x1 =>
    cond (decide ((IntKind.i64.wrap (IntKind.u64.wrap (BitVec.ofInt IntKind.u64.bits x1.1 &&& BitVec.ofInt IntKind.u64.bits (IntKind.u64.wrap (modulus - 1))).toNat)) ≥ length_6))
      (J1 a length_6 x1.2.1 modulus idx_9 (IntKind.i64.wrap ((IntKind.i64.wrap (IntKind.u64.wrap (BitVec.ofInt IntKind.u64.bits x1.1 &&& BitVec.ofInt IntKind.u64.bits (IntKind.u64.wrap (modulus - 1))).toNat)) - length_6)) data_P)
      (J1 a length_6 x1.2.1 modulus idx_9 (IntKind.i64.wrap (IntKind.u64.wrap (BitVec.ofInt IntKind.u64.bits x1.1 &&& BitVec.ofInt IntKind.u64.bits (IntKind.u64.wrap (modulus - 1))).toNat)) data_P))
    (some (data_P, ()))
noncomputable def SJ1 (a : Int) (length_6 : Int) (random : Int) (modulus : Int) (idx_9 : Int) (other : Int) (data_P : List Int) : R :=
  cond (decide (0 ≤ IntKind.i64.wrap (a + other)) && decide (IntKind.i64.wrap (a + other) < (data_P.length : Int)))
    (cond (decide (0 ≤ idx_9) && decide (idx_9 < (data_P.length : Int)))
      (cond (decide (0 ≤ idx_9) && decide (idx_9 < (data_P.length : Int)))
        (cond (decide (0 ≤ IntKind.i64.wrap (a + other)) && decide (IntKind.i64.wrap (a + other) < ((data_P.set idx_9.toNat (data_P.getD ((IntKind.i64.wrap (a + other)).toNat) 0)).length : Int)))
          (L0 a length_6 random modulus (IntKind.i64.wrap (idx_9 + 1)) ((data_P.set idx_9.toNat (data_P.getD ((IntKind.i64.wrap (a + other)).toNat) 0)).set ((IntKind.i64.wrap (a + other)).toNat) (data_P.getD idx_9.toNat 0)))
          none)
        none)
      none)
    none
noncomputable def Se (data : List Int) (a : Int) (b : Int) : R :=
  cond (decide ((IntKind.i64.wrap (b - a)) ≥ 8))
    (Option.bind (slices_nextPowerOfTwo (IntKind.i64.wrap (b - a))) fun x1 =>
    L0 a (IntKind.i64.wrap (b - a)) (IntKind.u64.wrap (IntKind.i64.wrap (b - a))) x1.1 (IntKind.i64.wrap ((IntKind.i64.wrap (a + (IntKind.i64.wrap ((IntKind.i64.wrap (Int.tdiv (IntKind.i64.wrap (b - a)) 4)) * 2)))) - 1)) data)
    (some (data, ()))
theorem L0_eq (a length_6 random modulus idx_9 data_P) : L0 a length_6 random modulus idx_9 data_P = SL0 a length_6 random modulus idx_9 data_P := (lim_eq (.loop c0 K6) (tL0 a length_6 random modulus idx_9 data_P)).trans (by kernel_rfl)
theorem J1_eq (a length_6 random modulus idx_9 other data_P) : J1 a length_6 random modulus idx_9 other data_P = SJ1 a length_6 random modulus idx_9 other data_P := (lim_eq (.code c2 K11) (tJ1 a length_6 random modulus idx_9 other data_P)).trans (by kernel_rfl)
theorem se (x : (argTy ps).den) : run E (lim E fin) fin depth (bodyOf Try.f67) .ret (entryFrom 0 ps x) = Se x.1 x.2.1 x.2.2.1 := by kernel_rfl
end slices_breakPatternsOrdered_int
noncomputable def slices_breakPatternsOrdered_int (data : List Int) (a : Int) (b : Int) : slices_breakPatternsOrdered_int.R :=
  slices_breakPatternsOrdered_int.Se data a b
namespace slices_breakPatternsOrdered_int
noncomputable def sig : Sig := ⟨ps, rs, fun x => slices_breakPatternsOrdered_int x.1 x.2.1 x.2.2.1⟩
theorem val (x : (argTy ps).den) : lim E fin (.code (bodyOf Try.f67) .ret) (entryFrom 0 ps x) = sig.run x := (lim_eq (.code (bodyOf Try.f67) .ret) (entryFrom 0 ps x)).trans (se x)
theorem ok : CallOK Try.prog 67 sig :=
  callOK_of_lim (E := E) mixed tt_ok (ctxOk_cons (ctxOk_cons ctxOk_nil slices_xorshift_Next.ok Try.func78 (by kernel_rfl) (by kernel_rfl)) slices_nextPowerOfTwo.ok Try.func77 (by kernel_rfl) (by kernel_rfl)) Try.func67 (by kernel_rfl : Try.f67.body = some (bodyOf Try.f67)) Try.ntmps67 (of_decide_eq_true (by kernel_rfl)) (of_decide_eq_true (by kernel_rfl)) fun x y h => (val x).trans h
noncomputable def ctxc (n : Nat) : List (Nat × Sig) := [(77, slices_nextPowerOfTwo.sigc n), (78, slices_xorshift_Next.sigc n)]
noncomputable def sigc (n : Nat) : Sig := ⟨ps, rs, fun x => runs (withCtx E (ctxc n)) fin n (.code (bodyOf Try.f67) .ret) (entryFrom 0 ps x)⟩
theorem sigc_le (n : Nat) : ∀ x y, (sigc n).run x = some y → sig.run x = some y := fun x y h => (val x).symm.trans (runs_lim (E := E) (c := ctxc n) (ctxLe_cons (ctxLe_cons ctxLe_nil (slices_xorshift_Next.sigc_le n)) (slices_nextPowerOfTwo.sigc_le n)) h)
end slices_breakPatternsOrdered_int
namespace slices_order2Ordered_int
abbrev ps : List PM := [.pure (.sl (.int .i64)), .pure (.int .i64), .pure (.int .i64), .ptr (.int .i64)]
abbrev rs : List RM := [.pure (.int .i64), .pure (.int .i64)]
abbrev R : Type := Option (Int × Int × Int × Unit)
noncomputable def E : Env := { tt := tt, ctx := [(71, cmp_Less_int.sig)], nt := 28, ann := [] }
noncomputable def fin : ASt → R := Kret E Try.f82.results.toList ps rs
noncomputable def Se (data : List Int) (a : Int) (b : Int) (swaps : Int) : R :=
  Option.bind (idx data b) fun x1 =>
  Option.bind (idx data a) fun x2 =>
  Option.bind (cmp_Less_int x1 x2) fun x3 =>
  cond x3.1
    (some (b, a, IntKind.i64.wrap (swaps + 1), ()))
    (some (a, b, swaps, ()))
theorem se (x : (argTy ps).den) : run E (lim E fin) fin depth (bodyOf Try.f82) .ret (entryFrom 0 ps x) = Se x.1 x.2.1 x.2.2.1 x.2.2.2.1 := by kernel_rfl
end slices_order2Ordered_int
noncomputable def slices_order2Ordered_int (data : List Int) (a : Int) (b : Int) (swaps : Int) : slices_order2Ordered_int.R :=
  slices_order2Ordered_int.Se data a b swaps
namespace slices_order2Ordered_int
noncomputable def sig : Sig := ⟨ps, rs, fun x => slices_order2Ordered_int x.1 x.2.1 x.2.2.1 x.2.2.2.1⟩
theorem val (x : (argTy ps).den) : lim E fin (.code (bodyOf Try.f82) .ret) (entryFrom 0 ps x) = sig.run x := (lim_eq (.code (bodyOf Try.f82) .ret) (entryFrom 0 ps x)).trans (se x)
theorem ok : CallOK Try.prog 82 sig :=
  callOK_of_lim (E := E) mixed tt_ok (ctxOk_cons ctxOk_nil cmp_Less_int.ok Try.func71 (by kernel_rfl) (by kernel_rfl)) Try.func82 (by kernel_rfl : Try.f82.body = some (bodyOf Try.f82)) Try.ntmps82 (of_decide_eq_true (by kernel_rfl)) (of_decide_eq_true (by kernel_rfl)) fun x y h => (val x).trans h
noncomputable def ctxc (n : Nat) : List (Nat × Sig) := [(71, cmp_Less_int.sigc n)]
noncomputable def sigc (n : Nat) : Sig := ⟨ps, rs, fun x => runs (withCtx E (ctxc n)) fin n (.code (bodyOf Try.f82) .ret) (entryFrom 0 ps x)⟩
theorem sigc_le (n : Nat) : ∀ x y, (sigc n).run x = some y → sig.run x = some y := fun x y h => (val x).symm.trans (runs_lim (E := E) (c := ctxc n) (ctxLe_cons ctxLe_nil (cmp_Less_int.sigc_le n)) h)
end slices_order2Ordered_int
namespace slices_medianOrdered_int
abbrev ps : List PM := [.pure (.sl (.int .i64)), .pure (.int .i64), .pure (.int .i64), .pure (.int .i64), .ptr (.int .i64)]
abbrev rs : List RM := [.pure (.int .i64)]
abbrev R : Type := Option (Int × Int × Unit)
noncomputable def E : Env := { tt := tt, ctx := [(82, slices_order2Ordered_int.sig)], nt := 36, ann := [] }
noncomputable def fin : ASt → R := Kret E Try.f80.results.toList ps rs
noncomputable def Se (data : List Int) (a : Int) (b : Int) (c_3 : Int) (swaps : Int) : R :=
  Option.bind (slices_order2Ordered_int data a b swaps) fun x1 =>
  Option.bind (slices_order2Ordered_int data x1.2.1 c_3 x1.2.2.1) fun x2 =>
  Option.bind (slices_order2Ordered_int data x1.1 x2.1 x2.2.2.1) fun x3 =>
  some (x3.2.1, x3.2.2.1, ())
theorem se (x : (argTy ps).den) : run E (lim E fin) fin depth (bodyOf Try.f80) .ret (entryFrom 0 ps x) = Se x.1 x.2.1 x.2.2.1 x.2.2.2.1 x.2.2.2.2.1 := by kernel_rfl
end slices_medianOrdered_int
noncomputable def slices_medianOrdered_int (data : List Int) (a : Int) (b : Int) (c_3 : Int) (swaps : Int) : slices_medianOrdered_int.R :=
  slices_medianOrdered_int.Se data a b c_3 swaps
namespace slices_medianOrdered_int
noncomputable def sig : Sig := ⟨ps, rs, fun x => slices_medianOrdered_int x.1 x.2.1 x.2.2.1 x.2.2.2.1 x.2.2.2.2.1⟩
theorem val (x : (argTy ps).den) : lim E fin (.code (bodyOf Try.f80) .ret) (entryFrom 0 ps x) = sig.run x := (lim_eq (.code (bodyOf Try.f80) .ret) (entryFrom 0 ps x)).trans (se x)
theorem ok : CallOK Try.prog 80 sig :=
  callOK_of_lim (E := E) mixed tt_ok (ctxOk_cons ctxOk_nil slices_order2Ordered_int.ok Try.func82 (by kernel_rfl) (by kernel_rfl)) Try.func80 (by kernel_rfl : Try.f80.body = some (bodyOf Try.f80)) Try.ntmps80 (of_decide_eq_true (by kernel_rfl)) (of_decide_eq_true (by kernel_rfl)) fun x y h => (val x).trans h
noncomputable def ctxc (n : Nat) : List (Nat × Sig) := [(82, slices_order2Ordered_int.sigc n)]
noncomputable def sigc (n : Nat) : Sig := ⟨ps, rs, fun x => runs (withCtx E (ctxc n)) fin n (.code (bodyOf Try.f80) .ret) (entryFrom 0 ps x)⟩
theorem sigc_le (n : Nat) : ∀ x y, (sigc n).run x = some y → sig.run x = some y := fun x y h => (val x).symm.trans (runs_lim (E := E) (c := ctxc n) (ctxLe_cons ctxLe_nil (slices_order2Ordered_int.sigc_le n)) h)
end slices_medianOrdered_int
namespace slices_medianAdjacentOrdered_int
abbrev ps : List PM := [.pure (.sl (.int .i64)), .pure (.int .i64), .ptr (.int .i64)]
abbrev rs : List RM := [.pure (.int .i64)]
abbrev R : Type := Option (Int × Int × Unit)
noncomputable def E : Env := { tt := tt, ctx := [(80, slices_medianOrdered_int.sig)], nt := 15, ann := [] }
noncomputable def fin : ASt → R := Kret E Try.f79.results.toList ps rs
noncomputable def Se (data : List Int) (a : Int) (swaps : Int) : R :=
  Option.bind (slices_medianOrdered_int data (IntKind.i64.wrap (a - 1)) a (IntKind.i64.wrap (a + 1)) swaps) fun x1 =>
  some (x1.1, x1.2.1, ())
theorem se (x : (argTy ps).den) : run E (lim E fin) fin depth (bodyOf Try.f79) .ret (entryFrom 0 ps x) = Se x.1 x.2.1 x.2.2.1 := by kernel_rfl
end slices_medianAdjacentOrdered_int
noncomputable def slices_medianAdjacentOrdered_int (data : List Int) (a : Int) (swaps : Int) : slices_medianAdjacentOrdered_int.R :=
  slices_medianAdjacentOrdered_int.Se data a swaps
namespace slices_medianAdjacentOrdered_int
noncomputable def sig : Sig := ⟨ps, rs, fun x => slices_medianAdjacentOrdered_int x.1 x.2.1 x.2.2.1⟩
theorem val (x : (argTy ps).den) : lim E fin (.code (bodyOf Try.f79) .ret) (entryFrom 0 ps x) = sig.run x := (lim_eq (.code (bodyOf Try.f79) .ret) (entryFrom 0 ps x)).trans (se x)
theorem ok : CallOK Try.prog 79 sig :=
  callOK_of_lim (E := E) mixed tt_ok (ctxOk_cons ctxOk_nil slices_medianOrdered_int.ok Try.func80 (by kernel_rfl) (by kernel_rfl)) Try.func79 (by kernel_rfl : Try.f79.body = some (bodyOf Try.f79)) Try.ntmps79 (of_decide_eq_true (by kernel_rfl)) (of_decide_eq_true (by kernel_rfl)) fun x y h => (val x).trans h
noncomputable def ctxc (n : Nat) : List (Nat × Sig) := [(80, slices_medianOrdered_int.sigc n)]
noncomputable def sigc (n : Nat) : Sig := ⟨ps, rs, fun x => runs (withCtx E (ctxc n)) fin n (.code (bodyOf Try.f79) .ret) (entryFrom 0 ps x)⟩
theorem sigc_le (n : Nat) : ∀ x y, (sigc n).run x = some y → sig.run x = some y := fun x y h => (val x).symm.trans (runs_lim (E := E) (c := ctxc n) (ctxLe_cons ctxLe_nil (slices_medianOrdered_int.sigc_le n)) h)
end slices_medianAdjacentOrdered_int
namespace slices_choosePivotOrdered_int
abbrev ps : List PM := [.pure (.sl (.int .i64)), .pure (.int .i64), .pure (.int .i64)]
abbrev rs : List RM := [.pure (.int .i64), .pure (.int .i64)]
abbrev R : Type := Option (Int × Int × Unit)
noncomputable def E : Env := { tt := tt, ctx := [(79, slices_medianAdjacentOrdered_int.sig), (80, slices_medianOrdered_int.sig)], nt := 57, ann := [(12, [(9, .keep), (11, .keep)])] }
noncomputable def c0 : Code := sub [1, 1, 1, 1, 1, 1, 1] (bodyOf Try.f68)
noncomputable def fin : ASt → R := Kret E Try.f68.results.toList ps rs
def tJ0 (swaps : Int) (j : Int) : ASt := ⟨[(11, .one (.val (.int .i64) j)), (9, .one (.optr 9 0 []))], [(9, some ⟨.free, .int .i64, [swaps]⟩)]⟩
noncomputable def J0 (swaps : Int) (j : Int) : R := lim E fin (.code c0 .ret) (tJ0 swaps j)
noncomputable def SJ0 (swaps : Int) (j : Int) : R :=
  cond (swaps == 0)
    (some (j, 1, ()))
    (cond (swaps == 12)
      (some (j, 2, ()))
      (some (j, 0, ())))
noncomputable def Se (data : List Int) (a : Int) (b : Int) : R :=
  cond (decide ((IntKind.i64.wrap (b - a)) ≥ 8))
    (cond (decide ((IntKind.i64.wrap (b - a)) ≥ 50))
      (Option.bind (slices_medianAdjacentOrdered_int data (IntKind.i64.wrap (a + (IntKind.i64.wrap ((IntKind.i64.wrap (Int.tdiv (IntKind.i64.wrap (b - a)) 4)) * 1)))) 0) fun x1 =>
      Option.bind (slices_medianAdjacentOrdered_int data (IntKind.i64.wrap (a + (IntKind.i64.wrap ((IntKind.i64.wrap (Int.tdiv (IntKind.i64.wrap (b - a)) 4)) * 2)))) x1.2.1) fun x2 =>
      Option.bind (slices_medianAdjacentOrdered_int data (IntKind.i64.wrap (a + (IntKind.i64.wrap ((IntKind.i64.wrap (Int.tdiv (IntKind.i64.wrap (b - a)) 4)) * 3)))) x2.2.1) fun x3 =>
      Option.bind (slices_medianOrdered_int data x1.1 x2.1 x3.1 x3.2.1) fun x4 =>
      J0 x4.2.1 x4.1)
      (Option.bind (slices_medianOrdered_int data (IntKind.i64.wrap (a + (IntKind.i64.wrap ((IntKind.i64.wrap (Int.tdiv (IntKind.i64.wrap (b - a)) 4)) * 1)))) (IntKind.i64.wrap (a + (IntKind.i64.wrap ((IntKind.i64.wrap (Int.tdiv (IntKind.i64.wrap (b - a)) 4)) * 2)))) (IntKind.i64.wrap (a + (IntKind.i64.wrap ((IntKind.i64.wrap (Int.tdiv (IntKind.i64.wrap (b - a)) 4)) * 3)))) 0) fun x5 =>
      J0 x5.2.1 x5.1))
    (J0 0 (IntKind.i64.wrap (a + (IntKind.i64.wrap ((IntKind.i64.wrap (Int.tdiv (IntKind.i64.wrap (b - a)) 4)) * 2)))))
theorem J0_eq (swaps j) : J0 swaps j = SJ0 swaps j := (lim_eq (.code c0 .ret) (tJ0 swaps j)).trans (by kernel_rfl)
theorem se (x : (argTy ps).den) : run E (lim E fin) fin depth (bodyOf Try.f68) .ret (entryFrom 0 ps x) = Se x.1 x.2.1 x.2.2.1 := by kernel_rfl
end slices_choosePivotOrdered_int
noncomputable def slices_choosePivotOrdered_int (data : List Int) (a : Int) (b : Int) : slices_choosePivotOrdered_int.R :=
  slices_choosePivotOrdered_int.Se data a b
namespace slices_choosePivotOrdered_int
noncomputable def sig : Sig := ⟨ps, rs, fun x => slices_choosePivotOrdered_int x.1 x.2.1 x.2.2.1⟩
theorem val (x : (argTy ps).den) : lim E fin (.code (bodyOf Try.f68) .ret) (entryFrom 0 ps x) = sig.run x := (lim_eq (.code (bodyOf Try.f68) .ret) (entryFrom 0 ps x)).trans (se x)
theorem ok : CallOK Try.prog 68 sig :=
  callOK_of_lim (E := E) mixed tt_ok (ctxOk_cons (ctxOk_cons ctxOk_nil slices_medianOrdered_int.ok Try.func80 (by kernel_rfl) (by kernel_rfl)) slices_medianAdjacentOrdered_int.ok Try.func79 (by kernel_rfl) (by kernel_rfl)) Try.func68 (by kernel_rfl : Try.f68.body = some (bodyOf Try.f68)) Try.ntmps68 (of_decide_eq_true (by kernel_rfl)) (of_decide_eq_true (by kernel_rfl)) fun x y h => (val x).trans h
noncomputable def ctxc (n : Nat) : List (Nat × Sig) := [(79, slices_medianAdjacentOrdered_int.sigc n), (80, slices_medianOrdered_int.sigc n)]
noncomputable def sigc (n : Nat) : Sig := ⟨ps, rs, fun x => runs (withCtx E (ctxc n)) fin n (.code (bodyOf Try.f68) .ret) (entryFrom 0 ps x)⟩
theorem sigc_le (n : Nat) : ∀ x y, (sigc n).run x = some y → sig.run x = some y := fun x y h => (val x).symm.trans (runs_lim (E := E) (c := ctxc n) (ctxLe_cons (ctxLe_cons ctxLe_nil (slices_medianOrdered_int.sigc_le n)) (slices_medianAdjacentOrdered_int.sigc_le n)) h)
end slices_choosePivotOrdered_int
namespace slices_reverseRangeOrdered_int
abbrev ps : List PM := [.own (.int .i64), .pure (.int .i64), .pure (.int .i64)]
abbrev rs : List RM := []
abbrev R : Type := Option (List Int × Unit)
noncomputable def E : Env := { tt := tt, ctx := [], nt := 32, ann := [(1000002, [(0, .keep), (6, .keep), (7, .keep)])] }
noncomputable def c0 : Code := sub [1, 1, 0, 0] (bodyOf Try.f69)
noncomputable def K3 : Kont := .blk 0 .ret
noncomputable def fin : ASt → R := Kret E Try.f69.results.toList ps rs
def tL0 (i : Int) (j : Int) (data_P : List Int) : ASt := ⟨[(7, .one (.val (.int .i64) j)), (6, .one (.val (.int .i64) i)), (0, .one (.own 10000))], [(10000, some ⟨.fixed, .int .i64, data_P⟩)]⟩
noncomputable def L0 (i : Int) (j : Int) (data_P : List Int) : R := lim E fin (.loop c0 K3) (tL0 i j data_P)
noncomputable def SL0 (i : Int) (j : Int) (data_P : List Int) : R :=
  cond (decide (i < j))
    (cond (decide (0 ≤ j) && decide (j < (data_P.length : Int)))
      (cond (decide (0 ≤ i) && decide (i < (data_P.length : Int)))
        (cond (decide (0 ≤ i) && decide (i < (data_P.length : Int)))
          (cond (decide (0 ≤ j) && decide (j < ((data_P.set i.toNat (data_P.getD j.toNat 0)).length : Int)))
            (L0 (IntKind.i64.wrap (i + 1)) (IntKind.i64.wrap (j - 1)) ((data_P.set i.toNat (data_P.getD j.toNat 0)).set j.toNat (data_P.getD i.toNat 0)))
            none)
          none)
        none)
      none)
    (some (data_P, ()))
noncomputable def Se (data : List Int) (a : Int) (b : Int) : R :=
  L0 a (IntKind.i64.wrap (b - 1)) data
theorem L0_eq (i j data_P) : L0 i j data_P = SL0 i j data_P := (lim_eq (.loop c0 K3) (tL0 i j data_P)).trans (by kernel_rfl)
theorem se (x : (argTy ps).den) : run E (lim E fin) fin depth (bodyOf Try.f69) .ret (entryFrom 0 ps x) = Se x.1 x.2.1 x.2.2.1 := by kernel_rfl
end slices_reverseRangeOrdered_int
noncomputable def slices_reverseRangeOrdered_int (data : List Int) (a : Int) (b : Int) : slices_reverseRangeOrdered_int.R :=
  slices_reverseRangeOrdered_int.Se data a b
namespace slices_reverseRangeOrdered_int
noncomputable def sig : Sig := ⟨ps, rs, fun x => slices_reverseRangeOrdered_int x.1 x.2.1 x.2.2.1⟩
theorem val (x : (argTy ps).den) : lim E fin (.code (bodyOf Try.f69) .ret) (entryFrom 0 ps x) = sig.run x := (lim_eq (.code (bodyOf Try.f69) .ret) (entryFrom 0 ps x)).trans (se x)
theorem ok : CallOK Try.prog 69 sig :=
  callOK_of_lim (E := E) mixed tt_ok ctxOk_nil Try.func69 (by kernel_rfl : Try.f69.body = some (bodyOf Try.f69)) Try.ntmps69 (of_decide_eq_true (by kernel_rfl)) (of_decide_eq_true (by kernel_rfl)) fun x y h => (val x).trans h
noncomputable def ctxc (n : Nat) : List (Nat × Sig) := []
noncomputable def sigc (n : Nat) : Sig := ⟨ps, rs, fun x => runs (withCtx E (ctxc n)) fin n (.code (bodyOf Try.f69) .ret) (entryFrom 0 ps x)⟩
theorem sigc_le (n : Nat) : ∀ x y, (sigc n).run x = some y → sig.run x = some y := fun x y h => (val x).symm.trans (runs_lim (E := E) (c := ctxc n) ctxLe_nil h)
end slices_reverseRangeOrdered_int
namespace slices_partialInsertionSortOrdered_int
abbrev ps : List PM := [.own (.int .i64), .pure (.int .i64), .pure (.int .i64)]
abbrev rs : List RM := [.pure .bool]
abbrev R : Type := Option (Bool × List Int × Unit)
noncomputable def E : Env := { tt := tt, ctx := [(71, cmp_Less_int.sig)], nt := 133, ann := [(1000003, [(0, .keep), (1, .keep), (2, .keep), (7, .keep), (8, .keep)]), (7, [(0, .keep), (1, .keep), (2, .keep), (7, .keep), (8, .keep)]), (1000005, [(0, .keep), (1, .keep), (2, .keep), (7, .keep), (8, .keep)]), (18, [(0, .keep), (1, .keep), (2, .keep), (7, .keep), (8, .keep)]), (1000014, [(0, .keep), (1, .keep), (2, .keep), (7, .keep), (8, .keep), (9, .keep)]), (1000020, [(0, .keep), (1, .keep), (2, .keep), (7, .keep), (8, .keep), (10, .keep)])] }
noncomputable def c0 : Code := sub [1, 1, 1] (bodyOf Try.f70)
noncomputable def c1 : Code := sub [1, 1, 0, 1, 0, 0] (bodyOf Try.f70)
noncomputable def c2 : Code := sub [1, 1, 0, 1, 0, 0, 1, 1] (bodyOf Try.f70)
noncomputable def c3 : Code := sub [1, 1, 0, 1, 0, 0, 1, 0, 0, 1] (bodyOf Try.f70)
noncomputable def c4 : Code := sub [1, 1, 0, 1, 0, 0, 1, 0, 0, 1, 1, 1, 1, 1] (bodyOf Try.f70)
noncomputable def c5 : Code := sub [1, 1, 0, 1, 0, 0, 1, 0, 0, 0, 0, 0] (bodyOf Try.f70)
noncomputable def c6 : Code := sub [1, 1, 0, 1, 0, 0, 1, 0, 0, 1, 1, 1, 1, 0, 1, 0, 1, 0, 0] (bodyOf Try.f70)
noncomputable def c7 : Code := sub [1, 1, 0, 1, 0, 0, 1, 0, 0, 1, 1, 1, 1, 1, 1, 0, 1, 0, 0] (bodyOf Try.f70)
noncomputable def K3 : Kont := .seq c0 .ret
noncomputable def K5 : Kont := .blk 0 K3
noncomputable def K6 : Kont := .loop c1 K5
noncomputable def K9 : Kont := .seq c2 K6
noncomputable def K10 : Kont := .blk 1 K9
noncomputable def K11 : Kont := .seq c3 K10
noncomputable def K12 : Kont := .blk 2 K11
noncomputable def K25 : Kont := .seq c4 K10
noncomputable def K28 : Kont := .blk 4 K25
noncomputable def K32 : Kont := .blk 6 K10
noncomputable def fin : ASt → R := Kret E Try.f70.results.toList ps rs
def tL0 (a : Int) (b : Int) (i : Int) (j : Int) (data_P : List Int) : ASt := ⟨[(8, .one (.val (.int .i64) j)), (7, .one (.val (.int .i64) i)), (2, .one (.val (.int .i64) b)), (1, .one (.val (.int .i64) a)), (0, .one (.own 10000))], [(10000, some ⟨.fixed, .int .i64, data_P⟩)]⟩
def tJ1 (a : Int) (b : Int) (i : Int) (j : Int) (data_P : List Int) : ASt := ⟨[(8, .one (.val (.int .i64) j)), (7, .one (.val (.int .i64) i)), (2, .one (.val (.int .i64) b)), (1, .one (.val (.int .i64) a)), (0, .one (.own 10000))], [(10000, some ⟨.fixed, .int .i64, data_P⟩)]⟩
def tL2 (a : Int) (b : Int) (i : Int) (j : Int) (data_P : List Int) : ASt := ⟨[(8, .one (.val (.int .i64) j)), (7, .one (.val (.int .i64) i)), (2, .one (.val (.int .i64) b)), (1, .one (.val (.int .i64) a)), (0, .one (.own 10000))], [(10000, some ⟨.fixed, .int .i64, data_P⟩)]⟩
def tJ3 (a : Int) (b : Int) (i : Int) (j : Int) (data_P : List Int) : ASt := ⟨[(8, .one (.val (.int .i64) j)), (7, .one (.val (.int .i64) i)), (2, .one (.val (.int .i64) b)), (1, .one (.val (.int .i64) a)), (0, .one (.own 10000))], [(10000, some ⟨.fixed, .int .i64, data_P⟩)]⟩
def tL4 (a : Int) (b : Int) (i : Int) (j : Int) (j_9 : Int) (data_P : List Int) : ASt := ⟨[(9, .one (.val (.int .i64) j_9)), (8, .one (.val (.int .i64) j)), (7, .one (.val (.int .i64) i)), (2, .one (.val (.int .i64) b)), (1, .one (.val (.int .i64) a)), (0, .one (.own 10000))], [(10000, some ⟨.fixed, .int .i64, data_P⟩)]⟩
def tL5 (a : Int) (b : Int) (i : Int) (j : Int) (j_10 : Int) (data_P : List Int) : ASt := ⟨[(10, .one (.val (.int .i64) j_10)), (8, .one (.val (.int .i64) j)), (7, .one (.val (.int .i64) i)), (2, .one (.val (.int .i64) b)), (1, .one (.val (.int .i64) a)), (0, .one (.own 10000))], [(10000, some ⟨.fixed, .int .i64, data_P⟩)]⟩
noncomputable def L0 (a : Int) (b : Int) (i : Int) (j : Int) (data_P : List Int) : R := lim E fin (.loop c1 K5) (tL0 a b i j data_P)
noncomputable def J1 (a : Int) (b : Int) (i : Int) (j : Int) (data_P : List Int) : R := lim E fin (.code c3 K10) (tJ1 a b i j data_P)
noncomputable def L2 (a : Int) (b : Int) (i : Int) (j : Int) (data_P : List Int) : R := lim E fin (.loop c5 K12) (tL2 a b i j data_P)
noncomputable def J3 (a : Int) (b : Int) (i : Int) (j : Int) (data_P : List Int) : R := lim E fin (.code c4 K10) (tJ3 a b i j data_P)
noncomputable def L4 (a : Int) (b : Int) (i : Int) (j : Int) (j_9 : Int) (data_P : List Int) : R := lim E fin (.loop c6 K28) (tL4 a b i j j_9 data_P)
noncomputable def L5 (a : Int) (b : Int) (i : Int) (j : Int) (j_10 : Int) (data_P : List Int) : R := lim E fin (.loop c7 K32) (tL5 a b i j j_10 data_P)
noncomputable def SL0 (a : Int) (b : Int) (i : Int) (j : Int) (data_P : List Int) : R :=
  cond (decide (j < 5))
    (L2 a b i j data_P)
    (some (false, data_P, ()))
noncomputable def SJ1 (a : Int) (b : Int) (i : Int) (j : Int) (data_P : List Int) : R :=
  cond (i == b)
    (some (true, data_P, ()))
    (cond (decide ((IntKind.i64.wrap (b - a)) < 50))
      (some (false, data_P, ()))
      (cond (decide (0 ≤ IntKind.i64.wrap (i - 1)) && decide (IntKind.i64.wrap (i - 1) < (data_P.length : Int)))
        (cond (decide (0 ≤ i) && decide (i < (data_P.length : Int)))
          (cond (decide (0 ≤ i) && decide (i < (data_P.length : Int)))
            (cond (decide (0 ≤ IntKind.i64.wrap (i - 1)) && decide (IntKind.i64.wrap (i - 1) < ((data_P.set i.toNat (data_P.getD ((IntKind.i64.wrap (i - 1)).toNat) 0)).length : Int)))
              (cond (decide ((IntKind.i64.wrap (i - a)) ≥ 2))
                (L4 a b i j (IntKind.i64.wrap (i - 1)) ((data_P.set i.toNat (data_P.getD ((IntKind.i64.wrap (i - 1)).toNat) 0)).set ((IntKind.i64.wrap (i - 1)).toNat) (data_P.getD i.toNat 0)))
                (J3 a b i j ((data_P.set i.toNat (data_P.getD ((IntKind.i64.wrap (i - 1)).toNat) 0)).set ((IntKind.i64.wrap (i - 1)).toNat) (data_P.getD i.toNat 0))))
              none)
            none)
          none)
        none))
noncomputable def SL2 (a : Int) (b : Int) (i : Int) (j : Int) (data_P : List Int) : R :=
  cond (decide (i < b))
    (cond (decide (0 ≤ i) && decide (i < (data_P.length : Int)))
      (cond (decide (0 ≤ IntKind.i64.wrap (i - 1)) && decide (IntKind.i64.wrap (i - 1) < (data_P.length : Int)))
        (Option.bind (cmp_Less_int (data_P.getD i.toNat 0) (data_P.getD ((IntKind.i64.wrap (i - 1)).toNat) 0)) fun x1 =>
        cond (!x1.1)
          (L2 a b (IntKind.i64.wrap (i + 1)) j data_P)
          (J1 a b i j data_P))
        none)
      none)
    (J1 a b i j data_P)
noncomputable def SJ3 (a : Int) (b : Int) (i : Int) (j : Int) (data_P : List Int) : R :=
  cond (decide ((IntKind.i64.wrap (b - i)) ≥ 2))
    (L5 a b i j (IntKind.i64.wrap (i + 1)) data_P)
    (L0 a b i (IntKind.i64.wrap (j + 1)) data_P)
noncomputable def SL4 (a : Int) (b : Int) (i : Int) (j : Int) (j_9 : Int) (data_P : List Int) : R :=
  cond (decide (j_9 ≥ 1))
    (cond (decide (0 ≤ j_9) && decide (j_9 < (data_P.length : Int)))
      (cond (decide (0 ≤ IntKind.i64.wrap (j_9 - 1)) && decide (IntKind.i64.wrap (j_9 - 1) < (data_P.length : Int)))
        (Option.bind (cmp_Less_int (data_P.getD j_9.toNat 0) (data_P.getD ((IntKind.i64.wrap (j_9 - 1)).toNat) 0)) fun x1 =>
        cond (!x1.1)
          (J3 a b i j data_P)
          (cond (decide (0 ≤ IntKind.i64.wrap (j_9 - 1)) && decide (IntKind.i64.wrap (j_9 - 1) < (data_P.length : Int)))
            (cond (decide (0 ≤ j_9) && decide (j_9 < (data_P.length : Int)))
              (cond (decide (0 ≤ j_9) && decide (j_9 < (data_P.length : Int)))
                (cond (decide (0 ≤ IntKind.i64.wrap (j_9 - 1)) && decide (IntKind.i64.wrap (j_9 - 1) < ((data_P.set j_9.toNat (data_P.getD ((IntKind.i64.wrap (j_9 - 1)).toNat) 0)).length : Int)))
                  (L4 a b i j (IntKind.i64.wrap (j_9 - 1)) ((data_P.set j_9.toNat (data_P.getD ((IntKind.i64.wrap (j_9 - 1)).toNat) 0)).set ((IntKind.i64.wrap (j_9 - 1)).toNat) (data_P.getD j_9.toNat 0)))
                  none)
                none)
              none)
            none))
        none)
      none)
    (J3 a b i j data_P)
noncomputable def SL5 (a : Int) (b : Int) (i : Int) (j : Int) (j_10 : Int) (data_P : List Int) : R :=
  cond (decide (j_10 < b))
    (cond (decide (0 ≤ j_10) && decide (j_10 < (data_P.length : Int)))
      (cond (decide (0 ≤ IntKind.i64.wrap (j_10 - 1)) && decide (IntKind.i64.wrap (j_10 - 1) < (data_P.length : Int)))
        (Option.bind (cmp_Less_int (data_P.getD j_10.toNat 0) (data_P.getD ((IntKind.i64.wrap (j_10 - 1)).toNat) 0)) fun x1 =>
        cond (!x1.1)
          (L0 a b i (IntKind.i64.wrap (j + 1)) data_P)
          (cond (decide (0 ≤ IntKind.i64.wrap (j_10 - 1)) && decide (IntKind.i64.wrap (j_10 - 1) < (data_P.length : Int)))
            (cond (decide (0 ≤ j_10) && decide (j_10 < (data_P.length : Int)))
              (cond (decide (0 ≤ j_10) && decide (j_10 < (data_P.length : Int)))
                (cond (decide (0 ≤ IntKind.i64.wrap (j_10 - 1)) && decide (IntKind.i64.wrap (j_10 - 1) < ((data_P.set j_10.toNat (data_P.getD ((IntKind.i64.wrap (j_10 - 1)).toNat) 0)).length : Int)))
                  (L5 a b i j (IntKind.i64.wrap (j_10 + 1)) ((data_P.set j_10.toNat (data_P.getD ((IntKind.i64.wrap (j_10 - 1)).toNat) 0)).set ((IntKind.i64.wrap (j_10 - 1)).toNat) (data_P.getD j_10.toNat 0)))
                  none)
                none)
              none)
            none))
        none)
      none)
    (L0 a b i (IntKind.i64.wrap (j + 1)) data_P)
noncomputable def Se (data : List Int) (a : Int) (b : Int) : R :=
  L0 a b (IntKind.i64.wrap (a + 1)) 0 data
theorem L0_eq (a b i j data_P) : L0 a b i j data_P = SL0 a b i j data_P := (lim_eq (.loop c1 K5) (tL0 a b i j data_P)).trans (by kernel_rfl)
theorem J1_eq (a b i j data_P) : J1 a b i j data_P = SJ1 a b i j data_P := (lim_eq (.code c3 K10) (tJ1 a b i j data_P)).trans (by kernel_rfl)
theorem L2_eq (a b i j data_P) : L2 a b i j data_P = SL2 a b i j data_P := (lim_eq (.loop c5 K12) (tL2 a b i j data_P)).trans (by kernel_rfl)
theorem J3_eq (a b i j data_P) : J3 a b i j data_P = SJ3 a b i j data_P := (lim_eq (.code c4 K10) (tJ3 a b i j data_P)).trans (by kernel_rfl)
theorem L4_eq (a b i j j_9 data_P) : L4 a b i j j_9 data_P = SL4 a b i j j_9 data_P := (lim_eq (.loop c6 K28) (tL4 a b i j j_9 data_P)).trans (by kernel_rfl)
theorem L5_eq (a b i j j_10 data_P) : L5 a b i j j_10 data_P = SL5 a b i j j_10 data_P := (lim_eq (.loop c7 K32) (tL5 a b i j j_10 data_P)).trans (by kernel_rfl)
theorem se (x : (argTy ps).den) : run E (lim E fin) fin depth (bodyOf Try.f70) .ret (entryFrom 0 ps x) = Se x.1 x.2.1 x.2.2.1 := by kernel_rfl
end slices_partialInsertionSortOrdered_int
noncomputable def slices_partialInsertionSortOrdered_int (data : List Int) (a : Int) (b : Int) : slices_partialInsertionSortOrdered_int.R :=
  slices_partialInsertionSortOrdered_int.Se data a b
namespace slices_partialInsertionSortOrdered_int
noncomputable def sig : Sig := ⟨ps, rs, fun x => slices_partialInsertionSortOrdered_int x.1 x.2.1 x.2.2.1⟩
theorem val (x : (argTy ps).den) : lim E fin (.code (bodyOf Try.f70) .ret) (entryFrom 0 ps x) = sig.run x := (lim_eq (.code (bodyOf Try.f70) .ret) (entryFrom 0 ps x)).trans (se x)
theorem ok : CallOK Try.prog 70 sig :=
  callOK_of_lim (E := E) mixed tt_ok (ctxOk_cons ctxOk_nil cmp_Less_int.ok Try.func71 (by kernel_rfl) (by kernel_rfl)) Try.func70 (by kernel_rfl : Try.f70.body = some (bodyOf Try.f70)) Try.ntmps70 (of_decide_eq_true (by kernel_rfl)) (of_decide_eq_true (by kernel_rfl)) fun x y h => (val x).trans h
noncomputable def ctxc (n : Nat) : List (Nat × Sig) := [(71, cmp_Less_int.sigc n)]
noncomputable def sigc (n : Nat) : Sig := ⟨ps, rs, fun x => runs (withCtx E (ctxc n)) fin n (.code (bodyOf Try.f70) .ret) (entryFrom 0 ps x)⟩
theorem sigc_le (n : Nat) : ∀ x y, (sigc n).run x = some y → sig.run x = some y := fun x y h => (val x).symm.trans (runs_lim (E := E) (c := ctxc n) (ctxLe_cons ctxLe_nil (cmp_Less_int.sigc_le n)) h)
end slices_partialInsertionSortOrdered_int
end Go.Proofs.Ytojafdgkcamliaa
