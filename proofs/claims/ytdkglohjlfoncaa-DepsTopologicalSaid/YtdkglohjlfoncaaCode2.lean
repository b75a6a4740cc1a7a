import Derived.Test.YtdkglohjlfoncaaCode1
set_option maxRecDepth 100000
set_option linter.unusedVariables false
namespace Go.Proofs.Ytdkglohjlfoncaa
open Go Go.Lift
namespace slices_Compact_int_int
abbrev ps : List PM := [.give (.int .i64)]
abbrev rs : List RM := [.own (.int .i64)]
abbrev R : Type := Option (List Int × Unit)
noncomputable def E : Env := { tt := tt, ctx := [], nt := 61, ann := [(1000004, [(0, .keep), (3, .keep)]), (1000009, [(0, .keep), (3, .keep), (4, .keep), (5, .keep)])] }
noncomputable def c0 : Code := sub [1, 1, 1] (bodyOf Try.f33)
noncomputable def c1 : Code := sub [1, 1, 0, 1, 0, 0] (bodyOf Try.f33)
noncomputable def c2 : Code := sub [1, 1, 0, 1, 0, 0, 1, 1] (bodyOf Try.f33)
noncomputable def c3 : Code := sub [1, 1, 0, 1, 0, 0, 1, 0, 0, 1, 0, 1, 1] (bodyOf Try.f33)
noncomputable def c4 : Code := sub [1, 1, 0, 1, 0, 0, 1, 0, 0, 1, 0, 1, 0, 1, 0, 0] (bodyOf Try.f33)
noncomputable def K5 : Kont := .seq c0 .ret
noncomputable def K7 : Kont := .blk 0 K5
noncomputable def K8 : Kont := .loop c1 K7
noncomputable def K11 : Kont := .seq c2 K8
noncomputable def K12 : Kont := .blk 1 K11
noncomputable def K15 : Kont := .seq c3 K12
noncomputable def K17 : Kont := .blk 2 K15
noncomputable def fin : ASt → R := Kret E Try.f33.results.toList ps rs
def tL0 (s : List Int) (k : Int) : ASt := ⟨[(3, .one (.val (.int .i64) k)), (0, .one (.own 0))], [(0, some ⟨.free, .int .i64, s⟩)]⟩
def tL1 (s : List Int) (k : Int) (s2_lo : Nat) (s2_len : Nat) (k2 : Int) : ASt := ⟨[(5, .one (.val (.int .i64) k2)), (4, .one (.osub 0 s2_lo s2_len)), (3, .one (.val (.int .i64) k)), (0, .one (.own 0))], [(0, some ⟨.free, .int .i64, s⟩)]⟩
noncomputable def L0 (s : List Int) (k : Int) : R := lim E fin (.loop c1 K7) (tL0 s k)
noncomputable def L1 (s : List Int) (k : Int) (s2_lo : Nat) (s2_len : Nat) (k2 : Int) : R := lim E fin (.loop c4 K17) (tL1 s k s2_lo s2_len k2)
noncomputable def SL0 (s : List Int) (k : Int) : R :=
  cond (decide (k < (s.length : Int)))
    (cond (decide (0 ≤ k) && decide (k < (s.length : Int)))
      (cond (decide (0 ≤ IntKind.i64.wrap (k - 1)) && decide (IntKind.i64.wrap (k - 1) < (s.length : Int)))
        (cond ((s.getD k.toNat 0) == (s.getD ((IntKind.i64.wrap (k - 1)).toNat) 0))
          (cond (decide ((0 : Int) ≤ k) && (decide ((k : Int) ≤ (s.length : Int)) && decide ((s.length : Int) ≤ (s.length : Int))))
            (L1 s k k.toNat (s.length - k.toNat) 1)
            none)
          (L0 s (IntKind.i64.wrap (k + 1))))
        none)
      none)
    (some (s, ()))
noncomputable def SL1 (s : List Int) (k : Int) (s2_lo : Nat) (s2_len : Nat) (k2 : Int) : R :=
  cond (decide (k2 < (s2_len : Int)))
    (cond (decide (0 ≤ k2) && decide (k2 < ((s2_len : Nat) : Int)))
      (cond (decide (0 ≤ IntKind.i64.wrap (k2 - 1)) && decide (IntKind.i64.wrap (k2 - 1) < ((s2_len : Nat) : Int)))
        (cond ((s.getD (s2_lo + k2.toNat) 0) != (s.getD (s2_lo + (IntKind.i64.wrap (k2 - 1)).toNat) 0))
          (cond (decide (0 ≤ k2) && decide (k2 < ((s2_len : Nat) : Int)))
            (cond (decide (0 ≤ k) && decide (k < (s.length : Int)))
              (L1 (s.set k.toNat (s.getD (s2_lo + k2.toNat) 0)) (IntKind.i64.wrap (k + 1)) s2_lo s2_len (IntKind.i64.wrap (k2 + 1)))
              none)
            none)
          (L1 s k s2_lo s2_len (IntKind.i64.wrap (k2 + 1))))
        none)
      none)
    (cond (decide ((0 : Int) ≤ k) && (decide ((k : Int) ≤ (s.length : Int)) && decide ((s.length : Int) ≤ (s.length : Int))))
      (cond (decide (0 < (s.length - k.toNat)))
        (cond (decide ((0 : Int) ≤ 0) && (decide ((0 : Int) ≤ k) && decide (k ≤ ((s.take k.toNat ++ (List.replicate (s.length - k.toNat) 0 ++ s.drop (k.toNat + (s.length - k.toNat)))).length : Int))))
          (some (((s.take k.toNat ++ (List.replicate (s.length - k.toNat) 0 ++ s.drop (k.toNat + (s.length - k.toNat)))).take k.toNat), ()))
          none)
        none)
      none)
noncomputable def Se (s : List Int) : R :=
  cond (decide ((s.length : Int) < 2))
    (some (s, ()))
    (L0 s 1)
theorem L0_eq (s k) : L0 s k = SL0 s k := (lim_eq (.loop c1 K7) (tL0 s k)).trans (by kernel_rfl)
theorem L1_eq (s k s2_lo s2_len k2) : L1 s k s2_lo s2_len k2 = SL1 s k s2_lo s2_len k2 := (lim_eq (.loop c4 K17) (tL1 s k s2_lo s2_len k2)).trans (by kernel_rfl)
theorem se (x : (argTy ps).den) : run E (lim E fin) fin depth (bodyOf Try.f33) .ret (entryFrom 0 ps x) = Se x.1 := by kernel_rfl
end slices_Compact_int_int
noncomputable def slices_Compact_int_int (s : List Int) : slices_Compact_int_int.R :=
  slices_Compact_int_int.Se s
namespace slices_Compact_int_int
noncomputable def sig : Sig := ⟨ps, rs, fun x => slices_Compact_int_int x.1⟩
theorem val (x : (argTy ps).den) : lim E fin (.code (bodyOf Try.f33) .ret) (entryFrom 0 ps x) = sig.run x := (lim_eq (.code (bodyOf Try.f33) .ret) (entryFrom 0 ps x)).trans (se x)
theorem ok : CallOK Try.prog 33 sig :=
  callOK_of_lim (E := E) mixed tt_ok ctxOk_nil Try.func33 (by kernel_rfl : Try.f33.body = some (bodyOf Try.f33)) Try.ntmps33 (of_decide_eq_true (by kernel_rfl)) (of_decide_eq_true (by kernel_rfl)) fun x y h => (val x).trans h
noncomputable def ctxc (n : Nat) : List (Nat × Sig) := []
noncomputable def sigc (n : Nat) : Sig := ⟨ps, rs, fun x => runs (withCtx E (ctxc n)) fin n (.code (bodyOf Try.f33) .ret) (entryFrom 0 ps x)⟩
theorem sigc_le (n : Nat) : ∀ x y, (sigc n).run x = some y → sig.run x = some y := fun x y h => (val x).symm.trans (runs_lim (E := E) (c := ctxc n) ctxLe_nil h)
end slices_Compact_int_int
namespace expr_References_1
abbrev ps : List PM := [.give (.int .i64)]
abbrev rs : List RM := [.own (.int .i64)]
abbrev R : Type := Option (List Int × Unit)
noncomputable def E : Env := { tt := tt, ctx := [(32, slices_Sort_int_int.sig), (33, slices_Compact_int_int.sig)], nt := 7, ann := [] }
noncomputable def fin : ASt → R := Kret E Try.f39.results.toList ps rs
noncomputable def Se (l : List Int) : R :=
  Option.bind (slices_Sort_int_int l) fun x1 =>
  Option.bind (slices_Compact_int_int x1.1) fun x2 =>
  some (x2.1, ())
theorem se (x : (argTy ps).den) : run E (lim E fin) fin depth (bodyOf Try.f39) .ret (entryFrom 0 ps x) = Se x.1 := by kernel_rfl
end expr_References_1
noncomputable def expr_References_1 (l : List Int) : expr_References_1.R :=
  expr_References_1.Se l
namespace expr_References_1
noncomputable def sig : Sig := ⟨ps, rs, fun x => expr_References_1 x.1⟩
theorem val (x : (argTy ps).den) : lim E fin (.code (bodyOf Try.f39) .ret) (entryFrom 0 ps x) = sig.run x := (lim_eq (.code (bodyOf Try.f39) .ret) (entryFrom 0 ps x)).trans (se x)
theorem ok : CallOK Try.prog 39 sig :=
  callOK_of_lim (E := E) mixed tt_ok (ctxOk_cons (ctxOk_cons ctxOk_nil slices_Compact_int_int.ok Try.func33 (by kernel_rfl) (by kernel_rfl)) slices_Sort_int_int.ok Try.func32 (by kernel_rfl) (by kernel_rfl)) Try.func39 (by kernel_rfl : Try.f39.body = some (bodyOf Try.f39)) Try.ntmps39 (of_decide_eq_true (by kernel_rfl)) (of_decide_eq_true (by kernel_rfl)) fun x y h => (val x).trans h
noncomputable def ctxc (n : Nat) : List (Nat × Sig) := [(32, slices_Sort_int_int.sigc n), (33, slices_Compact_int_int.sigc n)]
noncomputable def sigc (n : Nat) : Sig := ⟨ps, rs, fun x => runs (withCtx E (ctxc n)) fin n (.code (bodyOf Try.f39) .ret) (entryFrom 0 ps x)⟩
theorem sigc_le (n : Nat) : ∀ x y, (sigc n).run x = some y → sig.run x = some y := fun x y h => (val x).symm.trans (runs_lim (E := E) (c := ctxc n) (ctxLe_cons (ctxLe_cons ctxLe_nil (slices_Compact_int_int.sigc_le n)) (slices_Sort_int_int.sigc_le n)) h)
end expr_References_1
namespace expr_References
abbrev ps : List PM := [.pure (.sl api_DateRange)]
abbrev rs : List RM := [.own (.int .i64), .own (.int .i64), .own (.int .i64)]
abbrev R : Type := Option (List Int × List Int × List Int × Unit)
noncomputable def E : Env := { tt := tt, ctx := [(39, expr_References_1.sig)], nt := 53, ann := [(1000003, [(5, .own (.int .i64)), (6, .own (.int .i64)), (7, .own (.int .i64)), (11, .keep), (12, .keep), (13, .keep)])] }
noncomputable def c0 : Code := sub [1, 1, 1] (bodyOf Try.f31)
noncomputable def c1 : Code := sub [1, 1, 0, 1, 0, 0] (bodyOf Try.f31)
noncomputable def K3 : Kont := .seq c0 .ret
noncomputable def K5 : Kont := .blk 0 K3
noncomputable def fin : ASt → R := Kret E Try.f31.results.toList ps rs
def tL0 (inputs : List Int) (defs : List Int) (members : List Int) (v_11 : List api_DateRangeV) (v_12 : Int) (v_13 : Int) : ASt := ⟨[(13, .one (.val (.int .i64) v_13)), (12, .one (.val (.int .i64) v_12)), (11, .one (.val (.sl api_DateRange) v_11)), (7, .one (.own 7)), (6, .one (.own 6)), (5, .one (.own 5))], [(7, some ⟨.free, .int .i64, members⟩), (6, some ⟨.free, .int .i64, defs⟩), (5, some ⟨.free, .int .i64, inputs⟩)]⟩
noncomputable def L0 (inputs : List Int) (defs : List Int) (members : List Int) (v_11 : List api_DateRangeV) (v_12 : Int) (v_13 : Int) : R := lim E fin (.loop c1 K5) (tL0 inputs defs members v_11 v_12 v_13)
noncomputable def SL0 (inputs : List Int) (defs : List Int) (members : List Int) (v_11 : List api_DateRangeV) (v_12 : Int) (v_13 : Int) : R :=
  cond (decide (v_13 < v_12))
    (Option.bind (idx v_11 v_13) fun x1 =>
    cond (x1.1 == 7)
      (cond (decide ((inputs.length + 1) * 8 ≤ room) && decide (0 < Ty.nc (.int .i64)))
        (L0 (inputs ++ [x1.2.1]) defs members v_11 v_12 (IntKind.i64.wrap (v_13 + 1)))
        none)
      (cond (x1.1 == 8)
        (cond (decide ((defs.length + 1) * 8 ≤ room) && decide (0 < Ty.nc (.int .i64)))
          (L0 inputs (defs ++ [x1.2.1]) members v_11 v_12 (IntKind.i64.wrap (v_13 + 1)))
          none)
        (cond (x1.1 == 36)
          (cond (x1.1 == 36)
            (cond (decide ((members.length + 1) * 8 ≤ room) && decide (0 < Ty.nc (.int .i64)))
              (L0 inputs defs (members ++ [x1.2.1]) v_11 v_12 (IntKind.i64.wrap (v_13 + 1)))
              none)
            (L0 inputs defs members v_11 v_12 (IntKind.i64.wrap (v_13 + 1))))
          (cond (x1.1 == 37)
            (cond (x1.1 == 37)
              (cond (decide ((members.length + 1) * 8 ≤ room) && decide (0 < Ty.nc (.int .i64)))
                (L0 inputs defs (members ++ [x1.2.1]) v_11 v_12 (IntKind.i64.wrap (v_13 + 1)))
                none)
              (L0 inputs defs members v_11 v_12 (IntKind.i64.wrap (v_13 + 1))))
            (cond (x1.1 == 38)
              (cond (x1.1 == 38)
                (cond (decide ((members.length + 1) * 8 ≤ room) && decide (0 < Ty.nc (.int .i64)))
                  (L0 inputs defs (members ++ [x1.2.1]) v_11 v_12 (IntKind.i64.wrap (v_13 + 1)))
                  none)
                (L0 inputs defs members v_11 v_12 (IntKind.i64.wrap (v_13 + 1))))
              (cond (x1.1 == 39)
                (cond (decide ((members.length + 1) * 8 ≤ room) && decide (0 < Ty.nc (.int .i64)))
                  (L0 inputs defs (members ++ [x1.2.1]) v_11 v_12 (IntKind.i64.wrap (v_13 + 1)))
                  none)
                (L0 inputs defs members v_11 v_12 (IntKind.i64.wrap (v_13 + 1)))))))))
    (Option.bind (expr_References_1 inputs) fun x2 =>
    Option.bind (expr_References_1 defs) fun x3 =>
    Option.bind (expr_References_1 members) fun x4 =>
    some (x2.1, x3.1, x4.1, ()))
noncomputable def Se (e : List api_DateRangeV) : R :=
  L0 [] [] [] e (e.length : Int) 0
theorem L0_eq (inputs defs members v_11 v_12 v_13) : L0 inputs defs members v_11 v_12 v_13 = SL0 inputs defs members v_11 v_12 v_13 := (lim_eq (.loop c1 K5) (tL0 inputs defs members v_11 v_12 v_13)).trans (by kernel_rfl)
theorem se (x : (argTy ps).den) : run E (lim E fin) fin depth (bodyOf Try.f31) .ret (entryFrom 0 ps x) = Se x.1 := by kernel_rfl
end expr_References
noncomputable def expr_References (e : List api_DateRangeV) : expr_References.R :=
  expr_References.Se e
namespace expr_References
noncomputable def sig : Sig := ⟨ps, rs, fun x => expr_References x.1⟩
theorem val (x : (argTy ps).den) : lim E fin (.code (bodyOf Try.f31) .ret) (entryFrom 0 ps x) = sig.run x := (lim_eq (.code (bodyOf Try.f31) .ret) (entryFrom 0 ps x)).trans (se x)
theorem ok : CallOK Try.prog 31 sig :=
  callOK_of_lim (E := E) mixed tt_ok (ctxOk_cons ctxOk_nil expr_References_1.ok Try.func39 (by kernel_rfl) (by kernel_rfl)) Try.func31 (by kernel_rfl : Try.f31.body = some (bodyOf Try.f31)) Try.ntmps31 (of_decide_eq_true (by kernel_rfl)) (of_decide_eq_true (by kernel_rfl)) fun x y h => (val x).trans h
noncomputable def ctxc (n : Nat) : List (Nat × Sig) := [(39, expr_References_1.sigc n)]
noncomputable def sigc (n : Nat) : Sig := ⟨ps, rs, fun x => runs (withCtx E (ctxc n)) fin n (.code (bodyOf Try.f31) .ret) (entryFrom 0 ps x)⟩
theorem sigc_le (n : Nat) : ∀ x y, (sigc n).run x = some y → sig.run x = some y := fun x y h => (val x).symm.trans (runs_lim (E := E) (c := ctxc n) (ctxLe_cons ctxLe_nil (expr_References_1.sigc_le n)) h)
end expr_References
namespace deps_Direct
abbrev ps : List PM := [.pure api_Scope, .pure (.int .i64)]
abbrev rs : List RM := [.own (.int .i64)]
abbrev R : Type := Option (List Int × Unit)
noncomputable def E : Env := { tt := tt, ctx := [(30, deps_valid.sig), (32, slices_Sort_int_int.sig), (33, slices_Compact_int_int.sig), (31, expr_References.sig)], nt := 66, ann := [(1000005, [(1, .keep), (2, .keep), (5, .own (.int .i64)), (20, .keep), (21, .keep), (22, .keep)]), (1000009, [(1, .keep), (2, .keep), (5, .own (.int .i64)), (20, .keep), (21, .keep), (22, .keep), (34, .keep), (35, .keep), (36, .keep)]), (1000013, [(1, .keep), (2, .keep), (5, .own (.int .i64)), (20, .keep), (21, .keep), (22, .keep), (34, .keep), (35, .keep), (36, .keep), (46, .keep), (47, .keep), (48, .keep)])] }
noncomputable def c0 : Code := sub [1, 1, 1, 1] (bodyOf Try.f16)
noncomputable def c1 : Code := sub [1, 1, 1, 0, 1, 0, 0] (bodyOf Try.f16)
noncomputable def c2 : Code := sub [1, 1, 1, 0, 1, 0, 0, 1, 1, 1] (bodyOf Try.f16)
noncomputable def c3 : Code := sub [1, 1, 1, 0, 1, 0, 0, 1, 1, 0, 0, 1, 1, 1, 0, 0] (bodyOf Try.f16)
noncomputable def c4 : Code := sub [1, 1, 1, 0, 1, 0, 0, 1, 1, 0, 0, 1, 1, 1, 0, 0, 1, 1, 1] (bodyOf Try.f16)
noncomputable def c5 : Code := sub [1, 1, 1, 0, 1, 0, 0, 1, 1, 0, 0, 1, 1, 1, 0, 0, 1, 1, 0, 0, 1, 1, 1, 0, 0] (bodyOf Try.f16)
noncomputable def K6 : Kont := .seq c0 .ret
noncomputable def K8 : Kont := .blk 0 K6
noncomputable def K9 : Kont := .loop c1 K8
noncomputable def K12 : Kont := .seq c2 K9
noncomputable def K13 : Kont := .blk 1 K12
noncomputable def K18 : Kont := .blk 2 K13
noncomputable def K19 : Kont := .loop c3 K18
noncomputable def K23 : Kont := .seq c4 K19
noncomputable def K24 : Kont := .blk 3 K23
noncomputable def K28 : Kont := .blk 4 K24
noncomputable def fin : ASt → R := Kret E Try.f16.results.toList ps rs
def tL0 (def_1 : Int) (s : api_ScopeV) (out : List Int) (v_20 : List api_RuleV) (v_21 : Int) (v_22 : Int) : ASt := ⟨[(22, .one (.val (.int .i64) v_22)), (21, .one (.val (.int .i64) v_21)), (20, .one (.val (.sl api_Rule) v_20)), (5, .one (.own 5)), (2, .one (.optr 2 0 [])), (1, .one (.val (.int .i64) def_1))], [(5, some ⟨.free, .int .i64, out⟩), (2, some ⟨.free, api_Scope, [s]⟩)]⟩
def tL1 (def_1 : Int) (s : api_ScopeV) (out : List Int) (v_20 : List api_RuleV) (v_21 : Int) (v_22 : Int) (v_34 : List (List api_DateRangeV)) (v_35 : Int) (v_36 : Int) : ASt := ⟨[(36, .one (.val (.int .i64) v_36)), (35, .one (.val (.int .i64) v_35)), (34, .one (.own 34)), (22, .one (.val (.int .i64) v_22)), (21, .one (.val (.int .i64) v_21)), (20, .one (.val (.sl api_Rule) v_20)), (5, .one (.own 5)), (2, .one (.optr 2 0 [])), (1, .one (.val (.int .i64) def_1))], [(34, some ⟨.free, .sl api_DateRange, v_34⟩), (5, some ⟨.free, .int .i64, out⟩), (2, some ⟨.free, api_Scope, [s]⟩)]⟩
def tL2 (def_1 : Int) (s : api_ScopeV) (out : List Int) (v_20 : List api_RuleV) (v_21 : Int) (v_22 : Int) (v_34 : List (List api_DateRangeV)) (v_35 : Int) (v_36 : Int) (v_46 : List Int) (v_47 : Int) (v_48 : Int) : ASt := ⟨[(48, .one (.val (.int .i64) v_48)), (47, .one (.val (.int .i64) v_47)), (46, .one (.own 46)), (36, .one (.val (.int .i64) v_36)), (35, .one (.val (.int .i64) v_35)), (34, .one (.own 34)), (22, .one (.val (.int .i64) v_22)), (21, .one (.val (.int .i64) v_21)), (20, .one (.val (.sl api_Rule) v_20)), (5, .one (.own 5)), (2, .one (.optr 2 0 [])), (1, .one (.val (.int .i64) def_1))], [(46, some ⟨.free, .int .i64, v_46⟩), (34, some ⟨.free, .sl api_DateRange, v_34⟩), (5, some ⟨.free, .int .i64, out⟩), (2, some ⟨.free, api_Scope, [s]⟩)]⟩
noncomputable def L0 (def_1 : Int) (s : api_ScopeV) (out : List Int) (v_20 : List api_RuleV) (v_21 : Int) (v_22 : Int) : R := lim E fin (.loop c1 K8) (tL0 def_1 s out v_20 v_21 v_22)
noncomputable def L1 (def_1 : Int) (s : api_ScopeV) (out : List Int) (v_20 : List api_RuleV) (v_21 : Int) (v_22 : Int) (v_34 : List (List api_DateRangeV)) (v_35 : Int) (v_36 : Int) : R := lim E fin (.loop c3 K18) (tL1 def_1 s out v_20 v_21 v_22 v_34 v_35 v_36)
noncomputable def L2 (def_1 : Int) (s : api_ScopeV) (out : List Int) (v_20 : List api_RuleV) (v_21 : Int) (v_22 : Int) (v_34 : List (List api_DateRangeV)) (v_35 : Int) (v_36 : Int) (v_46 : List Int) (v_47 : Int) (v_48 : Int) : R := lim E fin (.loop c5 K28) (tL2 def_1 s out v_20 v_21 v_22 v_34 v_35 v_36 v_46 v_47 v_48)
noncomputable def SL0 (def_1 : Int) (s : api_ScopeV) (out : List Int) (v_20 : List api_RuleV) (v_21 : Int) (v_22 : Int) : R :=
  cond (decide (v_22 < v_21))
    (Option.bind (idx v_20 v_22) fun x1 =>
    cond (x1.2.1 != def_1)
      (L0 def_1 s out v_20 v_21 (IntKind.i64.wrap (v_22 + 1)))
      (L1 def_1 s out v_20 v_21 v_22 [x1.2.2.2.2.2.1, x1.2.2.2.2.2.2.1] (2 : Int) 0))
    (Option.bind (slices_Sort_int_int out) fun x2 =>
    Option.bind (slices_Compact_int_int x2.1) fun x3 =>
    some (x3.1, ()))
noncomputable def SL1 (def_1 : Int) (s : api_ScopeV) (out : List Int) (v_20 : List api_RuleV) (v_21 : Int) (v_22 : Int) (v_34 : List (List api_DateRangeV)) (v_35 : Int) (v_36 : Int) : R :=
  cond (decide (v_36 < v_35))
    (cond (decide (0 ≤ v_36) && decide (v_36 < (v_34.length : Int)))
      (Option.bind (expr_References (v_34.getD v_36.toNat [])) fun x1 =>
      L2 def_1 s out v_20 v_21 v_22 v_34 v_35 v_36 x1.2.1 (x1.2.1.length : Int) 0)
      none)
    (L0 def_1 s out v_20 v_21 (IntKind.i64.wrap (v_22 + 1)))
noncomputable def SL2 (def_1 : Int) (s : api_ScopeV) (out : List Int) (v_20 : List api_RuleV) (v_21 : Int) (v_22 : Int) (v_34 : List (List api_DateRangeV)) (v_35 : Int) (v_36 : Int) (v_46 : List Int) (v_47 : Int) (v_48 : Int) : R :=
  cond (decide (v_48 < v_47))
    (cond (decide (0 ≤ v_48) && decide (v_48 < (v_46.length : Int)))
      (Option.bind (deps_valid s (v_46.getD v_48.toNat 0)) fun x1 =>
      cond x1.1
        (cond (decide ((out.length + 1) * 8 ≤ room) && decide (0 < Ty.nc (.int .i64)))
          (L2 def_1 s (out ++ [(v_46.getD v_48.toNat 0)]) v_20 v_21 v_22 v_34 v_35 v_36 v_46 v_47 (IntKind.i64.wrap (v_48 + 1)))
          none)
        (L2 def_1 s out v_20 v_21 v_22 v_34 v_35 v_36 v_46 v_47 (IntKind.i64.wrap (v_48 + 1))))
      none)
    (L1 def_1 s out v_20 v_21 v_22 v_34 v_35 (IntKind.i64.wrap (v_36 + 1)))
noncomputable def Se (s : api_ScopeV) (def_1 : Int) : R :=
  Option.bind (deps_valid s def_1) fun x1 =>
  cond (!x1.1)
    (some ([], ()))
    (L0 def_1 s [] s.2.2.2.2.1 (s.2.2.2.2.1.length : Int) 0)
theorem L0_eq (def_1 s out v_20 v_21 v_22) : L0 def_1 s out v_20 v_21 v_22 = SL0 def_1 s out v_20 v_21 v_22 := (lim_eq (.loop c1 K8) (tL0 def_1 s out v_20 v_21 v_22)).trans (by kernel_rfl)
theorem L1_eq (def_1 s out v_20 v_21 v_22 v_34 v_35 v_36) : L1 def_1 s out v_20 v_21 v_22 v_34 v_35 v_36 = SL1 def_1 s out v_20 v_21 v_22 v_34 v_35 v_36 := (lim_eq (.loop c3 K18) (tL1 def_1 s out v_20 v_21 v_22 v_34 v_35 v_36)).trans (by kernel_rfl)
theorem L2_eq (def_1 s out v_20 v_21 v_22 v_34 v_35 v_36 v_46 v_47 v_48) : L2 def_1 s out v_20 v_21 v_22 v_34 v_35 v_36 v_46 v_47 v_48 = SL2 def_1 s out v_20 v_21 v_22 v_34 v_35 v_36 v_46 v_47 v_48 := (lim_eq (.loop c5 K28) (tL2 def_1 s out v_20 v_21 v_22 v_34 v_35 v_36 v_46 v_47 v_48)).trans (by kernel_rfl)
theorem se (x : (argTy ps).den) : run E (lim E fin) fin depth (bodyOf Try.f16) .ret (entryFrom 0 ps x) = Se x.1 x.2.1 := by kernel_rfl
end deps_Direct
noncomputable def deps_Direct (s : api_ScopeV) (def_1 : Int) : deps_Direct.R :=
  deps_Direct.Se s def_1
namespace deps_Direct
noncomputable def sig : Sig := ⟨ps, rs, fun x => deps_Direct x.1 x.2.1⟩
theorem val (x : (argTy ps).den) : lim E fin (.code (bodyOf Try.f16) .ret) (entryFrom 0 ps x) = sig.run x := (lim_eq (.code (bodyOf Try.f16) .ret) (entryFrom 0 ps x)).trans (se x)
theorem ok : CallOK Try.prog 16 sig :=
  callOK_of_lim (E := E) mixed tt_ok (ctxOk_cons (ctxOk_cons (ctxOk_cons (ctxOk_cons ctxOk_nil expr_References.ok Try.func31 (by kernel_rfl) (by kernel_rfl)) slices_Compact_int_int.ok Try.func33 (by kernel_rfl) (by kernel_rfl)) slices_Sort_int_int.ok Try.func32 (by kernel_rfl) (by kernel_rfl)) deps_valid.ok Try.func30 (by kernel_rfl) (by kernel_rfl)) Try.func16 (by kernel_rfl : Try.f16.body = some (bodyOf Try.f16)) Try.ntmps16 (of_decide_eq_true (by kernel_rfl)) (of_decide_eq_true (by kernel_rfl)) fun x y h => (val x).trans h
noncomputable def ctxc (n : Nat) : List (Nat × Sig) := [(30, deps_valid.sigc n), (32, slices_Sort_int_int.sigc n), (33, slices_Compact_int_int.sigc n), (31, expr_References.sigc n)]
noncomputable def sigc (n : Nat) : Sig := ⟨ps, rs, fun x => runs (withCtx E (ctxc n)) fin n (.code (bodyOf Try.f16) .ret) (entryFrom 0 ps x)⟩
theorem sigc_le (n : Nat) : ∀ x y, (sigc n).run x = some y → sig.run x = some y := fun x y h => (val x).symm.trans (runs_lim (E := E) (c := ctxc n) (ctxLe_cons (ctxLe_cons (ctxLe_cons (ctxLe_cons ctxLe_nil (expr_References.sigc_le n)) (slices_Compact_int_int.sigc_le n)) (slices_Sort_int_int.sigc_le n)) (deps_valid.sigc_le n)) h)
end deps_Direct
namespace deps_EvaluationOrder_1
abbrev ps : List PM := [.pure (.int .i64), .rd (.sl .bool)]
abbrev rs : List RM := [.pure .bool]
abbrev R : Type := Option (Bool × Unit)
noncomputable def E : Env := { tt := tt, ctx := [], nt := 9, ann := [] }
noncomputable def fin : ASt → R := Kret E Try.f23.results.toList ps rs
noncomputable def Se (x_0 : Int) (p1 : List Bool) : R :=
  Option.bind (idx p1 x_0) fun x1 =>
  some ((!x1), ())
theorem se (x : (argTy ps).den) : run E (lim E fin) fin depth (bodyOf Try.f23) .ret (entryFrom 0 ps x) = Se x.1 x.2.1 := by kernel_rfl
end deps_EvaluationOrder_1
noncomputable def deps_EvaluationOrder_1 (x_0 : Int) (p1 : List Bool) : deps_EvaluationOrder_1.R :=
  deps_EvaluationOrder_1.Se x_0 p1
namespace deps_EvaluationOrder_1
noncomputable def sig : Sig := ⟨ps, rs, fun x => deps_EvaluationOrder_1 x.1 x.2.1⟩
theorem val (x : (argTy ps).den) : lim E fin (.code (bodyOf Try.f23) .ret) (entryFrom 0 ps x) = sig.run x := (lim_eq (.code (bodyOf Try.f23) .ret) (entryFrom 0 ps x)).trans (se x)
theorem ok : CallOK Try.prog 23 sig :=
  callOK_of_lim (E := E) mixed tt_ok ctxOk_nil Try.func23 (by kernel_rfl : Try.f23.body = some (bodyOf Try.f23)) Try.ntmps23 (of_decide_eq_true (by kernel_rfl)) (of_decide_eq_true (by kernel_rfl)) fun x y h => (val x).trans h
noncomputable def ctxc (n : Nat) : List (Nat × Sig) := []
noncomputable def sigc (n : Nat) : Sig := ⟨ps, rs, fun x => runs (withCtx E (ctxc n)) fin n (.code (bodyOf Try.f23) .ret) (entryFrom 0 ps x)⟩
theorem sigc_le (n : Nat) : ∀ x y, (sigc n).run x = some y → sig.run x = some y := fun x y h => (val x).symm.trans (runs_lim (E := E) (c := ctxc n) ctxLe_nil h)
end deps_EvaluationOrder_1
namespace slices_IndexFunc_int_int_deps_EvaluationOrder_1
abbrev ps : List PM := [.pure (.sl (.int .i64)), .rfn 23 [.sl .bool]]
abbrev rs : List RM := [.pure (.int .i64)]
abbrev R : Type := Option (Int × Unit)
noncomputable def E : Env := { tt := tt, ctx := [(23, deps_EvaluationOrder_1.sig)], nt := 19, ann := [(1000002, [(0, .keep), (1, .keep), (7, .keep), (8, .keep)])] }
noncomputable def c0 : Code := sub [1, 1] (bodyOf Try.f27)
noncomputable def c1 : Code := sub [1, 0, 1, 0, 0] (bodyOf Try.f27)
noncomputable def K2 : Kont := .seq c0 .ret
noncomputable def K4 : Kont := .blk 0 K2
noncomputable def fin : ASt → R := Kret E Try.f27.results.toList ps rs
def tL0 (s : List Int) (f_c0 : List Bool) (v_7 : Int) (v_8 : Int) : ASt := ⟨[(8, .one (.val (.int .i64) v_8)), (7, .one (.val (.int .i64) v_7)), (1, .one (.rfn 23 [⟨.sl .bool, f_c0⟩])), (0, .one (.val (.sl (.int .i64)) s))], []⟩
noncomputable def L0 (s : List Int) (f_c0 : List Bool) (v_7 : Int) (v_8 : Int) : R := lim E fin (.loop c1 K4) (tL0 s f_c0 v_7 v_8)
noncomputable def SL0 (s : List Int) (f_c0 : List Bool) (v_7 : Int) (v_8 : Int) : R :=
  cond (decide (v_8 < v_7))
    (Option.bind (idx s v_8) fun x1 =>
    Option.bind (deps_EvaluationOrder_1 x1 f_c0) fun x2 =>
    cond x2.1
      (some (v_8, ()))
      (L0 s f_c0 v_7 (IntKind.i64.wrap (v_8 + 1))))
    (some ((-1), ()))
noncomputable def Se (s : List Int) (f : List Bool × Unit) : R :=
  L0 s f.1 (s.length : Int) 0
theorem L0_eq (s f_c0 v_7 v_8) : L0 s f_c0 v_7 v_8 = SL0 s f_c0 v_7 v_8 := (lim_eq (.loop c1 K4) (tL0 s f_c0 v_7 v_8)).trans (by kernel_rfl)
theorem se (x : (argTy ps).den) : run E (lim E fin) fin depth (bodyOf Try.f27) .ret (entryFrom 0 ps x) = Se x.1 x.2.1 := by kernel_rfl
end slices_IndexFunc_int_int_deps_EvaluationOrder_1
noncomputable def slices_IndexFunc_int_int_deps_EvaluationOrder_1 (s : List Int) (f : List Bool × Unit) : slices_IndexFunc_int_int_deps_EvaluationOrder_1.R :=
  slices_IndexFunc_int_int_deps_EvaluationOrder_1.Se s f
namespace slices_IndexFunc_int_int_deps_EvaluationOrder_1
noncomputable def sig : Sig := ⟨ps, rs, fun x => slices_IndexFunc_int_int_deps_EvaluationOrder_1 x.1 x.2.1⟩
theorem val (x : (argTy ps).den) : lim E fin (.code (bodyOf Try.f27) .ret) (entryFrom 0 ps x) = sig.run x := (lim_eq (.code (bodyOf Try.f27) .ret) (entryFrom 0 ps x)).trans (se x)
theorem ok : CallOK Try.prog 27 sig :=
  callOK_of_lim (E := E) mixed tt_ok (ctxOk_cons ctxOk_nil deps_EvaluationOrder_1.ok Try.func23 (by kernel_rfl) (by kernel_rfl)) Try.func27 (by kernel_rfl : Try.f27.body = some (bodyOf Try.f27)) Try.ntmps27 (of_decide_eq_true (by kernel_rfl)) (of_decide_eq_true (by kernel_rfl)) fun x y h => (val x).trans h
noncomputable def ctxc (n : Nat) : List (Nat × Sig) := [(23, deps_EvaluationOrder_1.sigc n)]
noncomputable def sigc (n : Nat) : Sig := ⟨ps, rs, fun x => runs (withCtx E (ctxc n)) fin n (.code (bodyOf Try.f27) .ret) (entryFrom 0 ps x)⟩
theorem sigc_le (n : Nat) : ∀ x y, (sigc n).run x = some y → sig.run x = some y := fun x y h => (val x).symm.trans (runs_lim (E := E) (c := ctxc n) (ctxLe_cons ctxLe_nil (deps_EvaluationOrder_1.sigc_le n)) h)
end slices_IndexFunc_int_int_deps_EvaluationOrder_1
namespace slices_ContainsFunc_int_int_deps_EvaluationOrder_1
abbrev ps : List PM := [.pure (.sl (.int .i64)), .rfn 23 [.sl .bool]]
abbrev rs : List RM := [.pure .bool]
abbrev R : Type := Option (Bool × Unit)
noncomputable def E : Env := { tt := tt, ctx := [(27, slices_IndexFunc_int_int_deps_EvaluationOrder_1.sig)], nt := 9, ann := [] }
noncomputable def fin : ASt → R := Kret E Try.f22.results.toList ps rs
noncomputable def Se (s : List Int) (f : List Bool × Unit) : R :=
  Option.bind (slices_IndexFunc_int_int_deps_EvaluationOrder_1 s (f.1, ())) fun x1 =>
  some (decide (x1.1 ≥ 0), ())
theorem se (x : (argTy ps).den) : run E (lim E fin) fin depth (bodyOf Try.f22) .ret (entryFrom 0 ps x) = Se x.1 x.2.1 := by kernel_rfl
end slices_ContainsFunc_int_int_deps_EvaluationOrder_1
noncomputable def slices_ContainsFunc_int_int_deps_EvaluationOrder_1 (s : List Int) (f : List Bool × Unit) : slices_ContainsFunc_int_int_deps_EvaluationOrder_1.R :=
  slices_ContainsFunc_int_int_deps_EvaluationOrder_1.Se s f
namespace slices_ContainsFunc_int_int_deps_EvaluationOrder_1
noncomputable def sig : Sig := ⟨ps, rs, fun x => slices_ContainsFunc_int_int_deps_EvaluationOrder_1 x.1 x.2.1⟩
theorem val (x : (argTy ps).den) : lim E fin (.code (bodyOf Try.f22) .ret) (entryFrom 0 ps x) = sig.run x := (lim_eq (.code (bodyOf Try.f22) .ret) (entryFrom 0 ps x)).trans (se x)
theorem ok : CallOK Try.prog 22 sig :=
  callOK_of_lim (E := E) mixed tt_ok (ctxOk_cons ctxOk_nil slices_IndexFunc_int_int_deps_EvaluationOrder_1.ok Try.func27 (by kernel_rfl) (by kernel_rfl)) Try.func22 (by kernel_rfl : Try.f22.body = some (bodyOf Try.f22)) Try.ntmps22 (of_decide_eq_true (by kernel_rfl)) (of_decide_eq_true (by kernel_rfl)) fun x y h => (val x).trans h
noncomputable def ctxc (n : Nat) : List (Nat × Sig) := [(27, slices_IndexFunc_int_int_deps_EvaluationOrder_1.sigc n)]
noncomputable def sigc (n : Nat) : Sig := ⟨ps, rs, fun x => runs (withCtx E (ctxc n)) fin n (.code (bodyOf Try.f22) .ret) (entryFrom 0 ps x)⟩
theorem sigc_le (n : Nat) : ∀ x y, (sigc n).run x = some y → sig.run x = some y := fun x y h => (val x).symm.trans (runs_lim (E := E) (c := ctxc n) (ctxLe_cons ctxLe_nil (slices_IndexFunc_int_int_deps_EvaluationOrder_1.sigc_le n)) h)
end slices_ContainsFunc_int_int_deps_EvaluationOrder_1
namespace deps_EvaluationOrder
abbrev ps : List PM := [.pure api_Scope]
abbrev rs : List RM := [.own (.int .i64), .pure (.int .i64)]
abbrev R : Type := Option (List Int × Int × Unit)
noncomputable def E : Env := { tt := tt, ctx := [(16, deps_Direct.sig), (22, slices_ContainsFunc_int_int_deps_EvaluationOrder_1.sig)], nt := 73, ann := [(1000003, [(1, .keep), (4, .keep), (16, .keep), (17, .keep)]), (1000009, [(1, .keep), (4, .keep), (6, .var [(0, .keep)]), (7, .own (.int .i64))]), (1000012, [(1, .keep), (4, .keep), (6, .var [(0, .keep)]), (7, .own (.int .i64)), (8, .keep), (39, .keep), (40, .keep)]), (2000006, [])] }
noncomputable def c0 : Code := sub [1, 1, 1] (bodyOf Try.f9)
noncomputable def c1 : Code := sub [1, 1, 1, 1, 1, 1] (bodyOf Try.f9)
noncomputable def c2 : Code := sub [1, 1, 1, 1, 1, 0, 0, 0] (bodyOf Try.f9)
noncomputable def c3 : Code := sub [1, 1, 1, 1, 1, 0, 0, 0, 1, 0, 1, 1] (bodyOf Try.f9)
noncomputable def c4 : Code := sub [1, 1, 0, 1, 0, 0] (bodyOf Try.f9)
noncomputable def c5 : Code := sub [1, 1, 1, 1, 1, 0, 0, 0, 1, 0, 1, 0, 1, 0, 0] (bodyOf Try.f9)
noncomputable def K3 : Kont := .seq c0 .ret
noncomputable def K5 : Kont := .blk 0 K3
noncomputable def K14 : Kont := .seq c1 .ret
noncomputable def K15 : Kont := .blk 2 K14
noncomputable def K16 : Kont := .loop c2 K15
noncomputable def K19 : Kont := .blk 3 K16
noncomputable def K21 : Kont := .seq c3 K19
noncomputable def K23 : Kont := .blk 4 K21
noncomputable def fin : ASt → R := Kret E Try.f9.results.toList ps rs
def tL0 (s : api_ScopeV) (direct : List (List Int)) (v_16 : Int) (v_17 : Int) : ASt := ⟨[(17, .one (.val (.int .i64) v_17)), (16, .one (.val (.int .i64) v_16)), (4, .one (.own 4)), (1, .one (.optr 1 0 []))], [(4, some ⟨.free, .sl (.int .i64), direct⟩), (1, some ⟨.free, api_Scope, [s]⟩)]⟩
def tL1 (s : api_ScopeV) (direct : List (List Int)) (placed_0 : List Bool) (out : List Int) : ASt := ⟨[(7, .one (.own 7)), (6, .one (.vptr 6 (.sl .bool) 0)), (4, .one (.own 4)), (1, .one (.optr 1 0 []))], [(7, some ⟨.free, .int .i64, out⟩), (6, some ⟨.var [(0, .own 100384)], .sl .bool, []⟩), (100384, some ⟨.free, .bool, placed_0⟩), (4, some ⟨.free, .sl (.int .i64), direct⟩), (1, some ⟨.free, api_Scope, [s]⟩)]⟩
def tL2 (s : api_ScopeV) (direct : List (List Int)) (placed_0 : List Bool) (out : List Int) (next : Int) (v_39 : Int) (v_40 : Int) : ASt := ⟨[(40, .one (.val (.int .i64) v_40)), (39, .one (.val (.int .i64) v_39)), (8, .one (.val (.int .i64) next)), (7, .one (.own 7)), (6, .one (.vptr 6 (.sl .bool) 0)), (4, .one (.own 4)), (1, .one (.optr 1 0 []))], [(7, some ⟨.free, .int .i64, out⟩), (6, some ⟨.var [(0, .own 100384)], .sl .bool, []⟩), (100384, some ⟨.free, .bool, placed_0⟩), (4, some ⟨.free, .sl (.int .i64), direct⟩), (1, some ⟨.free, api_Scope, [s]⟩)]⟩
noncomputable def L0 (s : api_ScopeV) (direct : List (List Int)) (v_16 : Int) (v_17 : Int) : R := lim E fin (.loop c4 K5) (tL0 s direct v_16 v_17)
noncomputable def L1 (s : api_ScopeV) (direct : List (List Int)) (placed_0 : List Bool) (out : List Int) : R := lim E fin (.loop c2 K15) (tL1 s direct placed_0 out)
noncomputable def L2 (s : api_ScopeV) (direct : List (List Int)) (placed_0 : List Bool) (out : List Int) (next : Int) (v_39 : Int) (v_40 : Int) : R := lim E fin (.loop c5 K23) (tL2 s direct placed_0 out next v_39 v_40)
noncomputable def SL0 (s : api_ScopeV) (direct : List (List Int)) (v_16 : Int) (v_17 : Int) : R :=
  cond (decide (v_17 < v_16))
    (Option.bind (deps_Direct s v_17) fun x1 =>
    cond (decide (0 ≤ v_17) && decide (v_17 < (direct.length : Int)))
      (L0 s (direct.set v_17.toNat x1.1) v_16 (IntKind.i64.wrap (v_17 + 1)))
      none)
    (cond (decide (0 ≤ ((s.2.2.2.1.length : Int) : Int)) && (decide (((s.2.2.2.1.length : Int) : Int) ≤ (s.2.2.2.1.length : Int)) && (decide (((s.2.2.2.1.length : Int) : Int) * 1 ≤ room) && (decide (((s.2.2.2.1.length : Int) : Int) ≤ maxLen) && decide (0 < Ty.nc .bool)))))
      (L1 s direct (List.replicate s.2.2.2.1.length (false : Bool)) [])
      none)
noncomputable def SL1 (s : api_ScopeV) (direct : List (List Int)) (placed_0 : List Bool) (out : List Int) : R :=
  cond (decide ((out.length : Int) < (s.2.2.2.1.length : Int)))
    (L2 s direct placed_0 out (-1) (s.2.2.2.1.length : Int) 0)
    (some (out, 0, ()))
noncomputable def SL2 (s : api_ScopeV) (direct : List (List Int)) (placed_0 : List Bool) (out : List Int) (next : Int) (v_39 : Int) (v_40 : Int) : R :=
  cond (decide (v_40 < v_39))
    (cond (decide (next < 0))
      (cond (decide (0 ≤ v_40) && decide (v_40 < (placed_0.length : Int)))
        (cond (!(placed_0.getD v_40.toNat false))
          (cond (decide (0 ≤ v_40) && decide (v_40 < (direct.length : Int)))
            (Option.bind (slices_ContainsFunc_int_int_deps_EvaluationOrder_1 (direct.getD v_40.toNat []) (placed_0, ())) fun x1 =>
            cond (!x1.1)
              (L2 s direct placed_0 out v_40 v_39 (IntKind.i64.wrap (v_40 + 1)))
              (L2 s direct placed_0 out next v_39 (IntKind.i64.wrap (v_40 + 1))))
            none)
          (L2 s direct placed_0 out next v_39 (IntKind.i64.wrap (v_40 + 1))))
        none)
      (L2 s direct placed_0 out next v_39 (IntKind.i64.wrap (v_40 + 1))))
    (cond (decide (next < 0))
      (some ([], 9, ()))
      (cond (decide (0 ≤ next) && decide (next < (placed_0.length : Int)))
        (cond (decide ((out.length + 1) * 8 ≤ room) && decide (0 < Ty.nc (.int .i64)))
          (L1 s direct (placed_0.set next.toNat true) (out ++ [next]))
          none)
        none))
noncomputable def Se (s : api_ScopeV) : R :=
  cond (decide (0 ≤ ((s.2.2.2.1.length : Int) : Int)) && (decide (((s.2.2.2.1.length : Int) : Int) ≤ (s.2.2.2.1.length : Int)) && (decide (((s.2.2.2.1.length : Int) : Int) * 24 ≤ room) && (decide (((s.2.2.2.1.length : Int) : Int) ≤ maxLen) && decide (0 < Ty.nc (.sl (.int .i64)))))))
    (L0 s (List.replicate s.2.2.2.1.length ([] : List Int)) (s.2.2.2.1.length : Int) 0)
    none
theorem L0_eq (s direct v_16 v_17) : L0 s direct v_16 v_17 = SL0 s direct v_16 v_17 := (lim_eq (.loop c4 K5) (tL0 s direct v_16 v_17)).trans (by kernel_rfl)
theorem L1_eq (s direct placed_0 out) : L1 s direct placed_0 out = SL1 s direct placed_0 out := (lim_eq (.loop c2 K15) (tL1 s direct placed_0 out)).trans (by kernel_rfl)
theorem L2_eq (s direct placed_0 out next v_39 v_40) : L2 s direct placed_0 out next v_39 v_40 = SL2 s direct placed_0 out next v_39 v_40 := (lim_eq (.loop c5 K23) (tL2 s direct placed_0 out next v_39 v_40)).trans (by kernel_rfl)
theorem se (x : (argTy ps).den) : run E (lim E fin) fin depth (bodyOf Try.f9) .ret (entryFrom 0 ps x) = Se x.1 := by kernel_rfl
end deps_EvaluationOrder
noncomputable def deps_EvaluationOrder (s : api_ScopeV) : deps_EvaluationOrder.R :=
  deps_EvaluationOrder.Se s
namespace deps_EvaluationOrder
noncomputable def sig : Sig := ⟨ps, rs, fun x => deps_EvaluationOrder x.1⟩
theorem val (x : (argTy ps).den) : lim E fin (.code (bodyOf Try.f9) .ret) (entryFrom 0 ps x) = sig.run x := (lim_eq (.code (bodyOf Try.f9) .ret) (entryFrom 0 ps x)).trans (se x)
theorem ok : CallOK Try.prog 9 sig :=
  callOK_of_lim (E := E) mixed tt_ok (ctxOk_cons (ctxOk_cons ctxOk_nil slices_ContainsFunc_int_int_deps_EvaluationOrder_1.ok Try.func22 (by kernel_rfl) (by kernel_rfl)) deps_Direct.ok Try.func16 (by kernel_rfl) (by kernel_rfl)) Try.func9 (by kernel_rfl : Try.f9.body = some (bodyOf Try.f9)) Try.ntmps9 (of_decide_eq_true (by kernel_rfl)) (of_decide_eq_true (by kernel_rfl)) fun x y h => (val x).trans h
noncomputable def ctxc (n : Nat) : List (Nat × Sig) := [(16, deps_Direct.sigc n), (22, slices_ContainsFunc_int_int_deps_EvaluationOrder_1.sigc n)]
noncomputable def sigc (n : Nat) : Sig := ⟨ps, rs, fun x => runs (withCtx E (ctxc n)) fin n (.code (bodyOf Try.f9) .ret) (entryFrom 0 ps x)⟩
theorem sigc_le (n : Nat) : ∀ x y, (sigc n).run x = some y → sig.run x = some y := fun x y h => (val x).symm.trans (runs_lim (E := E) (c := ctxc n) (ctxLe_cons (ctxLe_cons ctxLe_nil (slices_ContainsFunc_int_int_deps_EvaluationOrder_1.sigc_le n)) (deps_Direct.sigc_le n)) h)
end deps_EvaluationOrder
namespace same_Ints
abbrev ps : List PM := [.pure (.sl (.int .i64)), .pure (.sl (.int .i64))]
abbrev rs : List RM := [.pure .bool]
abbrev R : Type := Option (Bool × Unit)
noncomputable def E : Env := { tt := tt, ctx := [], nt := 32, ann := [(1000004, [(0, .keep), (1, .keep), (5, .keep)]), (6, [(0, .keep), (1, .keep), (5, .keep)])] }
noncomputable def c0 : Code := sub [1, 1, 1] (bodyOf Try.f11)
noncomputable def c1 : Code := sub [1, 1, 0, 1, 0, 0] (bodyOf Try.f11)
noncomputable def c2 : Code := sub [1, 1, 0, 1, 0, 0, 1] (bodyOf Try.f11)
noncomputable def K5 : Kont := .seq c0 .ret
noncomputable def K7 : Kont := .blk 0 K5
noncomputable def K8 : Kont := .loop c1 K7
noncomputable def fin : ASt → R := Kret E Try.f11.results.toList ps rs
def tL0 (a : List Int) (b : List Int) (i : Int) : ASt := ⟨[(5, .one (.val (.int .i64) i)), (1, .one (.val (.sl (.int .i64)) b)), (0, .one (.val (.sl (.int .i64)) a))], []⟩
def tJ1 (a : List Int) (b : List Int) (i : Int) : ASt := ⟨[(5, .one (.val (.int .i64) i)), (1, .one (.val (.sl (.int .i64)) b)), (0, .one (.val (.sl (.int .i64)) a))], []⟩
noncomputable def L0 (a : List Int) (b : List Int) (i : Int) : R := lim E fin (.loop c1 K7) (tL0 a b i)
noncomputable def J1 (a : List Int) (b : List Int) (i : Int) : R := lim E fin (.code c2 K8) (tJ1 a b i)
noncomputable def SL0 (a : List Int) (b : List Int) (i : Int) : R :=
  cond (decide (i < (a.length : Int)))
    (cond (decide (i < (b.length : Int)))
      (J1 a b i)
      (some (true, ())))
    (some (true, ()))
noncomputable def SJ1 (a : List Int) (b : List Int) (i : Int) : R :=
  Option.bind (idx a i) fun x1 =>
  Option.bind (idx b i) fun x2 =>
  cond (x1 != x2)
    (some (false, ()))
    (L0 a b (IntKind.i64.wrap (i + 1)))
noncomputable def Se (a : List Int) (b : List Int) : R :=
  cond ((a.length : Int) != (b.length : Int))
    (some (false, ()))
    (L0 a b 0)
theorem L0_eq (a b i) : L0 a b i = SL0 a b i := (lim_eq (.loop c1 K7) (tL0 a b i)).trans (by kernel_rfl)
theorem J1_eq (a b i) : J1 a b i = SJ1 a b i := (lim_eq (.code c2 K8) (tJ1 a b i)).trans (by kernel_rfl)
theorem se (x : (argTy ps).den) : run E (lim E fin) fin depth (bodyOf Try.f11) .ret (entryFrom 0 ps x) = Se x.1 x.2.1 := by kernel_rfl
end same_Ints
noncomputable def same_Ints (a : List Int) (b : List Int) : same_Ints.R :=
  same_Ints.Se a b
namespace same_Ints
noncomputable def sig : Sig := ⟨ps, rs, fun x => same_Ints x.1 x.2.1⟩
theorem val (x : (argTy ps).den) : lim E fin (.code (bodyOf Try.f11) .ret) (entryFrom 0 ps x) = sig.run x := (lim_eq (.code (bodyOf Try.f11) .ret) (entryFrom 0 ps x)).trans (se x)
theorem ok : CallOK Try.prog 11 sig :=
  callOK_of_lim (E := E) mixed tt_ok ctxOk_nil Try.func11 (by kernel_rfl : Try.f11.body = some (bodyOf Try.f11)) Try.ntmps11 (of_decide_eq_true (by kernel_rfl)) (of_decide_eq_true (by kernel_rfl)) fun x y h => (val x).trans h
noncomputable def ctxc (n : Nat) : List (Nat × Sig) := []
noncomputable def sigc (n : Nat) : Sig := ⟨ps, rs, fun x => runs (withCtx E (ctxc n)) fin n (.code (bodyOf Try.f11) .ret) (entryFrom 0 ps x)⟩
theorem sigc_le (n : Nat) : ∀ x y, (sigc n).run x = some y → sig.run x = some y := fun x y h => (val x).symm.trans (runs_lim (E := E) (c := ctxc n) ctxLe_nil h)
end same_Ints
namespace deps_Transitive
abbrev ps : List PM := [.pure api_Scope, .pure (.int .i64)]
abbrev rs : List RM := [.own (.int .i64)]
abbrev R : Type := Option (List Int × Unit)
noncomputable def E : Env := { tt := tt, ctx := [(30, deps_valid.sig), (16, deps_Direct.sig)], nt := 59, ann := [(1000005, [(2, .keep), (5, .keep), (6, .keep)]), (1000012, [(7, .own (.int .i64)), (45, .keep), (46, .keep), (47, .keep)])] }
noncomputable def c0 : Code := sub [1, 1, 1, 1] (bodyOf Try.f15)
noncomputable def c1 : Code := sub [1, 1, 1, 1, 1, 1] (bodyOf Try.f15)
noncomputable def c2 : Code := sub [1, 1, 1, 0, 1, 0, 0] (bodyOf Try.f15)
noncomputable def c3 : Code := sub [1, 1, 1, 1, 1, 0, 1, 0, 0] (bodyOf Try.f15)
noncomputable def K6 : Kont := .seq c0 .ret
noncomputable def K8 : Kont := .blk 0 K6
noncomputable def K17 : Kont := .seq c1 .ret
noncomputable def K19 : Kont := .blk 2 K17
noncomputable def fin : ASt → R := Kret E Try.f15.results.toList ps rs
def tL0 (s : api_ScopeV) (seen : List Bool) (todo : List Int) : ASt := ⟨[(6, .one (.own 6)), (5, .one (.own 5)), (2, .one (.optr 2 0 []))], [(6, some ⟨.free, .int .i64, todo⟩), (5, some ⟨.free, .bool, seen⟩), (2, some ⟨.free, api_Scope, [s]⟩)]⟩
def tL1 (out : List Int) (v_45 : List Bool) (v_46 : Int) (v_47 : Int) : ASt := ⟨[(47, .one (.val (.int .i64) v_47)), (46, .one (.val (.int .i64) v_46)), (45, .one (.own 45)), (7, .one (.own 7))], [(45, some ⟨.free, .bool, v_45⟩), (7, some ⟨.free, .int .i64, out⟩)]⟩
noncomputable def L0 (s : api_ScopeV) (seen : List Bool) (todo : List Int) : R := lim E fin (.loop c2 K8) (tL0 s seen todo)
noncomputable def L1 (out : List Int) (v_45 : List Bool) (v_46 : Int) (v_47 : Int) : R := lim E fin (.loop c3 K19) (tL1 out v_45 v_46 v_47)
noncomputable def SL0 (s : api_ScopeV) (seen : List Bool) (todo : List Int) : R :=
  cond (decide ((todo.length : Int) > 0))
    (cond (decide (0 ≤ 0) && decide (0 < (todo.length : Int)))
      (cond (decide (0 ≤ (todo.getD 0 0)) && decide ((todo.getD 0 0) < (seen.length : Int)))
        (cond (!(seen.getD ((todo.getD 0 0).toNat) false))
          (cond (decide (0 ≤ 0) && decide (0 < (todo.length : Int)))
            (cond (decide (0 ≤ (todo.getD 0 0)) && decide ((todo.getD 0 0) < (seen.length : Int)))
              (cond (decide (0 ≤ 0) && decide (0 < (todo.length : Int)))
                (Option.bind (deps_Direct s (todo.getD 0 0)) fun x1 =>
                cond (decide ((todo.length + x1.1.length) * 8 ≤ room) && decide (0 < Ty.nc (.int .i64)))
                  (cond (decide ((0 : Int) ≤ 1) && (decide ((1 : Int) ≤ ((todo ++ x1.1).length : Int)) && decide (((todo ++ x1.1).length : Int) ≤ ((todo ++ x1.1).length : Int))))
                    (L0 s (seen.set ((todo.getD 0 0).toNat) true) (((todo ++ x1.1).drop 1).take ((todo ++ x1.1).length - 1)))
                    none)
                  none)
                none)
              none)
            none)
          (cond (decide ((0 : Int) ≤ 1) && (decide ((1 : Int) ≤ (todo.length : Int)) && decide ((todo.length : Int) ≤ (todo.length : Int))))
            (L0 s seen ((todo.drop 1).take (todo.length - 1)))
            none))
        none)
      none)
    (L1 [] seen (seen.length : Int) 0)
noncomputable def SL1 (out : List Int) (v_45 : List Bool) (v_46 : Int) (v_47 : Int) : R :=
  cond (decide (v_47 < v_46))
    (cond (decide (0 ≤ v_47) && decide (v_47 < (v_45.length : Int)))
      (cond (v_45.getD v_47.toNat false)
        (cond (decide ((out.length + 1) * 8 ≤ room) && decide (0 < Ty.nc (.int .i64)))
          (L1 (out ++ [v_47]) v_45 v_46 (IntKind.i64.wrap (v_47 + 1)))
          none)
        (L1 out v_45 v_46 (IntKind.i64.wrap (v_47 + 1))))
      none)
    (some (out, ()))
noncomputable def Se (s : api_ScopeV) (def_1 : Int) : R :=
  Option.bind (deps_valid s def_1) fun x1 =>
  cond (!x1.1)
    (some ([], ()))
    (cond (decide (0 ≤ ((s.2.2.2.1.length : Int) : Int)) && (decide (((s.2.2.2.1.length : Int) : Int) ≤ (s.2.2.2.1.length : Int)) && (decide (((s.2.2.2.1.length : Int) : Int) * 1 ≤ room) && (decide (((s.2.2.2.1.length : Int) : Int) ≤ maxLen) && decide (0 < Ty.nc .bool)))))
      (Option.bind (deps_Direct s def_1) fun x2 =>
      L0 s (List.replicate s.2.2.2.1.length (false : Bool)) x2.1)
      none)
theorem L0_eq (s seen todo) : L0 s seen todo = SL0 s seen todo := (lim_eq (.loop c2 K8) (tL0 s seen todo)).trans (by kernel_rfl)
theorem L1_eq (out v_45 v_46 v_47) : L1 out v_45 v_46 v_47 = SL1 out v_45 v_46 v_47 := (lim_eq (.loop c3 K19) (tL1 out v_45 v_46 v_47)).trans (by kernel_rfl)
theorem se (x : (argTy ps).den) : run E (lim E fin) fin depth (bodyOf Try.f15) .ret (entryFrom 0 ps x) = Se x.1 x.2.1 := by kernel_rfl
end deps_Transitive
noncomputable def deps_Transitive (s : api_ScopeV) (def_1 : Int) : deps_Transitive.R :=
  deps_Transitive.Se s def_1
namespace deps_Transitive
noncomputable def sig : Sig := ⟨ps, rs, fun x => deps_Transitive x.1 x.2.1⟩
theorem val (x : (argTy ps).den) : lim E fin (.code (bodyOf Try.f15) .ret) (entryFrom 0 ps x) = sig.run x := (lim_eq (.code (bodyOf Try.f15) .ret) (entryFrom 0 ps x)).trans (se x)
theorem ok : CallOK Try.prog 15 sig :=
  callOK_of_lim (E := E) mixed tt_ok (ctxOk_cons (ctxOk_cons ctxOk_nil deps_Direct.ok Try.func16 (by kernel_rfl) (by kernel_rfl)) deps_valid.ok Try.func30 (by kernel_rfl) (by kernel_rfl)) Try.func15 (by kernel_rfl : Try.f15.body = some (bodyOf Try.f15)) Try.ntmps15 (of_decide_eq_true (by kernel_rfl)) (of_decide_eq_true (by kernel_rfl)) fun x y h => (val x).trans h
noncomputable def ctxc (n : Nat) : List (Nat × Sig) := [(30, deps_valid.sigc n), (16, deps_Direct.sigc n)]
noncomputable def sigc (n : Nat) : Sig := ⟨ps, rs, fun x => runs (withCtx E (ctxc n)) fin n (.code (bodyOf Try.f15) .ret) (entryFrom 0 ps x)⟩
theorem sigc_le (n : Nat) : ∀ x y, (sigc n).run x = some y → sig.run x = some y := fun x y h => (val x).symm.trans (runs_lim (E := E) (c := ctxc n) (ctxLe_cons (ctxLe_cons ctxLe_nil (deps_Direct.sigc_le n)) (deps_valid.sigc_le n)) h)
end deps_Transitive
namespace math_bits_Mul64
abbrev ps : List PM := [.pure (.int .u64), .pure (.int .u64)]
abbrev rs : List RM := [.pure (.int .u64), .pure (.int .u64)]
abbrev R : Type := Option (Int × Int × Unit)
noncomputable def E : Env := { tt := tt, ctx := [], nt := 51, ann := [] }
noncomputable def fin : ASt → R := Kret E Try.f57.results.toList ps rs
noncomputable def Se (x_0 : Int) (y : Int) : R :=
  some (IntKind.u64.wrap ((IntKind.u64.wrap ((IntKind.u64.wrap ((Int.fdiv x_0 (2 ^ (min 32 IntKind.u64.bits))) * (Int.fdiv y (2 ^ (min 32 IntKind.u64.bits))))) + (Int.fdiv (IntKind.u64.wrap ((IntKind.u64.wrap ((Int.fdiv x_0 (2 ^ (min 32 IntKind.u64.bits))) * (IntKind.u64.wrap (BitVec.ofInt IntKind.u64.bits y &&& BitVec.ofInt IntKind.u64.bits 4294967295).toNat))) + (Int.fdiv (IntKind.u64.wrap ((IntKind.u64.wrap (BitVec.ofInt IntKind.u64.bits x_0 &&& BitVec.ofInt IntKind.u64.bits 4294967295).toNat) * (IntKind.u64.wrap (BitVec.ofInt IntKind.u64.bits y &&& BitVec.ofInt IntKind.u64.bits 4294967295).toNat))) (2 ^ (min 32 IntKind.u64.bits))))) (2 ^ (min 32 IntKind.u64.bits))))) + (Int.fdiv (IntKind.u64.wrap ((IntKind.u64.wrap (BitVec.ofInt IntKind.u64.bits (IntKind.u64.wrap ((IntKind.u64.wrap ((Int.fdiv x_0 (2 ^ (min 32 IntKind.u64.bits))) * (IntKind.u64.wrap (BitVec.ofInt IntKind.u64.bits y &&& BitVec.ofInt IntKind.u64.bits 4294967295).toNat))) + (Int.fdiv (IntKind.u64.wrap ((IntKind.u64.wrap (BitVec.ofInt IntKind.u64.bits x_0 &&& BitVec.ofInt IntKind.u64.bits 4294967295).toNat) * (IntKind.u64.wrap (BitVec.ofInt IntKind.u64.bits y &&& BitVec.ofInt IntKind.u64.bits 4294967295).toNat))) (2 ^ (min 32 IntKind.u64.bits))))) &&& BitVec.ofInt IntKind.u64.bits 4294967295).toNat) + (IntKind.u64.wrap ((IntKind.u64.wrap (BitVec.ofInt IntKind.u64.bits x_0 &&& BitVec.ofInt IntKind.u64.bits 4294967295).toNat) * (Int.fdiv y (2 ^ (min 32 IntKind.u64.bits))))))) (2 ^ (min 32 IntKind.u64.bits)))), IntKind.u64.wrap (x_0 * y), ())
theorem se (x : (argTy ps).den) : run E (lim E fin) fin depth (bodyOf Try.f57) .ret (entryFrom 0 ps x) = Se x.1 x.2.1 := by kernel_rfl
end math_bits_Mul64
noncomputable def math_bits_Mul64 (x_0 : Int) (y : Int) : math_bits_Mul64.R :=
  math_bits_Mul64.Se x_0 y
namespace math_bits_Mul64
noncomputable def sig : Sig := ⟨ps, rs, fun x => math_bits_Mul64 x.1 x.2.1⟩
theorem val (x : (argTy ps).den) : lim E fin (.code (bodyOf Try.f57) .ret) (entryFrom 0 ps x) = sig.run x := (lim_eq (.code (bodyOf Try.f57) .ret) (entryFrom 0 ps x)).trans (se x)
theorem ok : CallOK Try.prog 57 sig :=
  callOK_of_lim (E := E) mixed tt_ok ctxOk_nil Try.func57 (by kernel_rfl : Try.f57.body = some (bodyOf Try.f57)) Try.ntmps57 (of_decide_eq_true (by kernel_rfl)) (of_decide_eq_true (by kernel_rfl)) fun x y h => (val x).trans h
noncomputable def ctxc (n : Nat) : List (Nat × Sig) := []
noncomputable def sigc (n : Nat) : Sig := ⟨ps, rs, fun x => runs (withCtx E (ctxc n)) fin n (.code (bodyOf Try.f57) .ret) (entryFrom 0 ps x)⟩
theorem sigc_le (n : Nat) : ∀ x y, (sigc n).run x = some y → sig.run x = some y := fun x y h => (val x).symm.trans (runs_lim (E := E) (c := ctxc n) ctxLe_nil h)
end math_bits_Mul64
namespace math_bits_Mul
abbrev ps : List PM := [.pure (.int .u64), .pure (.int .u64)]
abbrev rs : List RM := [.pure (.int .u64), .pure (.int .u64)]
abbrev R : Type := Option (Int × Int × Unit)
noncomputable def E : Env := { tt := tt, ctx := [(57, math_bits_Mul64.sig)], nt := 30, ann := [] }
noncomputable def fin : ASt → R := Kret E Try.f44.results.toList ps rs
noncomputable def Se (x_0 : Int) (y : Int) : R :=
  Option.bind (math_bits_Mul64 x_0 y) fun x1 =>
  some (x1.1, x1.2.1, ())
theorem se (x : (argTy ps).den) : run E (lim E fin) fin depth (bodyOf Try.f44) .ret (entryFrom 0 ps x) = Se x.1 x.2.1 := by kernel_rfl
end math_bits_Mul
noncomputable def math_bits_Mul (x_0 : Int) (y : Int) : math_bits_Mul.R :=
  math_bits_Mul.Se x_0 y
namespace math_bits_Mul
noncomputable def sig : Sig := ⟨ps, rs, fun x => math_bits_Mul x.1 x.2.1⟩
theorem val (x : (argTy ps).den) : lim E fin (.code (bodyOf Try.f44) .ret) (entryFrom 0 ps x) = sig.run x := (lim_eq (.code (bodyOf Try.f44) .ret) (entryFrom 0 ps x)).trans (se x)
theorem ok : CallOK Try.prog 44 sig :=
  callOK_of_lim (E := E) mixed tt_ok (ctxOk_cons ctxOk_nil math_bits_Mul64.ok Try.func57 (by kernel_rfl) (by kernel_rfl)) Try.func44 (by kernel_rfl : Try.f44.body = some (bodyOf Try.f44)) Try.ntmps44 (of_decide_eq_true (by kernel_rfl)) (of_decide_eq_true (by kernel_rfl)) fun x y h => (val x).trans h
noncomputable def ctxc (n : Nat) : List (Nat × Sig) := [(57, math_bits_Mul64.sigc n)]
noncomputable def sigc (n : Nat) : Sig := ⟨ps, rs, fun x => runs (withCtx E (ctxc n)) fin n (.code (bodyOf Try.f44) .ret) (entryFrom 0 ps x)⟩
theorem sigc_le (n : Nat) : ∀ x y, (sigc n).run x = some y → sig.run x = some y := fun x y h => (val x).symm.trans (runs_lim (E := E) (c := ctxc n) (ctxLe_cons ctxLe_nil (math_bits_Mul64.sigc_le n)) h)
end math_bits_Mul
namespace slices_Repeat_int_int
abbrev ps : List PM := [.pure (.sl (.int .i64)), .pure (.int .i64)]
abbrev rs : List RM := [.own (.int .i64)]
abbrev R : Type := Option (List Int × Unit)
noncomputable def E : Env := { tt := tt, ctx := [(44, math_bits_Mul.sig)], nt := 48, ann := [(3, [(0, .keep), (1, .keep)]), (6, [(0, .keep), (6, .keep)]), (1000008, [(7, .keep), (8, .keep)])] }
noncomputable def c0 : Code := sub [1, 1, 1, 1, 1, 1, 1] (bodyOf Try.f38)
noncomputable def c1 : Code := sub [1, 1] (bodyOf Try.f38)
noncomputable def c2 : Code := sub [1, 1, 1, 1] (bodyOf Try.f38)
noncomputable def c3 : Code := sub [1, 1, 1, 1, 1, 1, 0, 0, 0] (bodyOf Try.f38)
noncomputable def K9 : Kont := .seq c0 .ret
noncomputable def K10 : Kont := .blk 0 K9
noncomputable def fin : ASt → R := Kret E Try.f38.results.toList ps rs
def tJ0 (x_0 : List Int) (count : Int) : ASt := ⟨[(1, .one (.val (.int .i64) count)), (0, .one (.val (.sl (.int .i64)) x_0))], []⟩
def tJ1 (x_0 : List Int) (lo : Int) : ASt := ⟨[(6, .one (.val (.int .u64) lo)), (0, .one (.val (.sl (.int .i64)) x_0))], []⟩
def tL2 (newslice : List Int) (n_8 : Int) : ASt := ⟨[(8, .one (.val (.int .i64) n_8)), (7, .one (.own 7))], [(7, some ⟨.free, .int .i64, newslice⟩)]⟩
noncomputable def J0 (x_0 : List Int) (count : Int) : R := lim E fin (.code c1 .ret) (tJ0 x_0 count)
noncomputable def J1 (x_0 : List Int) (lo : Int) : R := lim E fin (.code c2 .ret) (tJ1 x_0 lo)
noncomputable def L2 (newslice : List Int) (n_8 : Int) : R := lim E fin (.loop c3 K10) (tL2 newslice n_8)
noncomputable def SJ0 (x_0 : List Int) (count : Int) : R :=
  Option.bind (math_bits_Mul (IntKind.u64.wrap (x_0.length : Int)) (IntKind.u64.wrap count)) fun x1 =>
  cond (decide (x1.1 > 0))
    none
    (cond (decide (x1.2.1 > 9223372036854775807))
      none
      (J1 x_0 x1.2.1))
noncomputable def SJ1 (x_0 : List Int) (lo : Int) : R :=
  cond (decide (0 ≤ (IntKind.i64.wrap lo : Int)) && (decide ((IntKind.i64.wrap lo : Int) ≤ IntKind.i64.wrap lo) && (decide ((IntKind.i64.wrap lo : Int) * 8 ≤ room) && (decide ((IntKind.i64.wrap lo : Int) ≤ maxLen) && decide (0 < Ty.nc (.int .i64))))))
    (L2 ((List.replicate (IntKind.i64.wrap lo).toNat (0 : Int)).take 0 ++ (x_0.take ((List.replicate (IntKind.i64.wrap lo).toNat (0 : Int)).length) ++ (List.replicate (IntKind.i64.wrap lo).toNat (0 : Int)).drop (0 + (min ((List.replicate (IntKind.i64.wrap lo).toNat (0 : Int)).length) x_0.length)))) (((min ((List.replicate (IntKind.i64.wrap lo).toNat (0 : Int)).length) x_0.length) : Nat) : Int))
    none
noncomputable def SL2 (newslice : List Int) (n_8 : Int) : R :=
  cond (decide (n_8 < (newslice.length : Int)))
    (cond (decide ((0 : Int) ≤ n_8) && (decide ((n_8 : Int) ≤ (newslice.length : Int)) && decide ((newslice.length : Int) ≤ (newslice.length : Int))))
      (cond (decide ((0 : Int) ≤ 0) && (decide ((0 : Int) ≤ n_8) && decide (n_8 ≤ (newslice.length : Int))))
        (L2 (newslice.take n_8.toNat ++ ((newslice.take n_8.toNat).take (newslice.length - n_8.toNat) ++ newslice.drop (n_8.toNat + (min (newslice.length - n_8.toNat) ((newslice.take n_8.toNat).length))))) (IntKind.i64.wrap (n_8 + (((min (newslice.length - n_8.toNat) ((newslice.take n_8.toNat).length)) : Nat) : Int))))
        none)
      none)
    (some (newslice, ()))
noncomputable def Se (x_0 : List Int) (count : Int) : R :=
  cond (decide (count < 0))
    none
    (J0 x_0 count)
theorem J0_eq (x_0 count) : J0 x_0 count = SJ0 x_0 count := (lim_eq (.code c1 .ret) (tJ0 x_0 count)).trans (by kernel_rfl)
theorem J1_eq (x_0 lo) : J1 x_0 lo = SJ1 x_0 lo := (lim_eq (.code c2 .ret) (tJ1 x_0 lo)).trans (by kernel_rfl)
theorem L2_eq (newslice n_8) : L2 newslice n_8 = SL2 newslice n_8 := (lim_eq (.loop c3 K10) (tL2 newslice n_8)).trans (by kernel_rfl)
theorem se (x : (argTy ps).den) : run E (lim E fin) fin depth (bodyOf Try.f38) .ret (entryFrom 0 ps x) = Se x.1 x.2.1 := by kernel_rfl
end slices_Repeat_int_int
noncomputable def slices_Repeat_int_int (x_0 : List Int) (count : Int) : slices_Repeat_int_int.R :=
  slices_Repeat_int_int.Se x_0 count
namespace slices_Repeat_int_int
noncomputable def sig : Sig := ⟨ps, rs, fun x => slices_Repeat_int_int x.1 x.2.1⟩
theorem val (x : (argTy ps).den) : lim E fin (.code (bodyOf Try.f38) .ret) (entryFrom 0 ps x) = sig.run x := (lim_eq (.code (bodyOf Try.f38) .ret) (entryFrom 0 ps x)).trans (se x)
theorem ok : CallOK Try.prog 38 sig :=
  callOK_of_lim (E := E) mixed tt_ok (ctxOk_cons ctxOk_nil math_bits_Mul.ok Try.func44 (by kernel_rfl) (by kernel_rfl)) Try.func38 (by kernel_rfl : Try.f38.body = some (bodyOf Try.f38)) Try.ntmps38 (of_decide_eq_true (by kernel_rfl)) (of_decide_eq_true (by kernel_rfl)) fun x y h => (val x).trans h
noncomputable def ctxc (n : Nat) : List (Nat × Sig) := [(44, math_bits_Mul.sigc n)]
noncomputable def sigc (n : Nat) : Sig := ⟨ps, rs, fun x => runs (withCtx E (ctxc n)) fin n (.code (bodyOf Try.f38) .ret) (entryFrom 0 ps x)⟩
theorem sigc_le (n : Nat) : ∀ x y, (sigc n).run x = some y → sig.run x = some y := fun x y h => (val x).symm.trans (runs_lim (E := E) (c := ctxc n) (ctxLe_cons ctxLe_nil (math_bits_Mul.sigc_le n)) h)
end slices_Repeat_int_int
namespace slices_Index_int_int
abbrev ps : List PM := [.pure (.sl (.int .i64)), .pure (.int .i64)]
abbrev rs : List RM := [.pure (.int .i64)]
abbrev R : Type := Option (Int × Unit)
noncomputable def E : Env := { tt := tt, ctx := [], nt := 19, ann := [(1000002, [(0, .keep), (1, .keep), (7, .keep), (8, .keep)])] }
noncomputable def c0 : Code := sub [1, 1] (bodyOf Try.f43)
noncomputable def c1 : Code := sub [1, 0, 1, 0, 0] (bodyOf Try.f43)
noncomputable def K2 : Kont := .seq c0 .ret
noncomputable def K4 : Kont := .blk 0 K2
noncomputable def fin : ASt → R := Kret E Try.f43.results.toList ps rs
def tL0 (s : List Int) (v_1 : Int) (v_7 : Int) (v_8 : Int) : ASt := ⟨[(8, .one (.val (.int .i64) v_8)), (7, .one (.val (.int .i64) v_7)), (1, .one (.val (.int .i64) v_1)), (0, .one (.val (.sl (.int .i64)) s))], []⟩
noncomputable def L0 (s : List Int) (v_1 : Int) (v_7 : Int) (v_8 : Int) : R := lim E fin (.loop c1 K4) (tL0 s v_1 v_7 v_8)
noncomputable def SL0 (s : List Int) (v_1 : Int) (v_7 : Int) (v_8 : Int) : R :=
  cond (decide (v_8 < v_7))
    (Option.bind (idx s v_8) fun x1 =>
    cond (v_1 == x1)
      (some (v_8, ()))
      (L0 s v_1 v_7 (IntKind.i64.wrap (v_8 + 1))))
    (some ((-1), ()))
noncomputable def Se (s : List Int) (v : Int) : R :=
  L0 s v (s.length : Int) 0
theorem L0_eq (s v_1 v_7 v_8) : L0 s v_1 v_7 v_8 = SL0 s v_1 v_7 v_8 := (lim_eq (.loop c1 K4) (tL0 s v_1 v_7 v_8)).trans (by kernel_rfl)
theorem se (x : (argTy ps).den) : run E (lim E fin) fin depth (bodyOf Try.f43) .ret (entryFrom 0 ps x) = Se x.1 x.2.1 := by kernel_rfl
end slices_Index_int_int
noncomputable def slices_Index_int_int (s : List Int) (v : Int) : slices_Index_int_int.R :=
  slices_Index_int_int.Se s v
namespace slices_Index_int_int
noncomputable def sig : Sig := ⟨ps, rs, fun x => slices_Index_int_int x.1 x.2.1⟩
theorem val (x : (argTy ps).den) : lim E fin (.code (bodyOf Try.f43) .ret) (entryFrom 0 ps x) = sig.run x := (lim_eq (.code (bodyOf Try.f43) .ret) (entryFrom 0 ps x)).trans (se x)
theorem ok : CallOK Try.prog 43 sig :=
  callOK_of_lim (E := E) mixed tt_ok ctxOk_nil Try.func43 (by kernel_rfl : Try.f43.body = some (bodyOf Try.f43)) Try.ntmps43 (of_decide_eq_true (by kernel_rfl)) (of_decide_eq_true (by kernel_rfl)) fun x y h => (val x).trans h
noncomputable def ctxc (n : Nat) : List (Nat × Sig) := []
noncomputable def sigc (n : Nat) : Sig := ⟨ps, rs, fun x => runs (withCtx E (ctxc n)) fin n (.code (bodyOf Try.f43) .ret) (entryFrom 0 ps x)⟩
theorem sigc_le (n : Nat) : ∀ x y, (sigc n).run x = some y → sig.run x = some y := fun x y h => (val x).symm.trans (runs_lim (E := E) (c := ctxc n) ctxLe_nil h)
end slices_Index_int_int
namespace slices_Contains_int_int
abbrev ps : List PM := [.pure (.sl (.int .i64)), .pure (.int .i64)]
abbrev rs : List RM := [.pure .bool]
abbrev R : Type := Option (Bool × Unit)
noncomputable def E : Env := { tt := tt, ctx := [(43, slices_Index_int_int.sig)], nt := 9, ann := [] }
noncomputable def fin : ASt → R := Kret E Try.f37.results.toList ps rs
noncomputable def Se (s : List Int) (v : Int) : R :=
  Option.bind (slices_Index_int_int s v) fun x1 =>
  some (decide (x1.1 ≥ 0), ())
theorem se (x : (argTy ps).den) : run E (lim E fin) fin depth (bodyOf Try.f37) .ret (entryFrom 0 ps x) = Se x.1 x.2.1 := by kernel_rfl
end slices_Contains_int_int
noncomputable def slices_Contains_int_int (s : List Int) (v : Int) : slices_Contains_int_int.R :=
  slices_Contains_int_int.Se s v
namespace slices_Contains_int_int
noncomputable def sig : Sig := ⟨ps, rs, fun x => slices_Contains_int_int x.1 x.2.1⟩
theorem val (x : (argTy ps).den) : lim E fin (.code (bodyOf Try.f37) .ret) (entryFrom 0 ps x) = sig.run x := (lim_eq (.code (bodyOf Try.f37) .ret) (entryFrom 0 ps x)).trans (se x)
theorem ok : CallOK Try.prog 37 sig :=
  callOK_of_lim (E := E) mixed tt_ok (ctxOk_cons ctxOk_nil slices_Index_int_int.ok Try.func43 (by kernel_rfl) (by kernel_rfl)) Try.func37 (by kernel_rfl : Try.f37.body = some (bodyOf Try.f37)) Try.ntmps37 (of_decide_eq_true (by kernel_rfl)) (of_decide_eq_true (by kernel_rfl)) fun x y h => (val x).trans h
noncomputable def ctxc (n : Nat) : List (Nat × Sig) := [(43, slices_Index_int_int.sigc n)]
noncomputable def sigc (n : Nat) : Sig := ⟨ps, rs, fun x => runs (withCtx E (ctxc n)) fin n (.code (bodyOf Try.f37) .ret) (entryFrom 0 ps x)⟩
theorem sigc_le (n : Nat) : ∀ x y, (sigc n).run x = some y → sig.run x = some y := fun x y h => (val x).symm.trans (runs_lim (E := E) (c := ctxc n) (ctxLe_cons ctxLe_nil (slices_Index_int_int.sigc_le n)) h)
end slices_Contains_int_int
namespace deps_distances
abbrev ps : List PM := [.pure (.sl (.sl (.int .i64))), .pure (.int .i64)]
abbrev rs : List RM := [.own (.int .i64)]
abbrev R : Type := Option (List Int × Unit)
noncomputable def E : Env := { tt := tt, ctx := [(38, slices_Repeat_int_int.sig), (37, slices_Contains_int_int.sig)], nt := 72, ann := [(1000003, [(0, .keep), (1, .keep), (5, .var [(0, .keep)]), (13, .keep), (14, .keep)]), (1000011, [(0, .keep), (5, .var [(0, .keep)]), (7, .keep), (8, .keep)]), (1000014, [(0, .keep), (5, .var [(0, .keep)]), (7, .keep), (8, .keep), (36, .keep), (37, .keep), (38, .keep)]), (17, [(0, .keep), (5, .var [(0, .keep)]), (7, .keep), (8, .keep), (9, .keep), (36, .keep), (37, .keep), (38, .keep), (53, .keep)])] }
noncomputable def c0 : Code := sub [1, 1, 1] (bodyOf Try.f26)
noncomputable def c1 : Code := sub [1, 1, 1, 1, 1, 1, 1] (bodyOf Try.f26)
noncomputable def c2 : Code := sub [1, 1, 1, 1, 1, 1, 0, 1, 0, 0] (bodyOf Try.f26)
noncomputable def c3 : Code := sub [1, 1, 1, 1, 1, 1, 0, 1, 0, 0, 1, 1] (bodyOf Try.f26)
noncomputable def c4 : Code := sub [1, 1, 1, 1, 1, 1, 0, 1, 0, 0, 1, 0, 0, 1, 0, 0] (bodyOf Try.f26)
noncomputable def c5 : Code := sub [1, 1, 1, 1, 1, 1, 0, 1, 0, 0, 1, 0, 0, 1, 0, 0, 1, 1, 1] (bodyOf Try.f26)
noncomputable def c6 : Code := sub [1, 1, 0, 1, 0, 0] (bodyOf Try.f26)
noncomputable def c7 : Code := sub [1, 1, 1, 1, 1, 1, 0, 1, 0, 0, 1, 0, 0, 1, 0, 0, 1, 1, 0, 0, 1, 1] (bodyOf Try.f26)
noncomputable def K3 : Kont := .seq c0 .ret
noncomputable def K5 : Kont := .blk 0 K3
noncomputable def K15 : Kont := .seq c1 .ret
noncomputable def K17 : Kont := .blk 2 K15
noncomputable def K18 : Kont := .loop c2 K17
noncomputable def K21 : Kont := .seq c3 K18
noncomputable def K22 : Kont := .blk 3 K21
noncomputable def K24 : Kont := .blk 4 K22
noncomputable def K25 : Kont := .loop c4 K24
noncomputable def K29 : Kont := .seq c5 K25
noncomputable def K30 : Kont := .blk 5 K29
noncomputable def fin : ASt → R := Kret E Try.f26.results.toList ps rs
def tL0 (direct : List (List Int)) (target : Int) (v_f : Int → Int) (v_n : Nat) (v_13 : Int) (v_14 : Int) : ASt := ⟨[(14, .one (.val (.int .i64) v_14)), (13, .one (.val (.int .i64) v_13)), (5, .one (.mref 5)), (1, .one (.val (.int .i64) target)), (0, .one (.val (.sl (.sl (.int .i64))) direct))], [(5, some ⟨.var [(0, .mp v_f v_n)], .unit, []⟩)]⟩
def tL1 (direct : List (List Int)) (v_f : Int → Int) (v_n : Nat) (out : List Int) (todo : List Int) : ASt := ⟨[(8, .one (.own 8)), (7, .one (.own 7)), (5, .one (.mref 5)), (0, .one (.val (.sl (.sl (.int .i64))) direct))], [(8, some ⟨.free, .int .i64, todo⟩), (7, some ⟨.free, .int .i64, out⟩), (5, some ⟨.var [(0, .mp v_f v_n)], .unit, []⟩)]⟩
def tL2 (direct : List (List Int)) (v_f : Int → Int) (v_n : Nat) (out : List Int) (todo : List Int) (v_36 : List (List Int)) (v_37 : Int) (v_38 : Int) : ASt := ⟨[(38, .one (.val (.int .i64) v_38)), (37, .one (.val (.int .i64) v_37)), (36, .one (.val (.sl (.sl (.int .i64))) v_36)), (8, .one (.own 8)), (7, .one (.own 7)), (5, .one (.mref 5)), (0, .one (.val (.sl (.sl (.int .i64))) direct))], [(8, some ⟨.free, .int .i64, todo⟩), (7, some ⟨.free, .int .i64, out⟩), (5, some ⟨.var [(0, .mp v_f v_n)], .unit, []⟩)]⟩
def tJ3 (direct : List (List Int)) (v_f : Int → Int) (v_n : Nat) (out : List Int) (todo : List Int) (d : Int) (v_36 : List (List Int)) (v_37 : Int) (v_38 : Int) (v_53 : Bool) : ASt := ⟨[(53, .one (.val .bool v_53)), (38, .one (.val (.int .i64) v_38)), (37, .one (.val (.int .i64) v_37)), (36, .one (.val (.sl (.sl (.int .i64))) v_36)), (9, .one (.val (.int .i64) d)), (8, .one (.own 8)), (7, .one (.own 7)), (5, .one (.mref 5)), (0, .one (.val (.sl (.sl (.int .i64))) direct))], [(8, some ⟨.free, .int .i64, todo⟩), (7, some ⟨.free, .int .i64, out⟩), (5, some ⟨.var [(0, .mp v_f v_n)], .unit, []⟩)]⟩
noncomputable def L0 (direct : List (List Int)) (target : Int) (v_f : Int → Int) (v_n : Nat) (v_13 : Int) (v_14 : Int) : R := lim E fin (.loop c6 K5) (tL0 direct target v_f v_n v_13 v_14)
noncomputable def L1 (direct : List (List Int)) (v_f : Int → Int) (v_n : Nat) (out : List Int) (todo : List Int) : R := lim E fin (.loop c2 K17) (tL1 direct v_f v_n out todo)
noncomputable def L2 (direct : List (List Int)) (v_f : Int → Int) (v_n : Nat) (out : List Int) (todo : List Int) (v_36 : List (List Int)) (v_37 : Int) (v_38 : Int) : R := lim E fin (.loop c4 K24) (tL2 direct v_f v_n out todo v_36 v_37 v_38)
noncomputable def J3 (direct : List (List Int)) (v_f : Int → Int) (v_n : Nat) (out : List Int) (todo : List Int) (d : Int) (v_36 : List (List Int)) (v_37 : Int) (v_38 : Int) (v_53 : Bool) : R := lim E fin (.code c7 K30) (tJ3 direct v_f v_n out todo d v_36 v_37 v_38 v_53)
noncomputable def SL0 (direct : List (List Int)) (target : Int) (v_f : Int → Int) (v_n : Nat) (v_13 : Int) (v_14 : Int) : R :=
  cond (decide (v_14 < v_13))
    (cond (decide (v_n < maxLen))
      (L0 direct target (mput v_f v_14 1) (v_n + 1) v_13 (IntKind.i64.wrap (v_14 + 1)))
      none)
    (cond (decide (v_n < maxLen))
      (Option.bind (slices_Repeat_int_int [(-1)] (direct.length : Int)) fun x1 =>
      cond (decide (0 ≤ target) && decide (target < (x1.1.length : Int)))
        (L1 direct (mput v_f target 0) v_n (x1.1.set target.toNat 0) [target])
        none)
      none)
noncomputable def SL1 (direct : List (List Int)) (v_f : Int → Int) (v_n : Nat) (out : List Int) (todo : List Int) : R :=
  cond (decide ((todo.length : Int) > 0))
    (L2 direct v_f v_n out todo direct (direct.length : Int) 0)
    (some (out, ()))
noncomputable def SL2 (direct : List (List Int)) (v_f : Int → Int) (v_n : Nat) (out : List Int) (todo : List Int) (v_36 : List (List Int)) (v_37 : Int) (v_38 : Int) : R :=
  cond (decide (v_38 < v_37))
    (Option.bind (idx v_36 v_38) fun x1 =>
    cond ((v_f v_38) == 1)
      (cond (decide (0 ≤ 0) && decide (0 < (todo.length : Int)))
        (Option.bind (slices_Contains_int_int x1 (todo.getD 0 0)) fun x2 =>
        J3 direct v_f v_n out todo v_38 v_36 v_37 v_38 x2.1)
        none)
      (J3 direct v_f v_n out todo v_38 v_36 v_37 v_38 false))
    (cond (decide ((0 : Int) ≤ 1) && (decide ((1 : Int) ≤ (todo.length : Int)) && decide ((todo.length : Int) ≤ (todo.length : Int))))
      (L1 direct v_f v_n out ((todo.drop 1).take (todo.length - 1)))
      none)
noncomputable def SJ3 (direct : List (List Int)) (v_f : Int → Int) (v_n : Nat) (out : List Int) (todo : List Int) (d : Int) (v_36 : List (List Int)) (v_37 : Int) (v_38 : Int) (v_53 : Bool) : R :=
  cond v_53
    (cond (decide (v_n < maxLen))
      (cond (decide (0 ≤ 0) && decide (0 < (todo.length : Int)))
        (cond (decide (0 ≤ (todo.getD 0 0)) && decide ((todo.getD 0 0) < (out.length : Int)))
          (cond (decide (0 ≤ d) && decide (d < (out.length : Int)))
            (cond (decide ((todo.length + 1) * 8 ≤ room) && decide (0 < Ty.nc (.int .i64)))
              (L2 direct (mput v_f d 0) v_n (out.set d.toNat (IntKind.i64.wrap ((out.getD ((todo.getD 0 0).toNat) 0) + 1))) (todo ++ [d]) v_36 v_37 (IntKind.i64.wrap (v_38 + 1)))
              none)
            none)
          none)
        none)
      none)
    (L2 direct v_f v_n out todo v_36 v_37 (IntKind.i64.wrap (v_38 + 1)))
noncomputable def Se (direct : List (List Int)) (target : Int) : R :=
  L0 direct target (fun _ => 0) 0 (direct.length : Int) 0
theorem L0_eq (direct target v_f v_n v_13 v_14) : L0 direct target v_f v_n v_13 v_14 = SL0 direct target v_f v_n v_13 v_14 := (lim_eq (.loop c6 K5) (tL0 direct target v_f v_n v_13 v_14)).trans (by kernel_rfl)
theorem L1_eq (direct v_f v_n out todo) : L1 direct v_f v_n out todo = SL1 direct v_f v_n out todo := (lim_eq (.loop c2 K17) (tL1 direct v_f v_n out todo)).trans (by kernel_rfl)
theorem L2_eq (direct v_f v_n out todo v_36 v_37 v_38) : L2 direct v_f v_n out todo v_36 v_37 v_38 = SL2 direct v_f v_n out todo v_36 v_37 v_38 := (lim_eq (.loop c4 K24) (tL2 direct v_f v_n out todo v_36 v_37 v_38)).trans (by kernel_rfl)
theorem J3_eq (direct v_f v_n out todo d v_36 v_37 v_38 v_53) : J3 direct v_f v_n out todo d v_36 v_37 v_38 v_53 = SJ3 direct v_f v_n out todo d v_36 v_37 v_38 v_53 := (lim_eq (.code c7 K30) (tJ3 direct v_f v_n out todo d v_36 v_37 v_38 v_53)).trans (by kernel_rfl)
theorem se (x : (argTy ps).den) : run E (lim E fin) fin depth (bodyOf Try.f26) .ret (entryFrom 0 ps x) = Se x.1 x.2.1 := by kernel_rfl
end deps_distances
noncomputable def deps_distances (direct : List (List Int)) (target : Int) : deps_distances.R :=
  deps_distances.Se direct target
namespace deps_distances
noncomputable def sig : Sig := ⟨ps, rs, fun x => deps_distances x.1 x.2.1⟩
theorem val (x : (argTy ps).den) : lim E fin (.code (bodyOf Try.f26) .ret) (entryFrom 0 ps x) = sig.run x := (lim_eq (.code (bodyOf Try.f26) .ret) (entryFrom 0 ps x)).trans (se x)
theorem ok : CallOK Try.prog 26 sig :=
  callOK_of_lim (E := E) mixed tt_ok (ctxOk_cons (ctxOk_cons ctxOk_nil slices_Contains_int_int.ok Try.func37 (by kernel_rfl) (by kernel_rfl)) slices_Repeat_int_int.ok Try.func38 (by kernel_rfl) (by kernel_rfl)) Try.func26 (by kernel_rfl : Try.f26.body = some (bodyOf Try.f26)) Try.ntmps26 (of_decide_eq_true (by kernel_rfl)) (of_decide_eq_true (by kernel_rfl)) fun x y h => (val x).trans h
noncomputable def ctxc (n : Nat) : List (Nat × Sig) := [(38, slices_Repeat_int_int.sigc n), (37, slices_Contains_int_int.sigc n)]
noncomputable def sigc (n : Nat) : Sig := ⟨ps, rs, fun x => runs (withCtx E (ctxc n)) fin n (.code (bodyOf Try.f26) .ret) (entryFrom 0 ps x)⟩
theorem sigc_le (n : Nat) : ∀ x y, (sigc n).run x = some y → sig.run x = some y := fun x y h => (val x).symm.trans (runs_lim (E := E) (c := ctxc n) (ctxLe_cons (ctxLe_cons ctxLe_nil (slices_Contains_int_int.sigc_le n)) (slices_Repeat_int_int.sigc_le n)) h)
end deps_distances
namespace deps_FindCycle_1
abbrev ps : List PM := [.pure (.int .i64), .rd (.sl (.int .i64)), .rd (.int .i64), .rd (.sl (.int .i64))]
abbrev rs : List RM := [.pure .bool]
abbrev R : Type := Option (Bool × Unit)
noncomputable def E : Env := { tt := tt, ctx := [], nt := 15, ann := [] }
noncomputable def fin : ASt → R := Kret E Try.f28.results.toList ps rs
noncomputable def Se (x_0 : Int) (p1 : List Int) (p2 : Int) (p3 : List Int) : R :=
  Option.bind (idx p1 x_0) fun x1 =>
  some ((x1 == (IntKind.i64.wrap (p2 - (p3.length : Int)))), ())
theorem se (x : (argTy ps).den) : run E (lim E fin) fin depth (bodyOf Try.f28) .ret (entryFrom 0 ps x) = Se x.1 x.2.1 x.2.2.1 x.2.2.2.1 := by kernel_rfl
end deps_FindCycle_1
noncomputable def deps_FindCycle_1 (x_0 : Int) (p1 : List Int) (p2 : Int) (p3 : List Int) : deps_FindCycle_1.R :=
  deps_FindCycle_1.Se x_0 p1 p2 p3
namespace deps_FindCycle_1
noncomputable def sig : Sig := ⟨ps, rs, fun x => deps_FindCycle_1 x.1 x.2.1 x.2.2.1 x.2.2.2.1⟩
theorem val (x : (argTy ps).den) : lim E fin (.code (bodyOf Try.f28) .ret) (entryFrom 0 ps x) = sig.run x := (lim_eq (.code (bodyOf Try.f28) .ret) (entryFrom 0 ps x)).trans (se x)
theorem ok : CallOK Try.prog 28 sig :=
  callOK_of_lim (E := E) mixed tt_ok ctxOk_nil Try.func28 (by kernel_rfl : Try.f28.body = some (bodyOf Try.f28)) Try.ntmps28 (of_decide_eq_true (by kernel_rfl)) (of_decide_eq_true (by kernel_rfl)) fun x y h => (val x).trans h
noncomputable def ctxc (n : Nat) : List (Nat × Sig) := []
noncomputable def sigc (n : Nat) : Sig := ⟨ps, rs, fun x => runs (withCtx E (ctxc n)) fin n (.code (bodyOf Try.f28) .ret) (entryFrom 0 ps x)⟩
theorem sigc_le (n : Nat) : ∀ x y, (sigc n).run x = some y → sig.run x = some y := fun x y h => (val x).symm.trans (runs_lim (E := E) (c := ctxc n) ctxLe_nil h)
end deps_FindCycle_1
namespace slices_IndexFunc_int_int_deps_FindCycle_1
abbrev ps : List PM := [.pure (.sl (.int .i64)), .rfn 28 [.sl (.int .i64), .int .i64, .sl (.int .i64)]]
abbrev rs : List RM := [.pure (.int .i64)]
abbrev R : Type := Option (Int × Unit)
noncomputable def E : Env := { tt := tt, ctx := [(28, deps_FindCycle_1.sig)], nt := 19, ann := [(1000002, [(0, .keep), (1, .keep), (7, .keep), (8, .keep)])] }
noncomputable def c0 : Code := sub [1, 1] (bodyOf Try.f27)
noncomputable def c1 : Code := sub [1, 0, 1, 0, 0] (bodyOf Try.f27)
noncomputable def K2 : Kont := .seq c0 .ret
noncomputable def K4 : Kont := .blk 0 K2
noncomputable def fin : ASt → R := Kret E Try.f27.results.toList ps rs
def tL0 (s : List Int) (f_c0 : List Int) (f_c1 : Int) (f_c2 : List Int) (v_7 : Int) (v_8 : Int) : ASt := ⟨[(8, .one (.val (.int .i64) v_8)), (7, .one (.val (.int .i64) v_7)), (1, .one (.rfn 28 [⟨.sl (.int .i64), f_c0⟩, ⟨.int .i64, f_c1⟩, ⟨.sl (.int .i64), f_c2⟩])), (0, .one (.val (.sl (.int .i64)) s))], []⟩
noncomputable def L0 (s : List Int) (f_c0 : List Int) (f_c1 : Int) (f_c2 : List Int) (v_7 : Int) (v_8 : Int) : R := lim E fin (.loop c1 K4) (tL0 s f_c0 f_c1 f_c2 v_7 v_8)
noncomputable def SL0 (s : List Int) (f_c0 : List Int) (f_c1 : Int) (f_c2 : List Int) (v_7 : Int) (v_8 : Int) : R :=
  cond (decide (v_8 < v_7))
    (Option.bind (idx s v_8) fun x1 =>
    Option.bind (deps_FindCycle_1 x1 f_c0 f_c1 f_c2) fun x2 =>
    cond x2.1
      (some (v_8, ()))
      (L0 s f_c0 f_c1 f_c2 v_7 (IntKind.i64.wrap (v_8 + 1))))
    (some ((-1), ()))
noncomputable def Se (s : List Int) (f : List Int × Int × List Int × Unit) : R :=
  L0 s f.1 f.2.1 f.2.2.1 (s.length : Int) 0
theorem L0_eq (s f_c0 f_c1 f_c2 v_7 v_8) : L0 s f_c0 f_c1 f_c2 v_7 v_8 = SL0 s f_c0 f_c1 f_c2 v_7 v_8 := (lim_eq (.loop c1 K4) (tL0 s f_c0 f_c1 f_c2 v_7 v_8)).trans (by kernel_rfl)
theorem se (x : (argTy ps).den) : run E (lim E fin) fin depth (bodyOf Try.f27) .ret (entryFrom 0 ps x) = Se x.1 x.2.1 := by kernel_rfl
end slices_IndexFunc_int_int_deps_FindCycle_1
noncomputable def slices_IndexFunc_int_int_deps_FindCycle_1 (s : List Int) (f : List Int × Int × List Int × Unit) : slices_IndexFunc_int_int_deps_FindCycle_1.R :=
  slices_IndexFunc_int_int_deps_FindCycle_1.Se s f
namespace slices_IndexFunc_int_int_deps_FindCycle_1
noncomputable def sig : Sig := ⟨ps, rs, fun x => slices_IndexFunc_int_int_deps_FindCycle_1 x.1 x.2.1⟩
theorem val (x : (argTy ps).den) : lim E fin (.code (bodyOf Try.f27) .ret) (entryFrom 0 ps x) = sig.run x := (lim_eq (.code (bodyOf Try.f27) .ret) (entryFrom 0 ps x)).trans (se x)
theorem ok : CallOK Try.prog 27 sig :=
  callOK_of_lim (E := E) mixed tt_ok (ctxOk_cons ctxOk_nil deps_FindCycle_1.ok Try.func28 (by kernel_rfl) (by kernel_rfl)) Try.func27 (by kernel_rfl : Try.f27.body = some (bodyOf Try.f27)) Try.ntmps27 (of_decide_eq_true (by kernel_rfl)) (of_decide_eq_true (by kernel_rfl)) fun x y h => (val x).trans h
noncomputable def ctxc (n : Nat) : List (Nat × Sig) := [(28, deps_FindCycle_1.sigc n)]
noncomputable def sigc (n : Nat) : Sig := ⟨ps, rs, fun x => runs (withCtx E (ctxc n)) fin n (.code (bodyOf Try.f27) .ret) (entryFrom 0 ps x)⟩
theorem sigc_le (n : Nat) : ∀ x y, (sigc n).run x = some y → sig.run x = some y := fun x y h => (val x).symm.trans (runs_lim (E := E) (c := ctxc n) (ctxLe_cons ctxLe_nil (deps_FindCycle_1.sigc_le n)) h)
end slices_IndexFunc_int_int_deps_FindCycle_1
namespace deps_FindCycle
abbrev ps : List PM := [.pure api_Scope]
abbrev rs : List RM := [.own (.int .i64)]
abbrev R : Type := Option (List Int × Unit)
noncomputable def E : Env := { tt := tt, ctx := [(16, deps_Direct.sig), (26, deps_distances.sig), (27, slices_IndexFunc_int_int_deps_FindCycle_1.sig)], nt := 102, ann := [(1000003, [(1, .keep), (3, .keep), (23, .keep), (24, .keep)]), (1000011, [(3, .keep), (5, .keep), (6, .keep), (7, .keep), (34, .keep), (35, .keep), (36, .keep)]), (1000015, [(3, .keep), (5, .keep), (6, .keep), (7, .keep), (8, .keep), (10, .pure (.int .i64)), (34, .keep), (35, .keep), (36, .keep), (44, .keep), (45, .keep), (46, .keep)]), (1000025, [(3, .keep), (5, .keep), (7, .keep), (14, .var [(0, .keep)])]), (2000014, [])] }
noncomputable def c0 : Code := sub [1, 1, 1] (bodyOf Try.f12)
noncomputable def c1 : Code := sub [1, 1, 1, 1, 1, 1, 1] (bodyOf Try.f12)
noncomputable def c2 : Code := sub [1, 1, 1, 1, 1, 1, 0, 1, 0, 0] (bodyOf Try.f12)
noncomputable def c3 : Code := sub [1, 1, 1, 1, 1, 1, 0, 1, 0, 0, 1, 1, 1] (bodyOf Try.f12)
noncomputable def c4 : Code := sub [1, 1, 1, 1, 1, 1, 1, 1, 1, 1] (bodyOf Try.f12)
noncomputable def c5 : Code := sub [1, 1, 0, 1, 0, 0] (bodyOf Try.f12)
noncomputable def c6 : Code := sub [1, 1, 1, 1, 1, 1, 0, 1, 0, 0, 1, 1, 0, 0, 1, 1, 1, 0, 0] (bodyOf Try.f12)
noncomputable def c7 : Code := sub [1, 1, 1, 1, 1, 1, 1, 1, 1, 0, 0, 0] (bodyOf Try.f12)
noncomputable def K3 : Kont := .seq c0 .ret
noncomputable def K5 : Kont := .blk 0 K3
noncomputable def K15 : Kont := .seq c1 .ret
noncomputable def K17 : Kont := .blk 2 K15
noncomputable def K18 : Kont := .loop c2 K17
noncomputable def K21 : Kont := .seq c3 K18
noncomputable def K22 : Kont := .blk 3 K21
noncomputable def K26 : Kont := .blk 4 K22
noncomputable def K32 : Kont := .seq c4 .ret
noncomputable def K33 : Kont := .blk 6 K32
noncomputable def fin : ASt → R := Kret E Try.f12.results.toList ps rs
def tL0 (s : api_ScopeV) (direct : List (List Int)) (v_23 : Int) (v_24 : Int) : ASt := ⟨[(24, .one (.val (.int .i64) v_24)), (23, .one (.val (.int .i64) v_23)), (3, .one (.own 3)), (1, .one (.optr 1 0 []))], [(3, some ⟨.free, .sl (.int .i64), direct⟩), (1, some ⟨.free, api_Scope, [s]⟩)]⟩
def tL1 (direct : List (List Int)) (best : Int) (first : Int) (from_7 : List Int) (v_35 : Int) (v_36 : Int) : ASt := ⟨[(36, .one (.val (.int .i64) v_36)), (35, .one (.val (.int .i64) v_35)), (34, .one (.own 3)), (7, .one (.optr 7 0 [])), (6, .one (.val (.int .i64) first)), (5, .one (.optr 5 0 [])), (3, .one (.own 3))], [(7, some ⟨.free, .sl (.int .i64), [from_7]⟩), (5, some ⟨.free, .int .i64, [best]⟩), (3, some ⟨.free, .sl (.int .i64), direct⟩)]⟩
def tL2 (direct : List (List Int)) (best : Int) (first : Int) (from_7 : List Int) (d : Int) (dist : List Int) (v_35 : Int) (v_36 : Int) (v_44 : List Int) (v_45 : Int) (v_46 : Int) : ASt := ⟨[(46, .one (.val (.int .i64) v_46)), (45, .one (.val (.int .i64) v_45)), (44, .one (.val (.sl (.int .i64)) v_44)), (36, .one (.val (.int .i64) v_36)), (35, .one (.val (.int .i64) v_35)), (34, .one (.own 3)), (10, .one (.val (.sl (.int .i64)) dist)), (8, .one (.val (.int .i64) d)), (7, .one (.optr 7 0 [])), (6, .one (.val (.int .i64) first)), (5, .one (.optr 5 0 [])), (3, .one (.own 3))], [(7, some ⟨.free, .sl (.int .i64), [from_7]⟩), (5, some ⟨.free, .int .i64, [best]⟩), (3, some ⟨.free, .sl (.int .i64), direct⟩)]⟩
def tL3 (direct : List (List Int)) (best : Int) (from_7 : List Int) (out_0 : List Int) : ASt := ⟨[(14, .one (.vptr 14 (.sl (.int .i64)) 0)), (7, .one (.optr 7 0 [])), (5, .one (.optr 5 0 [])), (3, .one (.own 3))], [(14, some ⟨.var [(0, .own 100896)], .sl (.int .i64), []⟩), (100896, some ⟨.free, .int .i64, out_0⟩), (7, some ⟨.free, .sl (.int .i64), [from_7]⟩), (5, some ⟨.free, .int .i64, [best]⟩), (3, some ⟨.free, .sl (.int .i64), direct⟩)]⟩
noncomputable def L0 (s : api_ScopeV) (direct : List (List Int)) (v_23 : Int) (v_24 : Int) : R := lim E fin (.loop c5 K5) (tL0 s direct v_23 v_24)
noncomputable def L1 (direct : List (List Int)) (best : Int) (first : Int) (from_7 : List Int) (v_35 : Int) (v_36 : Int) : R := lim E fin (.loop c2 K17) (tL1 direct best first from_7 v_35 v_36)
noncomputable def L2 (direct : List (List Int)) (best : Int) (first : Int) (from_7 : List Int) (d : Int) (dist : List Int) (v_35 : Int) (v_36 : Int) (v_44 : List Int) (v_45 : Int) (v_46 : Int) : R := lim E fin (.loop c6 K26) (tL2 direct best first from_7 d dist v_35 v_36 v_44 v_45 v_46)
noncomputable def L3 (direct : List (List Int)) (best : Int) (from_7 : List Int) (out_0 : List Int) : R := lim E fin (.loop c7 K33) (tL3 direct best from_7 out_0)
noncomputable def SL0 (s : api_ScopeV) (direct : List (List Int)) (v_23 : Int) (v_24 : Int) : R :=
  cond (decide (v_24 < v_23))
    (Option.bind (deps_Direct s v_24) fun x1 =>
    cond (decide (0 ≤ v_24) && decide (v_24 < (direct.length : Int)))
      (L0 s (direct.set v_24.toNat x1.1) v_23 (IntKind.i64.wrap (v_24 + 1)))
      none)
    (L1 direct 0 0 [] (direct.length : Int) 0)
noncomputable def SL1 (direct : List (List Int)) (best : Int) (first : Int) (from_7 : List Int) (v_35 : Int) (v_36 : Int) : R :=
  cond (decide (v_36 < v_35))
    (cond (decide (0 ≤ v_36) && decide (v_36 < (direct.length : Int)))
      (Option.bind (deps_distances direct v_36) fun x1 =>
      L2 direct best first from_7 v_36 x1.1 v_35 v_36 (direct.getD v_36.toNat []) ((direct.getD v_36.toNat []).length : Int) 0)
      none)
    (cond (best == 0)
      (some ([], ()))
      (L3 direct best from_7 [first]))
noncomputable def SL2 (direct : List (List Int)) (best : Int) (first : Int) (from_7 : List Int) (d : Int) (dist : List Int) (v_35 : Int) (v_36 : Int) (v_44 : List Int) (v_45 : Int) (v_46 : Int) : R :=
  cond (decide (v_46 < v_45))
    (Option.bind (idx v_44 v_46) fun x1 =>
    Option.bind (idx dist x1) fun x2 =>
    cond (decide ((IntKind.i64.wrap (x2 + 1)) > 0))
      (cond (best == 0)
        (L2 direct (IntKind.i64.wrap (x2 + 1)) d dist d dist v_35 v_36 v_44 v_45 (IntKind.i64.wrap (v_46 + 1)))
        (cond (decide ((IntKind.i64.wrap (x2 + 1)) < best))
          (L2 direct (IntKind.i64.wrap (x2 + 1)) d dist d dist v_35 v_36 v_44 v_45 (IntKind.i64.wrap (v_46 + 1)))
          (L2 direct best first from_7 d dist v_35 v_36 v_44 v_45 (IntKind.i64.wrap (v_46 + 1)))))
      (L2 direct best first from_7 d dist v_35 v_36 v_44 v_45 (IntKind.i64.wrap (v_46 + 1))))
    (L1 direct best first from_7 v_35 (IntKind.i64.wrap (v_36 + 1)))
noncomputable def SL3 (direct : List (List Int)) (best : Int) (from_7 : List Int) (out_0 : List Int) : R :=
  cond (decide ((out_0.length : Int) < best))
    (cond (decide (0 ≤ IntKind.i64.wrap ((out_0.length : Int) - 1)) && decide (IntKind.i64.wrap ((out_0.length : Int) - 1) < (out_0.length : Int)))
      (cond (decide (0 ≤ (out_0.getD ((IntKind.i64.wrap ((out_0.length : Int) - 1)).toNat) 0)) && decide ((out_0.getD ((IntKind.i64.wrap ((out_0.length : Int) - 1)).toNat) 0) < (direct.length : Int)))
        (Option.bind (slices_IndexFunc_int_int_deps_FindCycle_1 (direct.getD ((out_0.getD ((IntKind.i64.wrap ((out_0.length : Int) - 1)).toNat) 0).toNat) []) (from_7, best, out_0, ())) fun x1 =>
        cond (decide (0 ≤ (out_0.getD ((IntKind.i64.wrap ((out_0.length : Int) - 1)).toNat) 0)) && decide ((out_0.getD ((IntKind.i64.wrap ((out_0.length : Int) - 1)).toNat) 0) < (direct.length : Int)))
          (Option.bind (idx (direct.getD ((out_0.getD ((IntKind.i64.wrap ((out_0.length : Int) - 1)).toNat) 0).toNat) []) x1.1) fun x2 =>
          cond (decide ((out_0.length + 1) * 8 ≤ room) && decide (0 < Ty.nc (.int .i64)))
            (L3 direct best from_7 (out_0 ++ [x2]))
            none)
          none)
        none)
      none)
    (some (out_0, ()))
noncomputable def Se (s : api_ScopeV) : R :=
  cond (decide (0 ≤ ((s.2.2.2.1.length : Int) : Int)) && (decide (((s.2.2.2.1.length : Int) : Int) ≤ (s.2.2.2.1.length : Int)) && (decide (((s.2.2.2.1.length : Int) : Int) * 24 ≤ room) && (decide (((s.2.2.2.1.length : Int) : Int) ≤ maxLen) && decide (0 < Ty.nc (.sl (.int .i64)))))))
    (L0 s (List.replicate s.2.2.2.1.length ([] : List Int)) (s.2.2.2.1.length : Int) 0)
    none
theorem L0_eq (s direct v_23 v_24) : L0 s direct v_23 v_24 = SL0 s direct v_23 v_24 := (lim_eq (.loop c5 K5) (tL0 s direct v_23 v_24)).trans (by kernel_rfl)
theorem L1_eq (direct best first from_7 v_35 v_36) : L1 direct best first from_7 v_35 v_36 = SL1 direct best first from_7 v_35 v_36 := (lim_eq (.loop c2 K17) (tL1 direct best first from_7 v_35 v_36)).trans (by kernel_rfl)
theorem L2_eq (direct best first from_7 d dist v_35 v_36 v_44 v_45 v_46) : L2 direct best first from_7 d dist v_35 v_36 v_44 v_45 v_46 = SL2 direct best first from_7 d dist v_35 v_36 v_44 v_45 v_46 := (lim_eq (.loop c6 K26) (tL2 direct best first from_7 d dist v_35 v_36 v_44 v_45 v_46)).trans (by kernel_rfl)
theorem L3_eq (direct best from_7 out_0) : L3 direct best from_7 out_0 = SL3 direct best from_7 out_0 := (lim_eq (.loop c7 K33) (tL3 direct best from_7 out_0)).trans (by kernel_rfl)
theorem se (x : (argTy ps).den) : run E (lim E fin) fin depth (bodyOf Try.f12) .ret (entryFrom 0 ps x) = Se x.1 := by kernel_rfl
end deps_FindCycle
noncomputable def deps_FindCycle (s : api_ScopeV) : deps_FindCycle.R :=
  deps_FindCycle.Se s
namespace deps_FindCycle
noncomputable def sig : Sig := ⟨ps, rs, fun x => deps_FindCycle x.1⟩
theorem val (x : (argTy ps).den) : lim E fin (.code (bodyOf Try.f12) .ret) (entryFrom 0 ps x) = sig.run x := (lim_eq (.code (bodyOf Try.f12) .ret) (entryFrom 0 ps x)).trans (se x)
theorem ok : CallOK Try.prog 12 sig :=
  callOK_of_lim (E := E) mixed tt_ok (ctxOk_cons (ctxOk_cons (ctxOk_cons ctxOk_nil slices_IndexFunc_int_int_deps_FindCycle_1.ok Try.func27 (by kernel_rfl) (by kernel_rfl)) deps_distances.ok Try.func26 (by kernel_rfl) (by kernel_rfl)) deps_Direct.ok Try.func16 (by kernel_rfl) (by kernel_rfl)) Try.func12 (by kernel_rfl : Try.f12.body = some (bodyOf Try.f12)) Try.ntmps12 (of_decide_eq_true (by kernel_rfl)) (of_decide_eq_true (by kernel_rfl)) fun x y h => (val x).trans h
noncomputable def ctxc (n : Nat) : List (Nat × Sig) := [(16, deps_Direct.sigc n), (26, deps_distances.sigc n), (27, slices_IndexFunc_int_int_deps_FindCycle_1.sigc n)]
noncomputable def sigc (n : Nat) : Sig := ⟨ps, rs, fun x => runs (withCtx E (ctxc n)) fin n (.code (bodyOf Try.f12) .ret) (entryFrom 0 ps x)⟩
theorem sigc_le (n : Nat) : ∀ x y, (sigc n).run x = some y → sig.run x = some y := fun x y h => (val x).symm.trans (runs_lim (E := E) (c := ctxc n) (ctxLe_cons (ctxLe_cons (ctxLe_cons ctxLe_nil (slices_IndexFunc_int_int_deps_FindCycle_1.sigc_le n)) (deps_distances.sigc_le n)) (deps_Direct.sigc_le n)) h)
end deps_FindCycle
namespace law16_awake
abbrev ps : List PM := []
abbrev rs : List RM := [.pure .bool]
abbrev R : Type := Option (Bool × Unit)
noncomputable def E : Env := { tt := tt, ctx := [(21, law16_node.sig), (9, deps_EvaluationOrder.sig), (16, deps_Direct.sig), (11, same_Ints.sig), (15, deps_Transitive.sig), (12, deps_FindCycle.sig)], nt := 66, ann := [(5, [(1, .var [(0, .keep), (1, .keep), (2, .keep), (3, .keep), (4, .keep)])]), (2000001, []), (2000012, []), (2000014, []), (2000018, []), (2000024, []), (2000041, []), (2000054, []), (2000061, [])] }
noncomputable def c0 : Code := sub [1, 1, 1, 1] (bodyOf Try.f8)
noncomputable def fin : ASt → R := Kret E Try.f8.results.toList ps rs
def tJ0 (s_0 : List UInt8) (s_1 : Int) (s_3 : List api_FieldV) (s_4 : List api_RuleV) : ASt := ⟨[(1, .one (.vptr 1 api_Scope 0))], [(1, some ⟨.var [(0, .val .str s_0), (1, .val (.int .i64) s_1), (2, .nilsl), (3, .own 100067), (4, .own 100068)], api_Scope, []⟩), (100068, some ⟨.free, api_Rule, s_4⟩), (100067, some ⟨.free, api_Field, s_3⟩)]⟩
noncomputable def J0 (s_0 : List UInt8) (s_1 : Int) (s_3 : List api_FieldV) (s_4 : List api_RuleV) : R := lim E fin (.code c0 .ret) (tJ0 s_0 s_1 s_3 s_4)
noncomputable def SJ0 (s_0 : List UInt8) (s_1 : Int) (s_3 : List api_FieldV) (s_4 : List api_RuleV) : R :=
  Option.bind (law16_node 0) fun x1 =>
  cond (decide ((s_4.length + 1) * 120 ≤ room) && decide (0 < Ty.nc (.pair .str (.pair (.int .i64) (.pair (.int .i64) (.pair (.int .i64) (.pair (.pair (.int .i64) (.pair (.int .i64) .unit)) (.pair (.sl (.pair (.int .i64) (.pair (.int .i64) .unit))) (.pair (.sl (.pair (.int .i64) (.pair (.int .i64) .unit))) (.pair .str .unit))))))))))
    (Option.bind (deps_EvaluationOrder (s_0, s_1, [], s_3, (s_4 ++ [([], 1, 0, 0, (0, 0, ()), [], x1.1, [], ())]), ())) fun x2 =>
    cond (x2.2.1 == 9)
      (Option.bind (deps_FindCycle (s_0, s_1, [], s_3, (s_4 ++ [([], 1, 0, 0, (0, 0, ()), [], x1.1, [], ())]), ())) fun x3 =>
      Option.bind (same_Ints x3.1 [0, 2, 1]) fun x4 =>
      some (x4.1, ()))
      (some (false, ())))
    none
noncomputable def Se : R :=
  cond (decide (0 ≤ (3 : Int)) && (decide ((3 : Int) ≤ 3) && (decide ((3 : Int) * 32 ≤ room) && (decide ((3 : Int) ≤ maxLen) && decide (0 < Ty.nc (.pair .str (.pair (.pair (.int .i64) (.pair (.int .i64) .unit)) .unit)))))))
    (Option.bind (law16_node 2) fun x1 =>
    Option.bind (law16_node 1) fun x2 =>
    Option.bind (deps_EvaluationOrder ([], 0, [], List.replicate 3 (([], (0, 0, ()), ()) : List UInt8 × (Int × Int × Unit) × Unit), [([], 0, 0, 0, (0, 0, ()), [], x1.1, [], ()), ([], 2, 0, 0, (0, 0, ()), [], x2.1, [], ())], ())) fun x3 =>
    Option.bind (deps_Direct ([], 0, [], List.replicate 3 (([], (0, 0, ()), ()) : List UInt8 × (Int × Int × Unit) × Unit), [([], 0, 0, 0, (0, 0, ()), [], x1.1, [], ()), ([], 2, 0, 0, (0, 0, ()), [], x2.1, [], ())], ()) 0) fun x4 =>
    Option.bind (same_Ints x4.1 [2]) fun x5 =>
    cond (!x5.1)
      (some (false, ()))
      (Option.bind (deps_Transitive ([], 0, [], List.replicate 3 (([], (0, 0, ()), ()) : List UInt8 × (Int × Int × Unit) × Unit), [([], 0, 0, 0, (0, 0, ()), [], x1.1, [], ()), ([], 2, 0, 0, (0, 0, ()), [], x2.1, [], ())], ()) 0) fun x6 =>
      Option.bind (same_Ints x6.1 [1, 2]) fun x7 =>
      cond (!x7.1)
        (some (false, ()))
        (Option.bind (same_Ints x3.1 [1, 2, 0]) fun x8 =>
        cond (!x8.1)
          (some (false, ()))
          (cond (x3.2.1 != 0)
            (some (false, ()))
            (Option.bind (deps_FindCycle ([], 0, [], List.replicate 3 (([], (0, 0, ()), ()) : List UInt8 × (Int × Int × Unit) × Unit), [([], 0, 0, 0, (0, 0, ()), [], x1.1, [], ()), ([], 2, 0, 0, (0, 0, ()), [], x2.1, [], ())], ())) fun x9 =>
            cond ((x9.1.length : Int) != 0)
              (some (false, ()))
              (J0 [] 0 (List.replicate 3 (([], (0, 0, ()), ()) : List UInt8 × (Int × Int × Unit) × Unit)) [([], 0, 0, 0, (0, 0, ()), [], x1.1, [], ()), ([], 2, 0, 0, (0, 0, ()), [], x2.1, [], ())]))))))
    none
theorem J0_eq (s_0 s_1 s_3 s_4) : J0 s_0 s_1 s_3 s_4 = SJ0 s_0 s_1 s_3 s_4 := (lim_eq (.code c0 .ret) (tJ0 s_0 s_1 s_3 s_4)).trans (by kernel_rfl)
theorem se (x : (argTy ps).den) : run E (lim E fin) fin depth (bodyOf Try.f8) .ret (entryFrom 0 ps x) = Se := by kernel_rfl
end law16_awake
noncomputable def law16_awake : law16_awake.R :=
  law16_awake.Se 
namespace law16_awake
noncomputable def sig : Sig := ⟨ps, rs, fun x => law16_awake⟩
theorem val (x : (argTy ps).den) : lim E fin (.code (bodyOf Try.f8) .ret) (entryFrom 0 ps x) = sig.run x := (lim_eq (.code (bodyOf Try.f8) .ret) (entryFrom 0 ps x)).trans (se x)
theorem ok : CallOK Try.prog 8 sig :=
  callOK_of_lim (E := E) mixed tt_ok (ctxOk_cons (ctxOk_cons (ctxOk_cons (ctxOk_cons (ctxOk_cons (ctxOk_cons ctxOk_nil deps_FindCycle.ok Try.func12 (by kernel_rfl) (by kernel_rfl)) deps_Transitive.ok Try.func15 (by kernel_rfl) (by kernel_rfl)) same_Ints.ok Try.func11 (by kernel_rfl) (by kernel_rfl)) deps_Direct.ok Try.func16 (by kernel_rfl) (by kernel_rfl)) deps_EvaluationOrder.ok Try.func9 (by kernel_rfl) (by kernel_rfl)) law16_node.ok Try.func21 (by kernel_rfl) (by kernel_rfl)) Try.func8 (by kernel_rfl : Try.f8.body = some (bodyOf Try.f8)) Try.ntmps8 (of_decide_eq_true (by kernel_rfl)) (of_decide_eq_true (by kernel_rfl)) fun x y h => (val x).trans h
noncomputable def ctxc (n : Nat) : List (Nat × Sig) := [(21, law16_node.sigc n), (9, deps_EvaluationOrder.sigc n), (16, deps_Direct.sigc n), (11, same_Ints.sigc n), (15, deps_Transitive.sigc n), (12, deps_FindCycle.sigc n)]
noncomputable def sigc (n : Nat) : Sig := ⟨ps, rs, fun x => runs (withCtx E (ctxc n)) fin n (.code (bodyOf Try.f8) .ret) (entryFrom 0 ps x)⟩
theorem sigc_le (n : Nat) : ∀ x y, (sigc n).run x = some y → sig.run x = some y := fun x y h => (val x).symm.trans (runs_lim (E := E) (c := ctxc n) (ctxLe_cons (ctxLe_cons (ctxLe_cons (ctxLe_cons (ctxLe_cons (ctxLe_cons ctxLe_nil (deps_FindCycle.sigc_le n)) (deps_Transitive.sigc_le n)) (same_Ints.sigc_le n)) (deps_Direct.sigc_le n)) (deps_EvaluationOrder.sigc_le n)) (law16_node.sigc_le n)) h)
end law16_awake
namespace ref16_has
abbrev ps : List PM := [.pure (.sl (.int .i64)), .pure (.int .i64)]
abbrev rs : List RM := [.pure .bool]
abbrev R : Type := Option (Bool × Unit)
noncomputable def E : Env := { tt := tt, ctx := [], nt := 18, ann := [(1000002, [(0, .keep), (1, .keep), (5, .keep)])] }
noncomputable def c0 : Code := sub [1, 1] (bodyOf Try.f24)
noncomputable def c1 : Code := sub [1, 0, 1, 0, 0] (bodyOf Try.f24)
noncomputable def K2 : Kont := .seq c0 .ret
noncomputable def K4 : Kont := .blk 0 K2
noncomputable def fin : ASt → R := Kret E Try.f24.results.toList ps rs
def tL0 (l : List Int) (n_1 : Int) (i : Int) : ASt := ⟨[(5, .one (.val (.int .i64) i)), (1, .one (.val (.int .i64) n_1)), (0, .one (.val (.sl (.int .i64)) l))], []⟩
noncomputable def L0 (l : List Int) (n_1 : Int) (i : Int) : R := lim E fin (.loop c1 K4) (tL0 l n_1 i)
noncomputable def SL0 (l : List Int) (n_1 : Int) (i : Int) : R :=
  cond (decide (i < (l.length : Int)))
    (Option.bind (idx l i) fun x1 =>
    cond (x1 == n_1)
      (some (true, ()))
      (L0 l n_1 (IntKind.i64.wrap (i + 1))))
    (some (false, ()))
noncomputable def Se (l : List Int) (n_1 : Int) : R :=
  L0 l n_1 0
theorem L0_eq (l n_1 i) : L0 l n_1 i = SL0 l n_1 i := (lim_eq (.loop c1 K4) (tL0 l n_1 i)).trans (by kernel_rfl)
theorem se (x : (argTy ps).den) : run E (lim E fin) fin depth (bodyOf Try.f24) .ret (entryFrom 0 ps x) = Se x.1 x.2.1 := by kernel_rfl
end ref16_has
noncomputable def ref16_has (l : List Int) (n_1 : Int) : ref16_has.R :=
  ref16_has.Se l n_1
namespace ref16_has
noncomputable def sig : Sig := ⟨ps, rs, fun x => ref16_has x.1 x.2.1⟩
theorem val (x : (argTy ps).den) : lim E fin (.code (bodyOf Try.f24) .ret) (entryFrom 0 ps x) = sig.run x := (lim_eq (.code (bodyOf Try.f24) .ret) (entryFrom 0 ps x)).trans (se x)
theorem ok : CallOK Try.prog 24 sig :=
  callOK_of_lim (E := E) mixed tt_ok ctxOk_nil Try.func24 (by kernel_rfl : Try.f24.body = some (bodyOf Try.f24)) Try.ntmps24 (of_decide_eq_true (by kernel_rfl)) (of_decide_eq_true (by kernel_rfl)) fun x y h => (val x).trans h
noncomputable def ctxc (n : Nat) : List (Nat × Sig) := []
noncomputable def sigc (n : Nat) : Sig := ⟨ps, rs, fun x => runs (withCtx E (ctxc n)) fin n (.code (bodyOf Try.f24) .ret) (entryFrom 0 ps x)⟩
theorem sigc_le (n : Nat) : ∀ x y, (sigc n).run x = some y → sig.run x = some y := fun x y h => (val x).symm.trans (runs_lim (E := E) (c := ctxc n) ctxLe_nil h)
end ref16_has
namespace ref16_is
abbrev ps : List PM := [.pure api_Scope, .pure (.int .i64)]
abbrev rs : List RM := [.pure .bool]
abbrev R : Type := Option (Bool × Unit)
noncomputable def E : Env := { tt := tt, ctx := [], nt := 14, ann := [] }
noncomputable def fin : ASt → R := Kret E Try.f34.results.toList ps rs
noncomputable def Se (s : api_ScopeV) (def_1 : Int) : R :=
  cond (decide (def_1 ≥ 0))
    (some (decide (def_1 < (s.2.2.2.1.length : Int)), ()))
    (some (false, ()))
theorem se (x : (argTy ps).den) : run E (lim E fin) fin depth (bodyOf Try.f34) .ret (entryFrom 0 ps x) = Se x.1 x.2.1 := by kernel_rfl
end ref16_is
noncomputable def ref16_is (s : api_ScopeV) (def_1 : Int) : ref16_is.R :=
  ref16_is.Se s def_1
namespace ref16_is
noncomputable def sig : Sig := ⟨ps, rs, fun x => ref16_is x.1 x.2.1⟩
theorem val (x : (argTy ps).den) : lim E fin (.code (bodyOf Try.f34) .ret) (entryFrom 0 ps x) = sig.run x := (lim_eq (.code (bodyOf Try.f34) .ret) (entryFrom 0 ps x)).trans (se x)
theorem ok : CallOK Try.prog 34 sig :=
  callOK_of_lim (E := E) mixed tt_ok ctxOk_nil Try.func34 (by kernel_rfl : Try.f34.body = some (bodyOf Try.f34)) Try.ntmps34 (of_decide_eq_true (by kernel_rfl)) (of_decide_eq_true (by kernel_rfl)) fun x y h => (val x).trans h
noncomputable def ctxc (n : Nat) : List (Nat × Sig) := []
noncomputable def sigc (n : Nat) : Sig := ⟨ps, rs, fun x => runs (withCtx E (ctxc n)) fin n (.code (bodyOf Try.f34) .ret) (entryFrom 0 ps x)⟩
theorem sigc_le (n : Nat) : ∀ x y, (sigc n).run x = some y → sig.run x = some y := fun x y h => (val x).symm.trans (runs_lim (E := E) (c := ctxc n) ctxLe_nil h)
end ref16_is
namespace ref10_insert
abbrev ps : List PM := [.pure (.sl (.int .i64)), .pure (.int .i64)]
abbrev rs : List RM := [.own (.int .i64)]
abbrev R : Type := Option (List Int × Unit)
noncomputable def E : Env := { tt := tt, ctx := [], nt := 48, ann := [(1000004, [(0, .keep), (1, .keep), (5, .own (.int .i64)), (6, .keep), (7, .keep)]), (10, [(0, .keep), (1, .keep), (5, .own (.int .i64)), (6, .keep), (7, .keep)]), (7, [(0, .keep), (1, .keep), (5, .own (.int .i64)), (6, .keep), (7, .keep), (23, .keep)])] }
noncomputable def c0 : Code := sub [1, 1, 1, 1] (bodyOf Try.f42)
noncomputable def c1 : Code := sub [1, 1, 1, 0, 1, 0, 0] (bodyOf Try.f42)
noncomputable def c2 : Code := sub [1, 1, 1, 0, 1, 0, 0, 1, 1] (bodyOf Try.f42)
noncomputable def c3 : Code := sub [1, 1, 1, 0, 1, 0, 0, 1, 0, 0, 1] (bodyOf Try.f42)
noncomputable def c4 : Code := sub [1, 1, 1, 0, 1, 0, 0, 1, 0, 0, 0, 1] (bodyOf Try.f42)
noncomputable def K4 : Kont := .seq c0 .ret
noncomputable def K6 : Kont := .blk 0 K4
noncomputable def K7 : Kont := .loop c1 K6
noncomputable def K10 : Kont := .seq c2 K7
noncomputable def K11 : Kont := .blk 1 K10
noncomputable def K12 : Kont := .seq c3 K11
noncomputable def fin : ASt → R := Kret E Try.f42.results.toList ps rs
def tL0 (l : List Int) (n_1 : Int) (out : List Int) (done : Bool) (i : Int) : ASt := ⟨[(7, .one (.val (.int .i64) i)), (6, .one (.val .bool done)), (5, .one (.own 5)), (1, .one (.val (.int .i64) n_1)), (0, .one (.val (.sl (.int .i64)) l))], [(5, some ⟨.free, .int .i64, out⟩)]⟩
def tJ1 (l : List Int) (n_1 : Int) (out : List Int) (done : Bool) (i : Int) : ASt := ⟨[(7, .one (.val (.int .i64) i)), (6, .one (.val .bool done)), (5, .one (.own 5)), (1, .one (.val (.int .i64) n_1)), (0, .one (.val (.sl (.int .i64)) l))], [(5, some ⟨.free, .int .i64, out⟩)]⟩
def tJ2 (l : List Int) (n_1 : Int) (out : List Int) (done : Bool) (i : Int) (v_23 : Bool) : ASt := ⟨[(23, .one (.val .bool v_23)), (7, .one (.val (.int .i64) i)), (6, .one (.val .bool done)), (5, .one (.own 5)), (1, .one (.val (.int .i64) n_1)), (0, .one (.val (.sl (.int .i64)) l))], [(5, some ⟨.free, .int .i64, out⟩)]⟩
noncomputable def L0 (l : List Int) (n_1 : Int) (out : List Int) (done : Bool) (i : Int) : R := lim E fin (.loop c1 K6) (tL0 l n_1 out done i)
noncomputable def J1 (l : List Int) (n_1 : Int) (out : List Int) (done : Bool) (i : Int) : R := lim E fin (.code c3 K11) (tJ1 l n_1 out done i)
noncomputable def J2 (l : List Int) (n_1 : Int) (out : List Int) (done : Bool) (i : Int) (v_23 : Bool) : R := lim E fin (.code c4 K12) (tJ2 l n_1 out done i v_23)
noncomputable def SL0 (l : List Int) (n_1 : Int) (out : List Int) (done : Bool) (i : Int) : R :=
  cond (decide (i < (l.length : Int)))
    (cond (!done)
      (Option.bind (idx l i) fun x1 =>
      J2 l n_1 out done i (decide (x1 ≥ n_1)))
      (J2 l n_1 out done i false))
    (cond (!done)
      (cond (decide ((out.length + 1) * 8 ≤ room) && decide (0 < Ty.nc (.int .i64)))
        (some ((out ++ [n_1]), ()))
        none)
      (some (out, ())))
noncomputable def SJ1 (l : List Int) (n_1 : Int) (out : List Int) (done : Bool) (i : Int) : R :=
  Option.bind (idx l i) fun x1 =>
  cond (decide ((out.length + 1) * 8 ≤ room) && decide (0 < Ty.nc (.int .i64)))
    (L0 l n_1 (out ++ [x1]) done (IntKind.i64.wrap (i + 1)))
    none
noncomputable def SJ2 (l : List Int) (n_1 : Int) (out : List Int) (done : Bool) (i : Int) (v_23 : Bool) : R :=
  cond v_23
    (Option.bind (idx l i) fun x1 =>
    cond (decide (x1 > n_1))
      (cond (decide ((out.length + 1) * 8 ≤ room) && decide (0 < Ty.nc (.int .i64)))
        (J1 l n_1 (out ++ [n_1]) true i)
        none)
      (J1 l n_1 out true i))
    (J1 l n_1 out done i)
noncomputable def Se (l : List Int) (n_1 : Int) : R :=
  L0 l n_1 [] false 0
theorem L0_eq (l n_1 out done i) : L0 l n_1 out done i = SL0 l n_1 out done i := (lim_eq (.loop c1 K6) (tL0 l n_1 out done i)).trans (by kernel_rfl)
theorem J1_eq (l n_1 out done i) : J1 l n_1 out done i = SJ1 l n_1 out done i := (lim_eq (.code c3 K11) (tJ1 l n_1 out done i)).trans (by kernel_rfl)
theorem J2_eq (l n_1 out done i v_23) : J2 l n_1 out done i v_23 = SJ2 l n_1 out done i v_23 := (lim_eq (.code c4 K12) (tJ2 l n_1 out done i v_23)).trans (by kernel_rfl)
theorem se (x : (argTy ps).den) : run E (lim E fin) fin depth (bodyOf Try.f42) .ret (entryFrom 0 ps x) = Se x.1 x.2.1 := by kernel_rfl
end ref10_insert
noncomputable def ref10_insert (l : List Int) (n_1 : Int) : ref10_insert.R :=
  ref10_insert.Se l n_1
namespace ref10_insert
noncomputable def sig : Sig := ⟨ps, rs, fun x => ref10_insert x.1 x.2.1⟩
theorem val (x : (argTy ps).den) : lim E fin (.code (bodyOf Try.f42) .ret) (entryFrom 0 ps x) = sig.run x := (lim_eq (.code (bodyOf Try.f42) .ret) (entryFrom 0 ps x)).trans (se x)
theorem ok : CallOK Try.prog 42 sig :=
  callOK_of_lim (E := E) mixed tt_ok ctxOk_nil Try.func42 (by kernel_rfl : Try.f42.body = some (bodyOf Try.f42)) Try.ntmps42 (of_decide_eq_true (by kernel_rfl)) (of_decide_eq_true (by kernel_rfl)) fun x y h => (val x).trans h
noncomputable def ctxc (n : Nat) : List (Nat × Sig) := []
noncomputable def sigc (n : Nat) : Sig := ⟨ps, rs, fun x => runs (withCtx E (ctxc n)) fin n (.code (bodyOf Try.f42) .ret) (entryFrom 0 ps x)⟩
theorem sigc_le (n : Nat) : ∀ x y, (sigc n).run x = some y → sig.run x = some y := fun x y h => (val x).symm.trans (runs_lim (E := E) (c := ctxc n) ctxLe_nil h)
end ref10_insert
namespace ref10_References
abbrev ps : List PM := [.pure (.sl api_DateRange)]
abbrev rs : List RM := [.own (.int .i64), .own (.int .i64), .own (.int .i64)]
abbrev R : Type := Option (List Int × List Int × List Int × Unit)
noncomputable def E : Env := { tt := tt, ctx := [(42, ref10_insert.sig)], nt := 55, ann := [(1000003, [(0, .keep), (5, .own (.int .i64)), (6, .own (.int .i64)), (7, .own (.int .i64)), (8, .keep)]), (8, [(0, .keep), (5, .own (.int .i64)), (6, .own (.int .i64)), (7, .own (.int .i64)), (8, .keep), (9, .keep)]), (10, [(0, .keep), (5, .keep), (6, .own (.int .i64)), (7, .own (.int .i64)), (8, .keep), (9, .keep)]), (11, [(0, .keep), (5, .keep), (6, .keep), (7, .own (.int .i64)), (8, .keep), (44, .keep)])] }
noncomputable def c0 : Code := sub [1, 1, 1] (bodyOf Try.f35)
noncomputable def c1 : Code := sub [1, 1, 0, 1, 0, 0] (bodyOf Try.f35)
noncomputable def c2 : Code := sub [1, 1, 0, 1, 0, 0, 1, 1] (bodyOf Try.f35)
noncomputable def c3 : Code := sub [1, 1, 0, 1, 0, 0, 1, 0, 0, 1, 1] (bodyOf Try.f35)
noncomputable def c4 : Code := sub [1, 1, 0, 1, 0, 0, 1, 0, 0, 1, 1, 1] (bodyOf Try.f35)
noncomputable def c5 : Code := sub [1, 1, 0, 1, 0, 0, 1, 0, 0, 1, 1, 1, 1] (bodyOf Try.f35)
noncomputable def K3 : Kont := .seq c0 .ret
noncomputable def K5 : Kont := .blk 0 K3
noncomputable def K6 : Kont := .loop c1 K5
noncomputable def K9 : Kont := .seq c2 K6
noncomputable def K10 : Kont := .blk 1 K9
noncomputable def fin : ASt → R := Kret E Try.f35.results.toList ps rs
def tL0 (e : List api_DateRangeV) (a : List Int) (b : List Int) (c_7 : List Int) (i : Int) : ASt := ⟨[(8, .one (.val (.int .i64) i)), (7, .one (.own 7)), (6, .one (.own 6)), (5, .one (.own 5)), (0, .one (.val (.sl api_DateRange) e))], [(7, some ⟨.free, .int .i64, c_7⟩), (6, some ⟨.free, .int .i64, b⟩), (5, some ⟨.free, .int .i64, a⟩)]⟩
def tJ1 (e : List api_DateRangeV) (a : List Int) (b : List Int) (c_7 : List Int) (i : Int) (op : Int) : ASt := ⟨[(9, .one (.val (.int .i64) op)), (8, .one (.val (.int .i64) i)), (7, .one (.own 7)), (6, .one (.own 6)), (5, .one (.own 5)), (0, .one (.val (.sl api_DateRange) e))], [(7, some ⟨.free, .int .i64, c_7⟩), (6, some ⟨.free, .int .i64, b⟩), (5, some ⟨.free, .int .i64, a⟩)]⟩
def tJ2 (e : List api_DateRangeV) (a : List Int) (b : List Int) (c_7 : List Int) (i : Int) (op : Int) : ASt := ⟨[(9, .one (.val (.int .i64) op)), (8, .one (.val (.int .i64) i)), (7, .one (.own 7)), (6, .one (.own 6)), (5, .one (.own 5)), (0, .one (.val (.sl api_DateRange) e))], [(7, some ⟨.free, .int .i64, c_7⟩), (6, some ⟨.free, .int .i64, b⟩), (5, some ⟨.free, .int .i64, a⟩)]⟩
def tJ3 (e : List api_DateRangeV) (a : List Int) (b : List Int) (c_7 : List Int) (i : Int) (v_44 : Bool) : ASt := ⟨[(44, .one (.val .bool v_44)), (8, .one (.val (.int .i64) i)), (7, .one (.own 7)), (6, .one (.own 6)), (5, .one (.own 5)), (0, .one (.val (.sl api_DateRange) e))], [(7, some ⟨.free, .int .i64, c_7⟩), (6, some ⟨.free, .int .i64, b⟩), (5, some ⟨.free, .int .i64, a⟩)]⟩
noncomputable def L0 (e : List api_DateRangeV) (a : List Int) (b : List Int) (c_7 : List Int) (i : Int) : R := lim E fin (.loop c1 K5) (tL0 e a b c_7 i)
noncomputable def J1 (e : List api_DateRangeV) (a : List Int) (b : List Int) (c_7 : List Int) (i : Int) (op : Int) : R := lim E fin (.code c3 K10) (tJ1 e a b c_7 i op)
noncomputable def J2 (e : List api_DateRangeV) (a : List Int) (b : List Int) (c_7 : List Int) (i : Int) (op : Int) : R := lim E fin (.code c4 K10) (tJ2 e a b c_7 i op)
noncomputable def J3 (e : List api_DateRangeV) (a : List Int) (b : List Int) (c_7 : List Int) (i : Int) (v_44 : Bool) : R := lim E fin (.code c5 K10) (tJ3 e a b c_7 i v_44)
noncomputable def SL0 (e : List api_DateRangeV) (a : List Int) (b : List Int) (c_7 : List Int) (i : Int) : R :=
  cond (decide (i < (e.length : Int)))
    (Option.bind (idx e i) fun x1 =>
    cond (x1.1 == 7)
      (Option.bind (idx e i) fun x2 =>
      Option.bind (ref10_insert a x2.2.1) fun x3 =>
      J1 e x3.1 b c_7 i x1.1)
      (J1 e a b c_7 i x1.1))
    (some (a, b, c_7, ()))
noncomputable def SJ1 (e : List api_DateRangeV) (a : List Int) (b : List Int) (c_7 : List Int) (i : Int) (op : Int) : R :=
  cond (op == 8)
    (Option.bind (idx e i) fun x1 =>
    Option.bind (ref10_insert b x1.2.1) fun x2 =>
    J2 e a x2.1 c_7 i op)
    (J2 e a b c_7 i op)
noncomputable def SJ2 (e : List api_DateRangeV) (a : List Int) (b : List Int) (c_7 : List Int) (i : Int) (op : Int) : R :=
  cond (decide (op ≥ 36))
    (J3 e a b c_7 i (decide (op ≤ 39)))
    (J3 e a b c_7 i false)
noncomputable def SJ3 (e : List api_DateRangeV) (a : List Int) (b : List Int) (c_7 : List Int) (i : Int) (v_44 : Bool) : R :=
  cond v_44
    (Option.bind (idx e i) fun x1 =>
    Option.bind (ref10_insert c_7 x1.2.1) fun x2 =>
    L0 e a b x2.1 (IntKind.i64.wrap (i + 1)))
    (L0 e a b c_7 (IntKind.i64.wrap (i + 1)))
noncomputable def Se (e : List api_DateRangeV) : R :=
  L0 e [] [] [] 0
theorem L0_eq (e a b c_7 i) : L0 e a b c_7 i = SL0 e a b c_7 i := (lim_eq (.loop c1 K5) (tL0 e a b c_7 i)).trans (by kernel_rfl)
theorem J1_eq (e a b c_7 i op) : J1 e a b c_7 i op = SJ1 e a b c_7 i op := (lim_eq (.code c3 K10) (tJ1 e a b c_7 i op)).trans (by kernel_rfl)
theorem J2_eq (e a b c_7 i op) : J2 e a b c_7 i op = SJ2 e a b c_7 i op := (lim_eq (.code c4 K10) (tJ2 e a b c_7 i op)).trans (by kernel_rfl)
theorem J3_eq (e a b c_7 i v_44) : J3 e a b c_7 i v_44 = SJ3 e a b c_7 i v_44 := (lim_eq (.code c5 K10) (tJ3 e a b c_7 i v_44)).trans (by kernel_rfl)
theorem se (x : (argTy ps).den) : run E (lim E fin) fin depth (bodyOf Try.f35) .ret (entryFrom 0 ps x) = Se x.1 := by kernel_rfl
end ref10_References
noncomputable def ref10_References (e : List api_DateRangeV) : ref10_References.R :=
  ref10_References.Se e
namespace ref10_References
noncomputable def sig : Sig := ⟨ps, rs, fun x => ref10_References x.1⟩
theorem val (x : (argTy ps).den) : lim E fin (.code (bodyOf Try.f35) .ret) (entryFrom 0 ps x) = sig.run x := (lim_eq (.code (bodyOf Try.f35) .ret) (entryFrom 0 ps x)).trans (se x)
theorem ok : CallOK Try.prog 35 sig :=
  callOK_of_lim (E := E) mixed tt_ok (ctxOk_cons ctxOk_nil ref10_insert.ok Try.func42 (by kernel_rfl) (by kernel_rfl)) Try.func35 (by kernel_rfl : Try.f35.body = some (bodyOf Try.f35)) Try.ntmps35 (of_decide_eq_true (by kernel_rfl)) (of_decide_eq_true (by kernel_rfl)) fun x y h => (val x).trans h
noncomputable def ctxc (n : Nat) : List (Nat × Sig) := [(42, ref10_insert.sigc n)]
noncomputable def sigc (n : Nat) : Sig := ⟨ps, rs, fun x => runs (withCtx E (ctxc n)) fin n (.code (bodyOf Try.f35) .ret) (entryFrom 0 ps x)⟩
theorem sigc_le (n : Nat) : ∀ x y, (sigc n).run x = some y → sig.run x = some y := fun x y h => (val x).symm.trans (runs_lim (E := E) (c := ctxc n) (ctxLe_cons ctxLe_nil (ref10_insert.sigc_le n)) h)
end ref10_References
namespace ref16_insert
abbrev ps : List PM := [.pure (.sl (.int .i64)), .pure (.int .i64)]
abbrev rs : List RM := [.own (.int .i64)]
abbrev R : Type := Option (List Int × Unit)
noncomputable def E : Env := { tt := tt, ctx := [], nt := 48, ann := [(1000004, [(0, .keep), (1, .keep), (5, .own (.int .i64)), (6, .keep), (7, .keep)]), (10, [(0, .keep), (1, .keep), (5, .own (.int .i64)), (6, .keep), (7, .keep)]), (7, [(0, .keep), (1, .keep), (5, .own (.int .i64)), (6, .keep), (7, .keep), (23, .keep)])] }
noncomputable def c0 : Code := sub [1, 1, 1, 1] (bodyOf Try.f36)
noncomputable def c1 : Code := sub [1, 1, 1, 0, 1, 0, 0] (bodyOf Try.f36)
noncomputable def c2 : Code := sub [1, 1, 1, 0, 1, 0, 0, 1, 1] (bodyOf Try.f36)
noncomputable def c3 : Code := sub [1, 1, 1, 0, 1, 0, 0, 1, 0, 0, 1] (bodyOf Try.f36)
noncomputable def c4 : Code := sub [1, 1, 1, 0, 1, 0, 0, 1, 0, 0, 0, 1] (bodyOf Try.f36)
noncomputable def K4 : Kont := .seq c0 .ret
noncomputable def K6 : Kont := .blk 0 K4
noncomputable def K7 : Kont := .loop c1 K6
noncomputable def K10 : Kont := .seq c2 K7
noncomputable def K11 : Kont := .blk 1 K10
noncomputable def K12 : Kont := .seq c3 K11
noncomputable def fin : ASt → R := Kret E Try.f36.results.toList ps rs
def tL0 (l : List Int) (n_1 : Int) (out : List Int) (done : Bool) (i : Int) : ASt := ⟨[(7, .one (.val (.int .i64) i)), (6, .one (.val .bool done)), (5, .one (.own 5)), (1, .one (.val (.int .i64) n_1)), (0, .one (.val (.sl (.int .i64)) l))], [(5, some ⟨.free, .int .i64, out⟩)]⟩
def tJ1 (l : List Int) (n_1 : Int) (out : List Int) (done : Bool) (i : Int) : ASt := ⟨[(7, .one (.val (.int .i64) i)), (6, .one (.val .bool done)), (5, .one (.own 5)), (1, .one (.val (.int .i64) n_1)), (0, .one (.val (.sl (.int .i64)) l))], [(5, some ⟨.free, .int .i64, out⟩)]⟩
def tJ2 (l : List Int) (n_1 : Int) (out : List Int) (done : Bool) (i : Int) (v_23 : Bool) : ASt := ⟨[(23, .one (.val .bool v_23)), (7, .one (.val (.int .i64) i)), (6, .one (.val .bool done)), (5, .one (.own 5)), (1, .one (.val (.int .i64) n_1)), (0, .one (.val (.sl (.int .i64)) l))], [(5, some ⟨.free, .int .i64, out⟩)]⟩
noncomputable def L0 (l : List Int) (n_1 : Int) (out : List Int) (done : Bool) (i : Int) : R := lim E fin (.loop c1 K6) (tL0 l n_1 out done i)
noncomputable def J1 (l : List Int) (n_1 : Int) (out : List Int) (done : Bool) (i : Int) : R := lim E fin (.code c3 K11) (tJ1 l n_1 out done i)
noncomputable def J2 (l : List Int) (n_1 : Int) (out : List Int) (done : Bool) (i : Int) (v_23 : Bool) : R := lim E fin (.code c4 K12) (tJ2 l n_1 out done i v_23)
noncomputable def SL0 (l : List Int) (n_1 : Int) (out : List Int) (done : Bool) (i : Int) : R :=
  cond (decide (i < (l.length : Int)))
    (cond (!done)
      (Option.bind (idx l i) fun x1 =>
      J2 l n_1 out done i (decide (x1 ≥ n_1)))
      (J2 l n_1 out done i false))
    (cond (!done)
      (cond (decide ((out.length + 1) * 8 ≤ room) && decide (0 < Ty.nc (.int .i64)))
        (some ((out ++ [n_1]), ()))
        none)
      (some (out, ())))
noncomputable def SJ1 (l : List Int) (n_1 : Int) (out : List Int) (done : Bool) (i : Int) : R :=
  Option.bind (idx l i) fun x1 =>
  cond (decide ((out.length + 1) * 8 ≤ room) && decide (0 < Ty.nc (.int .i64)))
    (L0 l n_1 (out ++ [x1]) done (IntKind.i64.wrap (i + 1)))
    none
noncomputable def SJ2 (l : List Int) (n_1 : Int) (out : List Int) (done : Bool) (i : Int) (v_23 : Bool) : R :=
  cond v_23
    (Option.bind (idx l i) fun x1 =>
    cond (decide (x1 > n_1))
      (cond (decide ((out.length + 1) * 8 ≤ room) && decide (0 < Ty.nc (.int .i64)))
        (J1 l n_1 (out ++ [n_1]) true i)
        none)
      (J1 l n_1 out true i))
    (J1 l n_1 out done i)
noncomputable def Se (l : List Int) (n_1 : Int) : R :=
  L0 l n_1 [] false 0
theorem L0_eq (l n_1 out done i) : L0 l n_1 out done i = SL0 l n_1 out done i := (lim_eq (.loop c1 K6) (tL0 l n_1 out done i)).trans (by kernel_rfl)
theorem J1_eq (l n_1 out done i) : J1 l n_1 out done i = SJ1 l n_1 out done i := (lim_eq (.code c3 K11) (tJ1 l n_1 out done i)).trans (by kernel_rfl)
theorem J2_eq (l n_1 out done i v_23) : J2 l n_1 out done i v_23 = SJ2 l n_1 out done i v_23 := (lim_eq (.code c4 K12) (tJ2 l n_1 out done i v_23)).trans (by kernel_rfl)
theorem se (x : (argTy ps).den) : run E (lim E fin) fin depth (bodyOf Try.f36) .ret (entryFrom 0 ps x) = Se x.1 x.2.1 := by kernel_rfl
end ref16_insert
noncomputable def ref16_insert (l : List Int) (n_1 : Int) : ref16_insert.R :=
  ref16_insert.Se l n_1
namespace ref16_insert
noncomputable def sig : Sig := ⟨ps, rs, fun x => ref16_insert x.1 x.2.1⟩
theorem val (x : (argTy ps).den) : lim E fin (.code (bodyOf Try.f36) .ret) (entryFrom 0 ps x) = sig.run x := (lim_eq (.code (bodyOf Try.f36) .ret) (entryFrom 0 ps x)).trans (se x)
theorem ok : CallOK Try.prog 36 sig :=
  callOK_of_lim (E := E) mixed tt_ok ctxOk_nil Try.func36 (by kernel_rfl : Try.f36.body = some (bodyOf Try.f36)) Try.ntmps36 (of_decide_eq_true (by kernel_rfl)) (of_decide_eq_true (by kernel_rfl)) fun x y h => (val x).trans h
noncomputable def ctxc (n : Nat) : List (Nat × Sig) := []
noncomputable def sigc (n : Nat) : Sig := ⟨ps, rs, fun x => runs (withCtx E (ctxc n)) fin n (.code (bodyOf Try.f36) .ret) (entryFrom 0 ps x)⟩
theorem sigc_le (n : Nat) : ∀ x y, (sigc n).run x = some y → sig.run x = some y := fun x y h => (val x).symm.trans (runs_lim (E := E) (c := ctxc n) ctxLe_nil h)
end ref16_insert
end Go.Proofs.Ytdkglohjlfoncaa
