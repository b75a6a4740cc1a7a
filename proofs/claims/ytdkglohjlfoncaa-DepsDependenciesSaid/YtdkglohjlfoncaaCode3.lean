import Derived.Test.YtdkglohjlfoncaaCode2
set_option maxRecDepth 100000
set_option linter.unusedVariables false
namespace Go.Proofs.Ytdkglohjlfoncaa
open Go Go.Lift
namespace ref16_Direct
abbrev ps : List PM := [.pure api_Scope, .pure (.int .i64)]
abbrev rs : List RM := [.own (.int .i64)]
abbrev R : Type := Option (List Int × Unit)
noncomputable def E : Env := { tt := tt, ctx := [(34, ref16_is.sig), (35, ref10_References.sig), (36, ref16_insert.sig)], nt := 93, ann := [(1000005, [(1, .keep), (2, .keep), (5, .own (.int .i64)), (6, .keep)]), (1000011, [(1, .keep), (2, .keep), (5, .own (.int .i64)), (6, .keep), (8, .keep), (11, .keep), (13, .keep)]), (1000016, [(1, .keep), (2, .keep), (5, .own (.int .i64)), (6, .keep), (11, .keep), (14, .keep)])] }
noncomputable def c0 : Code := sub [1, 1, 1, 1] (bodyOf Try.f17)
noncomputable def c1 : Code := sub [1, 1, 1, 0, 1, 0, 0] (bodyOf Try.f17)
noncomputable def c2 : Code := sub [1, 1, 1, 0, 1, 0, 0, 1, 1] (bodyOf Try.f17)
noncomputable def c3 : Code := sub [1, 1, 1, 0, 1, 0, 0, 1, 0, 0, 1, 1, 1, 1] (bodyOf Try.f17)
noncomputable def c4 : Code := sub [1, 1, 1, 0, 1, 0, 0, 1, 0, 0, 1, 1, 1, 0, 1, 0, 0] (bodyOf Try.f17)
noncomputable def c5 : Code := sub [1, 1, 1, 0, 1, 0, 0, 1, 0, 0, 1, 1, 1, 1, 1, 0, 0] (bodyOf Try.f17)
noncomputable def K6 : Kont := .seq c0 .ret
noncomputable def K8 : Kont := .blk 0 K6
noncomputable def K9 : Kont := .loop c1 K8
noncomputable def K12 : Kont := .seq c2 K9
noncomputable def K13 : Kont := .blk 1 K12
noncomputable def K18 : Kont := .seq c3 K13
noncomputable def K20 : Kont := .blk 2 K18
noncomputable def K29 : Kont := .blk 4 K13
noncomputable def fin : ASt → R := Kret E Try.f17.results.toList ps rs
def tL0 (def_1 : Int) (s : api_ScopeV) (out : List Int) (i : Int) : ASt := ⟨[(6, .one (.val (.int .i64) i)), (5, .one (.own 5)), (2, .one (.optr 2 0 [])), (1, .one (.val (.int .i64) def_1))], [(5, some ⟨.free, .int .i64, out⟩), (2, some ⟨.free, api_Scope, [s]⟩)]⟩
def tL1 (def_1 : Int) (s : api_ScopeV) (out : List Int) (i : Int) (a : List Int) (b : List Int) (k : Int) : ASt := ⟨[(13, .one (.val (.int .i64) k)), (11, .one (.own 11)), (8, .one (.own 8)), (6, .one (.val (.int .i64) i)), (5, .one (.own 5)), (2, .one (.optr 2 0 [])), (1, .one (.val (.int .i64) def_1))], [(11, some ⟨.free, .int .i64, b⟩), (8, some ⟨.free, .int .i64, a⟩), (5, some ⟨.free, .int .i64, out⟩), (2, some ⟨.free, api_Scope, [s]⟩)]⟩
def tL2 (def_1 : Int) (s : api_ScopeV) (out : List Int) (i : Int) (b : List Int) (k : Int) : ASt := ⟨[(14, .one (.val (.int .i64) k)), (11, .one (.own 11)), (6, .one (.val (.int .i64) i)), (5, .one (.own 5)), (2, .one (.optr 2 0 [])), (1, .one (.val (.int .i64) def_1))], [(11, some ⟨.free, .int .i64, b⟩), (5, some ⟨.free, .int .i64, out⟩), (2, some ⟨.free, api_Scope, [s]⟩)]⟩
noncomputable def L0 (def_1 : Int) (s : api_ScopeV) (out : List Int) (i : Int) : R := lim E fin (.loop c1 K8) (tL0 def_1 s out i)
noncomputable def L1 (def_1 : Int) (s : api_ScopeV) (out : List Int) (i : Int) (a : List Int) (b : List Int) (k : Int) : R := lim E fin (.loop c4 K20) (tL1 def_1 s out i a b k)
noncomputable def L2 (def_1 : Int) (s : api_ScopeV) (out : List Int) (i : Int) (b : List Int) (k : Int) : R := lim E fin (.loop c5 K29) (tL2 def_1 s out i b k)
noncomputable def SL0 (def_1 : Int) (s : api_ScopeV) (out : List Int) (i : Int) : R :=
  cond (decide (i < (s.2.2.2.2.1.length : Int)))
    (Option.bind (idx s.2.2.2.2.1 i) fun x1 =>
    cond (x1.2.1 != def_1)
      (L0 def_1 s out (IntKind.i64.wrap (i + 1)))
      (Option.bind (idx s.2.2.2.2.1 i) fun x2 =>
      Option.bind (ref10_References x2.2.2.2.2.2.1) fun x3 =>
      Option.bind (idx s.2.2.2.2.1 i) fun x4 =>
      Option.bind (ref10_References x4.2.2.2.2.2.2.1) fun x5 =>
      L1 def_1 s out i x3.2.1 x5.2.1 0))
    (some (out, ()))
noncomputable def SL1 (def_1 : Int) (s : api_ScopeV) (out : List Int) (i : Int) (a : List Int) (b : List Int) (k : Int) : R :=
  cond (decide (k < (a.length : Int)))
    (cond (decide (0 ≤ k) && decide (k < (a.length : Int)))
      (Option.bind (ref16_is s (a.getD k.toNat 0)) fun x1 =>
      cond x1.1
        (cond (decide (0 ≤ k) && decide (k < (a.length : Int)))
          (Option.bind (ref16_insert out (a.getD k.toNat 0)) fun x2 =>
          L1 def_1 s x2.1 i a b (IntKind.i64.wrap (k + 1)))
          none)
        (L1 def_1 s out i a b (IntKind.i64.wrap (k + 1))))
      none)
    (L2 def_1 s out i b 0)
noncomputable def SL2 (def_1 : Int) (s : api_ScopeV) (out : List Int) (i : Int) (b : List Int) (k : Int) : R :=
  cond (decide (k < (b.length : Int)))
    (cond (decide (0 ≤ k) && decide (k < (b.length : Int)))
      (Option.bind (ref16_is s (b.getD k.toNat 0)) fun x1 =>
      cond x1.1
        (cond (decide (0 ≤ k) && decide (k < (b.length : Int)))
          (Option.bind (ref16_insert out (b.getD k.toNat 0)) fun x2 =>
          L2 def_1 s x2.1 i b (IntKind.i64.wrap (k + 1)))
          none)
        (L2 def_1 s out i b (IntKind.i64.wrap (k + 1))))
      none)
    (L0 def_1 s out (IntKind.i64.wrap (i + 1)))
noncomputable def Se (s : api_ScopeV) (def_1 : Int) : R :=
  Option.bind (ref16_is s def_1) fun x1 =>
  cond (!x1.1)
    (some ([], ()))
    (L0 def_1 s [] 0)
theorem L0_eq (def_1 s out i) : L0 def_1 s out i = SL0 def_1 s out i := (lim_eq (.loop c1 K8) (tL0 def_1 s out i)).trans (by kernel_rfl)
theorem L1_eq (def_1 s out i a b k) : L1 def_1 s out i a b k = SL1 def_1 s out i a b k := (lim_eq (.loop c4 K20) (tL1 def_1 s out i a b k)).trans (by kernel_rfl)
theorem L2_eq (def_1 s out i b k) : L2 def_1 s out i b k = SL2 def_1 s out i b k := (lim_eq (.loop c5 K29) (tL2 def_1 s out i b k)).trans (by kernel_rfl)
theorem se (x : (argTy ps).den) : run E (lim E fin) fin depth (bodyOf Try.f17) .ret (entryFrom 0 ps x) = Se x.1 x.2.1 := by kernel_rfl
end ref16_Direct
noncomputable def ref16_Direct (s : api_ScopeV) (def_1 : Int) : ref16_Direct.R :=
  ref16_Direct.Se s def_1
namespace ref16_Direct
noncomputable def sig : Sig := ⟨ps, rs, fun x => ref16_Direct x.1 x.2.1⟩
theorem val (x : (argTy ps).den) : lim E fin (.code (bodyOf Try.f17) .ret) (entryFrom 0 ps x) = sig.run x := (lim_eq (.code (bodyOf Try.f17) .ret) (entryFrom 0 ps x)).trans (se x)
theorem ok : CallOK Try.prog 17 sig :=
  callOK_of_lim (E := E) mixed tt_ok (ctxOk_cons (ctxOk_cons (ctxOk_cons ctxOk_nil ref16_insert.ok Try.func36 (by kernel_rfl) (by kernel_rfl)) ref10_References.ok Try.func35 (by kernel_rfl) (by kernel_rfl)) ref16_is.ok Try.func34 (by kernel_rfl) (by kernel_rfl)) Try.func17 (by kernel_rfl : Try.f17.body = some (bodyOf Try.f17)) Try.ntmps17 (of_decide_eq_true (by kernel_rfl)) (of_decide_eq_true (by kernel_rfl)) fun x y h => (val x).trans h
noncomputable def ctxc (n : Nat) : List (Nat × Sig) := [(34, ref16_is.sigc n), (35, ref10_References.sigc n), (36, ref16_insert.sigc n)]
noncomputable def sigc (n : Nat) : Sig := ⟨ps, rs, fun x => runs (withCtx E (ctxc n)) fin n (.code (bodyOf Try.f17) .ret) (entryFrom 0 ps x)⟩
theorem sigc_le (n : Nat) : ∀ x y, (sigc n).run x = some y → sig.run x = some y := fun x y h => (val x).symm.trans (runs_lim (E := E) (c := ctxc n) (ctxLe_cons (ctxLe_cons (ctxLe_cons ctxLe_nil (ref16_insert.sigc_le n)) (ref10_References.sigc_le n)) (ref16_is.sigc_le n)) h)
end ref16_Direct
namespace ref16_Transitive
abbrev ps : List PM := [.pure api_Scope, .pure (.int .i64)]
abbrev rs : List RM := [.pure (.sl (.int .i64))]
abbrev R : Type := Option (List Int × Unit)
noncomputable def E : Env := { tt := tt, ctx := [(17, ref16_Direct.sig), (36, ref16_insert.sig)], nt := 47, ann := [(1000003, [(2, .keep), (5, .pure (.int .i64)), (6, .keep)]), (1000007, [(2, .keep), (5, .pure (.int .i64)), (6, .keep), (7, .pure (.int .i64)), (8, .keep)]), (1000011, [(2, .keep), (5, .pure (.int .i64)), (6, .keep), (7, .pure (.int .i64)), (8, .keep), (9, .keep), (10, .keep)])] }
noncomputable def c0 : Code := sub [1, 1, 1] (bodyOf Try.f18)
noncomputable def c1 : Code := sub [1, 1, 0, 1, 0, 0] (bodyOf Try.f18)
noncomputable def c2 : Code := sub [1, 1, 0, 1, 0, 0, 1, 1] (bodyOf Try.f18)
noncomputable def c3 : Code := sub [1, 1, 0, 1, 0, 0, 1, 0, 0, 1, 1, 0, 0] (bodyOf Try.f18)
noncomputable def c4 : Code := sub [1, 1, 0, 1, 0, 0, 1, 0, 0, 1, 1, 0, 0, 1, 1] (bodyOf Try.f18)
noncomputable def c5 : Code := sub [1, 1, 0, 1, 0, 0, 1, 0, 0, 1, 1, 0, 0, 1, 0, 0, 1, 1, 0, 0] (bodyOf Try.f18)
noncomputable def K3 : Kont := .seq c0 .ret
noncomputable def K5 : Kont := .blk 0 K3
noncomputable def K6 : Kont := .loop c1 K5
noncomputable def K9 : Kont := .seq c2 K6
noncomputable def K10 : Kont := .blk 1 K9
noncomputable def K13 : Kont := .blk 2 K10
noncomputable def K14 : Kont := .loop c3 K13
noncomputable def K18 : Kont := .seq c4 K14
noncomputable def K19 : Kont := .blk 3 K18
noncomputable def K22 : Kont := .blk 4 K19
noncomputable def fin : ASt → R := Kret E Try.f18.results.toList ps rs
def tL0 (s : api_ScopeV) (out : List Int) (round : Int) : ASt := ⟨[(6, .one (.val (.int .i64) round)), (5, .one (.val (.sl (.int .i64)) out)), (2, .one (.optr 2 0 []))], [(2, some ⟨.free, api_Scope, [s]⟩)]⟩
def tL1 (s : api_ScopeV) (out : List Int) (round : Int) (l : List Int) (i : Int) : ASt := ⟨[(8, .one (.val (.int .i64) i)), (7, .one (.val (.sl (.int .i64)) l)), (6, .one (.val (.int .i64) round)), (5, .one (.val (.sl (.int .i64)) out)), (2, .one (.optr 2 0 []))], [(2, some ⟨.free, api_Scope, [s]⟩)]⟩
def tL2 (s : api_ScopeV) (out : List Int) (round : Int) (l : List Int) (i : Int) (d : List Int) (k : Int) : ASt := ⟨[(10, .one (.val (.int .i64) k)), (9, .one (.own 9)), (8, .one (.val (.int .i64) i)), (7, .one (.val (.sl (.int .i64)) l)), (6, .one (.val (.int .i64) round)), (5, .one (.val (.sl (.int .i64)) out)), (2, .one (.optr 2 0 []))], [(9, some ⟨.free, .int .i64, d⟩), (2, some ⟨.free, api_Scope, [s]⟩)]⟩
noncomputable def L0 (s : api_ScopeV) (out : List Int) (round : Int) : R := lim E fin (.loop c1 K5) (tL0 s out round)
noncomputable def L1 (s : api_ScopeV) (out : List Int) (round : Int) (l : List Int) (i : Int) : R := lim E fin (.loop c3 K13) (tL1 s out round l i)
noncomputable def L2 (s : api_ScopeV) (out : List Int) (round : Int) (l : List Int) (i : Int) (d : List Int) (k : Int) : R := lim E fin (.loop c5 K22) (tL2 s out round l i d k)
noncomputable def SL0 (s : api_ScopeV) (out : List Int) (round : Int) : R :=
  cond (decide (round < (s.2.2.2.1.length : Int)))
    (L1 s out round out 0)
    (some (out, ()))
noncomputable def SL1 (s : api_ScopeV) (out : List Int) (round : Int) (l : List Int) (i : Int) : R :=
  cond (decide (i < (l.length : Int)))
    (Option.bind (idx l i) fun x1 =>
    Option.bind (ref16_Direct s x1) fun x2 =>
    L2 s out round l i x2.1 0)
    (L0 s out (IntKind.i64.wrap (round + 1)))
noncomputable def SL2 (s : api_ScopeV) (out : List Int) (round : Int) (l : List Int) (i : Int) (d : List Int) (k : Int) : R :=
  cond (decide (k < (d.length : Int)))
    (cond (decide (0 ≤ k) && decide (k < (d.length : Int)))
      (Option.bind (ref16_insert out (d.getD k.toNat 0)) fun x1 =>
      L2 s x1.1 round l i d (IntKind.i64.wrap (k + 1)))
      none)
    (L1 s out round l (IntKind.i64.wrap (i + 1)))
noncomputable def Se (s : api_ScopeV) (def_1 : Int) : R :=
  Option.bind (ref16_Direct s def_1) fun x1 =>
  L0 s x1.1 0
theorem L0_eq (s out round) : L0 s out round = SL0 s out round := (lim_eq (.loop c1 K5) (tL0 s out round)).trans (by kernel_rfl)
theorem L1_eq (s out round l i) : L1 s out round l i = SL1 s out round l i := (lim_eq (.loop c3 K13) (tL1 s out round l i)).trans (by kernel_rfl)
theorem L2_eq (s out round l i d k) : L2 s out round l i d k = SL2 s out round l i d k := (lim_eq (.loop c5 K22) (tL2 s out round l i d k)).trans (by kernel_rfl)
theorem se (x : (argTy ps).den) : run E (lim E fin) fin depth (bodyOf Try.f18) .ret (entryFrom 0 ps x) = Se x.1 x.2.1 := by kernel_rfl
end ref16_Transitive
noncomputable def ref16_Transitive (s : api_ScopeV) (def_1 : Int) : ref16_Transitive.R :=
  ref16_Transitive.Se s def_1
namespace ref16_Transitive
noncomputable def sig : Sig := ⟨ps, rs, fun x => ref16_Transitive x.1 x.2.1⟩
theorem val (x : (argTy ps).den) : lim E fin (.code (bodyOf Try.f18) .ret) (entryFrom 0 ps x) = sig.run x := (lim_eq (.code (bodyOf Try.f18) .ret) (entryFrom 0 ps x)).trans (se x)
theorem ok : CallOK Try.prog 18 sig :=
  callOK_of_lim (E := E) mixed tt_ok (ctxOk_cons (ctxOk_cons ctxOk_nil ref16_insert.ok Try.func36 (by kernel_rfl) (by kernel_rfl)) ref16_Direct.ok Try.func17 (by kernel_rfl) (by kernel_rfl)) Try.func18 (by kernel_rfl : Try.f18.body = some (bodyOf Try.f18)) Try.ntmps18 (of_decide_eq_true (by kernel_rfl)) (of_decide_eq_true (by kernel_rfl)) fun x y h => (val x).trans h
noncomputable def ctxc (n : Nat) : List (Nat × Sig) := [(17, ref16_Direct.sigc n), (36, ref16_insert.sigc n)]
noncomputable def sigc (n : Nat) : Sig := ⟨ps, rs, fun x => runs (withCtx E (ctxc n)) fin n (.code (bodyOf Try.f18) .ret) (entryFrom 0 ps x)⟩
theorem sigc_le (n : Nat) : ∀ x y, (sigc n).run x = some y → sig.run x = some y := fun x y h => (val x).symm.trans (runs_lim (E := E) (c := ctxc n) (ctxLe_cons (ctxLe_cons ctxLe_nil (ref16_insert.sigc_le n)) (ref16_Direct.sigc_le n)) h)
end ref16_Transitive
namespace deps_MemberDefs
abbrev ps : List PM := [.pure api_Scope, .pure (.int .i64)]
abbrev rs : List RM := [.own (.int .i64)]
abbrev R : Type := Option (List Int × Unit)
noncomputable def E : Env := { tt := tt, ctx := [(30, deps_valid.sig), (15, deps_Transitive.sig), (37, slices_Contains_int_int.sig), (32, slices_Sort_int_int.sig), (33, slices_Compact_int_int.sig), (31, expr_References.sig)], nt := 61, ann := [(1000006, [(5, .keep), (6, .own (.int .i64)), (25, .keep), (26, .keep), (27, .keep)]), (1000010, [(5, .keep), (6, .own (.int .i64)), (25, .keep), (26, .keep), (27, .keep), (40, .keep), (41, .keep), (42, .keep)])] }
noncomputable def c0 : Code := sub [1, 1, 1, 1, 1] (bodyOf Try.f19)
noncomputable def c1 : Code := sub [1, 1, 1, 1, 0, 1, 0, 0] (bodyOf Try.f19)
noncomputable def c2 : Code := sub [1, 1, 1, 1, 0, 1, 0, 0, 1, 1, 1] (bodyOf Try.f19)
noncomputable def c3 : Code := sub [1, 1, 1, 1, 0, 1, 0, 0, 1, 1, 0, 0, 1, 1, 1, 0, 0] (bodyOf Try.f19)
noncomputable def K7 : Kont := .seq c0 .ret
noncomputable def K9 : Kont := .blk 0 K7
noncomputable def K10 : Kont := .loop c1 K9
noncomputable def K13 : Kont := .seq c2 K10
noncomputable def K14 : Kont := .blk 1 K13
noncomputable def K19 : Kont := .blk 2 K14
noncomputable def fin : ASt → R := Kret E Try.f19.results.toList ps rs
def tL0 (need : List Int) (out : List Int) (v_25 : List api_RuleV) (v_26 : Int) (v_27 : Int) : ASt := ⟨[(27, .one (.val (.int .i64) v_27)), (26, .one (.val (.int .i64) v_26)), (25, .one (.val (.sl api_Rule) v_25)), (6, .one (.own 6)), (5, .one (.own 5))], [(6, some ⟨.free, .int .i64, out⟩), (5, some ⟨.free, .int .i64, need⟩)]⟩
def tL1 (need : List Int) (out : List Int) (v_25 : List api_RuleV) (v_26 : Int) (v_27 : Int) (v_40 : List (List api_DateRangeV)) (v_41 : Int) (v_42 : Int) : ASt := ⟨[(42, .one (.val (.int .i64) v_42)), (41, .one (.val (.int .i64) v_41)), (40, .one (.own 40)), (27, .one (.val (.int .i64) v_27)), (26, .one (.val (.int .i64) v_26)), (25, .one (.val (.sl api_Rule) v_25)), (6, .one (.own 6)), (5, .one (.own 5))], [(40, some ⟨.free, .sl api_DateRange, v_40⟩), (6, some ⟨.free, .int .i64, out⟩), (5, some ⟨.free, .int .i64, need⟩)]⟩
noncomputable def L0 (need : List Int) (out : List Int) (v_25 : List api_RuleV) (v_26 : Int) (v_27 : Int) : R := lim E fin (.loop c1 K9) (tL0 need out v_25 v_26 v_27)
noncomputable def L1 (need : List Int) (out : List Int) (v_25 : List api_RuleV) (v_26 : Int) (v_27 : Int) (v_40 : List (List api_DateRangeV)) (v_41 : Int) (v_42 : Int) : R := lim E fin (.loop c3 K19) (tL1 need out v_25 v_26 v_27 v_40 v_41 v_42)
noncomputable def SL0 (need : List Int) (out : List Int) (v_25 : List api_RuleV) (v_26 : Int) (v_27 : Int) : R :=
  cond (decide (v_27 < v_26))
    (Option.bind (idx v_25 v_27) fun x1 =>
    Option.bind (slices_Contains_int_int need x1.2.1) fun x2 =>
    cond (!x2.1)
      (L0 need out v_25 v_26 (IntKind.i64.wrap (v_27 + 1)))
      (L1 need out v_25 v_26 v_27 [x1.2.2.2.2.2.1, x1.2.2.2.2.2.2.1] (2 : Int) 0))
    (Option.bind (slices_Sort_int_int out) fun x3 =>
    Option.bind (slices_Compact_int_int x3.1) fun x4 =>
    some (x4.1, ()))
noncomputable def SL1 (need : List Int) (out : List Int) (v_25 : List api_RuleV) (v_26 : Int) (v_27 : Int) (v_40 : List (List api_DateRangeV)) (v_41 : Int) (v_42 : Int) : R :=
  cond (decide (v_42 < v_41))
    (cond (decide (0 ≤ v_42) && decide (v_42 < (v_40.length : Int)))
      (Option.bind (expr_References (v_40.getD v_42.toNat [])) fun x1 =>
      cond (decide ((out.length + x1.2.2.1.length) * 8 ≤ room) && decide (0 < Ty.nc (.int .i64)))
        (L1 need (out ++ x1.2.2.1) v_25 v_26 v_27 v_40 v_41 (IntKind.i64.wrap (v_42 + 1)))
        none)
      none)
    (L0 need out v_25 v_26 (IntKind.i64.wrap (v_27 + 1)))
noncomputable def Se (s : api_ScopeV) (def_1 : Int) : R :=
  Option.bind (deps_valid s def_1) fun x1 =>
  cond (!x1.1)
    (some ([], ()))
    (Option.bind (deps_Transitive s def_1) fun x2 =>
    cond (decide ((x2.1.length + 1) * 8 ≤ room) && decide (0 < Ty.nc (.int .i64)))
      (L0 (x2.1 ++ [def_1]) [] s.2.2.2.2.1 (s.2.2.2.2.1.length : Int) 0)
      none)
theorem L0_eq (need out v_25 v_26 v_27) : L0 need out v_25 v_26 v_27 = SL0 need out v_25 v_26 v_27 := (lim_eq (.loop c1 K9) (tL0 need out v_25 v_26 v_27)).trans (by kernel_rfl)
theorem L1_eq (need out v_25 v_26 v_27 v_40 v_41 v_42) : L1 need out v_25 v_26 v_27 v_40 v_41 v_42 = SL1 need out v_25 v_26 v_27 v_40 v_41 v_42 := (lim_eq (.loop c3 K19) (tL1 need out v_25 v_26 v_27 v_40 v_41 v_42)).trans (by kernel_rfl)
theorem se (x : (argTy ps).den) : run E (lim E fin) fin depth (bodyOf Try.f19) .ret (entryFrom 0 ps x) = Se x.1 x.2.1 := by kernel_rfl
end deps_MemberDefs
noncomputable def deps_MemberDefs (s : api_ScopeV) (def_1 : Int) : deps_MemberDefs.R :=
  deps_MemberDefs.Se s def_1
namespace deps_MemberDefs
noncomputable def sig : Sig := ⟨ps, rs, fun x => deps_MemberDefs x.1 x.2.1⟩
theorem val (x : (argTy ps).den) : lim E fin (.code (bodyOf Try.f19) .ret) (entryFrom 0 ps x) = sig.run x := (lim_eq (.code (bodyOf Try.f19) .ret) (entryFrom 0 ps x)).trans (se x)
theorem ok : CallOK Try.prog 19 sig :=
  callOK_of_lim (E := E) mixed tt_ok (ctxOk_cons (ctxOk_cons (ctxOk_cons (ctxOk_cons (ctxOk_cons (ctxOk_cons ctxOk_nil expr_References.ok Try.func31 (by kernel_rfl) (by kernel_rfl)) slices_Compact_int_int.ok Try.func33 (by kernel_rfl) (by kernel_rfl)) slices_Sort_int_int.ok Try.func32 (by kernel_rfl) (by kernel_rfl)) slices_Contains_int_int.ok Try.func37 (by kernel_rfl) (by kernel_rfl)) deps_Transitive.ok Try.func15 (by kernel_rfl) (by kernel_rfl)) deps_valid.ok Try.func30 (by kernel_rfl) (by kernel_rfl)) Try.func19 (by kernel_rfl : Try.f19.body = some (bodyOf Try.f19)) Try.ntmps19 (of_decide_eq_true (by kernel_rfl)) (of_decide_eq_true (by kernel_rfl)) fun x y h => (val x).trans h
noncomputable def ctxc (n : Nat) : List (Nat × Sig) := [(30, deps_valid.sigc n), (15, deps_Transitive.sigc n), (37, slices_Contains_int_int.sigc n), (32, slices_Sort_int_int.sigc n), (33, slices_Compact_int_int.sigc n), (31, expr_References.sigc n)]
noncomputable def sigc (n : Nat) : Sig := ⟨ps, rs, fun x => runs (withCtx E (ctxc n)) fin n (.code (bodyOf Try.f19) .ret) (entryFrom 0 ps x)⟩
theorem sigc_le (n : Nat) : ∀ x y, (sigc n).run x = some y → sig.run x = some y := fun x y h => (val x).symm.trans (runs_lim (E := E) (c := ctxc n) (ctxLe_cons (ctxLe_cons (ctxLe_cons (ctxLe_cons (ctxLe_cons (ctxLe_cons ctxLe_nil (expr_References.sigc_le n)) (slices_Compact_int_int.sigc_le n)) (slices_Sort_int_int.sigc_le n)) (slices_Contains_int_int.sigc_le n)) (deps_Transitive.sigc_le n)) (deps_valid.sigc_le n)) h)
end deps_MemberDefs
namespace ref16_MemberDefs
abbrev ps : List PM := [.pure api_Scope, .pure (.int .i64)]
abbrev rs : List RM := [.own (.int .i64)]
abbrev R : Type := Option (List Int × Unit)
noncomputable def E : Env := { tt := tt, ctx := [(34, ref16_is.sig), (18, ref16_Transitive.sig), (36, ref16_insert.sig), (24, ref16_has.sig), (35, ref10_References.sig)], nt := 88, ann := [(1000006, [(2, .keep), (5, .keep), (6, .own (.int .i64)), (7, .keep)]), (1000012, [(2, .keep), (5, .keep), (6, .own (.int .i64)), (7, .keep), (10, .keep), (13, .keep), (14, .keep)]), (1000016, [(2, .keep), (5, .keep), (6, .own (.int .i64)), (7, .keep), (13, .keep), (15, .keep)])] }
noncomputable def c0 : Code := sub [1, 1, 1, 1, 1] (bodyOf Try.f20)
noncomputable def c1 : Code := sub [1, 1, 1, 1, 0, 1, 0, 0] (bodyOf Try.f20)
noncomputable def c2 : Code := sub [1, 1, 1, 1, 0, 1, 0, 0, 1, 1] (bodyOf Try.f20)
noncomputable def c3 : Code := sub [1, 1, 1, 1, 0, 1, 0, 0, 1, 0, 0, 1, 1, 1, 1] (bodyOf Try.f20)
noncomputable def c4 : Code := sub [1, 1, 1, 1, 0, 1, 0, 0, 1, 0, 0, 1, 1, 1, 0, 1, 0, 0] (bodyOf Try.f20)
noncomputable def c5 : Code := sub [1, 1, 1, 1, 0, 1, 0, 0, 1, 0, 0, 1, 1, 1, 1, 1, 0, 0] (bodyOf Try.f20)
noncomputable def K7 : Kont := .seq c0 .ret
noncomputable def K9 : Kont := .blk 0 K7
noncomputable def K10 : Kont := .loop c1 K9
noncomputable def K13 : Kont := .seq c2 K10
noncomputable def K14 : Kont := .blk 1 K13
noncomputable def K19 : Kont := .seq c3 K14
noncomputable def K21 : Kont := .blk 2 K19
noncomputable def K29 : Kont := .blk 4 K14
noncomputable def fin : ASt → R := Kret E Try.f20.results.toList ps rs
def tL0 (s : api_ScopeV) (all : List Int) (out : List Int) (i : Int) : ASt := ⟨[(7, .one (.val (.int .i64) i)), (6, .one (.own 6)), (5, .one (.own 5)), (2, .one (.optr 2 0 []))], [(6, some ⟨.free, .int .i64, out⟩), (5, some ⟨.free, .int .i64, all⟩), (2, some ⟨.free, api_Scope, [s]⟩)]⟩
def tL1 (s : api_ScopeV) (all : List Int) (out : List Int) (i : Int) (a : List Int) (b : List Int) (k : Int) : ASt := ⟨[(14, .one (.val (.int .i64) k)), (13, .one (.own 13)), (10, .one (.own 10)), (7, .one (.val (.int .i64) i)), (6, .one (.own 6)), (5, .one (.own 5)), (2, .one (.optr 2 0 []))], [(13, some ⟨.free, .int .i64, b⟩), (10, some ⟨.free, .int .i64, a⟩), (6, some ⟨.free, .int .i64, out⟩), (5, some ⟨.free, .int .i64, all⟩), (2, some ⟨.free, api_Scope, [s]⟩)]⟩
def tL2 (s : api_ScopeV) (all : List Int) (out : List Int) (i : Int) (b : List Int) (k : Int) : ASt := ⟨[(15, .one (.val (.int .i64) k)), (13, .one (.own 13)), (7, .one (.val (.int .i64) i)), (6, .one (.own 6)), (5, .one (.own 5)), (2, .one (.optr 2 0 []))], [(13, some ⟨.free, .int .i64, b⟩), (6, some ⟨.free, .int .i64, out⟩), (5, some ⟨.free, .int .i64, all⟩), (2, some ⟨.free, api_Scope, [s]⟩)]⟩
noncomputable def L0 (s : api_ScopeV) (all : List Int) (out : List Int) (i : Int) : R := lim E fin (.loop c1 K9) (tL0 s all out i)
noncomputable def L1 (s : api_ScopeV) (all : List Int) (out : List Int) (i : Int) (a : List Int) (b : List Int) (k : Int) : R := lim E fin (.loop c4 K21) (tL1 s all out i a b k)
noncomputable def L2 (s : api_ScopeV) (all : List Int) (out : List Int) (i : Int) (b : List Int) (k : Int) : R := lim E fin (.loop c5 K29) (tL2 s all out i b k)
noncomputable def SL0 (s : api_ScopeV) (all : List Int) (out : List Int) (i : Int) : R :=
  cond (decide (i < (s.2.2.2.2.1.length : Int)))
    (Option.bind (idx s.2.2.2.2.1 i) fun x1 =>
    Option.bind (ref16_has all x1.2.1) fun x2 =>
    cond (!x2.1)
      (L0 s all out (IntKind.i64.wrap (i + 1)))
      (Option.bind (idx s.2.2.2.2.1 i) fun x3 =>
      Option.bind (ref10_References x3.2.2.2.2.2.1) fun x4 =>
      Option.bind (idx s.2.2.2.2.1 i) fun x5 =>
      Option.bind (ref10_References x5.2.2.2.2.2.2.1) fun x6 =>
      L1 s all out i x4.2.2.1 x6.2.2.1 0))
    (some (out, ()))
noncomputable def SL1 (s : api_ScopeV) (all : List Int) (out : List Int) (i : Int) (a : List Int) (b : List Int) (k : Int) : R :=
  cond (decide (k < (a.length : Int)))
    (cond (decide (0 ≤ k) && decide (k < (a.length : Int)))
      (Option.bind (ref16_insert out (a.getD k.toNat 0)) fun x1 =>
      L1 s all x1.1 i a b (IntKind.i64.wrap (k + 1)))
      none)
    (L2 s all out i b 0)
noncomputable def SL2 (s : api_ScopeV) (all : List Int) (out : List Int) (i : Int) (b : List Int) (k : Int) : R :=
  cond (decide (k < (b.length : Int)))
    (cond (decide (0 ≤ k) && decide (k < (b.length : Int)))
      (Option.bind (ref16_insert out (b.getD k.toNat 0)) fun x1 =>
      L2 s all x1.1 i b (IntKind.i64.wrap (k + 1)))
      none)
    (L0 s all out (IntKind.i64.wrap (i + 1)))
noncomputable def Se (s : api_ScopeV) (def_1 : Int) : R :=
  Option.bind (ref16_is s def_1) fun x1 =>
  cond (!x1.1)
    (some ([], ()))
    (Option.bind (ref16_Transitive s def_1) fun x2 =>
    Option.bind (ref16_insert x2.1 def_1) fun x3 =>
    L0 s x3.1 [] 0)
theorem L0_eq (s all out i) : L0 s all out i = SL0 s all out i := (lim_eq (.loop c1 K9) (tL0 s all out i)).trans (by kernel_rfl)
theorem L1_eq (s all out i a b k) : L1 s all out i a b k = SL1 s all out i a b k := (lim_eq (.loop c4 K21) (tL1 s all out i a b k)).trans (by kernel_rfl)
theorem L2_eq (s all out i b k) : L2 s all out i b k = SL2 s all out i b k := (lim_eq (.loop c5 K29) (tL2 s all out i b k)).trans (by kernel_rfl)
theorem se (x : (argTy ps).den) : run E (lim E fin) fin depth (bodyOf Try.f20) .ret (entryFrom 0 ps x) = Se x.1 x.2.1 := by kernel_rfl
end ref16_MemberDefs
noncomputable def ref16_MemberDefs (s : api_ScopeV) (def_1 : Int) : ref16_MemberDefs.R :=
  ref16_MemberDefs.Se s def_1
namespace ref16_MemberDefs
noncomputable def sig : Sig := ⟨ps, rs, fun x => ref16_MemberDefs x.1 x.2.1⟩
theorem val (x : (argTy ps).den) : lim E fin (.code (bodyOf Try.f20) .ret) (entryFrom 0 ps x) = sig.run x := (lim_eq (.code (bodyOf Try.f20) .ret) (entryFrom 0 ps x)).trans (se x)
theorem ok : CallOK Try.prog 20 sig :=
  callOK_of_lim (E := E) mixed tt_ok (ctxOk_cons (ctxOk_cons (ctxOk_cons (ctxOk_cons (ctxOk_cons ctxOk_nil ref10_References.ok Try.func35 (by kernel_rfl) (by kernel_rfl)) ref16_has.ok Try.func24 (by kernel_rfl) (by kernel_rfl)) ref16_insert.ok Try.func36 (by kernel_rfl) (by kernel_rfl)) ref16_Transitive.ok Try.func18 (by kernel_rfl) (by kernel_rfl)) ref16_is.ok Try.func34 (by kernel_rfl) (by kernel_rfl)) Try.func20 (by kernel_rfl : Try.f20.body = some (bodyOf Try.f20)) Try.ntmps20 (of_decide_eq_true (by kernel_rfl)) (of_decide_eq_true (by kernel_rfl)) fun x y h => (val x).trans h
noncomputable def ctxc (n : Nat) : List (Nat × Sig) := [(34, ref16_is.sigc n), (18, ref16_Transitive.sigc n), (36, ref16_insert.sigc n), (24, ref16_has.sigc n), (35, ref10_References.sigc n)]
noncomputable def sigc (n : Nat) : Sig := ⟨ps, rs, fun x => runs (withCtx E (ctxc n)) fin n (.code (bodyOf Try.f20) .ret) (entryFrom 0 ps x)⟩
theorem sigc_le (n : Nat) : ∀ x y, (sigc n).run x = some y → sig.run x = some y := fun x y h => (val x).symm.trans (runs_lim (E := E) (c := ctxc n) (ctxLe_cons (ctxLe_cons (ctxLe_cons (ctxLe_cons (ctxLe_cons ctxLe_nil (ref10_References.sigc_le n)) (ref16_has.sigc_le n)) (ref16_insert.sigc_le n)) (ref16_Transitive.sigc_le n)) (ref16_is.sigc_le n)) h)
end ref16_MemberDefs
namespace law16_DepsDependencies
abbrev ps : List PM := [.pure api_Scope, .pure (.int .i64)]
abbrev rs : List RM := [.pure .bool]
abbrev R : Type := Option (Bool × Unit)
noncomputable def E : Env := { tt := tt, ctx := [(7, ref16_Small.sig), (8, law16_awake.sig), (16, deps_Direct.sig), (17, ref16_Direct.sig), (11, same_Ints.sig), (15, deps_Transitive.sig), (18, ref16_Transitive.sig), (19, deps_MemberDefs.sig), (20, ref16_MemberDefs.sig)], nt := 37, ann := [] }
noncomputable def fin : ASt → R := Kret E Try.f6.results.toList ps rs
noncomputable def Se (s : api_ScopeV) (def_1 : Int) : R :=
  Option.bind (ref16_Small s) fun x1 =>
  cond (!x1.1)
    (Option.bind law16_awake fun x2 =>
    some (x2.1, ()))
    (Option.bind (deps_Direct s def_1) fun x3 =>
    Option.bind (ref16_Direct s def_1) fun x4 =>
    Option.bind (same_Ints x3.1 x4.1) fun x5 =>
    cond x5.1
      (Option.bind (deps_Transitive s def_1) fun x6 =>
      Option.bind (ref16_Transitive s def_1) fun x7 =>
      Option.bind (same_Ints x6.1 x7.1) fun x8 =>
      cond x8.1
        (Option.bind (deps_MemberDefs s def_1) fun x9 =>
        Option.bind (ref16_MemberDefs s def_1) fun x10 =>
        Option.bind (same_Ints x9.1 x10.1) fun x11 =>
        cond x11.1
          (Option.bind law16_awake fun x12 =>
          some (x12.1, ()))
          (some (false, ())))
        (some (false, ())))
      (some (false, ())))
theorem se (x : (argTy ps).den) : run E (lim E fin) fin depth (bodyOf Try.f6) .ret (entryFrom 0 ps x) = Se x.1 x.2.1 := by kernel_rfl
end law16_DepsDependencies
noncomputable def law16_DepsDependencies (s : api_ScopeV) (def_1 : Int) : law16_DepsDependencies.R :=
  law16_DepsDependencies.Se s def_1
namespace law16_DepsDependencies
noncomputable def sig : Sig := ⟨ps, rs, fun x => law16_DepsDependencies x.1 x.2.1⟩
theorem val (x : (argTy ps).den) : lim E fin (.code (bodyOf Try.f6) .ret) (entryFrom 0 ps x) = sig.run x := (lim_eq (.code (bodyOf Try.f6) .ret) (entryFrom 0 ps x)).trans (se x)
theorem ok : CallOK Try.prog 6 sig :=
  callOK_of_lim (E := E) mixed tt_ok (ctxOk_cons (ctxOk_cons (ctxOk_cons (ctxOk_cons (ctxOk_cons (ctxOk_cons (ctxOk_cons (ctxOk_cons (ctxOk_cons ctxOk_nil ref16_MemberDefs.ok Try.func20 (by kernel_rfl) (by kernel_rfl)) deps_MemberDefs.ok Try.func19 (by kernel_rfl) (by kernel_rfl)) ref16_Transitive.ok Try.func18 (by kernel_rfl) (by kernel_rfl)) deps_Transitive.ok Try.func15 (by kernel_rfl) (by kernel_rfl)) same_Ints.ok Try.func11 (by kernel_rfl) (by kernel_rfl)) ref16_Direct.ok Try.func17 (by kernel_rfl) (by kernel_rfl)) deps_Direct.ok Try.func16 (by kernel_rfl) (by kernel_rfl)) law16_awake.ok Try.func8 (by kernel_rfl) (by kernel_rfl)) ref16_Small.ok Try.func7 (by kernel_rfl) (by kernel_rfl)) Try.func6 (by kernel_rfl : Try.f6.body = some (bodyOf Try.f6)) Try.ntmps6 (of_decide_eq_true (by kernel_rfl)) (of_decide_eq_true (by kernel_rfl)) fun x y h => (val x).trans h
noncomputable def ctxc (n : Nat) : List (Nat × Sig) := [(7, ref16_Small.sigc n), (8, law16_awake.sigc n), (16, deps_Direct.sigc n), (17, ref16_Direct.sigc n), (11, same_Ints.sigc n), (15, deps_Transitive.sigc n), (18, ref16_Transitive.sigc n), (19, deps_MemberDefs.sigc n), (20, ref16_MemberDefs.sigc n)]
noncomputable def sigc (n : Nat) : Sig := ⟨ps, rs, fun x => runs (withCtx E (ctxc n)) fin n (.code (bodyOf Try.f6) .ret) (entryFrom 0 ps x)⟩
theorem sigc_le (n : Nat) : ∀ x y, (sigc n).run x = some y → sig.run x = some y := fun x y h => (val x).symm.trans (runs_lim (E := E) (c := ctxc n) (ctxLe_cons (ctxLe_cons (ctxLe_cons (ctxLe_cons (ctxLe_cons (ctxLe_cons (ctxLe_cons (ctxLe_cons (ctxLe_cons ctxLe_nil (ref16_MemberDefs.sigc_le n)) (deps_MemberDefs.sigc_le n)) (ref16_Transitive.sigc_le n)) (deps_Transitive.sigc_le n)) (same_Ints.sigc_le n)) (ref16_Direct.sigc_le n)) (deps_Direct.sigc_le n)) (law16_awake.sigc_le n)) (ref16_Small.sigc_le n)) h)
end law16_DepsDependencies
end Go.Proofs.Ytdkglohjlfoncaa
