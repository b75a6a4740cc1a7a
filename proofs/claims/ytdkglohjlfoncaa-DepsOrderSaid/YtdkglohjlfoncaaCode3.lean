import Derived.Test.YtdkglohjlfoncaaCode2
set_option maxRecDepth 100000
set_option linter.unusedVariables false
namespace Go.Proofs.Ytdkglohjlfoncaa
open Go Go.Lift
namespace ref16_Direct
abbrev ps : List PM := [.pure api_Scope, .pure (.int .i64)]
abbrev rs : List RM := [.own (.int .i64)]
abbrev R : Type := Option (List Int × Unit)
noncomputable def E : Env := { tt := tt, ctx := [(34, ref16_is.sig), (35, ref10_References.sig), (36, ref16_insert.sig)], nt := 93, ann := [(1000005, [(1, .keep), (2, .keep), (5, .own (.int .i64)), (6, .keep)]), (1000011, [(1, .keep), (2, .keep), (5, .own (.int .i64)), (6, .keep), (8, .keep), (11, .keep), (13, .keep)]), (1000016, [(1, .keep), (2, .keep), (5, .own (.int .i64)), (6, .keep), (11, .keep), (14, .keep)])] }
noncomputable def c0 : Code := sub [1, 1, 1, 1] (bodyOf Try.f17)
noncomputable def c1 : Code := sub [1, 1, 1, 0, 1, 0, 0] (bodyOf Try.f17)
noncomputable def c2 : Code := sub [1, 1, 1, 0, 1, 0, 0, 1, 1] (bodyOf Try.f17)
noncomputable def c3 : Code := sub [1, 1, 1, 0, 1, 0, 0, 1, 0, 0, 1, 1, 1, 1] (bodyOf Try.f17)
noncomputable def c4 : Code := sub [1, 1, 1, 0, 1, 0, 0, 1, 0, 0, 1, 1, 1, 0, 1, 0, 0] (bodyOf Try.f17)
noncomputable def c5 : Code := sub [1, 1, 1, 0, 1, 0, 0, 1, 0, 0, 1, 1, 1, 1, 1, 0, 0] (bodyOf Try.f17)
noncomputable def K6 : Kont := .seq c0 .ret
noncomputable def K8 : Kont := .blk 0 K6
noncomputable def K9 : Kont := .loop c1 K8
noncomputable def K12 : Kont := .seq c2 K9
noncomputable def K13 : Kont := .blk 1 K12
noncomputable def K18 : Kont := .seq c3 K13
noncomputable def K20 : Kont := .blk 2 K18
noncomputable def K29 : Kont := .blk 4 K13
noncomputable def fin : ASt → R := Kret E Try.f17.results.toList ps rs
def tL0 (def_1 : Int) (s : api_ScopeV) (out : List Int) (i : Int) : ASt := ⟨[(6, .one (.val (.int .i64) i)), (5, .one (.own 5)), (2, .one (.optr 2 0 [])), (1, .one (.val (.int .i64) def_1))], [(5, some ⟨.free, .int .i64, out⟩), (2, some ⟨.free, api_Scope, [s]⟩)]⟩
def tL1 (def_1 : Int) (s : api_ScopeV) (out : List Int) (i : Int) (a : List Int) (b : List Int) (k : Int) : ASt := ⟨[(13, .one (.val (.int .i64) k)), (11, .one (.own 11)), (8, .one (.own 8)), (6, .one (.val (.int .i64) i)), (5, .one (.own 5)), (2, .one (.optr 2 0 [])), (1, .one (.val (.int .i64) def_1))], [(11, some ⟨.free, .int .i64, b⟩), (8, some ⟨.free, .int .i64, a⟩), (5, some ⟨.free, .int .i64, out⟩), (2, some ⟨.free, api_Scope, [s]⟩)]⟩
def tL2 (def_1 : Int) (s : api_ScopeV) (out : List Int) (i : Int) (b : List Int) (k : Int) : ASt := ⟨[(14, .one (.val (.int .i64) k)), (11, .one (.own 11)), (6, .one (.val (.int .i64) i)), (5, .one (.own 5)), (2, .one (.optr 2 0 [])), (1, .one (.val (.int .i64) def_1))], [(11, some ⟨.free, .int .i64, b⟩), (5, some ⟨.free, .int .i64, out⟩), (2, some ⟨.free, api_Scope, [s]⟩)]⟩
noncomputable def L0 (def_1 : Int) (s : api_ScopeV) (out : List Int) (i : Int) : R := lim E fin (.loop c1 K8) (tL0 def_1 s out i)
noncomputable def L1 (def_1 : Int) (s : api_ScopeV) (out : List Int) (i : Int) (a : List Int) (b : List Int) (k : Int) : R := lim E fin (.loop c4 K20) (tL1 def_1 s out i a b k)
noncomputable def L2 (def_1 : Int) (s : api_ScopeV) (out : List Int) (i : Int) (b : List Int) (k : Int) : R := lim E fin (.loop c5 K29) (tL2 def_1 s out i b k)
noncomputable def SL0 (def_1 : Int) (s : api_ScopeV) (out : List Int) (i : Int) : R :=
  cond (decide (i < (s.2.2.2.2.1.length : Int)))
    (Option.bind (idx s.2.2.2.2.1 i) fun x1 =>
    cond (x1.2.1 != def_1)
      (L0 def_1 s out (IntKind.i64.wrap (i + 1)))
      (Option.bind (idx s.2.2.2.2.1 i) fun x2 =>
      Option.bind (ref10_References x2.2.2.2.2.2.1) fun x3 =>
      Option.bind (idx s.2.2.2.2.1 i) fun x4 =>
      Option.bind (ref10_References x4.2.2.2.2.2.2.1) fun x5 =>
      L1 def_1 s out i x3.2.1 x5.2.1 0))
    (some (out, ()))
noncomputable def SL1 (def_1 : Int) (s : api_ScopeV) (out : List Int) (i : Int) (a : List Int) (b : List Int) (k : Int) : R :=
  cond (decide (k < (a.length : Int)))
    (cond (decide (0 ≤ k) && decide (k < (a.length : Int)))
      (Option.bind (ref16_is s (a.getD k.toNat 0)) fun x1 =>
      cond x1.1
        (cond (decide (0 ≤ k) && decide (k < (a.length : Int)))
          (Option.bind (ref16_insert out (a.getD k.toNat 0)) fun x2 =>
          L1 def_1 s x2.1 i a b (IntKind.i64.wrap (k + 1)))
          none)
        (L1 def_1 s out i a b (IntKind.i64.wrap (k + 1))))
      none)
    (L2 def_1 s out i b 0)
noncomputable def SL2 (def_1 : Int) (s : api_ScopeV) (out : List Int) (i : Int) (b : List Int) (k : Int) : R :=
  cond (decide (k < (b.length : Int)))
    (cond (decide (0 ≤ k) && decide (k < (b.length : Int)))
      (Option.bind (ref16_is s (b.getD k.toNat 0)) fun x1 =>
      cond x1.1
        (cond (decide (0 ≤ k) && decide (k < (b.length : Int)))
          (Option.bind (ref16_insert out (b.getD k.toNat 0)) fun x2 =>
          L2 def_1 s x2.1 i b (IntKind.i64.wrap (k + 1)))
          none)
        (L2 def_1 s out i b (IntKind.i64.wrap (k + 1))))
      none)
    (L0 def_1 s out (IntKind.i64.wrap (i + 1)))
noncomputable def Se (s : api_ScopeV) (def_1 : Int) : R :=
  Option.bind (ref16_is s def_1) fun x1 =>
  cond (!x1.1)
    (some ([], ()))
    (L0 def_1 s [] 0)
theorem L0_eq (def_1 s out i) : L0 def_1 s out i = SL0 def_1 s out i := (lim_eq (.loop c1 K8) (tL0 def_1 s out i)).trans (by kernel_rfl)
theorem L1_eq (def_1 s out i a b k) : L1 def_1 s out i a b k = SL1 def_1 s out i a b k := (lim_eq (.loop c4 K20) (tL1 def_1 s out i a b k)).trans (by kernel_rfl)
theorem L2_eq (def_1 s out i b k) : L2 def_1 s out i b k = SL2 def_1 s out i b k := (lim_eq (.loop c5 K29) (tL2 def_1 s out i b k)).trans (by kernel_rfl)
theorem se (x : (argTy ps).den) : run E (lim E fin) fin depth (bodyOf Try.f17) .ret (entryFrom 0 ps x) = Se x.1 x.2.1 := by kernel_rfl
end ref16_Direct
noncomputable def ref16_Direct (s : api_ScopeV) (def_1 : Int) : ref16_Direct.R :=
  ref16_Direct.Se s def_1
namespace ref16_Direct
noncomputable def sig : Sig := ⟨ps, rs, fun x => ref16_Direct x.1 x.2.1⟩
theorem val (x : (argTy ps).den) : lim E fin (.code (bodyOf Try.f17) .ret) (entryFrom 0 ps x) = sig.run x := (lim_eq (.code (bodyOf Try.f17) .ret) (entryFrom 0 ps x)).trans (se x)
theorem ok : CallOK Try.prog 17 sig :=
  callOK_of_lim (E := E) mixed tt_ok (ctxOk_cons (ctxOk_cons (ctxOk_cons ctxOk_nil ref16_insert.ok Try.func36 (by kernel_rfl) (by kernel_rfl)) ref10_References.ok Try.func35 (by kernel_rfl) (by kernel_rfl)) ref16_is.ok Try.func34 (by kernel_rfl) (by kernel_rfl)) Try.func17 (by kernel_rfl : Try.f17.body = some (bodyOf Try.f17)) Try.ntmps17 (of_decide_eq_true (by kernel_rfl)) (of_decide_eq_true (by kernel_rfl)) fun x y h => (val x).trans h
noncomputable def ctxc (n : Nat) : List (Nat × Sig) := [(34, ref16_is.sigc n), (35, ref10_References.sigc n), (36, ref16_insert.sigc n)]
noncomputable def sigc (n : Nat) : Sig := ⟨ps, rs, fun x => runs (withCtx E (ctxc n)) fin n (.code (bodyOf Try.f17) .ret) (entryFrom 0 ps x)⟩
theorem sigc_le (n : Nat) : ∀ x y, (sigc n).run x = some y → sig.run x = some y := fun x y h => (val x).symm.trans (runs_lim (E := E) (c := ctxc n) (ctxLe_cons (ctxLe_cons (ctxLe_cons ctxLe_nil (ref16_insert.sigc_le n)) (ref10_References.sigc_le n)) (ref16_is.sigc_le n)) h)
end ref16_Direct
namespace ref16_ready
abbrev ps : List PM := [.pure api_Scope, .pure (.int .i64), .pure (.sl (.int .i64))]
abbrev rs : List RM := [.pure .bool]
abbrev R : Type := Option (Bool × Unit)
noncomputable def E : Env := { tt := tt, ctx := [(17, ref16_Direct.sig), (24, ref16_has.sig)], nt := 25, ann := [(1000003, [(2, .keep), (7, .keep), (8, .keep)])] }
noncomputable def c0 : Code := sub [1, 1, 1] (bodyOf Try.f25)
noncomputable def c1 : Code := sub [1, 1, 0, 1, 0, 0] (bodyOf Try.f25)
noncomputable def K3 : Kont := .seq c0 .ret
noncomputable def K5 : Kont := .blk 0 K3
noncomputable def fin : ASt → R := Kret E Try.f25.results.toList ps rs
def tL0 (placed : List Int) (l : List Int) (i : Int) : ASt := ⟨[(8, .one (.val (.int .i64) i)), (7, .one (.own 7)), (2, .one (.val (.sl (.int .i64)) placed))], [(7, some ⟨.free, .int .i64, l⟩)]⟩
noncomputable def L0 (placed : List Int) (l : List Int) (i : Int) : R := lim E fin (.loop c1 K5) (tL0 placed l i)
noncomputable def SL0 (placed : List Int) (l : List Int) (i : Int) : R :=
  cond (decide (i < (l.length : Int)))
    (cond (decide (0 ≤ i) && decide (i < (l.length : Int)))
      (Option.bind (ref16_has placed (l.getD i.toNat 0)) fun x1 =>
      cond (!x1.1)
        (some (false, ()))
        (L0 placed l (IntKind.i64.wrap (i + 1))))
      none)
    (some (true, ()))
noncomputable def Se (s : api_ScopeV) (def_1 : Int) (placed : List Int) : R :=
  Option.bind (ref16_Direct s def_1) fun x1 =>
  L0 placed x1.1 0
theorem L0_eq (placed l i) : L0 placed l i = SL0 placed l i := (lim_eq (.loop c1 K5) (tL0 placed l i)).trans (by kernel_rfl)
theorem se (x : (argTy ps).den) : run E (lim E fin) fin depth (bodyOf Try.f25) .ret (entryFrom 0 ps x) = Se x.1 x.2.1 x.2.2.1 := by kernel_rfl
end ref16_ready
noncomputable def ref16_ready (s : api_ScopeV) (def_1 : Int) (placed : List Int) : ref16_ready.R :=
  ref16_ready.Se s def_1 placed
namespace ref16_ready
noncomputable def sig : Sig := ⟨ps, rs, fun x => ref16_ready x.1 x.2.1 x.2.2.1⟩
theorem val (x : (argTy ps).den) : lim E fin (.code (bodyOf Try.f25) .ret) (entryFrom 0 ps x) = sig.run x := (lim_eq (.code (bodyOf Try.f25) .ret) (entryFrom 0 ps x)).trans (se x)
theorem ok : CallOK Try.prog 25 sig :=
  callOK_of_lim (E := E) mixed tt_ok (ctxOk_cons (ctxOk_cons ctxOk_nil ref16_has.ok Try.func24 (by kernel_rfl) (by kernel_rfl)) ref16_Direct.ok Try.func17 (by kernel_rfl) (by kernel_rfl)) Try.func25 (by kernel_rfl : Try.f25.body = some (bodyOf Try.f25)) Try.ntmps25 (of_decide_eq_true (by kernel_rfl)) (of_decide_eq_true (by kernel_rfl)) fun x y h => (val x).trans h
noncomputable def ctxc (n : Nat) : List (Nat × Sig) := [(17, ref16_Direct.sigc n), (24, ref16_has.sigc n)]
noncomputable def sigc (n : Nat) : Sig := ⟨ps, rs, fun x => runs (withCtx E (ctxc n)) fin n (.code (bodyOf Try.f25) .ret) (entryFrom 0 ps x)⟩
theorem sigc_le (n : Nat) : ∀ x y, (sigc n).run x = some y → sig.run x = some y := fun x y h => (val x).symm.trans (runs_lim (E := E) (c := ctxc n) (ctxLe_cons (ctxLe_cons ctxLe_nil (ref16_has.sigc_le n)) (ref16_Direct.sigc_le n)) h)
end ref16_ready
namespace ref16_EvaluationOrder
abbrev ps : List PM := [.pure api_Scope]
abbrev rs : List RM := [.own (.int .i64), .pure (.int .i64)]
abbrev R : Type := Option (List Int × Int × Unit)
noncomputable def E : Env := { tt := tt, ctx := [(24, ref16_has.sig), (25, ref16_ready.sig)], nt := 41, ann := [(1000002, [(1, .keep), (4, .own (.int .i64))]), (6, [(1, .keep), (4, .own (.int .i64)), (5, .keep)]), (1000004, [(1, .keep), (4, .own (.int .i64)), (5, .keep)])] }
noncomputable def c0 : Code := sub [1, 1, 1] (bodyOf Try.f10)
noncomputable def c1 : Code := sub [1, 1, 0, 0, 0] (bodyOf Try.f10)
noncomputable def c2 : Code := sub [1, 1, 0, 0, 0, 1, 0, 1, 1] (bodyOf Try.f10)
noncomputable def c3 : Code := sub [1, 1, 0, 0, 0, 1, 0, 1, 0, 0, 0] (bodyOf Try.f10)
noncomputable def K3 : Kont := .seq c0 .ret
noncomputable def K4 : Kont := .blk 0 K3
noncomputable def K5 : Kont := .loop c1 K4
noncomputable def K8 : Kont := .blk 1 K5
noncomputable def K10 : Kont := .seq c2 K8
noncomputable def K11 : Kont := .blk 2 K10
noncomputable def fin : ASt → R := Kret E Try.f10.results.toList ps rs
def tL0 (s : api_ScopeV) (out : List Int) : ASt := ⟨[(4, .one (.own 4)), (1, .one (.optr 1 0 []))], [(4, some ⟨.free, .int .i64, out⟩), (1, some ⟨.free, api_Scope, [s]⟩)]⟩
def tJ1 (s : api_ScopeV) (out : List Int) (next : Int) : ASt := ⟨[(5, .one (.val (.int .i64) next)), (4, .one (.own 4)), (1, .one (.optr 1 0 []))], [(4, some ⟨.free, .int .i64, out⟩), (1, some ⟨.free, api_Scope, [s]⟩)]⟩
def tL2 (s : api_ScopeV) (out : List Int) (next : Int) : ASt := ⟨[(5, .one (.val (.int .i64) next)), (4, .one (.own 4)), (1, .one (.optr 1 0 []))], [(4, some ⟨.free, .int .i64, out⟩), (1, some ⟨.free, api_Scope, [s]⟩)]⟩
noncomputable def L0 (s : api_ScopeV) (out : List Int) : R := lim E fin (.loop c1 K4) (tL0 s out)
noncomputable def J1 (s : api_ScopeV) (out : List Int) (next : Int) : R := lim E fin (.code c2 K8) (tJ1 s out next)
noncomputable def L2 (s : api_ScopeV) (out : List Int) (next : Int) : R := lim E fin (.loop c3 K11) (tL2 s out next)
noncomputable def SL0 (s : api_ScopeV) (out : List Int) : R :=
  cond (decide ((out.length : Int) < (s.2.2.2.1.length : Int)))
    (L2 s out 0)
    (some (out, 0, ()))
noncomputable def SJ1 (s : api_ScopeV) (out : List Int) (next : Int) : R :=
  cond (next == (s.2.2.2.1.length : Int))
    (some ([], 9, ()))
    (cond (decide ((out.length + 1) * 8 ≤ room) && decide (0 < Ty.nc (.int .i64)))
      (L0 s (out ++ [next]))
      none)
noncomputable def SL2 (s : api_ScopeV) (out : List Int) (next : Int) : R :=
  cond (decide (next < (s.2.2.2.1.length : Int)))
    (Option.bind (ref16_has out next) fun x1 =>
    cond x1.1
      (L2 s out (IntKind.i64.wrap (next + 1)))
      (Option.bind (ref16_ready s next out) fun x2 =>
      cond (!x2.1)
        (L2 s out (IntKind.i64.wrap (next + 1)))
        (J1 s out next)))
    (J1 s out next)
noncomputable def Se (s : api_ScopeV) : R :=
  L0 s []
theorem L0_eq (s out) : L0 s out = SL0 s out := (lim_eq (.loop c1 K4) (tL0 s out)).trans (by kernel_rfl)
theorem J1_eq (s out next) : J1 s out next = SJ1 s out next := (lim_eq (.code c2 K8) (tJ1 s out next)).trans (by kernel_rfl)
theorem L2_eq (s out next) : L2 s out next = SL2 s out next := (lim_eq (.loop c3 K11) (tL2 s out next)).trans (by kernel_rfl)
theorem se (x : (argTy ps).den) : run E (lim E fin) fin depth (bodyOf Try.f10) .ret (entryFrom 0 ps x) = Se x.1 := by kernel_rfl
end ref16_EvaluationOrder
noncomputable def ref16_EvaluationOrder (s : api_ScopeV) : ref16_EvaluationOrder.R :=
  ref16_EvaluationOrder.Se s
namespace ref16_EvaluationOrder
noncomputable def sig : Sig := ⟨ps, rs, fun x => ref16_EvaluationOrder x.1⟩
theorem val (x : (argTy ps).den) : lim E fin (.code (bodyOf Try.f10) .ret) (entryFrom 0 ps x) = sig.run x := (lim_eq (.code (bodyOf Try.f10) .ret) (entryFrom 0 ps x)).trans (se x)
theorem ok : CallOK Try.prog 10 sig :=
  callOK_of_lim (E := E) mixed tt_ok (ctxOk_cons (ctxOk_cons ctxOk_nil ref16_ready.ok Try.func25 (by kernel_rfl) (by kernel_rfl)) ref16_has.ok Try.func24 (by kernel_rfl) (by kernel_rfl)) Try.func10 (by kernel_rfl : Try.f10.body = some (bodyOf Try.f10)) Try.ntmps10 (of_decide_eq_true (by kernel_rfl)) (of_decide_eq_true (by kernel_rfl)) fun x y h => (val x).trans h
noncomputable def ctxc (n : Nat) : List (Nat × Sig) := [(24, ref16_has.sigc n), (25, ref16_ready.sigc n)]
noncomputable def sigc (n : Nat) : Sig := ⟨ps, rs, fun x => runs (withCtx E (ctxc n)) fin n (.code (bodyOf Try.f10) .ret) (entryFrom 0 ps x)⟩
theorem sigc_le (n : Nat) : ∀ x y, (sigc n).run x = some y → sig.run x = some y := fun x y h => (val x).symm.trans (runs_lim (E := E) (c := ctxc n) (ctxLe_cons (ctxLe_cons ctxLe_nil (ref16_ready.sigc_le n)) (ref16_has.sigc_le n)) h)
end ref16_EvaluationOrder
namespace law16_DepsOrder
abbrev ps : List PM := [.pure api_Scope]
abbrev rs : List RM := [.pure .bool]
abbrev R : Type := Option (Bool × Unit)
noncomputable def E : Env := { tt := tt, ctx := [(7, ref16_Small.sig), (8, law16_awake.sig), (9, deps_EvaluationOrder.sig), (10, ref16_EvaluationOrder.sig), (11, same_Ints.sig)], nt := 32, ann := [] }
noncomputable def fin : ASt → R := Kret E Try.f3.results.toList ps rs
noncomputable def Se (s : api_ScopeV) : R :=
  Option.bind (ref16_Small s) fun x1 =>
  cond (!x1.1)
    (Option.bind law16_awake fun x2 =>
    some (x2.1, ()))
    (Option.bind (deps_EvaluationOrder s) fun x3 =>
    Option.bind (ref16_EvaluationOrder s) fun x4 =>
    Option.bind (same_Ints x3.1 x4.1) fun x5 =>
    cond x5.1
      (cond (x3.2.1 == x4.2.1)
        (Option.bind law16_awake fun x6 =>
        some (x6.1, ()))
        (some (false, ())))
      (some (false, ())))
theorem se (x : (argTy ps).den) : run E (lim E fin) fin depth (bodyOf Try.f3) .ret (entryFrom 0 ps x) = Se x.1 := by kernel_rfl
end law16_DepsOrder
noncomputable def law16_DepsOrder (s : api_ScopeV) : law16_DepsOrder.R :=
  law16_DepsOrder.Se s
namespace law16_DepsOrder
noncomputable def sig : Sig := ⟨ps, rs, fun x => law16_DepsOrder x.1⟩
theorem val (x : (argTy ps).den) : lim E fin (.code (bodyOf Try.f3) .ret) (entryFrom 0 ps x) = sig.run x := (lim_eq (.code (bodyOf Try.f3) .ret) (entryFrom 0 ps x)).trans (se x)
theorem ok : CallOK Try.prog 3 sig :=
  callOK_of_lim (E := E) mixed tt_ok (ctxOk_cons (ctxOk_cons (ctxOk_cons (ctxOk_cons (ctxOk_cons ctxOk_nil same_Ints.ok Try.func11 (by kernel_rfl) (by kernel_rfl)) ref16_EvaluationOrder.ok Try.func10 (by kernel_rfl) (by kernel_rfl)) deps_EvaluationOrder.ok Try.func9 (by kernel_rfl) (by kernel_rfl)) law16_awake.ok Try.func8 (by kernel_rfl) (by kernel_rfl)) ref16_Small.ok Try.func7 (by kernel_rfl) (by kernel_rfl)) Try.func3 (by kernel_rfl : Try.f3.body = some (bodyOf Try.f3)) Try.ntmps3 (of_decide_eq_true (by kernel_rfl)) (of_decide_eq_true (by kernel_rfl)) fun x y h => (val x).trans h
noncomputable def ctxc (n : Nat) : List (Nat × Sig) := [(7, ref16_Small.sigc n), (8, law16_awake.sigc n), (9, deps_EvaluationOrder.sigc n), (10, ref16_EvaluationOrder.sigc n), (11, same_Ints.sigc n)]
noncomputable def sigc (n : Nat) : Sig := ⟨ps, rs, fun x => runs (withCtx E (ctxc n)) fin n (.code (bodyOf Try.f3) .ret) (entryFrom 0 ps x)⟩
theorem sigc_le (n : Nat) : ∀ x y, (sigc n).run x = some y → sig.run x = some y := fun x y h => (val x).symm.trans (runs_lim (E := E) (c := ctxc n) (ctxLe_cons (ctxLe_cons (ctxLe_cons (ctxLe_cons (ctxLe_cons ctxLe_nil (same_Ints.sigc_le n)) (ref16_EvaluationOrder.sigc_le n)) (deps_EvaluationOrder.sigc_le n)) (law16_awake.sigc_le n)) (ref16_Small.sigc_le n)) h)
end law16_DepsOrder
end Go.Proofs.Ytdkglohjlfoncaa
