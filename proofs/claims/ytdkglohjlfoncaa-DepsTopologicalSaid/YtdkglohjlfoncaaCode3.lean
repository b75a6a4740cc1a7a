import Derived.Test.YtdkglohjlfoncaaCode2
set_option maxRecDepth 100000
set_option linter.unusedVariables false
namespace Go.Proofs.Ytdkglohjlfoncaa
open Go Go.Lift
namespace ref16_Direct
abbrev ps : List PM := [.pure api_Scope, .pure (.int .i64)]
abbrev rs : List RM := [.own (.int .i64)]
abbrev R : Type := Option (List Int × Unit)
noncomputable def E : Env := { tt := tt, ctx := [(34, ref16_is.sig), (35, ref10_References.sig), (36, ref16_insert.sig)], nt := 93, ann := [(1000005, [(1, .keep), (2, .keep), (5, .own (.int .i64)), (6, .keep)]), (1000011, [(1, .keep), (2, .keep), (5, .own (.int .i64)), (6, .keep), (8, .keep), (11, .keep), (13, .keep)]), (1000016, [(1, .keep), (2, .keep), (5, .own (.int .i64)), (6, .keep), (11, .keep), (14, .keep)])] }
noncomputable def c0 : Code := sub [1, 1, 1, 1] (bodyOf Try.f17)
noncomputable def c1 : Code := sub [1, 1, 1, 0, 1, 0, 0] (bodyOf Try.f17)
noncomputable def c2 : Code := sub [1, 1, 1, 0, 1, 0, 0, 1, 1] (bodyOf Try.f17)
noncomputable def c3 : Code := sub [1, 1, 1, 0, 1, 0, 0, 1, 0, 0, 1, 1, 1, 1] (bodyOf Try.f17)
noncomputable def c4 : Code := sub [1, 1, 1, 0, 1, 0, 0, 1, 0, 0, 1, 1, 1, 0, 1, 0, 0] (bodyOf Try.f17)
noncomputable def c5 : Code := sub [1, 1, 1, 0, 1, 0, 0, 1, 0, 0, 1, 1, 1, 1, 1, 0, 0] (bodyOf Try.f17)
noncomputable def K6 : Kont := .seq c0 .ret
noncomputable def K8 : Kont := .blk 0 K6
noncomputable def K9 : Kont := .loop c1 K8
noncomputable def K12 : Kont := .seq c2 K9
noncomputable def K13 : Kont := .blk 1 K12
noncomputable def K18 : Kont := .seq c3 K13
noncomputable def K20 : Kont := .blk 2 K18
noncomputable def K29 : Kont := .blk 4 K13
noncomputable def fin : ASt → R := Kret E Try.f17.results.toList ps rs
def tL0 (def_1 : Int) (s : api_ScopeV) (out : List Int) (i : Int) : ASt := ⟨[(6, .one (.val (.int .i64) i)), (5, .one (.own 5)), (2, .one (.optr 2 0 [])), (1, .one (.val (.int .i64) def_1))], [(5, some ⟨.free, .int .i64, out⟩), (2, some ⟨.free, api_Scope, [s]⟩)]⟩
def tL1 (def_1 : Int) (s : api_ScopeV) (out : List Int) (i : Int) (a : List Int) (b : List Int) (k : Int) : ASt := ⟨[(13, .one (.val (.int .i64) k)), (11, .one (.own 11)), (8, .one (.own 8)), (6, .one (.val (.int .i64) i)), (5, .one (.own 5)), (2, .one (.optr 2 0 [])), (1, .one (.val (.int .i64) def_1))], [(11, some ⟨.free, .int .i64, b⟩), (8, some ⟨.free, .int .i64, a⟩), (5, some ⟨.free, .int .i64, out⟩), (2, some ⟨.free, api_Scope, [s]⟩)]⟩
def tL2 (def_1 : Int) (s : api_ScopeV) (out : List Int) (i : Int) (b : List Int) (k : Int) : ASt := ⟨[(14, .one (.val (.int .i64) k)), (11, .one (.own 11)), (6, .one (.val (.int .i64) i)), (5, .one (.own 5)), (2, .one (.optr 2 0 [])), (1, .one (.val (.int .i64) def_1))], [(11, some ⟨.free, .int .i64, b⟩), (5, some ⟨.free, .int .i64, out⟩), (2, some ⟨.free, api_Scope, [s]⟩)]⟩
noncomputable def L0 (def_1 : Int) (s : api_ScopeV) (out : List Int) (i : Int) : R := lim E fin (.loop c1 K8) (tL0 def_1 s out i)
noncomputable def L1 (def_1 : Int) (s : api_ScopeV) (out : List Int) (i : Int) (a : List Int) (b : List Int) (k : Int) : R := lim E fin (.loop c4 K20) (tL1 def_1 s out i a b k)
noncomputable def L2 (def_1 : Int) (s : api_ScopeV) (out : List Int) (i : Int) (b : List Int) (k : Int) : R := lim E fin (.loop c5 K29) (tL2 def_1 s out i b k)
noncomputable def SL0 (def_1 : Int) (s : api_ScopeV) (out : List Int) (i : Int) : R :=
  cond (decide (i < (s.2.2.2.2.1.length : Int)))
    (Option.bind (idx s.2.2.2.2.1 i) fun x1 =>
    cond (x1.2.1 != def_1)
      (L0 def_1 s out (IntKind.i64.wrap (i + 1)))
      (Option.bind (idx s.2.2.2.2.1 i) fun x2 =>
      Option.bind (ref10_References x2.2.2.2.2.2.1) fun x3 =>
      Option.bind (idx s.2.2.2.2.1 i) fun x4 =>
      Option.bind (ref10_References x4.2.2.2.2.2.2.1) fun x5 =>
      L1 def_1 s out i x3.2.1 x5.2.1 0))
    (some (out, ()))
noncomputable def SL1 (def_1 : Int) (s : api_ScopeV) (out : List Int) (i : Int) (a : List Int) (b : List Int) (k : Int) : R :=
  cond (decide (k < (a.length : Int)))
    (cond (decide (0 ≤ k) && decide (k < (a.length : Int)))
      (Option.bind (ref16_is s (a.getD k.toNat 0)) fun x1 =>
      cond x1.1
        (cond (decide (0 ≤ k) && decide (k < (a.length : Int)))
          (Option.bind (ref16_insert out (a.getD k.toNat 0)) fun x2 =>
          L1 def_1 s x2.1 i a b (IntKind.i64.wrap (k + 1)))
          none)
        (L1 def_1 s out i a b (IntKind.i64.wrap (k + 1))))
      none)
    (L2 def_1 s out i b 0)
noncomputable def SL2 (def_1 : Int) (s : api_ScopeV) (out : List Int) (i : Int) (b : List Int) (k : Int) : R :=
  cond (decide (k < (b.length : Int)))
    (cond (decide (0 ≤ k) && decide (k < (b.length : Int)))
      (Option.bind (ref16_is s (b.getD k.toNat 0)) fun x1 =>
      cond x1.1
        (cond (decide (0 ≤ k) && decide (k < (b.length : Int)))
          (Option.bind (ref16_insert out (b.getD k.toNat 0)) fun x2 =>
          L2 def_1 s x2.1 i b (IntKind.i64.wrap (k + 1)))
          none)
        (L2 def_1 s out i b (IntKind.i64.wrap (k + 1))))
      none)
    (L0 def_1 s out (IntKind.i64.wrap (i + 1)))
noncomputable def Se (s : api_ScopeV) (def_1 : Int) : R :=
  Option.bind (ref16_is s def_1) fun x1 =>
  cond (!x1.1)
    (some ([], ()))
    (L0 def_1 s [] 0)
theorem L0_eq (def_1 s out i) : L0 def_1 s out i = SL0 def_1 s out i := (lim_eq (.loop c1 K8) (tL0 def_1 s out i)).trans (by kernel_rfl)
theorem L1_eq (def_1 s out i a b k) : L1 def_1 s out i a b k = SL1 def_1 s out i a b k := (lim_eq (.loop c4 K20) (tL1 def_1 s out i a b k)).trans (by kernel_rfl)
theorem L2_eq (def_1 s out i b k) : L2 def_1 s out i b k = SL2 def_1 s out i b k := (lim_eq (.loop c5 K29) (tL2 def_1 s out i b k)).trans (by kernel_rfl)
theorem se (x : (argTy ps).den) : run E (lim E fin) fin depth (bodyOf Try.f17) .ret (entryFrom 0 ps x) = Se x.1 x.2.1 := by kernel_rfl
end ref16_Direct
noncomputable def ref16_Direct (s : api_ScopeV) (def_1 : Int) : ref16_Direct.R :=
  ref16_Direct.Se s def_1
namespace ref16_Direct
noncomputable def sig : Sig := ⟨ps, rs, fun x => ref16_Direct x.1 x.2.1⟩
theorem val (x : (argTy ps).den) : lim E fin (.code (bodyOf Try.f17) .ret) (entryFrom 0 ps x) = sig.run x := (lim_eq (.code (bodyOf Try.f17) .ret) (entryFrom 0 ps x)).trans (se x)
theorem ok : CallOK Try.prog 17 sig :=
  callOK_of_lim (E := E) mixed tt_ok (ctxOk_cons (ctxOk_cons (ctxOk_cons ctxOk_nil ref16_insert.ok Try.func36 (by kernel_rfl) (by kernel_rfl)) ref10_References.ok Try.func35 (by kernel_rfl) (by kernel_rfl)) ref16_is.ok Try.func34 (by kernel_rfl) (by kernel_rfl)) Try.func17 (by kernel_rfl : Try.f17.body = some (bodyOf Try.f17)) Try.ntmps17 (of_decide_eq_true (by kernel_rfl)) (of_decide_eq_true (by kernel_rfl)) fun x y h => (val x).trans h
noncomputable def ctxc (n : Nat) : List (Nat × Sig) := [(34, ref16_is.sigc n), (35, ref10_References.sigc n), (36, ref16_insert.sigc n)]
noncomputable def sigc (n : Nat) : Sig := ⟨ps, rs, fun x => runs (withCtx E (ctxc n)) fin n (.code (bodyOf Try.f17) .ret) (entryFrom 0 ps x)⟩
theorem sigc_le (n : Nat) : ∀ x y, (sigc n).run x = some y → sig.run x = some y := fun x y h => (val x).symm.trans (runs_lim (E := E) (c := ctxc n) (ctxLe_cons (ctxLe_cons (ctxLe_cons ctxLe_nil (ref16_insert.sigc_le n)) (ref10_References.sigc_le n)) (ref16_is.sigc_le n)) h)
end ref16_Direct
namespace ref16_ready
abbrev ps : List PM := [.pure api_Scope, .pure (.int .i64), .pure (.sl (.int .i64))]
abbrev rs : List RM := [.pure .bool]
abbrev R : Type := Option (Bool × Unit)
noncomputable def E : Env := { tt := tt, ctx := [(17, ref16_Direct.sig), (24, ref16_has.sig)], nt := 25, ann := [(1000003, [(2, .keep), (7, .keep), (8, .keep)])] }
noncomputable def c0 : Code := sub [1, 1, 1] (bodyOf Try.f25)
noncomputable def c1 : Code := sub [1, 1, 0, 1, 0, 0] (bodyOf Try.f25)
noncomputable def K3 : Kont := .seq c0 .ret
noncomputable def K5 : Kont := .blk 0 K3
noncomputable def fin : ASt → R := Kret E Try.f25.results.toList ps rs
def tL0 (placed : List Int) (l : List Int) (i : Int) : ASt := ⟨[(8, .one (.val (.int .i64) i)), (7, .one (.own 7)), (2, .one (.val (.sl (.int .i64)) placed))], [(7, some ⟨.free, .int .i64, l⟩)]⟩
noncomputable def L0 (placed : List Int) (l : List Int) (i : Int) : R := lim E fin (.loop c1 K5) (tL0 placed l i)
noncomputable def SL0 (placed : List Int) (l : List Int) (i : Int) : R :=
  cond (decide (i < (l.length : Int)))
    (cond (decide (0 ≤ i) && decide (i < (l.length : Int)))
      (Option.bind (ref16_has placed (l.getD i.toNat 0)) fun x1 =>
      cond (!x1.1)
        (some (false, ()))
        (L0 placed l (IntKind.i64.wrap (i + 1))))
      none)
    (some (true, ()))
noncomputable def Se (s : api_ScopeV) (def_1 : Int) (placed : List Int) : R :=
  Option.bind (ref16_Direct s def_1) fun x1 =>
  L0 placed x1.1 0
theorem L0_eq (placed l i) : L0 placed l i = SL0 placed l i := (lim_eq (.loop c1 K5) (tL0 placed l i)).trans (by kernel_rfl)
theorem se (x : (argTy ps).den) : run E (lim E fin) fin depth (bodyOf Try.f25) .ret (entryFrom 0 ps x) = Se x.1 x.2.1 x.2.2.1 := by kernel_rfl
end ref16_ready
noncomputable def ref16_ready (s : api_ScopeV) (def_1 : Int) (placed : List Int) : ref16_ready.R :=
  ref16_ready.Se s def_1 placed
namespace ref16_ready
noncomputable def sig : Sig := ⟨ps, rs, fun x => ref16_ready x.1 x.2.1 x.2.2.1⟩
theorem val (x : (argTy ps).den) : lim E fin (.code (bodyOf Try.f25) .ret) (entryFrom 0 ps x) = sig.run x := (lim_eq (.code (bodyOf Try.f25) .ret) (entryFrom 0 ps x)).trans (se x)
theorem ok : CallOK Try.prog 25 sig :=
  callOK_of_lim (E := E) mixed tt_ok (ctxOk_cons (ctxOk_cons ctxOk_nil ref16_has.ok Try.func24 (by kernel_rfl) (by kernel_rfl)) ref16_Direct.ok Try.func17 (by kernel_rfl) (by kernel_rfl)) Try.func25 (by kernel_rfl : Try.f25.body = some (bodyOf Try.f25)) Try.ntmps25 (of_decide_eq_true (by kernel_rfl)) (of_decide_eq_true (by kernel_rfl)) fun x y h => (val x).trans h
noncomputable def ctxc (n : Nat) : List (Nat × Sig) := [(17, ref16_Direct.sigc n), (24, ref16_has.sigc n)]
noncomputable def sigc (n : Nat) : Sig := ⟨ps, rs, fun x => runs (withCtx E (ctxc n)) fin n (.code (bodyOf Try.f25) .ret) (entryFrom 0 ps x)⟩
theorem sigc_le (n : Nat) : ∀ x y, (sigc n).run x = some y → sig.run x = some y := fun x y h => (val x).symm.trans (runs_lim (E := E) (c := ctxc n) (ctxLe_cons (ctxLe_cons ctxLe_nil (ref16_has.sigc_le n)) (ref16_Direct.sigc_le n)) h)
end ref16_ready
namespace ref16_EvaluationOrder
abbrev ps : List PM := [.pure api_Scope]
abbrev rs : List RM := [.own (.int .i64), .pure (.int .i64)]
abbrev R : Type := Option (List Int × Int × Unit)
noncomputable def E : Env := { tt := tt, ctx := [(24, ref16_has.sig), (25, ref16_ready.sig)], nt := 41, ann := [(1000002, [(1, .keep), (4, .own (.int .i64))]), (6, [(1, .keep), (4, .own (.int .i64)), (5, .keep)]), (1000004, [(1, .keep), (4, .own (.int .i64)), (5, .keep)])] }
noncomputable def c0 : Code := sub [1, 1, 1] (bodyOf Try.f10)
noncomputable def c1 : Code := sub [1, 1, 0, 0, 0] (bodyOf Try.f10)
noncomputable def c2 : Code := sub [1, 1, 0, 0, 0, 1, 0, 1, 1] (bodyOf Try.f10)
noncomputable def c3 : Code := sub [1, 1, 0, 0, 0, 1, 0, 1, 0, 0, 0] (bodyOf Try.f10)
noncomputable def K3 : Kont := .seq c0 .ret
noncomputable def K4 : Kont := .blk 0 K3
noncomputable def K5 : Kont := .loop c1 K4
noncomputable def K8 : Kont := .blk 1 K5
noncomputable def K10 : Kont := .seq c2 K8
noncomputable def K11 : Kont := .blk 2 K10
noncomputable def fin : ASt → R := Kret E Try.f10.results.toList ps rs
def tL0 (s : api_ScopeV) (out : List Int) : ASt := ⟨[(4, .one (.own 4)), (1, .one (.optr 1 0 []))], [(4, some ⟨.free, .int .i64, out⟩), (1, some ⟨.free, api_Scope, [s]⟩)]⟩
def tJ1 (s : api_ScopeV) (out : List Int) (next : Int) : ASt := ⟨[(5, .one (.val (.int .i64) next)), (4, .one (.own 4)), (1, .one (.optr 1 0 []))], [(4, some ⟨.free, .int .i64, out⟩), (1, some ⟨.free, api_Scope, [s]⟩)]⟩
def tL2 (s : api_ScopeV) (out : List Int) (next : Int) : ASt := ⟨[(5, .one (.val (.int .i64) next)), (4, .one (.own 4)), (1, .one (.optr 1 0 []))], [(4, some ⟨.free, .int .i64, out⟩), (1, some ⟨.free, api_Scope, [s]⟩)]⟩
noncomputable def L0 (s : api_ScopeV) (out : List Int) : R := lim E fin (.loop c1 K4) (tL0 s out)
noncomputable def J1 (s : api_ScopeV) (out : List Int) (next : Int) : R := lim E fin (.code c2 K8) (tJ1 s out next)
noncomputable def L2 (s : api_ScopeV) (out : List Int) (next : Int) : R := lim E fin (.loop c3 K11) (tL2 s out next)
noncomputable def SL0 (s : api_ScopeV) (out : List Int) : R :=
  cond (decide ((out.length : Int) < (s.2.2.2.1.length : Int)))
    (L2 s out 0)
    (some (out, 0, ()))
noncomputable def SJ1 (s : api_ScopeV) (out : List Int) (next : Int) : R :=
  cond (next == (s.2.2.2.1.length : Int))
    (some ([], 9, ()))
    (cond (decide ((out.length + 1) * 8 ≤ room) && decide (0 < Ty.nc (.int .i64)))
      (L0 s (out ++ [next]))
      none)
noncomputable def SL2 (s : api_ScopeV) (out : List Int) (next : Int) : R :=
  cond (decide (next < (s.2.2.2.1.length : Int)))
    (Option.bind (ref16_has out next) fun x1 =>
    cond x1.1
      (L2 s out (IntKind.i64.wrap (next + 1)))
      (Option.bind (ref16_ready s next out) fun x2 =>
      cond (!x2.1)
        (L2 s out (IntKind.i64.wrap (next + 1)))
        (J1 s out next)))
    (J1 s out next)
noncomputable def Se (s : api_ScopeV) : R :=
  L0 s []
theorem L0_eq (s out) : L0 s out = SL0 s out := (lim_eq (.loop c1 K4) (tL0 s out)).trans (by kernel_rfl)
theorem J1_eq (s out next) : J1 s out next = SJ1 s out next := (lim_eq (.code c2 K8) (tJ1 s out next)).trans (by kernel_rfl)
theorem L2_eq (s out next) : L2 s out next = SL2 s out next := (lim_eq (.loop c3 K11) (tL2 s out next)).trans (by kernel_rfl)
theorem se (x : (argTy ps).den) : run E (lim E fin) fin depth (bodyOf Try.f10) .ret (entryFrom 0 ps x) = Se x.1 := by kernel_rfl
end ref16_EvaluationOrder
noncomputable def ref16_EvaluationOrder (s : api_ScopeV) : ref16_EvaluationOrder.R :=
  ref16_EvaluationOrder.Se s
namespace ref16_EvaluationOrder
noncomputable def sig : Sig := ⟨ps, rs, fun x => ref16_EvaluationOrder x.1⟩
theorem val (x : (argTy ps).den) : lim E fin (.code (bodyOf Try.f10) .ret) (entryFrom 0 ps x) = sig.run x := (lim_eq (.code (bodyOf Try.f10) .ret) (entryFrom 0 ps x)).trans (se x)
theorem ok : CallOK Try.prog 10 sig :=
  callOK_of_lim (E := E) mixed tt_ok (ctxOk_cons (ctxOk_cons ctxOk_nil ref16_ready.ok Try.func25 (by kernel_rfl) (by kernel_rfl)) ref16_has.ok Try.func24 (by kernel_rfl) (by kernel_rfl)) Try.func10 (by kernel_rfl : Try.f10.body = some (bodyOf Try.f10)) Try.ntmps10 (of_decide_eq_true (by kernel_rfl)) (of_decide_eq_true (by kernel_rfl)) fun x y h => (val x).trans h
noncomputable def ctxc (n : Nat) : List (Nat × Sig) := [(24, ref16_has.sigc n), (25, ref16_ready.sigc n)]
noncomputable def sigc (n : Nat) : Sig := ⟨ps, rs, fun x => runs (withCtx E (ctxc n)) fin n (.code (bodyOf Try.f10) .ret) (entryFrom 0 ps x)⟩
theorem sigc_le (n : Nat) : ∀ x y, (sigc n).run x = some y → sig.run x = some y := fun x y h => (val x).symm.trans (runs_lim (E := E) (c := ctxc n) (ctxLe_cons (ctxLe_cons ctxLe_nil (ref16_ready.sigc_le n)) (ref16_has.sigc_le n)) h)
end ref16_EvaluationOrder
namespace ref16_reach
abbrev ps : List PM := [.pure api_Scope, .pure (.int .i64), .pure (.int .i64), .pure (.int .i64)]
abbrev rs : List RM := [.pure .bool]
abbrev R : Type := Option (Bool × Unit)
noncomputable def E : Env := { tt := tt, ctx := [(24, ref16_has.sig), (17, ref16_Direct.sig), (36, ref16_insert.sig)], nt := 50, ann := [(1000003, [(2, .keep), (3, .keep), (4, .keep), (9, .own (.int .i64)), (10, .keep)]), (1000007, [(2, .keep), (3, .keep), (4, .keep), (9, .keep), (10, .keep), (11, .own (.int .i64)), (12, .keep)]), (1000011, [(2, .keep), (3, .keep), (4, .keep), (9, .keep), (10, .keep), (11, .own (.int .i64)), (12, .keep), (13, .keep), (14, .keep)])] }
noncomputable def c0 : Code := sub [1, 1, 1] (bodyOf Try.f29)
noncomputable def c1 : Code := sub [1, 1, 0, 1, 0, 0] (bodyOf Try.f29)
noncomputable def c2 : Code := sub [1, 1, 0, 1, 0, 0, 1, 1] (bodyOf Try.f29)
noncomputable def c3 : Code := sub [1, 1, 0, 1, 0, 0, 1, 0, 0, 1, 1] (bodyOf Try.f29)
noncomputable def c4 : Code := sub [1, 1, 0, 1, 0, 0, 1, 0, 0, 1, 0, 1, 0, 0] (bodyOf Try.f29)
noncomputable def c5 : Code := sub [1, 1, 0, 1, 0, 0, 1, 0, 0, 1, 0, 1, 0, 0, 1, 1] (bodyOf Try.f29)
noncomputable def c6 : Code := sub [1, 1, 0, 1, 0, 0, 1, 0, 0, 1, 0, 1, 0, 0, 1, 0, 0, 1, 1, 0, 0] (bodyOf Try.f29)
noncomputable def K3 : Kont := .seq c0 .ret
noncomputable def K5 : Kont := .blk 0 K3
noncomputable def K6 : Kont := .loop c1 K5
noncomputable def K9 : Kont := .seq c2 K6
noncomputable def K10 : Kont := .blk 1 K9
noncomputable def K12 : Kont := .seq c3 K10
noncomputable def K14 : Kont := .blk 2 K12
noncomputable def K15 : Kont := .loop c4 K14
noncomputable def K19 : Kont := .seq c5 K15
noncomputable def K20 : Kont := .blk 3 K19
noncomputable def K23 : Kont := .blk 4 K20
noncomputable def fin : ASt → R := Kret E Try.f29.results.toList ps rs
def tL0 (to : Int) (steps : Int) (s : api_ScopeV) (front : List Int) (i : Int) : ASt := ⟨[(10, .one (.val (.int .i64) i)), (9, .one (.own 9)), (4, .one (.optr 4 0 [])), (3, .one (.val (.int .i64) steps)), (2, .one (.val (.int .i64) to))], [(9, some ⟨.free, .int .i64, front⟩), (4, some ⟨.free, api_Scope, [s]⟩)]⟩
def tL1 (to : Int) (steps : Int) (s : api_ScopeV) (front : List Int) (i : Int) (next : List Int) (k : Int) : ASt := ⟨[(12, .one (.val (.int .i64) k)), (11, .one (.own 11)), (10, .one (.val (.int .i64) i)), (9, .one (.own 9)), (4, .one (.optr 4 0 [])), (3, .one (.val (.int .i64) steps)), (2, .one (.val (.int .i64) to))], [(11, some ⟨.free, .int .i64, next⟩), (9, some ⟨.free, .int .i64, front⟩), (4, some ⟨.free, api_Scope, [s]⟩)]⟩
def tL2 (to : Int) (steps : Int) (s : api_ScopeV) (front : List Int) (i : Int) (next : List Int) (k : Int) (d : List Int) (j : Int) : ASt := ⟨[(14, .one (.val (.int .i64) j)), (13, .one (.own 13)), (12, .one (.val (.int .i64) k)), (11, .one (.own 11)), (10, .one (.val (.int .i64) i)), (9, .one (.own 9)), (4, .one (.optr 4 0 [])), (3, .one (.val (.int .i64) steps)), (2, .one (.val (.int .i64) to))], [(13, some ⟨.free, .int .i64, d⟩), (11, some ⟨.free, .int .i64, next⟩), (9, some ⟨.free, .int .i64, front⟩), (4, some ⟨.free, api_Scope, [s]⟩)]⟩
noncomputable def L0 (to : Int) (steps : Int) (s : api_ScopeV) (front : List Int) (i : Int) : R := lim E fin (.loop c1 K5) (tL0 to steps s front i)
noncomputable def L1 (to : Int) (steps : Int) (s : api_ScopeV) (front : List Int) (i : Int) (next : List Int) (k : Int) : R := lim E fin (.loop c4 K14) (tL1 to steps s front i next k)
noncomputable def L2 (to : Int) (steps : Int) (s : api_ScopeV) (front : List Int) (i : Int) (next : List Int) (k : Int) (d : List Int) (j : Int) : R := lim E fin (.loop c6 K23) (tL2 to steps s front i next k d j)
noncomputable def SL0 (to : Int) (steps : Int) (s : api_ScopeV) (front : List Int) (i : Int) : R :=
  cond (decide (i < steps))
    (L1 to steps s front i [] 0)
    (Option.bind (ref16_has front to) fun x1 =>
    some (x1.1, ()))
noncomputable def SL1 (to : Int) (steps : Int) (s : api_ScopeV) (front : List Int) (i : Int) (next : List Int) (k : Int) : R :=
  cond (decide (k < (front.length : Int)))
    (cond (decide (0 ≤ k) && decide (k < (front.length : Int)))
      (Option.bind (ref16_Direct s (front.getD k.toNat 0)) fun x1 =>
      L2 to steps s front i next k x1.1 0)
      none)
    (L0 to steps s next (IntKind.i64.wrap (i + 1)))
noncomputable def SL2 (to : Int) (steps : Int) (s : api_ScopeV) (front : List Int) (i : Int) (next : List Int) (k : Int) (d : List Int) (j : Int) : R :=
  cond (decide (j < (d.length : Int)))
    (cond (decide (0 ≤ j) && decide (j < (d.length : Int)))
      (Option.bind (ref16_insert next (d.getD j.toNat 0)) fun x1 =>
      L2 to steps s front i x1.1 k d (IntKind.i64.wrap (j + 1)))
      none)
    (L1 to steps s front i next (IntKind.i64.wrap (k + 1)))
noncomputable def Se (s : api_ScopeV) (from_1 : Int) (to : Int) (steps : Int) : R :=
  L0 to steps s [from_1] 0
theorem L0_eq (to steps s front i) : L0 to steps s front i = SL0 to steps s front i := (lim_eq (.loop c1 K5) (tL0 to steps s front i)).trans (by kernel_rfl)
theorem L1_eq (to steps s front i next k) : L1 to steps s front i next k = SL1 to steps s front i next k := (lim_eq (.loop c4 K14) (tL1 to steps s front i next k)).trans (by kernel_rfl)
theorem L2_eq (to steps s front i next k d j) : L2 to steps s front i next k d j = SL2 to steps s front i next k d j := (lim_eq (.loop c6 K23) (tL2 to steps s front i next k d j)).trans (by kernel_rfl)
theorem se (x : (argTy ps).den) : run E (lim E fin) fin depth (bodyOf Try.f29) .ret (entryFrom 0 ps x) = Se x.1 x.2.1 x.2.2.1 x.2.2.2.1 := by kernel_rfl
end ref16_reach
noncomputable def ref16_reach (s : api_ScopeV) (from_1 : Int) (to : Int) (steps : Int) : ref16_reach.R :=
  ref16_reach.Se s from_1 to steps
namespace ref16_reach
noncomputable def sig : Sig := ⟨ps, rs, fun x => ref16_reach x.1 x.2.1 x.2.2.1 x.2.2.2.1⟩
theorem val (x : (argTy ps).den) : lim E fin (.code (bodyOf Try.f29) .ret) (entryFrom 0 ps x) = sig.run x := (lim_eq (.code (bodyOf Try.f29) .ret) (entryFrom 0 ps x)).trans (se x)
theorem ok : CallOK Try.prog 29 sig :=
  callOK_of_lim (E := E) mixed tt_ok (ctxOk_cons (ctxOk_cons (ctxOk_cons ctxOk_nil ref16_insert.ok Try.func36 (by kernel_rfl) (by kernel_rfl)) ref16_Direct.ok Try.func17 (by kernel_rfl) (by kernel_rfl)) ref16_has.ok Try.func24 (by kernel_rfl) (by kernel_rfl)) Try.func29 (by kernel_rfl : Try.f29.body = some (bodyOf Try.f29)) Try.ntmps29 (of_decide_eq_true (by kernel_rfl)) (of_decide_eq_true (by kernel_rfl)) fun x y h => (val x).trans h
noncomputable def ctxc (n : Nat) : List (Nat × Sig) := [(24, ref16_has.sigc n), (17, ref16_Direct.sigc n), (36, ref16_insert.sigc n)]
noncomputable def sigc (n : Nat) : Sig := ⟨ps, rs, fun x => runs (withCtx E (ctxc n)) fin n (.code (bodyOf Try.f29) .ret) (entryFrom 0 ps x)⟩
theorem sigc_le (n : Nat) : ∀ x y, (sigc n).run x = some y → sig.run x = some y := fun x y h => (val x).symm.trans (runs_lim (E := E) (c := ctxc n) (ctxLe_cons (ctxLe_cons (ctxLe_cons ctxLe_nil (ref16_insert.sigc_le n)) (ref16_Direct.sigc_le n)) (ref16_has.sigc_le n)) h)
end ref16_reach
namespace ref16_FindCycle
abbrev ps : List PM := [.pure api_Scope]
abbrev rs : List RM := [.own (.int .i64)]
abbrev R : Type := Option (List Int × Unit)
noncomputable def E : Env := { tt := tt, ctx := [(29, ref16_reach.sig), (17, ref16_Direct.sig)], nt := 64, ann := [(1000002, [(1, .keep), (3, .keep)]), (1000005, [(1, .keep), (3, .keep), (4, .keep)]), (1000009, [(1, .keep), (3, .keep), (4, .keep), (5, .keep)]), (1000012, [(1, .keep), (3, .keep), (4, .keep), (5, .keep), (6, .keep), (7, .keep)])] }
noncomputable def c0 : Code := sub [1, 1] (bodyOf Try.f13)
noncomputable def c1 : Code := sub [1, 0, 1, 0, 0] (bodyOf Try.f13)
noncomputable def c2 : Code := sub [1, 0, 1, 0, 0, 1, 1] (bodyOf Try.f13)
noncomputable def c3 : Code := sub [1, 0, 1, 0, 0, 1, 0, 0, 1, 0, 0] (bodyOf Try.f13)
noncomputable def c4 : Code := sub [1, 0, 1, 0, 0, 1, 0, 0, 1, 0, 0, 1, 1] (bodyOf Try.f13)
noncomputable def c5 : Code := sub [1, 0, 1, 0, 0, 1, 0, 0, 1, 0, 0, 1, 0, 0, 1, 1, 1] (bodyOf Try.f13)
noncomputable def c6 : Code := sub [1, 0, 1, 0, 0, 1, 0, 0, 1, 0, 0, 1, 0, 0, 1, 1, 0, 0, 0] (bodyOf Try.f13)
noncomputable def c7 : Code := sub [1, 0, 1, 0, 0, 1, 0, 0, 1, 0, 0, 1, 0, 0, 1, 1, 0, 0, 0, 1, 0, 1, 1, 1] (bodyOf Try.f13)
noncomputable def c8 : Code := sub [1, 0, 1, 0, 0, 1, 0, 0, 1, 0, 0, 1, 0, 0, 1, 1, 0, 0, 0, 1, 0, 1, 1, 0, 0, 0] (bodyOf Try.f13)
noncomputable def K2 : Kont := .seq c0 .ret
noncomputable def K4 : Kont := .blk 0 K2
noncomputable def K5 : Kont := .loop c1 K4
noncomputable def K8 : Kont := .seq c2 K5
noncomputable def K9 : Kont := .blk 1 K8
noncomputable def K11 : Kont := .blk 2 K9
noncomputable def K12 : Kont := .loop c3 K11
noncomputable def K16 : Kont := .seq c4 K12
noncomputable def K17 : Kont := .blk 3 K16
noncomputable def K21 : Kont := .seq c5 K17
noncomputable def K22 : Kont := .blk 4 K21
noncomputable def K23 : Kont := .loop c6 K22
noncomputable def K26 : Kont := .blk 5 K23
noncomputable def K29 : Kont := .seq c7 K26
noncomputable def K30 : Kont := .blk 6 K29
noncomputable def fin : ASt → R := Kret E Try.f13.results.toList ps rs
def tL0 (s : api_ScopeV) (n_3 : Int) : ASt := ⟨[(3, .one (.val (.int .i64) n_3)), (1, .one (.optr 1 0 []))], [(1, some ⟨.free, api_Scope, [s]⟩)]⟩
def tL1 (s : api_ScopeV) (n_3 : Int) (a : Int) : ASt := ⟨[(4, .one (.val (.int .i64) a)), (3, .one (.val (.int .i64) n_3)), (1, .one (.optr 1 0 []))], [(1, some ⟨.free, api_Scope, [s]⟩)]⟩
def tL2 (s : api_ScopeV) (n_3 : Int) (a : Int) (out : List Int) : ASt := ⟨[(5, .one (.own 5)), (4, .one (.val (.int .i64) a)), (3, .one (.val (.int .i64) n_3)), (1, .one (.optr 1 0 []))], [(5, some ⟨.free, .int .i64, out⟩), (1, some ⟨.free, api_Scope, [s]⟩)]⟩
def tL3 (s : api_ScopeV) (n_3 : Int) (a : Int) (out : List Int) (d : List Int) (k : Int) : ASt := ⟨[(7, .one (.val (.int .i64) k)), (6, .one (.own 6)), (5, .one (.own 5)), (4, .one (.val (.int .i64) a)), (3, .one (.val (.int .i64) n_3)), (1, .one (.optr 1 0 []))], [(6, some ⟨.free, .int .i64, d⟩), (5, some ⟨.free, .int .i64, out⟩), (1, some ⟨.free, api_Scope, [s]⟩)]⟩
noncomputable def L0 (s : api_ScopeV) (n_3 : Int) : R := lim E fin (.loop c1 K4) (tL0 s n_3)
noncomputable def L1 (s : api_ScopeV) (n_3 : Int) (a : Int) : R := lim E fin (.loop c3 K11) (tL1 s n_3 a)
noncomputable def L2 (s : api_ScopeV) (n_3 : Int) (a : Int) (out : List Int) : R := lim E fin (.loop c6 K22) (tL2 s n_3 a out)
noncomputable def L3 (s : api_ScopeV) (n_3 : Int) (a : Int) (out : List Int) (d : List Int) (k : Int) : R := lim E fin (.loop c8 K30) (tL3 s n_3 a out d k)
noncomputable def SL0 (s : api_ScopeV) (n_3 : Int) : R :=
  cond (decide (n_3 ≤ (s.2.2.2.1.length : Int)))
    (L1 s n_3 0)
    (some ([], ()))
noncomputable def SL1 (s : api_ScopeV) (n_3 : Int) (a : Int) : R :=
  cond (decide (a < (s.2.2.2.1.length : Int)))
    (Option.bind (ref16_reach s a a n_3) fun x1 =>
    cond (!x1.1)
      (L1 s n_3 (IntKind.i64.wrap (a + 1)))
      (L2 s n_3 a [a]))
    (L0 s (IntKind.i64.wrap (n_3 + 1)))
noncomputable def SL2 (s : api_ScopeV) (n_3 : Int) (a : Int) (out : List Int) : R :=
  cond (decide ((out.length : Int) < n_3))
    (cond (decide (0 ≤ IntKind.i64.wrap ((out.length : Int) - 1)) && decide (IntKind.i64.wrap ((out.length : Int) - 1) < (out.length : Int)))
      (Option.bind (ref16_Direct s (out.getD ((IntKind.i64.wrap ((out.length : Int) - 1)).toNat) 0)) fun x1 =>
      L3 s n_3 a out x1.1 0)
      none)
    (some (out, ()))
noncomputable def SL3 (s : api_ScopeV) (n_3 : Int) (a : Int) (out : List Int) (d : List Int) (k : Int) : R :=
  cond (decide (0 ≤ k) && decide (k < (d.length : Int)))
    (Option.bind (ref16_reach s (d.getD k.toNat 0) a (IntKind.i64.wrap (n_3 - (out.length : Int)))) fun x1 =>
    cond (!x1.1)
      (L3 s n_3 a out d (IntKind.i64.wrap (k + 1)))
      (cond (decide (0 ≤ k) && decide (k < (d.length : Int)))
        (cond (decide ((out.length + 1) * 8 ≤ room) && decide (0 < Ty.nc (.int .i64)))
          (L2 s n_3 a (out ++ [(d.getD k.toNat 0)]))
          none)
        none))
    none
noncomputable def Se (s : api_ScopeV) : R :=
  L0 s 1
theorem L0_eq (s n_3) : L0 s n_3 = SL0 s n_3 := (lim_eq (.loop c1 K4) (tL0 s n_3)).trans (by kernel_rfl)
theorem L1_eq (s n_3 a) : L1 s n_3 a = SL1 s n_3 a := (lim_eq (.loop c3 K11) (tL1 s n_3 a)).trans (by kernel_rfl)
theorem L2_eq (s n_3 a out) : L2 s n_3 a out = SL2 s n_3 a out := (lim_eq (.loop c6 K22) (tL2 s n_3 a out)).trans (by kernel_rfl)
theorem L3_eq (s n_3 a out d k) : L3 s n_3 a out d k = SL3 s n_3 a out d k := (lim_eq (.loop c8 K30) (tL3 s n_3 a out d k)).trans (by kernel_rfl)
theorem se (x : (argTy ps).den) : run E (lim E fin) fin depth (bodyOf Try.f13) .ret (entryFrom 0 ps x) = Se x.1 := by kernel_rfl
end ref16_FindCycle
noncomputable def ref16_FindCycle (s : api_ScopeV) : ref16_FindCycle.R :=
  ref16_FindCycle.Se s
namespace ref16_FindCycle
noncomputable def sig : Sig := ⟨ps, rs, fun x => ref16_FindCycle x.1⟩
theorem val (x : (argTy ps).den) : lim E fin (.code (bodyOf Try.f13) .ret) (entryFrom 0 ps x) = sig.run x := (lim_eq (.code (bodyOf Try.f13) .ret) (entryFrom 0 ps x)).trans (se x)
theorem ok : CallOK Try.prog 13 sig :=
  callOK_of_lim (E := E) mixed tt_ok (ctxOk_cons (ctxOk_cons ctxOk_nil ref16_Direct.ok Try.func17 (by kernel_rfl) (by kernel_rfl)) ref16_reach.ok Try.func29 (by kernel_rfl) (by kernel_rfl)) Try.func13 (by kernel_rfl : Try.f13.body = some (bodyOf Try.f13)) Try.ntmps13 (of_decide_eq_true (by kernel_rfl)) (of_decide_eq_true (by kernel_rfl)) fun x y h => (val x).trans h
noncomputable def ctxc (n : Nat) : List (Nat × Sig) := [(29, ref16_reach.sigc n), (17, ref16_Direct.sigc n)]
noncomputable def sigc (n : Nat) : Sig := ⟨ps, rs, fun x => runs (withCtx E (ctxc n)) fin n (.code (bodyOf Try.f13) .ret) (entryFrom 0 ps x)⟩
theorem sigc_le (n : Nat) : ∀ x y, (sigc n).run x = some y → sig.run x = some y := fun x y h => (val x).symm.trans (runs_lim (E := E) (c := ctxc n) (ctxLe_cons (ctxLe_cons ctxLe_nil (ref16_Direct.sigc_le n)) (ref16_reach.sigc_le n)) h)
end ref16_FindCycle
namespace law16_in
abbrev ps : List PM := [.pure (.sl (.int .i64)), .pure (.int .i64)]
abbrev rs : List RM := [.pure .bool]
abbrev R : Type := Option (Bool × Unit)
noncomputable def E : Env := { tt := tt, ctx := [], nt := 18, ann := [(1000002, [(0, .keep), (1, .keep), (5, .keep)])] }
noncomputable def c0 : Code := sub [1, 1] (bodyOf Try.f14)
noncomputable def c1 : Code := sub [1, 0, 1, 0, 0] (bodyOf Try.f14)
noncomputable def K2 : Kont := .seq c0 .ret
noncomputable def K4 : Kont := .blk 0 K2
noncomputable def fin : ASt → R := Kret E Try.f14.results.toList ps rs
def tL0 (l : List Int) (n_1 : Int) (i : Int) : ASt := ⟨[(5, .one (.val (.int .i64) i)), (1, .one (.val (.int .i64) n_1)), (0, .one (.val (.sl (.int .i64)) l))], []⟩
noncomputable def L0 (l : List Int) (n_1 : Int) (i : Int) : R := lim E fin (.loop c1 K4) (tL0 l n_1 i)
noncomputable def SL0 (l : List Int) (n_1 : Int) (i : Int) : R :=
  cond (decide (i < (l.length : Int)))
    (Option.bind (idx l i) fun x1 =>
    cond (x1 == n_1)
      (some (true, ()))
      (L0 l n_1 (IntKind.i64.wrap (i + 1))))
    (some (false, ()))
noncomputable def Se (l : List Int) (n_1 : Int) : R :=
  L0 l n_1 0
theorem L0_eq (l n_1 i) : L0 l n_1 i = SL0 l n_1 i := (lim_eq (.loop c1 K4) (tL0 l n_1 i)).trans (by kernel_rfl)
theorem se (x : (argTy ps).den) : run E (lim E fin) fin depth (bodyOf Try.f14) .ret (entryFrom 0 ps x) = Se x.1 x.2.1 := by kernel_rfl
end law16_in
noncomputable def law16_in (l : List Int) (n_1 : Int) : law16_in.R :=
  law16_in.Se l n_1
namespace law16_in
noncomputable def sig : Sig := ⟨ps, rs, fun x => law16_in x.1 x.2.1⟩
theorem val (x : (argTy ps).den) : lim E fin (.code (bodyOf Try.f14) .ret) (entryFrom 0 ps x) = sig.run x := (lim_eq (.code (bodyOf Try.f14) .ret) (entryFrom 0 ps x)).trans (se x)
theorem ok : CallOK Try.prog 14 sig :=
  callOK_of_lim (E := E) mixed tt_ok ctxOk_nil Try.func14 (by kernel_rfl : Try.f14.body = some (bodyOf Try.f14)) Try.ntmps14 (of_decide_eq_true (by kernel_rfl)) (of_decide_eq_true (by kernel_rfl)) fun x y h => (val x).trans h
noncomputable def ctxc (n : Nat) : List (Nat × Sig) := []
noncomputable def sigc (n : Nat) : Sig := ⟨ps, rs, fun x => runs (withCtx E (ctxc n)) fin n (.code (bodyOf Try.f14) .ret) (entryFrom 0 ps x)⟩
theorem sigc_le (n : Nat) : ∀ x y, (sigc n).run x = some y → sig.run x = some y := fun x y h => (val x).symm.trans (runs_lim (E := E) (c := ctxc n) ctxLe_nil h)
end law16_in
namespace law16_DepsTopological
abbrev ps : List PM := [.pure api_Scope]
abbrev rs : List RM := [.pure .bool]
abbrev R : Type := Option (Bool × Unit)
noncomputable def E : Env := { tt := tt, ctx := [(7, ref16_Small.sig), (8, law16_awake.sig), (9, deps_EvaluationOrder.sig), (12, deps_FindCycle.sig), (15, deps_Transitive.sig), (14, law16_in.sig), (16, deps_Direct.sig)], nt := 141, ann := [(1000007, [(1, .keep), (3, .keep), (4, .keep), (5, .keep), (6, .keep), (7, .keep)]), (12, [(1, .keep), (3, .keep), (4, .keep), (5, .keep), (6, .keep)]), (1000014, [(1, .keep), (3, .keep), (4, .keep), (5, .keep), (8, .keep)]), (1000025, [(1, .keep), (3, .keep), (10, .keep)]), (19, [(1, .keep), (3, .keep), (4, .keep), (5, .keep), (8, .keep), (9, .keep)]), (1000029, [(1, .keep), (3, .keep), (10, .keep), (11, .keep), (12, .keep)])] }
noncomputable def c0 : Code := sub [1, 1, 1, 1, 1, 1] (bodyOf Try.f5)
noncomputable def c1 : Code := sub [1, 1, 1, 1, 1, 1, 1, 1] (bodyOf Try.f5)
noncomputable def c2 : Code := sub [1, 1, 1, 1, 1, 1, 1, 0, 1, 0, 1] (bodyOf Try.f5)
noncomputable def c3 : Code := sub [1, 1, 1, 1, 1, 1, 1, 1, 1, 1] (bodyOf Try.f5)
noncomputable def c4 : Code := sub [1, 1, 1, 1, 1, 1, 1, 0, 1, 0, 0, 1, 0, 0] (bodyOf Try.f5)
noncomputable def c5 : Code := sub [1, 1, 1, 1, 1, 1, 1, 0, 1, 0, 0, 1, 0, 0, 1, 1] (bodyOf Try.f5)
noncomputable def c6 : Code := sub [1, 1, 1, 1, 1, 1, 1, 1, 1, 0, 1, 0, 0] (bodyOf Try.f5)
noncomputable def c7 : Code := sub [1, 1, 1, 1, 1, 1, 1, 1, 1, 0, 1, 0, 0, 1, 1] (bodyOf Try.f5)
noncomputable def c8 : Code := sub [1, 1, 1, 1, 1, 1, 1, 1, 1, 0, 1, 0, 0, 1, 0, 0, 1, 1] (bodyOf Try.f5)
noncomputable def c9 : Code := sub [1, 1, 1, 1, 1, 0, 1, 0, 0] (bodyOf Try.f5)
noncomputable def c10 : Code := sub [1, 1, 1, 1, 1, 1, 1] (bodyOf Try.f5)
noncomputable def c11 : Code := sub [1, 1, 1, 1, 1, 1, 1, 0, 1, 0, 0, 1, 0, 0, 1, 0, 0, 1, 1] (bodyOf Try.f5)
noncomputable def c12 : Code := sub [1, 1, 1, 1, 1, 1, 1, 1, 1, 0, 1, 0, 0, 1, 0, 0, 1, 0, 1, 0, 0] (bodyOf Try.f5)
noncomputable def K8 : Kont := .seq c0 .ret
noncomputable def K10 : Kont := .blk 0 K8
noncomputable def K19 : Kont := .seq c1 .ret
noncomputable def K21 : Kont := .seq c2 K19
noncomputable def K23 : Kont := .blk 2 K21
noncomputable def K28 : Kont := .seq c3 .ret
noncomputable def K30 : Kont := .blk 4 K28
noncomputable def K24 : Kont := .loop c4 K23
noncomputable def K34 : Kont := .seq c5 K24
noncomputable def K35 : Kont := .blk 3 K34
noncomputable def K31 : Kont := .loop c6 K30
noncomputable def K42 : Kont := .seq c7 K31
noncomputable def K43 : Kont := .blk 5 K42
noncomputable def K45 : Kont := .seq c8 K43
noncomputable def K47 : Kont := .blk 6 K45
noncomputable def fin : ASt → R := Kret E Try.f5.results.toList ps rs
def tL0 (s : api_ScopeV) (l : List Int) (e : Int) (c_5 : List Int) (own : Bool) (d : Int) : ASt := ⟨[(7, .one (.val (.int .i64) d)), (6, .one (.val .bool own)), (5, .one (.own 5)), (4, .one (.val (.int .i64) e)), (3, .one (.own 3)), (1, .one (.optr 1 0 []))], [(5, some ⟨.free, .int .i64, c_5⟩), (3, some ⟨.free, .int .i64, l⟩), (1, some ⟨.free, api_Scope, [s]⟩)]⟩
def tJ1 (s : api_ScopeV) (l : List Int) (e : Int) (c_5 : List Int) (own : Bool) : ASt := ⟨[(6, .one (.val .bool own)), (5, .one (.own 5)), (4, .one (.val (.int .i64) e)), (3, .one (.own 3)), (1, .one (.optr 1 0 []))], [(5, some ⟨.free, .int .i64, c_5⟩), (3, some ⟨.free, .int .i64, l⟩), (1, some ⟨.free, api_Scope, [s]⟩)]⟩
def tL2 (s : api_ScopeV) (l : List Int) (e : Int) (c_5 : List Int) (i : Int) : ASt := ⟨[(8, .one (.val (.int .i64) i)), (5, .one (.own 5)), (4, .one (.val (.int .i64) e)), (3, .one (.own 3)), (1, .one (.optr 1 0 []))], [(5, some ⟨.free, .int .i64, c_5⟩), (3, some ⟨.free, .int .i64, l⟩), (1, some ⟨.free, api_Scope, [s]⟩)]⟩
def tL3 (s : api_ScopeV) (l : List Int) (i : Int) : ASt := ⟨[(10, .one (.val (.int .i64) i)), (3, .one (.own 3)), (1, .one (.optr 1 0 []))], [(3, some ⟨.free, .int .i64, l⟩), (1, some ⟨.free, api_Scope, [s]⟩)]⟩
def tJ4 (s : api_ScopeV) (l : List Int) (e : Int) (c_5 : List Int) (i : Int) (next : Int) : ASt := ⟨[(9, .one (.val (.int .i64) next)), (8, .one (.val (.int .i64) i)), (5, .one (.own 5)), (4, .one (.val (.int .i64) e)), (3, .one (.own 3)), (1, .one (.optr 1 0 []))], [(5, some ⟨.free, .int .i64, c_5⟩), (3, some ⟨.free, .int .i64, l⟩), (1, some ⟨.free, api_Scope, [s]⟩)]⟩
def tL5 (s : api_ScopeV) (l : List Int) (i : Int) (t : List Int) (k : Int) : ASt := ⟨[(12, .one (.val (.int .i64) k)), (11, .one (.own 11)), (10, .one (.val (.int .i64) i)), (3, .one (.own 3)), (1, .one (.optr 1 0 []))], [(11, some ⟨.free, .int .i64, t⟩), (3, some ⟨.free, .int .i64, l⟩), (1, some ⟨.free, api_Scope, [s]⟩)]⟩
noncomputable def L0 (s : api_ScopeV) (l : List Int) (e : Int) (c_5 : List Int) (own : Bool) (d : Int) : R := lim E fin (.loop c9 K10) (tL0 s l e c_5 own d)
noncomputable def J1 (s : api_ScopeV) (l : List Int) (e : Int) (c_5 : List Int) (own : Bool) : R := lim E fin (.code c10 .ret) (tJ1 s l e c_5 own)
noncomputable def L2 (s : api_ScopeV) (l : List Int) (e : Int) (c_5 : List Int) (i : Int) : R := lim E fin (.loop c4 K23) (tL2 s l e c_5 i)
noncomputable def L3 (s : api_ScopeV) (l : List Int) (i : Int) : R := lim E fin (.loop c6 K30) (tL3 s l i)
noncomputable def J4 (s : api_ScopeV) (l : List Int) (e : Int) (c_5 : List Int) (i : Int) (next : Int) : R := lim E fin (.code c11 K35) (tJ4 s l e c_5 i next)
noncomputable def L5 (s : api_ScopeV) (l : List Int) (i : Int) (t : List Int) (k : Int) : R := lim E fin (.loop c12 K47) (tL5 s l i t k)
noncomputable def SL0 (s : api_ScopeV) (l : List Int) (e : Int) (c_5 : List Int) (own : Bool) (d : Int) : R :=
  cond (decide (d < (s.2.2.2.1.length : Int)))
    (cond own
      (L0 s l e c_5 true (IntKind.i64.wrap (d + 1)))
      (Option.bind (deps_Transitive s d) fun x1 =>
      Option.bind (law16_in x1.1 d) fun x2 =>
      L0 s l e c_5 x2.1 (IntKind.i64.wrap (d + 1))))
    (cond (!((e != 0) == own))
      (some (false, ()))
      (cond (!(own == (decide ((c_5.length : Int) > 0))))
        (some (false, ()))
        (J1 s l e c_5 own)))
noncomputable def SJ1 (s : api_ScopeV) (l : List Int) (e : Int) (c_5 : List Int) (own : Bool) : R :=
  cond own
    (L2 s l e c_5 0)
    (cond ((l.length : Int) != (s.2.2.2.1.length : Int))
      (some (false, ()))
      (L3 s l 0))
noncomputable def SL2 (s : api_ScopeV) (l : List Int) (e : Int) (c_5 : List Int) (i : Int) : R :=
  cond (decide (i < (c_5.length : Int)))
    (cond (decide (0 ≤ 0) && decide (0 < (c_5.length : Int)))
      (cond (decide ((IntKind.i64.wrap (i + 1)) < (c_5.length : Int)))
        (cond (decide (0 ≤ IntKind.i64.wrap (i + 1)) && decide (IntKind.i64.wrap (i + 1) < (c_5.length : Int)))
          (J4 s l e c_5 i (c_5.getD ((IntKind.i64.wrap (i + 1)).toNat) 0))
          none)
        (J4 s l e c_5 i (c_5.getD 0 0)))
      none)
    (cond (e == 9)
      (cond ((l.length : Int) == 0)
        (Option.bind law16_awake fun x1 =>
        some (x1.1, ()))
        (some (false, ())))
      (some (false, ())))
noncomputable def SL3 (s : api_ScopeV) (l : List Int) (i : Int) : R :=
  cond (decide (i < (l.length : Int)))
    (cond (decide (0 ≤ i) && decide (i < (l.length : Int)))
      (Option.bind (deps_Transitive s (l.getD i.toNat 0)) fun x1 =>
      L5 s l i x1.1 0)
      none)
    (Option.bind law16_awake fun x2 =>
    some (x2.1, ()))
noncomputable def SJ4 (s : api_ScopeV) (l : List Int) (e : Int) (c_5 : List Int) (i : Int) (next : Int) : R :=
  cond (decide (0 ≤ i) && decide (i < (c_5.length : Int)))
    (Option.bind (deps_Direct s (c_5.getD i.toNat 0)) fun x1 =>
    Option.bind (law16_in x1.1 next) fun x2 =>
    cond (!x2.1)
      (some (false, ()))
      (cond (decide ((0 : Int) ≤ 0) && (decide ((0 : Int) ≤ i) && decide (i ≤ (c_5.length : Int))))
        (cond (decide (0 ≤ i) && decide (i < (c_5.length : Int)))
          (Option.bind (law16_in (c_5.take i.toNat) (c_5.getD i.toNat 0)) fun x3 =>
          cond x3.1
            (some (false, ()))
            (L2 s l e c_5 (IntKind.i64.wrap (i + 1))))
          none)
        none))
    none
noncomputable def SL5 (s : api_ScopeV) (l : List Int) (i : Int) (t : List Int) (k : Int) : R :=
  cond (decide (k < (t.length : Int)))
    (cond (decide ((0 : Int) ≤ 0) && (decide ((0 : Int) ≤ i) && decide (i ≤ (l.length : Int))))
      (cond (decide (0 ≤ k) && decide (k < (t.length : Int)))
        (Option.bind (law16_in (l.take i.toNat) (t.getD k.toNat 0)) fun x1 =>
        cond (!x1.1)
          (some (false, ()))
          (L5 s l i t (IntKind.i64.wrap (k + 1))))
        none)
      none)
    (cond (decide ((0 : Int) ≤ 0) && (decide ((0 : Int) ≤ i) && decide (i ≤ (l.length : Int))))
      (cond (decide (0 ≤ i) && decide (i < (l.length : Int)))
        (Option.bind (law16_in (l.take i.toNat) (l.getD i.toNat 0)) fun x2 =>
        cond x2.1
          (some (false, ()))
          (L3 s l (IntKind.i64.wrap (i + 1))))
        none)
      none)
noncomputable def Se (s : api_ScopeV) : R :=
  Option.bind (ref16_Small s) fun x1 =>
  cond (!x1.1)
    (Option.bind law16_awake fun x2 =>
    some (x2.1, ()))
    (Option.bind (deps_EvaluationOrder s) fun x3 =>
    Option.bind (deps_FindCycle s) fun x4 =>
    L0 s x3.1 x3.2.1 x4.1 false 0)
theorem L0_eq (s l e c_5 own d) : L0 s l e c_5 own d = SL0 s l e c_5 own d := (lim_eq (.loop c9 K10) (tL0 s l e c_5 own d)).trans (by kernel_rfl)
theorem J1_eq (s l e c_5 own) : J1 s l e c_5 own = SJ1 s l e c_5 own := (lim_eq (.code c10 .ret) (tJ1 s l e c_5 own)).trans (by kernel_rfl)
theorem L2_eq (s l e c_5 i) : L2 s l e c_5 i = SL2 s l e c_5 i := (lim_eq (.loop c4 K23) (tL2 s l e c_5 i)).trans (by kernel_rfl)
theorem L3_eq (s l i) : L3 s l i = SL3 s l i := (lim_eq (.loop c6 K30) (tL3 s l i)).trans (by kernel_rfl)
theorem J4_eq (s l e c_5 i next) : J4 s l e c_5 i next = SJ4 s l e c_5 i next := (lim_eq (.code c11 K35) (tJ4 s l e c_5 i next)).trans (by kernel_rfl)
theorem L5_eq (s l i t k) : L5 s l i t k = SL5 s l i t k := (lim_eq (.loop c12 K47) (tL5 s l i t k)).trans (by kernel_rfl)
theorem se (x : (argTy ps).den) : run E (lim E fin) fin depth (bodyOf Try.f5) .ret (entryFrom 0 ps x) = Se x.1 := by kernel_rfl
end law16_DepsTopological
noncomputable def law16_DepsTopological (s : api_ScopeV) : law16_DepsTopological.R :=
  law16_DepsTopological.Se s
namespace law16_DepsTopological
noncomputable def sig : Sig := ⟨ps, rs, fun x => law16_DepsTopological x.1⟩
theorem val (x : (argTy ps).den) : lim E fin (.code (bodyOf Try.f5) .ret) (entryFrom 0 ps x) = sig.run x := (lim_eq (.code (bodyOf Try.f5) .ret) (entryFrom 0 ps x)).trans (se x)
theorem ok : CallOK Try.prog 5 sig :=
  callOK_of_lim (E := E) mixed tt_ok (ctxOk_cons (ctxOk_cons (ctxOk_cons (ctxOk_cons (ctxOk_cons (ctxOk_cons (ctxOk_cons ctxOk_nil deps_Direct.ok Try.func16 (by kernel_rfl) (by kernel_rfl)) law16_in.ok Try.func14 (by kernel_rfl) (by kernel_rfl)) deps_Transitive.ok Try.func15 (by kernel_rfl) (by kernel_rfl)) deps_FindCycle.ok Try.func12 (by kernel_rfl) (by kernel_rfl)) deps_EvaluationOrder.ok Try.func9 (by kernel_rfl) (by kernel_rfl)) law16_awake.ok Try.func8 (by kernel_rfl) (by kernel_rfl)) ref16_Small.ok Try.func7 (by kernel_rfl) (by kernel_rfl)) Try.func5 (by kernel_rfl : Try.f5.body = some (bodyOf Try.f5)) Try.ntmps5 (of_decide_eq_true (by kernel_rfl)) (of_decide_eq_true (by kernel_rfl)) fun x y h => (val x).trans h
noncomputable def ctxc (n : Nat) : List (Nat × Sig) := [(7, ref16_Small.sigc n), (8, law16_awake.sigc n), (9, deps_EvaluationOrder.sigc n), (12, deps_FindCycle.sigc n), (15, deps_Transitive.sigc n), (14, law16_in.sigc n), (16, deps_Direct.sigc n)]
noncomputable def sigc (n : Nat) : Sig := ⟨ps, rs, fun x => runs (withCtx E (ctxc n)) fin n (.code (bodyOf Try.f5) .ret) (entryFrom 0 ps x)⟩
theorem sigc_le (n : Nat) : ∀ x y, (sigc n).run x = some y → sig.run x = some y := fun x y h => (val x).symm.trans (runs_lim (E := E) (c := ctxc n) (ctxLe_cons (ctxLe_cons (ctxLe_cons (ctxLe_cons (ctxLe_cons (ctxLe_cons (ctxLe_cons ctxLe_nil (deps_Direct.sigc_le n)) (law16_in.sigc_le n)) (deps_Transitive.sigc_le n)) (deps_FindCycle.sigc_le n)) (deps_EvaluationOrder.sigc_le n)) (law16_awake.sigc_le n)) (ref16_Small.sigc_le n)) h)
end law16_DepsTopological
namespace ref16_Transitive
abbrev ps : List PM := [.pure api_Scope, .pure (.int .i64)]
abbrev rs : List RM := [.pure (.sl (.int .i64))]
abbrev R : Type := Option (List Int × Unit)
noncomputable def E : Env := { tt := tt, ctx := [(17, ref16_Direct.sig), (36, ref16_insert.sig)], nt := 47, ann := [(1000003, [(2, .keep), (5, .pure (.int .i64)), (6, .keep)]), (1000007, [(2, .keep), (5, .pure (.int .i64)), (6, .keep), (7, .pure (.int .i64)), (8, .keep)]), (1000011, [(2, .keep), (5, .pure (.int .i64)), (6, .keep), (7, .pure (.int .i64)), (8, .keep), (9, .keep), (10, .keep)])] }
noncomputable def c0 : Code := sub [1, 1, 1] (bodyOf Try.f18)
noncomputable def c1 : Code := sub [1, 1, 0, 1, 0, 0] (bodyOf Try.f18)
noncomputable def c2 : Code := sub [1, 1, 0, 1, 0, 0, 1, 1] (bodyOf Try.f18)
noncomputable def c3 : Code := sub [1, 1, 0, 1, 0, 0, 1, 0, 0, 1, 1, 0, 0] (bodyOf Try.f18)
noncomputable def c4 : Code := sub [1, 1, 0, 1, 0, 0, 1, 0, 0, 1, 1, 0, 0, 1, 1] (bodyOf Try.f18)
noncomputable def c5 : Code := sub [1, 1, 0, 1, 0, 0, 1, 0, 0, 1, 1, 0, 0, 1, 0, 0, 1, 1, 0, 0] (bodyOf Try.f18)
noncomputable def K3 : Kont := .seq c0 .ret
noncomputable def K5 : Kont := .blk 0 K3
noncomputable def K6 : Kont := .loop c1 K5
noncomputable def K9 : Kont := .seq c2 K6
noncomputable def K10 : Kont := .blk 1 K9
noncomputable def K13 : Kont := .blk 2 K10
noncomputable def K14 : Kont := .loop c3 K13
noncomputable def K18 : Kont := .seq c4 K14
noncomputable def K19 : Kont := .blk 3 K18
noncomputable def K22 : Kont := .blk 4 K19
noncomputable def fin : ASt → R := Kret E Try.f18.results.toList ps rs
def tL0 (s : api_ScopeV) (out : List Int) (round : Int) : ASt := ⟨[(6, .one (.val (.int .i64) round)), (5, .one (.val (.sl (.int .i64)) out)), (2, .one (.optr 2 0 []))], [(2, some ⟨.free, api_Scope, [s]⟩)]⟩
def tL1 (s : api_ScopeV) (out : List Int) (round : Int) (l : List Int) (i : Int) : ASt := ⟨[(8, .one (.val (.int .i64) i)), (7, .one (.val (.sl (.int .i64)) l)), (6, .one (.val (.int .i64) round)), (5, .one (.val (.sl (.int .i64)) out)), (2, .one (.optr 2 0 []))], [(2, some ⟨.free, api_Scope, [s]⟩)]⟩
def tL2 (s : api_ScopeV) (out : List Int) (round : Int) (l : List Int) (i : Int) (d : List Int) (k : Int) : ASt := ⟨[(10, .one (.val (.int .i64) k)), (9, .one (.own 9)), (8, .one (.val (.int .i64) i)), (7, .one (.val (.sl (.int .i64)) l)), (6, .one (.val (.int .i64) round)), (5, .one (.val (.sl (.int .i64)) out)), (2, .one (.optr 2 0 []))], [(9, some ⟨.free, .int .i64, d⟩), (2, some ⟨.free, api_Scope, [s]⟩)]⟩
noncomputable def L0 (s : api_ScopeV) (out : List Int) (round : Int) : R := lim E fin (.loop c1 K5) (tL0 s out round)
noncomputable def L1 (s : api_ScopeV) (out : List Int) (round : Int) (l : List Int) (i : Int) : R := lim E fin (.loop c3 K13) (tL1 s out round l i)
noncomputable def L2 (s : api_ScopeV) (out : List Int) (round : Int) (l : List Int) (i : Int) (d : List Int) (k : Int) : R := lim E fin (.loop c5 K22) (tL2 s out round l i d k)
noncomputable def SL0 (s : api_ScopeV) (out : List Int) (round : Int) : R :=
  cond (decide (round < (s.2.2.2.1.length : Int)))
    (L1 s out round out 0)
    (some (out, ()))
noncomputable def SL1 (s : api_ScopeV) (out : List Int) (round : Int) (l : List Int) (i : Int) : R :=
  cond (decide (i < (l.length : Int)))
    (Option.bind (idx l i) fun x1 =>
    Option.bind (ref16_Direct s x1) fun x2 =>
    L2 s out round l i x2.1 0)
    (L0 s out (IntKind.i64.wrap (round + 1)))
noncomputable def SL2 (s : api_ScopeV) (out : List Int) (round : Int) (l : List Int) (i : Int) (d : List Int) (k : Int) : R :=
  cond (decide (k < (d.length : Int)))
    (cond (decide (0 ≤ k) && decide (k < (d.length : Int)))
      (Option.bind (ref16_insert out (d.getD k.toNat 0)) fun x1 =>
      L2 s x1.1 round l i d (IntKind.i64.wrap (k + 1)))
      none)
    (L1 s out round l (IntKind.i64.wrap (i + 1)))
noncomputable def Se (s : api_ScopeV) (def_1 : Int) : R :=
  Option.bind (ref16_Direct s def_1) fun x1 =>
  L0 s x1.1 0
theorem L0_eq (s out round) : L0 s out round = SL0 s out round := (lim_eq (.loop c1 K5) (tL0 s out round)).trans (by kernel_rfl)
theorem L1_eq (s out round l i) : L1 s out round l i = SL1 s out round l i := (lim_eq (.loop c3 K13) (tL1 s out round l i)).trans (by kernel_rfl)
theorem L2_eq (s out round l i d k) : L2 s out round l i d k = SL2 s out round l i d k := (lim_eq (.loop c5 K22) (tL2 s out round l i d k)).trans (by kernel_rfl)
theorem se (x : (argTy ps).den) : run E (lim E fin) fin depth (bodyOf Try.f18) .ret (entryFrom 0 ps x) = Se x.1 x.2.1 := by kernel_rfl
end ref16_Transitive
noncomputable def ref16_Transitive (s : api_ScopeV) (def_1 : Int) : ref16_Transitive.R :=
  ref16_Transitive.Se s def_1
namespace ref16_Transitive
noncomputable def sig : Sig := ⟨ps, rs, fun x => ref16_Transitive x.1 x.2.1⟩
theorem val (x : (argTy ps).den) : lim E fin (.code (bodyOf Try.f18) .ret) (entryFrom 0 ps x) = sig.run x := (lim_eq (.code (bodyOf Try.f18) .ret) (entryFrom 0 ps x)).trans (se x)
theorem ok : CallOK Try.prog 18 sig :=
  callOK_of_lim (E := E) mixed tt_ok (ctxOk_cons (ctxOk_cons ctxOk_nil ref16_insert.ok Try.func36 (by kernel_rfl) (by kernel_rfl)) ref16_Direct.ok Try.func17 (by kernel_rfl) (by kernel_rfl)) Try.func18 (by kernel_rfl : Try.f18.body = some (bodyOf Try.f18)) Try.ntmps18 (of_decide_eq_true (by kernel_rfl)) (of_decide_eq_true (by kernel_rfl)) fun x y h => (val x).trans h
noncomputable def ctxc (n : Nat) : List (Nat × Sig) := [(17, ref16_Direct.sigc n), (36, ref16_insert.sigc n)]
noncomputable def sigc (n : Nat) : Sig := ⟨ps, rs, fun x => runs (withCtx E (ctxc n)) fin n (.code (bodyOf Try.f18) .ret) (entryFrom 0 ps x)⟩
theorem sigc_le (n : Nat) : ∀ x y, (sigc n).run x = some y → sig.run x = some y := fun x y h => (val x).symm.trans (runs_lim (E := E) (c := ctxc n) (ctxLe_cons (ctxLe_cons ctxLe_nil (ref16_insert.sigc_le n)) (ref16_Direct.sigc_le n)) h)
end ref16_Transitive
end Go.Proofs.Ytdkglohjlfoncaa
