import Derived.Test.YtdkglohjlfoncaaTys
set_option maxRecDepth 100000
set_option linter.unusedVariables false
namespace Go.Proofs.Ytdkglohjlfoncaa
open Go Go.Lift
namespace ref16_Small
abbrev ps : List PM := [.pure api_Scope]
abbrev rs : List RM := [.pure .bool]
abbrev R : Type := Option (Bool × Unit)
noncomputable def E : Env := { tt := tt, ctx := [], nt := 39, ann := [(3, [(1, .keep)]), (1000004, [(1, .keep), (3, .keep)])] }
noncomputable def c0 : Code := sub [1, 1, 1] (bodyOf Try.f7)
noncomputable def c1 : Code := sub [1, 1] (bodyOf Try.f7)
noncomputable def c2 : Code := sub [1, 1, 0, 1, 0, 0] (bodyOf Try.f7)
noncomputable def K5 : Kont := .seq c0 .ret
noncomputable def K7 : Kont := .blk 0 K5
noncomputable def fin : ASt → R := Kret E Try.f7.results.toList ps rs
def tJ0 (s : api_ScopeV) : ASt := ⟨[(1, .one (.optr 1 0 []))], [(1, some ⟨.free, api_Scope, [s]⟩)]⟩
def tL1 (s : api_ScopeV) (i : Int) : ASt := ⟨[(3, .one (.val (.int .i64) i)), (1, .one (.optr 1 0 []))], [(1, some ⟨.free, api_Scope, [s]⟩)]⟩
noncomputable def J0 (s : api_ScopeV) : R := lim E fin (.code c1 .ret) (tJ0 s)
noncomputable def L1 (s : api_ScopeV) (i : Int) : R := lim E fin (.loop c2 K7) (tL1 s i)
noncomputable def SJ0 (s : api_ScopeV) : R :=
  L1 s 0
noncomputable def SL1 (s : api_ScopeV) (i : Int) : R :=
  cond (decide (i < (s.2.2.2.2.1.length : Int)))
    (Option.bind (idx s.2.2.2.2.1 i) fun x1 =>
    cond (decide ((x1.2.2.2.2.2.1.length : Int) > 60))
      (some (false, ()))
      (Option.bind (idx s.2.2.2.2.1 i) fun x2 =>
      cond (decide ((x2.2.2.2.2.2.2.1.length : Int) > 60))
        (some (false, ()))
        (L1 s (IntKind.i64.wrap (i + 1)))))
    (some (true, ()))
noncomputable def Se (s : api_ScopeV) : R :=
  cond (decide ((s.2.2.2.1.length : Int) > 14))
    (some (false, ()))
    (cond (decide ((s.2.2.2.2.1.length : Int) > 40))
      (some (false, ()))
      (J0 s))
theorem J0_eq (s) : J0 s = SJ0 s := (lim_eq (.code c1 .ret) (tJ0 s)).trans (by kernel_rfl)
theorem L1_eq (s i) : L1 s i = SL1 s i := (lim_eq (.loop c2 K7) (tL1 s i)).trans (by kernel_rfl)
theorem se (x : (argTy ps).den) : run E (lim E fin) fin depth (bodyOf Try.f7) .ret (entryFrom 0 ps x) = Se x.1 := by kernel_rfl
end ref16_Small
noncomputable def ref16_Small (s : api_ScopeV) : ref16_Small.R :=
  ref16_Small.Se s
namespace ref16_Small
noncomputable def sig : Sig := ⟨ps, rs, fun x => ref16_Small x.1⟩
theorem val (x : (argTy ps).den) : lim E fin (.code (bodyOf Try.f7) .ret) (entryFrom 0 ps x) = sig.run x := (lim_eq (.code (bodyOf Try.f7) .ret) (entryFrom 0 ps x)).trans (se x)
theorem ok : CallOK Try.prog 7 sig :=
  callOK_of_lim (E := E) mixed tt_ok ctxOk_nil Try.func7 (by kernel_rfl : Try.f7.body = some (bodyOf Try.f7)) Try.ntmps7 (of_decide_eq_true (by kernel_rfl)) (of_decide_eq_true (by kernel_rfl)) fun x y h => (val x).trans h
noncomputable def ctxc (n : Nat) : List (Nat × Sig) := []
noncomputable def sigc (n : Nat) : Sig := ⟨ps, rs, fun x => runs (withCtx E (ctxc n)) fin n (.code (bodyOf Try.f7) .ret) (entryFrom 0 ps x)⟩
theorem sigc_le (n : Nat) : ∀ x y, (sigc n).run x = some y → sig.run x = some y := fun x y h => (val x).symm.trans (runs_lim (E := E) (c := ctxc n) ctxLe_nil h)
end ref16_Small
namespace law16_node
abbrev ps : List PM := [.pure (.int .i64)]
abbrev rs : List RM := [.own api_DateRange]
abbrev R : Type := Option (List api_DateRangeV × Unit)
noncomputable def E : Env := { tt := tt, ctx := [], nt := 6, ann := [] }
noncomputable def fin : ASt → R := Kret E Try.f21.results.toList ps rs
noncomputable def Se (def_0 : Int) : R :=
  some ([(8, def_0, ())], ())
theorem se (x : (argTy ps).den) : run E (lim E fin) fin depth (bodyOf Try.f21) .ret (entryFrom 0 ps x) = Se x.1 := by kernel_rfl
end law16_node
noncomputable def law16_node (def_0 : Int) : law16_node.R :=
  law16_node.Se def_0
namespace law16_node
noncomputable def sig : Sig := ⟨ps, rs, fun x => law16_node x.1⟩
theorem val (x : (argTy ps).den) : lim E fin (.code (bodyOf Try.f21) .ret) (entryFrom 0 ps x) = sig.run x := (lim_eq (.code (bodyOf Try.f21) .ret) (entryFrom 0 ps x)).trans (se x)
theorem ok : CallOK Try.prog 21 sig :=
  callOK_of_lim (E := E) mixed tt_ok ctxOk_nil Try.func21 (by kernel_rfl : Try.f21.body = some (bodyOf Try.f21)) Try.ntmps21 (of_decide_eq_true (by kernel_rfl)) (of_decide_eq_true (by kernel_rfl)) fun x y h => (val x).trans h
noncomputable def ctxc (n : Nat) : List (Nat × Sig) := []
noncomputable def sigc (n : Nat) : Sig := ⟨ps, rs, fun x => runs (withCtx E (ctxc n)) fin n (.code (bodyOf Try.f21) .ret) (entryFrom 0 ps x)⟩
theorem sigc_le (n : Nat) : ∀ x y, (sigc n).run x = some y → sig.run x = some y := fun x y h => (val x).symm.trans (runs_lim (E := E) (c := ctxc n) ctxLe_nil h)
end law16_node
namespace deps_valid
abbrev ps : List PM := [.pure api_Scope, .pure (.int .i64)]
abbrev rs : List RM := [.pure .bool]
abbrev R : Type := Option (Bool × Unit)
noncomputable def E : Env := { tt := tt, ctx := [], nt := 14, ann := [] }
noncomputable def fin : ASt → R := Kret E Try.f30.results.toList ps rs
noncomputable def Se (s : api_ScopeV) (def_1 : Int) : R :=
  cond (decide (def_1 ≥ 0))
    (some (decide (def_1 < (s.2.2.2.1.length : Int)), ()))
    (some (false, ()))
theorem se (x : (argTy ps).den) : run E (lim E fin) fin depth (bodyOf Try.f30) .ret (entryFrom 0 ps x) = Se x.1 x.2.1 := by kernel_rfl
end deps_valid
noncomputable def deps_valid (s : api_ScopeV) (def_1 : Int) : deps_valid.R :=
  deps_valid.Se s def_1
namespace deps_valid
noncomputable def sig : Sig := ⟨ps, rs, fun x => deps_valid x.1 x.2.1⟩
theorem val (x : (argTy ps).den) : lim E fin (.code (bodyOf Try.f30) .ret) (entryFrom 0 ps x) = sig.run x := (lim_eq (.code (bodyOf Try.f30) .ret) (entryFrom 0 ps x)).trans (se x)
theorem ok : CallOK Try.prog 30 sig :=
  callOK_of_lim (E := E) mixed tt_ok ctxOk_nil Try.func30 (by kernel_rfl : Try.f30.body = some (bodyOf Try.f30)) Try.ntmps30 (of_decide_eq_true (by kernel_rfl)) (of_decide_eq_true (by kernel_rfl)) fun x y h => (val x).trans h
noncomputable def ctxc (n : Nat) : List (Nat × Sig) := []
noncomputable def sigc (n : Nat) : Sig := ⟨ps, rs, fun x => runs (withCtx E (ctxc n)) fin n (.code (bodyOf Try.f30) .ret) (entryFrom 0 ps x)⟩
theorem sigc_le (n : Nat) : ∀ x y, (sigc n).run x = some y → sig.run x = some y := fun x y h => (val x).symm.trans (runs_lim (E := E) (c := ctxc n) ctxLe_nil h)
end deps_valid
namespace math_bits_Len64
abbrev ps : List PM := [.pure (.int .u64)]
abbrev rs : List RM := [.pure (.int .i64)]
abbrev R : Type := Option (Int × Unit)
noncomputable def E : Env := { tt := tt, ctx := [], nt := 25, ann := [(4, [(0, .keep), (2, .keep)]), (7, [(0, .keep), (2, .keep)])] }
noncomputable def c0 : Code := sub [1, 1] (bodyOf Try.f55)
noncomputable def c1 : Code := sub [1, 1, 1] (bodyOf Try.f55)
noncomputable def fin : ASt → R := Kret E Try.f55.results.toList ps rs
def tJ0 (x_0 : Int) (n_2 : Int) : ASt := ⟨[(2, .one (.val (.int .i64) n_2)), (0, .one (.val (.int .u64) x_0))], []⟩
def tJ1 (x_0 : Int) (n_2 : Int) : ASt := ⟨[(2, .one (.val (.int .i64) n_2)), (0, .one (.val (.int .u64) x_0))], []⟩
noncomputable def J0 (x_0 : Int) (n_2 : Int) : R := lim E fin (.code c0 .ret) (tJ0 x_0 n_2)
noncomputable def J1 (x_0 : Int) (n_2 : Int) : R := lim E fin (.code c1 .ret) (tJ1 x_0 n_2)
noncomputable def SJ0 (x_0 : Int) (n_2 : Int) : R :=
  cond (decide (x_0 ≥ 65536))
    (J1 (Int.fdiv x_0 (2 ^ (min 16 IntKind.u64.bits))) (IntKind.i64.wrap (n_2 + 16)))
    (J1 x_0 n_2)
noncomputable def SJ1 (x_0 : Int) (n_2 : Int) : R :=
  cond (decide (x_0 ≥ 256))
    (Option.bind (idx ([0, 1, 2, 2, 3, 3, 3, 3, 4, 4, 4, 4, 4, 4, 4, 4, 5, 5, 5, 5, 5, 5, 5, 5, 5, 5, 5, 5, 5, 5, 5, 5, 6, 6, 6, 6, 6, 6, 6, 6, 6, 6, 6, 6, 6, 6, 6, 6, 6, 6, 6, 6, 6, 6, 6, 6, 6, 6, 6, 6, 6, 6, 6, 6, 7, 7, 7, 7, 7, 7, 7, 7, 7, 7, 7, 7, 7, 7, 7, 7, 7, 7, 7, 7, 7, 7, 7, 7, 7, 7, 7, 7, 7, 7, 7, 7, 7, 7, 7, 7, 7, 7, 7, 7, 7, 7, 7, 7, 7, 7, 7, 7, 7, 7, 7, 7, 7, 7, 7, 7, 7, 7, 7, 7, 7, 7, 7, 7, 8, 8, 8, 8, 8, 8, 8, 8, 8, 8, 8, 8, 8, 8, 8, 8, 8, 8, 8, 8, 8, 8, 8, 8, 8, 8, 8, 8, 8, 8, 8, 8, 8, 8, 8, 8, 8, 8, 8, 8, 8, 8, 8, 8, 8, 8, 8, 8, 8, 8, 8, 8, 8, 8, 8, 8, 8, 8, 8, 8, 8, 8, 8, 8, 8, 8, 8, 8, 8, 8, 8, 8, 8, 8, 8, 8, 8, 8, 8, 8, 8, 8, 8, 8, 8, 8, 8, 8, 8, 8, 8, 8, 8, 8, 8, 8, 8, 8, 8, 8, 8, 8, 8, 8, 8, 8, 8, 8, 8, 8, 8, 8, 8, 8, 8, 8, 8, 8, 8, 8, 8, 8, 8, 8, 8, 8, 8, 8] : List UInt8) (IntKind.u8.wrap (Int.fdiv x_0 (2 ^ (min 8 IntKind.u64.bits))))) fun x1 =>
    some (IntKind.i64.wrap ((IntKind.i64.wrap (n_2 + 8)) + (IntKind.i64.wrap (x1.toNat : Int))), ()))
    (Option.bind (idx ([0, 1, 2, 2, 3, 3, 3, 3, 4, 4, 4, 4, 4, 4, 4, 4, 5, 5, 5, 5, 5, 5, 5, 5, 5, 5, 5, 5, 5, 5, 5, 5, 6, 6, 6, 6, 6, 6, 6, 6, 6, 6, 6, 6, 6, 6, 6, 6, 6, 6, 6, 6, 6, 6, 6, 6, 6, 6, 6, 6, 6, 6, 6, 6, 7, 7, 7, 7, 7, 7, 7, 7, 7, 7, 7, 7, 7, 7, 7, 7, 7, 7, 7, 7, 7, 7, 7, 7, 7, 7, 7, 7, 7, 7, 7, 7, 7, 7, 7, 7, 7, 7, 7, 7, 7, 7, 7, 7, 7, 7, 7, 7, 7, 7, 7, 7, 7, 7, 7, 7, 7, 7, 7, 7, 7, 7, 7, 7, 8, 8, 8, 8, 8, 8, 8, 8, 8, 8, 8, 8, 8, 8, 8, 8, 8, 8, 8, 8, 8, 8, 8, 8, 8, 8, 8, 8, 8, 8, 8, 8, 8, 8, 8, 8, 8, 8, 8, 8, 8, 8, 8, 8, 8, 8, 8, 8, 8, 8, 8, 8, 8, 8, 8, 8, 8, 8, 8, 8, 8, 8, 8, 8, 8, 8, 8, 8, 8, 8, 8, 8, 8, 8, 8, 8, 8, 8, 8, 8, 8, 8, 8, 8, 8, 8, 8, 8, 8, 8, 8, 8, 8, 8, 8, 8, 8, 8, 8, 8, 8, 8, 8, 8, 8, 8, 8, 8, 8, 8, 8, 8, 8, 8, 8, 8, 8, 8, 8, 8, 8, 8, 8, 8, 8, 8, 8, 8] : List UInt8) (IntKind.u8.wrap x_0)) fun x2 =>
    some (IntKind.i64.wrap (n_2 + (IntKind.i64.wrap (x2.toNat : Int))), ()))
noncomputable def Se (x_0 : Int) : R :=
  cond (decide (x_0 ≥ 4294967296))
    (J0 (Int.fdiv x_0 (2 ^ (min 32 IntKind.u64.bits))) 32)
    (J0 x_0 0)
theorem J0_eq (x_0 n_2) : J0 x_0 n_2 = SJ0 x_0 n_2 := (lim_eq (.code c0 .ret) (tJ0 x_0 n_2)).trans (by kernel_rfl)
theorem J1_eq (x_0 n_2) : J1 x_0 n_2 = SJ1 x_0 n_2 := (lim_eq (.code c1 .ret) (tJ1 x_0 n_2)).trans (by kernel_rfl)
theorem se (x : (argTy ps).den) : run E (lim E fin) fin depth (bodyOf Try.f55) .ret (entryFrom 0 ps x) = Se x.1 := by kernel_rfl
end math_bits_Len64
noncomputable def math_bits_Len64 (x_0 : Int) : math_bits_Len64.R :=
  math_bits_Len64.Se x_0
namespace math_bits_Len64
noncomputable def sig : Sig := ⟨ps, rs, fun x => math_bits_Len64 x.1⟩
theorem val (x : (argTy ps).den) : lim E fin (.code (bodyOf Try.f55) .ret) (entryFrom 0 ps x) = sig.run x := (lim_eq (.code (bodyOf Try.f55) .ret) (entryFrom 0 ps x)).trans (se x)
theorem ok : CallOK Try.prog 55 sig :=
  callOK_of_lim (E := E) mixed tt_ok ctxOk_nil Try.func55 (by kernel_rfl : Try.f55.body = some (bodyOf Try.f55)) Try.ntmps55 (of_decide_eq_true (by kernel_rfl)) (of_decide_eq_true (by kernel_rfl)) fun x y h => (val x).trans h
noncomputable def ctxc (n : Nat) : List (Nat × Sig) := []
noncomputable def sigc (n : Nat) : Sig := ⟨ps, rs, fun x => runs (withCtx E (ctxc n)) fin n (.code (bodyOf Try.f55) .ret) (entryFrom 0 ps x)⟩
theorem sigc_le (n : Nat) : ∀ x y, (sigc n).run x = some y → sig.run x = some y := fun x y h => (val x).symm.trans (runs_lim (E := E) (c := ctxc n) ctxLe_nil h)
end math_bits_Len64
namespace math_bits_Len
abbrev ps : List PM := [.pure (.int .u64)]
abbrev rs : List RM := [.pure (.int .i64)]
abbrev R : Type := Option (Int × Unit)
noncomputable def E : Env := { tt := tt, ctx := [(55, math_bits_Len64.sig)], nt := 8, ann := [] }
noncomputable def fin : ASt → R := Kret E Try.f41.results.toList ps rs
noncomputable def Se (x_0 : Int) : R :=
  Option.bind (math_bits_Len64 x_0) fun x1 =>
  some (x1.1, ())
theorem se (x : (argTy ps).den) : run E (lim E fin) fin depth (bodyOf Try.f41) .ret (entryFrom 0 ps x) = Se x.1 := by kernel_rfl
end math_bits_Len
noncomputable def math_bits_Len (x_0 : Int) : math_bits_Len.R :=
  math_bits_Len.Se x_0
namespace math_bits_Len
noncomputable def sig : Sig := ⟨ps, rs, fun x => math_bits_Len x.1⟩
theorem val (x : (argTy ps).den) : lim E fin (.code (bodyOf Try.f41) .ret) (entryFrom 0 ps x) = sig.run x := (lim_eq (.code (bodyOf Try.f41) .ret) (entryFrom 0 ps x)).trans (se x)
theorem ok : CallOK Try.prog 41 sig :=
  callOK_of_lim (E := E) mixed tt_ok (ctxOk_cons ctxOk_nil math_bits_Len64.ok Try.func55 (by kernel_rfl) (by kernel_rfl)) Try.func41 (by kernel_rfl : Try.f41.body = some (bodyOf Try.f41)) Try.ntmps41 (of_decide_eq_true (by kernel_rfl)) (of_decide_eq_true (by kernel_rfl)) fun x y h => (val x).trans h
noncomputable def ctxc (n : Nat) : List (Nat × Sig) := [(55, math_bits_Len64.sigc n)]
noncomputable def sigc (n : Nat) : Sig := ⟨ps, rs, fun x => runs (withCtx E (ctxc n)) fin n (.code (bodyOf Try.f41) .ret) (entryFrom 0 ps x)⟩
theorem sigc_le (n : Nat) : ∀ x y, (sigc n).run x = some y → sig.run x = some y := fun x y h => (val x).symm.trans (runs_lim (E := E) (c := ctxc n) (ctxLe_cons ctxLe_nil (math_bits_Len64.sigc_le n)) h)
end math_bits_Len
namespace cmp_isNaN_int
abbrev ps : List PM := [.pure (.int .i64)]
abbrev rs : List RM := [.pure .bool]
abbrev R : Type := Option (Bool × Unit)
noncomputable def E : Env := { tt := tt, ctx := [], nt := 6, ann := [] }
noncomputable def fin : ASt → R := Kret E Try.f63.results.toList ps rs
noncomputable def Se (x_0 : Int) : R :=
  some ((x_0 != x_0), ())
theorem se (x : (argTy ps).den) : run E (lim E fin) fin depth (bodyOf Try.f63) .ret (entryFrom 0 ps x) = Se x.1 := by kernel_rfl
end cmp_isNaN_int
noncomputable def cmp_isNaN_int (x_0 : Int) : cmp_isNaN_int.R :=
  cmp_isNaN_int.Se x_0
namespace cmp_isNaN_int
noncomputable def sig : Sig := ⟨ps, rs, fun x => cmp_isNaN_int x.1⟩
theorem val (x : (argTy ps).den) : lim E fin (.code (bodyOf Try.f63) .ret) (entryFrom 0 ps x) = sig.run x := (lim_eq (.code (bodyOf Try.f63) .ret) (entryFrom 0 ps x)).trans (se x)
theorem ok : CallOK Try.prog 63 sig :=
  callOK_of_lim (E := E) mixed tt_ok ctxOk_nil Try.func63 (by kernel_rfl : Try.f63.body = some (bodyOf Try.f63)) Try.ntmps63 (of_decide_eq_true (by kernel_rfl)) (of_decide_eq_true (by kernel_rfl)) fun x y h => (val x).trans h
noncomputable def ctxc (n : Nat) : List (Nat × Sig) := []
noncomputable def sigc (n : Nat) : Sig := ⟨ps, rs, fun x => runs (withCtx E (ctxc n)) fin n (.code (bodyOf Try.f63) .ret) (entryFrom 0 ps x)⟩
theorem sigc_le (n : Nat) : ∀ x y, (sigc n).run x = some y → sig.run x = some y := fun x y h => (val x).symm.trans (runs_lim (E := E) (c := ctxc n) ctxLe_nil h)
end cmp_isNaN_int
namespace cmp_Less_int
abbrev ps : List PM := [.pure (.int .i64), .pure (.int .i64)]
abbrev rs : List RM := [.pure .bool]
abbrev R : Type := Option (Bool × Unit)
noncomputable def E : Env := { tt := tt, ctx := [(63, cmp_isNaN_int.sig)], nt := 17, ann := [] }
noncomputable def fin : ASt → R := Kret E Try.f51.results.toList ps rs
noncomputable def Se (x_0 : Int) (y : Int) : R :=
  Option.bind (cmp_isNaN_int x_0) fun x1 =>
  cond x1.1
    (Option.bind (cmp_isNaN_int y) fun x2 =>
    cond (!x2.1)
      (some (true, ()))
      (some (decide (x_0 < y), ())))
    (some (decide (x_0 < y), ()))
theorem se (x : (argTy ps).den) : run E (lim E fin) fin depth (bodyOf Try.f51) .ret (entryFrom 0 ps x) = Se x.1 x.2.1 := by kernel_rfl
end cmp_Less_int
noncomputable def cmp_Less_int (x_0 : Int) (y : Int) : cmp_Less_int.R :=
  cmp_Less_int.Se x_0 y
namespace cmp_Less_int
noncomputable def sig : Sig := ⟨ps, rs, fun x => cmp_Less_int x.1 x.2.1⟩
theorem val (x : (argTy ps).den) : lim E fin (.code (bodyOf Try.f51) .ret) (entryFrom 0 ps x) = sig.run x := (lim_eq (.code (bodyOf Try.f51) .ret) (entryFrom 0 ps x)).trans (se x)
theorem ok : CallOK Try.prog 51 sig :=
  callOK_of_lim (E := E) mixed tt_ok (ctxOk_cons ctxOk_nil cmp_isNaN_int.ok Try.func63 (by kernel_rfl) (by kernel_rfl)) Try.func51 (by kernel_rfl : Try.f51.body = some (bodyOf Try.f51)) Try.ntmps51 (of_decide_eq_true (by kernel_rfl)) (of_decide_eq_true (by kernel_rfl)) fun x y h => (val x).trans h
noncomputable def ctxc (n : Nat) : List (Nat × Sig) := [(63, cmp_isNaN_int.sigc n)]
noncomputable def sigc (n : Nat) : Sig := ⟨ps, rs, fun x => runs (withCtx E (ctxc n)) fin n (.code (bodyOf Try.f51) .ret) (entryFrom 0 ps x)⟩
theorem sigc_le (n : Nat) : ∀ x y, (sigc n).run x = some y → sig.run x = some y := fun x y h => (val x).symm.trans (runs_lim (E := E) (c := ctxc n) (ctxLe_cons ctxLe_nil (cmp_isNaN_int.sigc_le n)) h)
end cmp_Less_int
namespace slices_insertionSortOrdered_int
abbrev ps : List PM := [.own (.int .i64), .pure (.int .i64), .pure (.int .i64)]
abbrev rs : List RM := []
abbrev R : Type := Option (List Int × Unit)
noncomputable def E : Env := { tt := tt, ctx := [(51, cmp_Less_int.sig)], nt := 49, ann := [(1000001, [(0, .keep), (1, .keep), (2, .keep), (6, .keep)]), (1000004, [(0, .keep), (1, .keep), (2, .keep), (6, .keep), (7, .keep)]), (6, [(0, .keep), (1, .keep), (2, .keep), (6, .keep), (7, .keep)])] }
noncomputable def c0 : Code := sub [1, 0, 0] (bodyOf Try.f45)
noncomputable def c1 : Code := sub [1, 0, 0, 1, 1] (bodyOf Try.f45)
noncomputable def c2 : Code := sub [1, 0, 0, 1, 0, 0, 1, 0, 0] (bodyOf Try.f45)
noncomputable def c3 : Code := sub [1, 0, 0, 1, 0, 0, 1, 0, 0, 1] (bodyOf Try.f45)
noncomputable def K2 : Kont := .blk 0 .ret
noncomputable def K3 : Kont := .loop c0 K2
noncomputable def K6 : Kont := .seq c1 K3
noncomputable def K7 : Kont := .blk 1 K6
noncomputable def K9 : Kont := .blk 2 K7
noncomputable def K10 : Kont := .loop c2 K9
noncomputable def fin : ASt → R := Kret E Try.f45.results.toList ps rs
def tL0 (a : Int) (b : Int) (i : Int) (data_P : List Int) : ASt := ⟨[(6, .one (.val (.int .i64) i)), (2, .one (.val (.int .i64) b)), (1, .one (.val (.int .i64) a)), (0, .one (.own 10000))], [(10000, some ⟨.fixed, .int .i64, data_P⟩)]⟩
def tL1 (a : Int) (b : Int) (i : Int) (j : Int) (data_P : List Int) : ASt := ⟨[(7, .one (.val (.int .i64) j)), (6, .one (.val (.int .i64) i)), (2, .one (.val (.int .i64) b)), (1, .one (.val (.int .i64) a)), (0, .one (.own 10000))], [(10000, some ⟨.fixed, .int .i64, data_P⟩)]⟩
def tJ2 (a : Int) (b : Int) (i : Int) (j : Int) (data_P : List Int) : ASt := ⟨[(7, .one (.val (.int .i64) j)), (6, .one (.val (.int .i64) i)), (2, .one (.val (.int .i64) b)), (1, .one (.val (.int .i64) a)), (0, .one (.own 10000))], [(10000, some ⟨.fixed, .int .i64, data_P⟩)]⟩
noncomputable def L0 (a : Int) (b : Int) (i : Int) (data_P : List Int) : R := lim E fin (.loop c0 K2) (tL0 a b i data_P)
noncomputable def L1 (a : Int) (b : Int) (i : Int) (j : Int) (data_P : List Int) : R := lim E fin (.loop c2 K9) (tL1 a b i j data_P)
noncomputable def J2 (a : Int) (b : Int) (i : Int) (j : Int) (data_P : List Int) : R := lim E fin (.code c3 K10) (tJ2 a b i j data_P)
noncomputable def SL0 (a : Int) (b : Int) (i : Int) (data_P : List Int) : R :=
  cond (decide (i < b))
    (L1 a b i i data_P)
    (some (data_P, ()))
noncomputable def SL1 (a : Int) (b : Int) (i : Int) (j : Int) (data_P : List Int) : R :=
  cond (decide (j > a))
    (cond (decide (0 ≤ j) && decide (j < (data_P.length : Int)))
      (cond (decide (0 ≤ IntKind.i64.wrap (j - 1)) && decide (IntKind.i64.wrap (j - 1) < (data_P.length : Int)))
        (Option.bind (cmp_Less_int (data_P.getD j.toNat 0) (data_P.getD ((IntKind.i64.wrap (j - 1)).toNat) 0)) fun x1 =>
        cond x1.1
          (J2 a b i j data_P)
          (L0 a b (IntKind.i64.wrap (i + 1)) data_P))
        none)
      none)
    (L0 a b (IntKind.i64.wrap (i + 1)) data_P)
noncomputable def SJ2 (a : Int) (b : Int) (i : Int) (j : Int) (data_P : List Int) : R :=
  cond (decide (0 ≤ IntKind.i64.wrap (j - 1)) && decide (IntKind.i64.wrap (j - 1) < (data_P.length : Int)))
    (cond (decide (0 ≤ j) && decide (j < (data_P.length : Int)))
      (cond (decide (0 ≤ j) && decide (j < (data_P.length : Int)))
        (cond (decide (0 ≤ IntKind.i64.wrap (j - 1)) && decide (IntKind.i64.wrap (j - 1) < ((data_P.set j.toNat (data_P.getD ((IntKind.i64.wrap (j - 1)).toNat) 0)).length : Int)))
          (L1 a b i (IntKind.i64.wrap (j - 1)) ((data_P.set j.toNat (data_P.getD ((IntKind.i64.wrap (j - 1)).toNat) 0)).set ((IntKind.i64.wrap (j - 1)).toNat) (data_P.getD j.toNat 0)))
          none)
        none)
      none)
    none
noncomputable def Se (data : List Int) (a : Int) (b : Int) : R :=
  L0 a b (IntKind.i64.wrap (a + 1)) data
theorem L0_eq (a b i data_P) : L0 a b i data_P = SL0 a b i data_P := (lim_eq (.loop c0 K2) (tL0 a b i data_P)).trans (by kernel_rfl)
theorem L1_eq (a b i j data_P) : L1 a b i j data_P = SL1 a b i j data_P := (lim_eq (.loop c2 K9) (tL1 a b i j data_P)).trans (by kernel_rfl)
theorem J2_eq (a b i j data_P) : J2 a b i j data_P = SJ2 a b i j data_P := (lim_eq (.code c3 K10) (tJ2 a b i j data_P)).trans (by kernel_rfl)
theorem se (x : (argTy ps).den) : run E (lim E fin) fin depth (bodyOf Try.f45) .ret (entryFrom 0 ps x) = Se x.1 x.2.1 x.2.2.1 := by kernel_rfl
end slices_insertionSortOrdered_int
noncomputable def slices_insertionSortOrdered_int (data : List Int) (a : Int) (b : Int) : slices_insertionSortOrdered_int.R :=
  slices_insertionSortOrdered_int.Se data a b
namespace slices_insertionSortOrdered_int
noncomputable def sig : Sig := ⟨ps, rs, fun x => slices_insertionSortOrdered_int x.1 x.2.1 x.2.2.1⟩
theorem val (x : (argTy ps).den) : lim E fin (.code (bodyOf Try.f45) .ret) (entryFrom 0 ps x) = sig.run x := (lim_eq (.code (bodyOf Try.f45) .ret) (entryFrom 0 ps x)).trans (se x)
theorem ok : CallOK Try.prog 45 sig :=
  callOK_of_lim (E := E) mixed tt_ok (ctxOk_cons ctxOk_nil cmp_Less_int.ok Try.func51 (by kernel_rfl) (by kernel_rfl)) Try.func45 (by kernel_rfl : Try.f45.body = some (bodyOf Try.f45)) Try.ntmps45 (of_decide_eq_true (by kernel_rfl)) (of_decide_eq_true (by kernel_rfl)) fun x y h => (val x).trans h
noncomputable def ctxc (n : Nat) : List (Nat × Sig) := [(51, cmp_Less_int.sigc n)]
noncomputable def sigc (n : Nat) : Sig := ⟨ps, rs, fun x => runs (withCtx E (ctxc n)) fin n (.code (bodyOf Try.f45) .ret) (entryFrom 0 ps x)⟩
theorem sigc_le (n : Nat) : ∀ x y, (sigc n).run x = some y → sig.run x = some y := fun x y h => (val x).symm.trans (runs_lim (E := E) (c := ctxc n) (ctxLe_cons ctxLe_nil (cmp_Less_int.sigc_le n)) h)
end slices_insertionSortOrdered_int
namespace slices_siftDownOrdered_int
abbrev ps : List PM := [.own (.int .i64), .pure (.int .i64), .pure (.int .i64), .pure (.int .i64)]
abbrev rs : List RM := []
abbrev R : Type := Option (List Int × Unit)
noncomputable def E : Env := { tt := tt, ctx := [(51, cmp_Less_int.sig)], nt := 76, ann := [(1000001, [(0, .keep), (2, .keep), (3, .keep), (8, .keep)]), (5, [(0, .keep), (2, .keep), (3, .keep), (8, .keep), (9, .keep)])] }
noncomputable def c0 : Code := sub [1, 0, 0] (bodyOf Try.f58)
noncomputable def c1 : Code := sub [1, 0, 0, 0, 1, 1, 1] (bodyOf Try.f58)
noncomputable def K2 : Kont := .blk 0 .ret
noncomputable def K3 : Kont := .loop c0 K2
noncomputable def K4 : Kont := .blk 1 K3
noncomputable def fin : ASt → R := Kret E Try.f58.results.toList ps rs
def tL0 (hi : Int) (first : Int) (root : Int) (data_P : List Int) : ASt := ⟨[(8, .one (.val (.int .i64) root)), (3, .one (.val (.int .i64) first)), (2, .one (.val (.int .i64) hi)), (0, .one (.own 10000))], [(10000, some ⟨.fixed, .int .i64, data_P⟩)]⟩
def tJ1 (hi : Int) (first : Int) (root : Int) (child : Int) (data_P : List Int) : ASt := ⟨[(9, .one (.val (.int .i64) child)), (8, .one (.val (.int .i64) root)), (3, .one (.val (.int .i64) first)), (2, .one (.val (.int .i64) hi)), (0, .one (.own 10000))], [(10000, some ⟨.fixed, .int .i64, data_P⟩)]⟩
noncomputable def L0 (hi : Int) (first : Int) (root : Int) (data_P : List Int) : R := lim E fin (.loop c0 K2) (tL0 hi first root data_P)
noncomputable def J1 (hi : Int) (first : Int) (root : Int) (child : Int) (data_P : List Int) : R := lim E fin (.code c1 K4) (tJ1 hi first root child data_P)
noncomputable def SL0 (hi : Int) (first : Int) (root : Int) (data_P : List Int) : R :=
  cond (decide ((IntKind.i64.wrap ((IntKind.i64.wrap (2 * root)) + 1)) ≥ hi))
    (some (data_P, ()))
    (cond (decide ((IntKind.i64.wrap ((IntKind.i64.wrap ((IntKind.i64.wrap (2 * root)) + 1)) + 1)) < hi))
      (cond (decide (0 ≤ IntKind.i64.wrap (first + (IntKind.i64.wrap ((IntKind.i64.wrap (2 * root)) + 1)))) && decide (IntKind.i64.wrap (first + (IntKind.i64.wrap ((IntKind.i64.wrap (2 * root)) + 1))) < (data_P.length : Int)))
        (cond (decide (0 ≤ IntKind.i64.wrap ((IntKind.i64.wrap (first + (IntKind.i64.wrap ((IntKind.i64.wrap (2 * root)) + 1)))) + 1)) && decide (IntKind.i64.wrap ((IntKind.i64.wrap (first + (IntKind.i64.wrap ((IntKind.i64.wrap (2 * root)) + 1)))) + 1) < (data_P.length : Int)))
          (Option.bind (cmp_Less_int (data_P.getD ((IntKind.i64.wrap (first + (IntKind.i64.wrap ((IntKind.i64.wrap (2 * root)) + 1)))).toNat) 0) (data_P.getD ((IntKind.i64.wrap ((IntKind.i64.wrap (first + (IntKind.i64.wrap ((IntKind.i64.wrap (2 * root)) + 1)))) + 1)).toNat) 0)) fun x1 =>
          cond x1.1
            (J1 hi first root (IntKind.i64.wrap ((IntKind.i64.wrap ((IntKind.i64.wrap (2 * root)) + 1)) + 1)) data_P)
            (J1 hi first root (IntKind.i64.wrap ((IntKind.i64.wrap (2 * root)) + 1)) data_P))
          none)
        none)
      (J1 hi first root (IntKind.i64.wrap ((IntKind.i64.wrap (2 * root)) + 1)) data_P))
noncomputable def SJ1 (hi : Int) (first : Int) (root : Int) (child : Int) (data_P : List Int) : R :=
  cond (decide (0 ≤ IntKind.i64.wrap (first + root)) && decide (IntKind.i64.wrap (first + root) < (data_P.length : Int)))
    (cond (decide (0 ≤ IntKind.i64.wrap (first + child)) && decide (IntKind.i64.wrap (first + child) < (data_P.length : Int)))
      (Option.bind (cmp_Less_int (data_P.getD ((IntKind.i64.wrap (first + root)).toNat) 0) (data_P.getD ((IntKind.i64.wrap (first + child)).toNat) 0)) fun x1 =>
      cond (!x1.1)
        (some (data_P, ()))
        (cond (decide (0 ≤ IntKind.i64.wrap (first + child)) && decide (IntKind.i64.wrap (first + child) < (data_P.length : Int)))
          (cond (decide (0 ≤ IntKind.i64.wrap (first + root)) && decide (IntKind.i64.wrap (first + root) < (data_P.length : Int)))
            (cond (decide (0 ≤ IntKind.i64.wrap (first + root)) && decide (IntKind.i64.wrap (first + root) < (data_P.length : Int)))
              (cond (decide (0 ≤ IntKind.i64.wrap (first + child)) && decide (IntKind.i64.wrap (first + child) < ((data_P.set ((IntKind.i64.wrap (first + root)).toNat) (data_P.getD ((IntKind.i64.wrap (first + child)).toNat) 0)).length : Int)))
                (L0 hi first child ((data_P.set ((IntKind.i64.wrap (first + root)).toNat) (data_P.getD ((IntKind.i64.wrap (first + child)).toNat) 0)).set ((IntKind.i64.wrap (first + child)).toNat) (data_P.getD ((IntKind.i64.wrap (first + root)).toNat) 0)))
                none)
              none)
            none)
          none))
      none)
    none
noncomputable def Se (data : List Int) (lo : Int) (hi : Int) (first : Int) : R :=
  L0 hi first lo data
theorem L0_eq (hi first root data_P) : L0 hi first root data_P = SL0 hi first root data_P := (lim_eq (.loop c0 K2) (tL0 hi first root data_P)).trans (by kernel_rfl)
theorem J1_eq (hi first root child data_P) : J1 hi first root child data_P = SJ1 hi first root child data_P := (lim_eq (.code c1 K4) (tJ1 hi first root child data_P)).trans (by kernel_rfl)
theorem se (x : (argTy ps).den) : run E (lim E fin) fin depth (bodyOf Try.f58) .ret (entryFrom 0 ps x) = Se x.1 x.2.1 x.2.2.1 x.2.2.2.1 := by kernel_rfl
end slices_siftDownOrdered_int
noncomputable def slices_siftDownOrdered_int (data : List Int) (lo : Int) (hi : Int) (first : Int) : slices_siftDownOrdered_int.R :=
  slices_siftDownOrdered_int.Se data lo hi first
namespace slices_siftDownOrdered_int
noncomputable def sig : Sig := ⟨ps, rs, fun x => slices_siftDownOrdered_int x.1 x.2.1 x.2.2.1 x.2.2.2.1⟩
theorem val (x : (argTy ps).den) : lim E fin (.code (bodyOf Try.f58) .ret) (entryFrom 0 ps x) = sig.run x := (lim_eq (.code (bodyOf Try.f58) .ret) (entryFrom 0 ps x)).trans (se x)
theorem ok : CallOK Try.prog 58 sig :=
  callOK_of_lim (E := E) mixed tt_ok (ctxOk_cons ctxOk_nil cmp_Less_int.ok Try.func51 (by kernel_rfl) (by kernel_rfl)) Try.func58 (by kernel_rfl : Try.f58.body = some (bodyOf Try.f58)) Try.ntmps58 (of_decide_eq_true (by kernel_rfl)) (of_decide_eq_true (by kernel_rfl)) fun x y h => (val x).trans h
noncomputable def ctxc (n : Nat) : List (Nat × Sig) := [(51, cmp_Less_int.sigc n)]
noncomputable def sigc (n : Nat) : Sig := ⟨ps, rs, fun x => runs (withCtx E (ctxc n)) fin n (.code (bodyOf Try.f58) .ret) (entryFrom 0 ps x)⟩
theorem sigc_le (n : Nat) : ∀ x y, (sigc n).run x = some y → sig.run x = some y := fun x y h => (val x).symm.trans (runs_lim (E := E) (c := ctxc n) (ctxLe_cons ctxLe_nil (cmp_Less_int.sigc_le n)) h)
end slices_siftDownOrdered_int
namespace slices_heapSortOrdered_int
abbrev ps : List PM := [.own (.int .i64), .pure (.int .i64), .pure (.int .i64)]
abbrev rs : List RM := []
abbrev R : Type := Option (List Int × Unit)
noncomputable def E : Env := { tt := tt, ctx := [(58, slices_siftDownOrdered_int.sig)], nt := 56, ann := [(1000004, [(0, .keep), (6, .keep), (7, .keep), (8, .keep), (9, .keep)]), (1000008, [(0, .keep), (6, .keep), (7, .keep), (10, .keep)])] }
noncomputable def c0 : Code := sub [1, 1, 1, 1] (bodyOf Try.f46)
noncomputable def c1 : Code := sub [1, 1, 1, 0, 1, 0, 0] (bodyOf Try.f46)
noncomputable def c2 : Code := sub [1, 1, 1, 1, 1, 0, 0] (bodyOf Try.f46)
noncomputable def K4 : Kont := .seq c0 .ret
noncomputable def K6 : Kont := .blk 0 K4
noncomputable def K13 : Kont := .blk 2 .ret
noncomputable def fin : ASt → R := Kret E Try.f46.results.toList ps rs
def tL0 (first : Int) (lo : Int) (hi : Int) (i : Int) (data_P : List Int) : ASt := ⟨[(9, .one (.val (.int .i64) i)), (8, .one (.val (.int .i64) hi)), (7, .one (.val (.int .i64) lo)), (6, .one (.val (.int .i64) first)), (0, .one (.own 10000))], [(10000, some ⟨.fixed, .int .i64, data_P⟩)]⟩
def tL1 (first : Int) (lo : Int) (i : Int) (data_P : List Int) : ASt := ⟨[(10, .one (.val (.int .i64) i)), (7, .one (.val (.int .i64) lo)), (6, .one (.val (.int .i64) first)), (0, .one (.own 10000))], [(10000, some ⟨.fixed, .int .i64, data_P⟩)]⟩
noncomputable def L0 (first : Int) (lo : Int) (hi : Int) (i : Int) (data_P : List Int) : R := lim E fin (.loop c1 K6) (tL0 first lo hi i data_P)
noncomputable def L1 (first : Int) (lo : Int) (i : Int) (data_P : List Int) : R := lim E fin (.loop c2 K13) (tL1 first lo i data_P)
noncomputable def SL0 (first : Int) (lo : Int) (hi : Int) (i : Int) (data_P : List Int) : R :=
  cond (decide (i ≥ 0))
    (Option.bind (slices_siftDownOrdered_int data_P i hi first) fun x1 =>
    L0 first lo hi (IntKind.i64.wrap (i - 1)) x1.1)
    (L1 first lo (IntKind.i64.wrap (hi - 1)) data_P)
noncomputable def SL1 (first : Int) (lo : Int) (i : Int) (data_P : List Int) : R :=
  cond (decide (i ≥ 0))
    (cond (decide (0 ≤ IntKind.i64.wrap (first + i)) && decide (IntKind.i64.wrap (first + i) < (data_P.length : Int)))
      (cond (decide (0 ≤ first) && decide (first < (data_P.length : Int)))
        (cond (decide (0 ≤ first) && decide (first < (data_P.length : Int)))
          (cond (decide (0 ≤ IntKind.i64.wrap (first + i)) && decide (IntKind.i64.wrap (first + i) < ((data_P.set first.toNat (data_P.getD ((IntKind.i64.wrap (first + i)).toNat) 0)).length : Int)))
            (Option.bind (slices_siftDownOrdered_int ((data_P.set first.toNat (data_P.getD ((IntKind.i64.wrap (first + i)).toNat) 0)).set ((IntKind.i64.wrap (first + i)).toNat) (data_P.getD first.toNat 0)) lo i first) fun x1 =>
            L1 first lo (IntKind.i64.wrap (i - 1)) x1.1)
            none)
          none)
        none)
      none)
    (some (data_P, ()))
noncomputable def Se (data : List Int) (a : Int) (b : Int) : R :=
  L0 a 0 (IntKind.i64.wrap (b - a)) (IntKind.i64.wrap (Int.tdiv (IntKind.i64.wrap ((IntKind.i64.wrap (b - a)) - 1)) 2)) data
theorem L0_eq (first lo hi i data_P) : L0 first lo hi i data_P = SL0 first lo hi i data_P := (lim_eq (.loop c1 K6) (tL0 first lo hi i data_P)).trans (by kernel_rfl)
theorem L1_eq (first lo i data_P) : L1 first lo i data_P = SL1 first lo i data_P := (lim_eq (.loop c2 K13) (tL1 first lo i data_P)).trans (by kernel_rfl)
theorem se (x : (argTy ps).den) : run E (lim E fin) fin depth (bodyOf Try.f46) .ret (entryFrom 0 ps x) = Se x.1 x.2.1 x.2.2.1 := by kernel_rfl
end slices_heapSortOrdered_int
noncomputable def slices_heapSortOrdered_int (data : List Int) (a : Int) (b : Int) : slices_heapSortOrdered_int.R :=
  slices_heapSortOrdered_int.Se data a b
namespace slices_heapSortOrdered_int
noncomputable def sig : Sig := ⟨ps, rs, fun x => slices_heapSortOrdered_int x.1 x.2.1 x.2.2.1⟩
theorem val (x : (argTy ps).den) : lim E fin (.code (bodyOf Try.f46) .ret) (entryFrom 0 ps x) = sig.run x := (lim_eq (.code (bodyOf Try.f46) .ret) (entryFrom 0 ps x)).trans (se x)
theorem ok : CallOK Try.prog 46 sig :=
  callOK_of_lim (E := E) mixed tt_ok (ctxOk_cons ctxOk_nil slices_siftDownOrdered_int.ok Try.func58 (by kernel_rfl) (by kernel_rfl)) Try.func46 (by kernel_rfl : Try.f46.body = some (bodyOf Try.f46)) Try.ntmps46 (of_decide_eq_true (by kernel_rfl)) (of_decide_eq_true (by kernel_rfl)) fun x y h => (val x).trans h
noncomputable def ctxc (n : Nat) : List (Nat × Sig) := [(58, slices_siftDownOrdered_int.sigc n)]
noncomputable def sigc (n : Nat) : Sig := ⟨ps, rs, fun x => runs (withCtx E (ctxc n)) fin n (.code (bodyOf Try.f46) .ret) (entryFrom 0 ps x)⟩
theorem sigc_le (n : Nat) : ∀ x y, (sigc n).run x = some y → sig.run x = some y := fun x y h => (val x).symm.trans (runs_lim (E := E) (c := ctxc n) (ctxLe_cons ctxLe_nil (slices_siftDownOrdered_int.sigc_le n)) h)
end slices_heapSortOrdered_int
namespace slices_nextPowerOfTwo
abbrev ps : List PM := [.pure (.int .i64)]
abbrev rs : List RM := [.pure (.int .u64)]
abbrev R : Type := Option (Int × Unit)
noncomputable def E : Env := { tt := tt, ctx := [(41, math_bits_Len.sig)], nt := 7, ann := [] }
noncomputable def fin : ASt → R := Kret E Try.f59.results.toList ps rs
noncomputable def Se (length_0 : Int) : R :=
  Option.bind (math_bits_Len (IntKind.u64.wrap length_0)) fun x1 =>
  cond (decide (x1.1 < 0))
    none
    (some (IntKind.u64.wrap (1 * 2 ^ (min x1.1.toNat IntKind.u64.bits)), ()))
theorem se (x : (argTy ps).den) : run E (lim E fin) fin depth (bodyOf Try.f59) .ret (entryFrom 0 ps x) = Se x.1 := by kernel_rfl
end slices_nextPowerOfTwo
noncomputable def slices_nextPowerOfTwo (length_0 : Int) : slices_nextPowerOfTwo.R :=
  slices_nextPowerOfTwo.Se length_0
namespace slices_nextPowerOfTwo
noncomputable def sig : Sig := ⟨ps, rs, fun x => slices_nextPowerOfTwo x.1⟩
theorem val (x : (argTy ps).den) : lim E fin (.code (bodyOf Try.f59) .ret) (entryFrom 0 ps x) = sig.run x := (lim_eq (.code (bodyOf Try.f59) .ret) (entryFrom 0 ps x)).trans (se x)
theorem ok : CallOK Try.prog 59 sig :=
  callOK_of_lim (E := E) mixed tt_ok (ctxOk_cons ctxOk_nil math_bits_Len.ok Try.func41 (by kernel_rfl) (by kernel_rfl)) Try.func59 (by kernel_rfl : Try.f59.body = some (bodyOf Try.f59)) Try.ntmps59 (of_decide_eq_true (by kernel_rfl)) (of_decide_eq_true (by kernel_rfl)) fun x y h => (val x).trans h
noncomputable def ctxc (n : Nat) : List (Nat × Sig) := [(41, math_bits_Len.sigc n)]
noncomputable def sigc (n : Nat) : Sig := ⟨ps, rs, fun x => runs (withCtx E (ctxc n)) fin n (.code (bodyOf Try.f59) .ret) (entryFrom 0 ps x)⟩
theorem sigc_le (n : Nat) : ∀ x y, (sigc n).run x = some y → sig.run x = some y := fun x y h => (val x).symm.trans (runs_lim (E := E) (c := ctxc n) (ctxLe_cons ctxLe_nil (math_bits_Len.sigc_le n)) h)
end slices_nextPowerOfTwo
namespace slices_xorshift_Next
abbrev ps : List PM := [.ptr (.int .u64)]
abbrev rs : List RM := [.pure (.int .u64)]
abbrev R : Type := Option (Int × Int × Unit)
noncomputable def E : Env := { tt := tt, ctx := [], nt := 33, ann := [] }
noncomputable def fin : ASt → R := Kret E Try.f60.results.toList ps rs
noncomputable def Se (r_0 : Int) : R :=
  some (IntKind.u64.wrap (BitVec.ofInt IntKind.u64.bits (IntKind.u64.wrap (BitVec.ofInt IntKind.u64.bits (IntKind.u64.wrap (BitVec.ofInt IntKind.u64.bits r_0 ^^^ BitVec.ofInt IntKind.u64.bits (IntKind.u64.wrap (r_0 * 2 ^ (min 13 IntKind.u64.bits)))).toNat) ^^^ BitVec.ofInt IntKind.u64.bits (Int.fdiv (IntKind.u64.wrap (BitVec.ofInt IntKind.u64.bits r_0 ^^^ BitVec.ofInt IntKind.u64.bits (IntKind.u64.wrap (r_0 * 2 ^ (min 13 IntKind.u64.bits)))).toNat) (2 ^ (min 7 IntKind.u64.bits)))).toNat) ^^^ BitVec.ofInt IntKind.u64.bits (IntKind.u64.wrap ((IntKind.u64.wrap (BitVec.ofInt IntKind.u64.bits (IntKind.u64.wrap (BitVec.ofInt IntKind.u64.bits r_0 ^^^ BitVec.ofInt IntKind.u64.bits (IntKind.u64.wrap (r_0 * 2 ^ (min 13 IntKind.u64.bits)))).toNat) ^^^ BitVec.ofInt IntKind.u64.bits (Int.fdiv (IntKind.u64.wrap (BitVec.ofInt IntKind.u64.bits r_0 ^^^ BitVec.ofInt IntKind.u64.bits (IntKind.u64.wrap (r_0 * 2 ^ (min 13 IntKind.u64.bits)))).toNat) (2 ^ (min 7 IntKind.u64.bits)))).toNat) * 2 ^ (min 17 IntKind.u64.bits)))).toNat, IntKind.u64.wrap (BitVec.ofInt IntKind.u64.bits (IntKind.u64.wrap (BitVec.ofInt IntKind.u64.bits (IntKind.u64.wrap (BitVec.ofInt IntKind.u64.bits r_0 ^^^ BitVec.ofInt IntKind.u64.bits (IntKind.u64.wrap (r_0 * 2 ^ (min 13 IntKind.u64.bits)))).toNat) ^^^ BitVec.ofInt IntKind.u64.bits (Int.fdiv (IntKind.u64.wrap (BitVec.ofInt IntKind.u64.bits r_0 ^^^ BitVec.ofInt IntKind.u64.bits (IntKind.u64.wrap (r_0 * 2 ^ (min 13 IntKind.u64.bits)))).toNat) (2 ^ (min 7 IntKind.u64.bits)))).toNat) ^^^ BitVec.ofInt IntKind.u64.bits (IntKind.u64.wrap ((IntKind.u64.wrap (BitVec.ofInt IntKind.u64.bits (IntKind.u64.wrap (BitVec.ofInt IntKind.u64.bits r_0 ^^^ BitVec.ofInt IntKind.u64.bits (IntKind.u64.wrap (r_0 * 2 ^ (min 13 IntKind.u64.bits)))).toNat) ^^^ BitVec.ofInt IntKind.u64.bits (Int.fdiv (IntKind.u64.wrap (BitVec.ofInt IntKind.u64.bits r_0 ^^^ BitVec.ofInt IntKind.u64.bits (IntKind.u64.wrap (r_0 * 2 ^ (min 13 IntKind.u64.bits)))).toNat) (2 ^ (min 7 IntKind.u64.bits)))).toNat) * 2 ^ (min 17 IntKind.u64.bits)))).toNat, ())
theorem se (x : (argTy ps).den) : run E (lim E fin) fin depth (bodyOf Try.f60) .ret (entryFrom 0 ps x) = Se x.1 := by kernel_rfl
end slices_xorshift_Next
noncomputable def slices_xorshift_Next (r_0 : Int) : slices_xorshift_Next.R :=
  slices_xorshift_Next.Se r_0
namespace slices_xorshift_Next
noncomputable def sig : Sig := ⟨ps, rs, fun x => slices_xorshift_Next x.1⟩
theorem val (x : (argTy ps).den) : lim E fin (.code (bodyOf Try.f60) .ret) (entryFrom 0 ps x) = sig.run x := (lim_eq (.code (bodyOf Try.f60) .ret) (entryFrom 0 ps x)).trans (se x)
theorem ok : CallOK Try.prog 60 sig :=
  callOK_of_lim (E := E) mixed tt_ok ctxOk_nil Try.func60 (by kernel_rfl : Try.f60.body = some (bodyOf Try.f60)) Try.ntmps60 (of_decide_eq_true (by kernel_rfl)) (of_decide_eq_true (by kernel_rfl)) fun x y h => (val x).trans h
noncomputable def ctxc (n : Nat) : List (Nat × Sig) := []
noncomputable def sigc (n : Nat) : Sig := ⟨ps, rs, fun x => runs (withCtx E (ctxc n)) fin n (.code (bodyOf Try.f60) .ret) (entryFrom 0 ps x)⟩
theorem sigc_le (n : Nat) : ∀ x y, (sigc n).run x = some y → sig.run x = some y := fun x y h => (val x).symm.trans (runs_lim (E := E) (c := ctxc n) ctxLe_nil h)
end slices_xorshift_Next
namespace slices_breakPatternsOrdered_int
abbrev ps : List PM := [.own (.int .i64), .pure (.int .i64), .pure (.int .i64)]
abbrev rs : List RM := []
abbrev R : Type := Option (List Int × Unit)
noncomputable def E : Env := { tt := tt, ctx := [(59, slices_nextPowerOfTwo.sig), (60, slices_xorshift_Next.sig)], nt := 65, ann := [(1000005, [(0, .keep), (1, .keep), (6, .keep), (7, .keep), (8, .keep), (9, .keep)]), (10, [(0, .keep), (1, .keep), (6, .keep), (7, .keep), (8, .keep), (9, .keep), (10, .keep)])] }
noncomputable def c0 : Code := sub [1, 1, 0, 1, 1, 1, 0, 0] (bodyOf Try.f47)
noncomputable def c1 : Code := sub [1, 1, 0, 1, 1, 1, 0, 0, 1, 1] (bodyOf Try.f47)
noncomputable def c2 : Code := sub [1, 1, 0, 1, 1, 1, 0, 0, 1, 0, 0, 1, 1] (bodyOf Try.f47)
noncomputable def K6 : Kont := .blk 0 .ret
noncomputable def K7 : Kont := .loop c0 K6
noncomputable def K10 : Kont := .seq c1 K7
noncomputable def K11 : Kont := .blk 1 K10
noncomputable def fin : ASt → R := Kret E Try.f47.results.toList ps rs
def tL0 (a : Int) (length_6 : Int) (random : Int) (modulus : Int) (idx_9 : Int) (data_P : List Int) : ASt := ⟨[(9, .one (.val (.int .i64) idx_9)), (8, .one (.val (.int .u64) modulus)), (7, .one (.optr 7 0 [])), (6, .one (.val (.int .i64) length_6)), (1, .one (.val (.int .i64) a)), (0, .one (.own 10000))], [(7, some ⟨.free, .int .u64, [random]⟩), (10000, some ⟨.fixed, .int .i64, data_P⟩)]⟩
def tJ1 (a : Int) (length_6 : Int) (random : Int) (modulus : Int) (idx_9 : Int) (other : Int) (data_P : List Int) : ASt := ⟨[(10, .one (.val (.int .i64) other)), (9, .one (.val (.int .i64) idx_9)), (8, .one (.val (.int .u64) modulus)), (7, .one (.optr 7 0 [])), (6, .one (.val (.int .i64) length_6)), (1, .one (.val (.int .i64) a)), (0, .one (.own 10000))], [(7, some ⟨.free, .int .u64, [random]⟩), (10000, some ⟨.fixed, .int .i64, data_P⟩)]⟩
noncomputable def L0 (a : Int) (length_6 : Int) (random : Int) (modulus : Int) (idx_9 : Int) (data_P : List Int) : R := lim E fin (.loop c0 K6) (tL0 a length_6 random modulus idx_9 data_P)
noncomputable def J1 (a : Int) (length_6 : Int) (random : Int) (modulus : Int) (idx_9 : Int) (other : Int) (data_P : List Int) : R := lim E fin (.code c2 K11) (tJ1 a length_6 random modulus idx_9 other data_P)
noncomputable def SL0 (a : Int) (length_6 : Int) (random : Int) (modulus : Int) (idx_9 : Int) (data_P : List Int) : R :=
  cond (decide (idx_9 ≤ (IntKind.i64.wrap ((IntKind.i64.wrap (a + (IntKind.i64.wrap ((IntKind.i64.wrap (Int.tdiv length_6 4)) * 2)))) + 1))))
    (Option.bind (slices_xorshift_Next random) fun x1 =>
    cond (decide ((IntKind.i64.wrap (IntKind.u64.wrap (BitVec.ofInt IntKind.u64.bits x1.1 &&& BitVec.ofInt IntKind.u64.bits (IntKind.u64.wrap (modulus - 1))).toNat)) ≥ length_6))
      (J1 a length_6 x1.2.1 modulus idx_9 (IntKind.i64.wrap ((IntKind.i64.wrap (IntKind.u64.wrap (BitVec.ofInt IntKind.u64.bits x1.1 &&& BitVec.ofInt IntKind.u64.bits (IntKind.u64.wrap (modulus - 1))).toNat)) - length_6)) data_P)
      (J1 a length_6 x1.2.1 modulus idx_9 (IntKind.i64.wrap (IntKind.u64.wrap (BitVec.ofInt IntKind.u64.bits x1.1 &&& BitVec.ofInt IntKind.u64.bits (IntKind.u64.wrap (modulus - 1))).toNat)) data_P))
    (some (data_P, ()))
noncomputable def SJ1 (a : Int) (length_6 : Int) (random : Int) (modulus : Int) (idx_9 : Int) (other : Int) (data_P : List Int) : R :=
  cond (decide (0 ≤ IntKind.i64.wrap (a + other)) && decide (IntKind.i64.wrap (a + other) < (data_P.length : Int)))
    (cond (decide (0 ≤ idx_9) && decide (idx_9 < (data_P.length : Int)))
      (cond (decide (0 ≤ idx_9) && decide (idx_9 < (data_P.length : Int)))
        (cond (decide (0 ≤ IntKind.i64.wrap (a + other)) && decide (IntKind.i64.wrap (a + other) < ((data_P.set idx_9.toNat (data_P.getD ((IntKind.i64.wrap (a + other)).toNat) 0)).length : Int)))
          (L0 a length_6 random modulus (IntKind.i64.wrap (idx_9 + 1)) ((data_P.set idx_9.toNat (data_P.getD ((IntKind.i64.wrap (a + other)).toNat) 0)).set ((IntKind.i64.wrap (a + other)).toNat) (data_P.getD idx_9.toNat 0)))
          none)
        none)
      none)
    none
noncomputable def Se (data : List Int) (a : Int) (b : Int) : R :=
  cond (decide ((IntKind.i64.wrap (b - a)) ≥ 8))
    (Option.bind (slices_nextPowerOfTwo (IntKind.i64.wrap (b - a))) fun x1 =>
    L0 a (IntKind.i64.wrap (b - a)) (IntKind.u64.wrap (IntKind.i64.wrap (b - a))) x1.1 (IntKind.i64.wrap ((IntKind.i64.wrap (a + (IntKind.i64.wrap ((IntKind.i64.wrap (Int.tdiv (IntKind.i64.wrap (b - a)) 4)) * 2)))) - 1)) data)
    (some (data, ()))
theorem L0_eq (a length_6 random modulus idx_9 data_P) : L0 a length_6 random modulus idx_9 data_P = SL0 a length_6 random modulus idx_9 data_P := (lim_eq (.loop c0 K6) (tL0 a length_6 random modulus idx_9 data_P)).trans (by kernel_rfl)
theorem J1_eq (a length_6 random modulus idx_9 other data_P) : J1 a length_6 random modulus idx_9 other data_P = SJ1 a length_6 random modulus idx_9 other data_P := (lim_eq (.code c2 K11) (tJ1 a length_6 random modulus idx_9 other data_P)).trans (by kernel_rfl)
theorem se (x : (argTy ps).den) : run E (lim E fin) fin depth (bodyOf Try.f47) .ret (entryFrom 0 ps x) = Se x.1 x.2.1 x.2.2.1 := by kernel_rfl
end slices_breakPatternsOrdered_int
noncomputable def slices_breakPatternsOrdered_int (data : List Int) (a : Int) (b : Int) : slices_breakPatternsOrdered_int.R :=
  slices_breakPatternsOrdered_int.Se data a b
namespace slices_breakPatternsOrdered_int
noncomputable def sig : Sig := ⟨ps, rs, fun x => slices_breakPatternsOrdered_int x.1 x.2.1 x.2.2.1⟩
theorem val (x : (argTy ps).den) : lim E fin (.code (bodyOf Try.f47) .ret) (entryFrom 0 ps x) = sig.run x := (lim_eq (.code (bodyOf Try.f47) .ret) (entryFrom 0 ps x)).trans (se x)
theorem ok : CallOK Try.prog 47 sig :=
  callOK_of_lim (E := E) mixed tt_ok (ctxOk_cons (ctxOk_cons ctxOk_nil slices_xorshift_Next.ok Try.func60 (by kernel_rfl) (by kernel_rfl)) slices_nextPowerOfTwo.ok Try.func59 (by kernel_rfl) (by kernel_rfl)) Try.func47 (by kernel_rfl : Try.f47.body = some (bodyOf Try.f47)) Try.ntmps47 (of_decide_eq_true (by kernel_rfl)) (of_decide_eq_true (by kernel_rfl)) fun x y h => (val x).trans h
noncomputable def ctxc (n : Nat) : List (Nat × Sig) := [(59, slices_nextPowerOfTwo.sigc n), (60, slices_xorshift_Next.sigc n)]
noncomputable def sigc (n : Nat) : Sig := ⟨ps, rs, fun x => runs (withCtx E (ctxc n)) fin n (.code (bodyOf Try.f47) .ret) (entryFrom 0 ps x)⟩
theorem sigc_le (n : Nat) : ∀ x y, (sigc n).run x = some y → sig.run x = some y := fun x y h => (val x).symm.trans (runs_lim (E := E) (c := ctxc n) (ctxLe_cons (ctxLe_cons ctxLe_nil (slices_xorshift_Next.sigc_le n)) (slices_nextPowerOfTwo.sigc_le n)) h)
end slices_breakPatternsOrdered_int
namespace slices_order2Ordered_int
abbrev ps : List PM := [.pure (.sl (.int .i64)), .pure (.int .i64), .pure (.int .i64), .ptr (.int .i64)]
abbrev rs : List RM := [.pure (.int .i64), .pure (.int .i64)]
abbrev R : Type := Option (Int × Int × Int × Unit)
noncomputable def E : Env := { tt := tt, ctx := [(51, cmp_Less_int.sig)], nt := 28, ann := [] }
noncomputable def fin : ASt → R := Kret E Try.f64.results.toList ps rs
noncomputable def Se (data : List Int) (a : Int) (b : Int) (swaps : Int) : R :=
  Option.bind (idx data b) fun x1 =>
  Option.bind (idx data a) fun x2 =>
  Option.bind (cmp_Less_int x1 x2) fun x3 =>
  cond x3.1
    (some (b, a, IntKind.i64.wrap (swaps + 1), ()))
    (some (a, b, swaps, ()))
theorem se (x : (argTy ps).den) : run E (lim E fin) fin depth (bodyOf Try.f64) .ret (entryFrom 0 ps x) = Se x.1 x.2.1 x.2.2.1 x.2.2.2.1 := by kernel_rfl
end slices_order2Ordered_int
noncomputable def slices_order2Ordered_int (data : List Int) (a : Int) (b : Int) (swaps : Int) : slices_order2Ordered_int.R :=
  slices_order2Ordered_int.Se data a b swaps
namespace slices_order2Ordered_int
noncomputable def sig : Sig := ⟨ps, rs, fun x => slices_order2Ordered_int x.1 x.2.1 x.2.2.1 x.2.2.2.1⟩
theorem val (x : (argTy ps).den) : lim E fin (.code (bodyOf Try.f64) .ret) (entryFrom 0 ps x) = sig.run x := (lim_eq (.code (bodyOf Try.f64) .ret) (entryFrom 0 ps x)).trans (se x)
theorem ok : CallOK Try.prog 64 sig :=
  callOK_of_lim (E := E) mixed tt_ok (ctxOk_cons ctxOk_nil cmp_Less_int.ok Try.func51 (by kernel_rfl) (by kernel_rfl)) Try.func64 (by kernel_rfl : Try.f64.body = some (bodyOf Try.f64)) Try.ntmps64 (of_decide_eq_true (by kernel_rfl)) (of_decide_eq_true (by kernel_rfl)) fun x y h => (val x).trans h
noncomputable def ctxc (n : Nat) : List (Nat × Sig) := [(51, cmp_Less_int.sigc n)]
noncomputable def sigc (n : Nat) : Sig := ⟨ps, rs, fun x => runs (withCtx E (ctxc n)) fin n (.code (bodyOf Try.f64) .ret) (entryFrom 0 ps x)⟩
theorem sigc_le (n : Nat) : ∀ x y, (sigc n).run x = some y → sig.run x = some y := fun x y h => (val x).symm.trans (runs_lim (E := E) (c := ctxc n) (ctxLe_cons ctxLe_nil (cmp_Less_int.sigc_le n)) h)
end slices_order2Ordered_int
namespace slices_medianOrdered_int
abbrev ps : List PM := [.pure (.sl (.int .i64)), .pure (.int .i64), .pure (.int .i64), .pure (.int .i64), .ptr (.int .i64)]
abbrev rs : List RM := [.pure (.int .i64)]
abbrev R : Type := Option (Int × Int × Unit)
noncomputable def E : Env := { tt := tt, ctx := [(64, slices_order2Ordered_int.sig)], nt := 36, ann := [] }
noncomputable def fin : ASt → R := Kret E Try.f62.results.toList ps rs
noncomputable def Se (data : List Int) (a : Int) (b : Int) (c_3 : Int) (swaps : Int) : R :=
  Option.bind (slices_order2Ordered_int data a b swaps) fun x1 =>
  Option.bind (slices_order2Ordered_int data x1.2.1 c_3 x1.2.2.1) fun x2 =>
  Option.bind (slices_order2Ordered_int data x1.1 x2.1 x2.2.2.1) fun x3 =>
  some (x3.2.1, x3.2.2.1, ())
theorem se (x : (argTy ps).den) : run E (lim E fin) fin depth (bodyOf Try.f62) .ret (entryFrom 0 ps x) = Se x.1 x.2.1 x.2.2.1 x.2.2.2.1 x.2.2.2.2.1 := by kernel_rfl
end slices_medianOrdered_int
noncomputable def slices_medianOrdered_int (data : List Int) (a : Int) (b : Int) (c_3 : Int) (swaps : Int) : slices_medianOrdered_int.R :=
  slices_medianOrdered_int.Se data a b c_3 swaps
namespace slices_medianOrdered_int
noncomputable def sig : Sig := ⟨ps, rs, fun x => slices_medianOrdered_int x.1 x.2.1 x.2.2.1 x.2.2.2.1 x.2.2.2.2.1⟩
theorem val (x : (argTy ps).den) : lim E fin (.code (bodyOf Try.f62) .ret) (entryFrom 0 ps x) = sig.run x := (lim_eq (.code (bodyOf Try.f62) .ret) (entryFrom 0 ps x)).trans (se x)
theorem ok : CallOK Try.prog 62 sig :=
  callOK_of_lim (E := E) mixed tt_ok (ctxOk_cons ctxOk_nil slices_order2Ordered_int.ok Try.func64 (by kernel_rfl) (by kernel_rfl)) Try.func62 (by kernel_rfl : Try.f62.body = some (bodyOf Try.f62)) Try.ntmps62 (of_decide_eq_true (by kernel_rfl)) (of_decide_eq_true (by kernel_rfl)) fun x y h => (val x).trans h
noncomputable def ctxc (n : Nat) : List (Nat × Sig) := [(64, slices_order2Ordered_int.sigc n)]
noncomputable def sigc (n : Nat) : Sig := ⟨ps, rs, fun x => runs (withCtx E (ctxc n)) fin n (.code (bodyOf Try.f62) .ret) (entryFrom 0 ps x)⟩
theorem sigc_le (n : Nat) : ∀ x y, (sigc n).run x = some y → sig.run x = some y := fun x y h => (val x).symm.trans (runs_lim (E := E) (c := ctxc n) (ctxLe_cons ctxLe_nil (slices_order2Ordered_int.sigc_le n)) h)
end slices_medianOrdered_int
namespace slices_medianAdjacentOrdered_int
abbrev ps : List PM := [.pure (.sl (.int .i64)), .pure (.int .i64), .ptr (.int .i64)]
abbrev rs : List RM := [.pure (.int .i64)]
abbrev R : Type := Option (Int × Int × Unit)
noncomputable def E : Env := { tt := tt, ctx := [(62, slices_medianOrdered_int.sig)], nt := 15, ann := [] }
noncomputable def fin : ASt → R := Kret E Try.f61.results.toList ps rs
noncomputable def Se (data : List Int) (a : Int) (swaps : Int) : R :=
  Option.bind (slices_medianOrdered_int data (IntKind.i64.wrap (a - 1)) a (IntKind.i64.wrap (a + 1)) swaps) fun x1 =>
  some (x1.1, x1.2.1, ())
theorem se (x : (argTy ps).den) : run E (lim E fin) fin depth (bodyOf Try.f61) .ret (entryFrom 0 ps x) = Se x.1 x.2.1 x.2.2.1 := by kernel_rfl
end slices_medianAdjacentOrdered_int
noncomputable def slices_medianAdjacentOrdered_int (data : List Int) (a : Int) (swaps : Int) : slices_medianAdjacentOrdered_int.R :=
  slices_medianAdjacentOrdered_int.Se data a swaps
namespace slices_medianAdjacentOrdered_int
noncomputable def sig : Sig := ⟨ps, rs, fun x => slices_medianAdjacentOrdered_int x.1 x.2.1 x.2.2.1⟩
theorem val (x : (argTy ps).den) : lim E fin (.code (bodyOf Try.f61) .ret) (entryFrom 0 ps x) = sig.run x := (lim_eq (.code (bodyOf Try.f61) .ret) (entryFrom 0 ps x)).trans (se x)
theorem ok : CallOK Try.prog 61 sig :=
  callOK_of_lim (E := E) mixed tt_ok (ctxOk_cons ctxOk_nil slices_medianOrdered_int.ok Try.func62 (by kernel_rfl) (by kernel_rfl)) Try.func61 (by kernel_rfl : Try.f61.body = some (bodyOf Try.f61)) Try.ntmps61 (of_decide_eq_true (by kernel_rfl)) (of_decide_eq_true (by kernel_rfl)) fun x y h => (val x).trans h
noncomputable def ctxc (n : Nat) : List (Nat × Sig) := [(62, slices_medianOrdered_int.sigc n)]
noncomputable def sigc (n : Nat) : Sig := ⟨ps, rs, fun x => runs (withCtx E (ctxc n)) fin n (.code (bodyOf Try.f61) .ret) (entryFrom 0 ps x)⟩
theorem sigc_le (n : Nat) : ∀ x y, (sigc n).run x = some y → sig.run x = some y := fun x y h => (val x).symm.trans (runs_lim (E := E) (c := ctxc n) (ctxLe_cons ctxLe_nil (slices_medianOrdered_int.sigc_le n)) h)
end slices_medianAdjacentOrdered_int
namespace slices_choosePivotOrdered_int
abbrev ps : List PM := [.pure (.sl (.int .i64)), .pure (.int .i64), .pure (.int .i64)]
abbrev rs : List RM := [.pure (.int .i64), .pure (.int .i64)]
abbrev R : Type := Option (Int × Int × Unit)
noncomputable def E : Env := { tt := tt, ctx := [(61, slices_medianAdjacentOrdered_int.sig), (62, slices_medianOrdered_int.sig)], nt := 57, ann := [(12, [(9, .keep), (11, .keep)])] }
noncomputable def c0 : Code := sub [1, 1, 1, 1, 1, 1, 1] (bodyOf Try.f48)
noncomputable def fin : ASt → R := Kret E Try.f48.results.toList ps rs
def tJ0 (swaps : Int) (j : Int) : ASt := ⟨[(11, .one (.val (.int .i64) j)), (9, .one (.optr 9 0 []))], [(9, some ⟨.free, .int .i64, [swaps]⟩)]⟩
noncomputable def J0 (swaps : Int) (j : Int) : R := lim E fin (.code c0 .ret) (tJ0 swaps j)
noncomputable def SJ0 (swaps : Int) (j : Int) : R :=
  cond (swaps == 0)
    (some (j, 1, ()))
    (cond (swaps == 12)
      (some (j, 2, ()))
      (some (j, 0, ())))
noncomputable def Se (data : List Int) (a : Int) (b : Int) : R :=
  cond (decide ((IntKind.i64.wrap (b - a)) ≥ 8))
    (cond (decide ((IntKind.i64.wrap (b - a)) ≥ 50))
      (Option.bind (slices_medianAdjacentOrdered_int data (IntKind.i64.wrap (a + (IntKind.i64.wrap ((IntKind.i64.wrap (Int.tdiv (IntKind.i64.wrap (b - a)) 4)) * 1)))) 0) fun x1 =>
      Option.bind (slices_medianAdjacentOrdered_int data (IntKind.i64.wrap (a + (IntKind.i64.wrap ((IntKind.i64.wrap (Int.tdiv (IntKind.i64.wrap (b - a)) 4)) * 2)))) x1.2.1) fun x2 =>
      Option.bind (slices_medianAdjacentOrdered_int data (IntKind.i64.wrap (a + (IntKind.i64.wrap ((IntKind.i64.wrap (Int.tdiv (IntKind.i64.wrap (b - a)) 4)) * 3)))) x2.2.1) fun x3 =>
      Option.bind (slices_medianOrdered_int data x1.1 x2.1 x3.1 x3.2.1) fun x4 =>
      J0 x4.2.1 x4.1)
      (Option.bind (slices_medianOrdered_int data (IntKind.i64.wrap (a + (IntKind.i64.wrap ((IntKind.i64.wrap (Int.tdiv (IntKind.i64.wrap (b - a)) 4)) * 1)))) (IntKind.i64.wrap (a + (IntKind.i64.wrap ((IntKind.i64.wrap (Int.tdiv (IntKind.i64.wrap (b - a)) 4)) * 2)))) (IntKind.i64.wrap (a + (IntKind.i64.wrap ((IntKind.i64.wrap (Int.tdiv (IntKind.i64.wrap (b - a)) 4)) * 3)))) 0) fun x5 =>
      J0 x5.2.1 x5.1))
    (J0 0 (IntKind.i64.wrap (a + (IntKind.i64.wrap ((IntKind.i64.wrap (Int.tdiv (IntKind.i64.wrap (b - a)) 4)) * 2)))))
theorem J0_eq (swaps j) : J0 swaps j = SJ0 swaps j := (lim_eq (.code c0 .ret) (tJ0 swaps j)).trans (by kernel_rfl)
theorem se (x : (argTy ps).den) : run E (lim E fin) fin depth (bodyOf Try.f48) .ret (entryFrom 0 ps x) = Se x.1 x.2.1 x.2.2.1 := by kernel_rfl
end slices_choosePivotOrdered_int
noncomputable def slices_choosePivotOrdered_int (data : List Int) (a : Int) (b : Int) : slices_choosePivotOrdered_int.R :=
  slices_choosePivotOrdered_int.Se data a b
namespace slices_choosePivotOrdered_int
noncomputable def sig : Sig := ⟨ps, rs, fun x => slices_choosePivotOrdered_int x.1 x.2.1 x.2.2.1⟩
theorem val (x : (argTy ps).den) : lim E fin (.code (bodyOf Try.f48) .ret) (entryFrom 0 ps x) = sig.run x := (lim_eq (.code (bodyOf Try.f48) .ret) (entryFrom 0 ps x)).trans (se x)
theorem ok : CallOK Try.prog 48 sig :=
  callOK_of_lim (E := E) mixed tt_ok (ctxOk_cons (ctxOk_cons ctxOk_nil slices_medianOrdered_int.ok Try.func62 (by kernel_rfl) (by kernel_rfl)) slices_medianAdjacentOrdered_int.ok Try.func61 (by kernel_rfl) (by kernel_rfl)) Try.func48 (by kernel_rfl : Try.f48.body = some (bodyOf Try.f48)) Try.ntmps48 (of_decide_eq_true (by kernel_rfl)) (of_decide_eq_true (by kernel_rfl)) fun x y h => (val x).trans h
noncomputable def ctxc (n : Nat) : List (Nat × Sig) := [(61, slices_medianAdjacentOrdered_int.sigc n), (62, slices_medianOrdered_int.sigc n)]
noncomputable def sigc (n : Nat) : Sig := ⟨ps, rs, fun x => runs (withCtx E (ctxc n)) fin n (.code (bodyOf Try.f48) .ret) (entryFrom 0 ps x)⟩
theorem sigc_le (n : Nat) : ∀ x y, (sigc n).run x = some y → sig.run x = some y := fun x y h => (val x).symm.trans (runs_lim (E := E) (c := ctxc n) (ctxLe_cons (ctxLe_cons ctxLe_nil (slices_medianOrdered_int.sigc_le n)) (slices_medianAdjacentOrdered_int.sigc_le n)) h)
end slices_choosePivotOrdered_int
namespace slices_reverseRangeOrdered_int
abbrev ps : List PM := [.own (.int .i64), .pure (.int .i64), .pure (.int .i64)]
abbrev rs : List RM := []
abbrev R : Type := Option (List Int × Unit)
noncomputable def E : Env := { tt := tt, ctx := [], nt := 32, ann := [(1000002, [(0, .keep), (6, .keep), (7, .keep)])] }
noncomputable def c0 : Code := sub [1, 1, 0, 0] (bodyOf Try.f49)
noncomputable def K3 : Kont := .blk 0 .ret
noncomputable def fin : ASt → R := Kret E Try.f49.results.toList ps rs
def tL0 (i : Int) (j : Int) (data_P : List Int) : ASt := ⟨[(7, .one (.val (.int .i64) j)), (6, .one (.val (.int .i64) i)), (0, .one (.own 10000))], [(10000, some ⟨.fixed, .int .i64, data_P⟩)]⟩
noncomputable def L0 (i : Int) (j : Int) (data_P : List Int) : R := lim E fin (.loop c0 K3) (tL0 i j data_P)
noncomputable def SL0 (i : Int) (j : Int) (data_P : List Int) : R :=
  cond (decide (i < j))
    (cond (decide (0 ≤ j) && decide (j < (data_P.length : Int)))
      (cond (decide (0 ≤ i) && decide (i < (data_P.length : Int)))
        (cond (decide (0 ≤ i) && decide (i < (data_P.length : Int)))
          (cond (decide (0 ≤ j) && decide (j < ((data_P.set i.toNat (data_P.getD j.toNat 0)).length : Int)))
            (L0 (IntKind.i64.wrap (i + 1)) (IntKind.i64.wrap (j - 1)) ((data_P.set i.toNat (data_P.getD j.toNat 0)).set j.toNat (data_P.getD i.toNat 0)))
            none)
          none)
        none)
      none)
    (some (data_P, ()))
noncomputable def Se (data : List Int) (a : Int) (b : Int) : R :=
  L0 a (IntKind.i64.wrap (b - 1)) data
theorem L0_eq (i j data_P) : L0 i j data_P = SL0 i j data_P := (lim_eq (.loop c0 K3) (tL0 i j data_P)).trans (by kernel_rfl)
theorem se (x : (argTy ps).den) : run E (lim E fin) fin depth (bodyOf Try.f49) .ret (entryFrom 0 ps x) = Se x.1 x.2.1 x.2.2.1 := by kernel_rfl
end slices_reverseRangeOrdered_int
noncomputable def slices_reverseRangeOrdered_int (data : List Int) (a : Int) (b : Int) : slices_reverseRangeOrdered_int.R :=
  slices_reverseRangeOrdered_int.Se data a b
namespace slices_reverseRangeOrdered_int
noncomputable def sig : Sig := ⟨ps, rs, fun x => slices_reverseRangeOrdered_int x.1 x.2.1 x.2.2.1⟩
theorem val (x : (argTy ps).den) : lim E fin (.code (bodyOf Try.f49) .ret) (entryFrom 0 ps x) = sig.run x := (lim_eq (.code (bodyOf Try.f49) .ret) (entryFrom 0 ps x)).trans (se x)
theorem ok : CallOK Try.prog 49 sig :=
  callOK_of_lim (E := E) mixed tt_ok ctxOk_nil Try.func49 (by kernel_rfl : Try.f49.body = some (bodyOf Try.f49)) Try.ntmps49 (of_decide_eq_true (by kernel_rfl)) (of_decide_eq_true (by kernel_rfl)) fun x y h => (val x).trans h
noncomputable def ctxc (n : Nat) : List (Nat × Sig) := []
noncomputable def sigc (n : Nat) : Sig := ⟨ps, rs, fun x => runs (withCtx E (ctxc n)) fin n (.code (bodyOf Try.f49) .ret) (entryFrom 0 ps x)⟩
theorem sigc_le (n : Nat) : ∀ x y, (sigc n).run x = some y → sig.run x = some y := fun x y h => (val x).symm.trans (runs_lim (E := E) (c := ctxc n) ctxLe_nil h)
end slices_reverseRangeOrdered_int
namespace slices_partialInsertionSortOrdered_int
abbrev ps : List PM := [.own (.int .i64), .pure (.int .i64), .pure (.int .i64)]
abbrev rs : List RM := [.pure .bool]
abbrev R : Type := Option (Bool × List Int × Unit)
noncomputable def E : Env := { tt := tt, ctx := [(51, cmp_Less_int.sig)], nt := 133, ann := [(1000003, [(0, .keep), (1, .keep), (2, .keep), (7, .keep), (8, .keep)]), (7, [(0, .keep), (1, .keep), (2, .keep), (7, .keep), (8, .keep)]), (1000005, [(0, .keep), (1, .keep), (2, .keep), (7, .keep), (8, .keep)]), (18, [(0, .keep), (1, .keep), (2, .keep), (7, .keep), (8, .keep)]), (1000014, [(0, .keep), (1, .keep), (2, .keep), (7, .keep), (8, .keep), (9, .keep)]), (1000020, [(0, .keep), (1, .keep), (2, .keep), (7, .keep), (8, .keep), (10, .keep)])] }
noncomputable def c0 : Code := sub [1, 1, 1] (bodyOf Try.f50)
noncomputable def c1 : Code := sub [1, 1, 0, 1, 0, 0] (bodyOf Try.f50)
noncomputable def c2 : Code := sub [1, 1, 0, 1, 0, 0, 1, 1] (bodyOf Try.f50)
noncomputable def c3 : Code := sub [1, 1, 0, 1, 0, 0, 1, 0, 0, 1] (bodyOf Try.f50)
noncomputable def c4 : Code := sub [1, 1, 0, 1, 0, 0, 1, 0, 0, 1, 1, 1, 1, 1] (bodyOf Try.f50)
noncomputable def c5 : Code := sub [1, 1, 0, 1, 0, 0, 1, 0, 0, 0, 0, 0] (bodyOf Try.f50)
noncomputable def c6 : Code := sub [1, 1, 0, 1, 0, 0, 1, 0, 0, 1, 1, 1, 1, 0, 1, 0, 1, 0, 0] (bodyOf Try.f50)
noncomputable def c7 : Code := sub [1, 1, 0, 1, 0, 0, 1, 0, 0, 1, 1, 1, 1, 1, 1, 0, 1, 0, 0] (bodyOf Try.f50)
noncomputable def K3 : Kont := .seq c0 .ret
noncomputable def K5 : Kont := .blk 0 K3
noncomputable def K6 : Kont := .loop c1 K5
noncomputable def K9 : Kont := .seq c2 K6
noncomputable def K10 : Kont := .blk 1 K9
noncomputable def K11 : Kont := .seq c3 K10
noncomputable def K12 : Kont := .blk 2 K11
noncomputable def K25 : Kont := .seq c4 K10
noncomputable def K28 : Kont := .blk 4 K25
noncomputable def K32 : Kont := .blk 6 K10
noncomputable def fin : ASt → R := Kret E Try.f50.results.toList ps rs
def tL0 (a : Int) (b : Int) (i : Int) (j : Int) (data_P : List Int) : ASt := ⟨[(8, .one (.val (.int .i64) j)), (7, .one (.val (.int .i64) i)), (2, .one (.val (.int .i64) b)), (1, .one (.val (.int .i64) a)), (0, .one (.own 10000))], [(10000, some ⟨.fixed, .int .i64, data_P⟩)]⟩
def tJ1 (a : Int) (b : Int) (i : Int) (j : Int) (data_P : List Int) : ASt := ⟨[(8, .one (.val (.int .i64) j)), (7, .one (.val (.int .i64) i)), (2, .one (.val (.int .i64) b)), (1, .one (.val (.int .i64) a)), (0, .one (.own 10000))], [(10000, some ⟨.fixed, .int .i64, data_P⟩)]⟩
def tL2 (a : Int) (b : Int) (i : Int) (j : Int) (data_P : List Int) : ASt := ⟨[(8, .one (.val (.int .i64) j)), (7, .one (.val (.int .i64) i)), (2, .one (.val (.int .i64) b)), (1, .one (.val (.int .i64) a)), (0, .one (.own 10000))], [(10000, some ⟨.fixed, .int .i64, data_P⟩)]⟩
def tJ3 (a : Int) (b : Int) (i : Int) (j : Int) (data_P : List Int) : ASt := ⟨[(8, .one (.val (.int .i64) j)), (7, .one (.val (.int .i64) i)), (2, .one (.val (.int .i64) b)), (1, .one (.val (.int .i64) a)), (0, .one (.own 10000))], [(10000, some ⟨.fixed, .int .i64, data_P⟩)]⟩
def tL4 (a : Int) (b : Int) (i : Int) (j : Int) (j_9 : Int) (data_P : List Int) : ASt := ⟨[(9, .one (.val (.int .i64) j_9)), (8, .one (.val (.int .i64) j)), (7, .one (.val (.int .i64) i)), (2, .one (.val (.int .i64) b)), (1, .one (.val (.int .i64) a)), (0, .one (.own 10000))], [(10000, some ⟨.fixed, .int .i64, data_P⟩)]⟩
def tL5 (a : Int) (b : Int) (i : Int) (j : Int) (j_10 : Int) (data_P : List Int) : ASt := ⟨[(10, .one (.val (.int .i64) j_10)), (8, .one (.val (.int .i64) j)), (7, .one (.val (.int .i64) i)), (2, .one (.val (.int .i64) b)), (1, .one (.val (.int .i64) a)), (0, .one (.own 10000))], [(10000, some ⟨.fixed, .int .i64, data_P⟩)]⟩
noncomputable def L0 (a : Int) (b : Int) (i : Int) (j : Int) (data_P : List Int) : R := lim E fin (.loop c1 K5) (tL0 a b i j data_P)
noncomputable def J1 (a : Int) (b : Int) (i : Int) (j : Int) (data_P : List Int) : R := lim E fin (.code c3 K10) (tJ1 a b i j data_P)
noncomputable def L2 (a : Int) (b : Int) (i : Int) (j : Int) (data_P : List Int) : R := lim E fin (.loop c5 K12) (tL2 a b i j data_P)
noncomputable def J3 (a : Int) (b : Int) (i : Int) (j : Int) (data_P : List Int) : R := lim E fin (.code c4 K10) (tJ3 a b i j data_P)
noncomputable def L4 (a : Int) (b : Int) (i : Int) (j : Int) (j_9 : Int) (data_P : List Int) : R := lim E fin (.loop c6 K28) (tL4 a b i j j_9 data_P)
noncomputable def L5 (a : Int) (b : Int) (i : Int) (j : Int) (j_10 : Int) (data_P : List Int) : R := lim E fin (.loop c7 K32) (tL5 a b i j j_10 data_P)
noncomputable def SL0 (a : Int) (b : Int) (i : Int) (j : Int) (data_P : List Int) : R :=
  cond (decide (j < 5))
    (L2 a b i j data_P)
    (some (false, data_P, ()))
noncomputable def SJ1 (a : Int) (b : Int) (i : Int) (j : Int) (data_P : List Int) : R :=
  cond (i == b)
    (some (true, data_P, ()))
    (cond (decide ((IntKind.i64.wrap (b - a)) < 50))
      (some (false, data_P, ()))
      (cond (decide (0 ≤ IntKind.i64.wrap (i - 1)) && decide (IntKind.i64.wrap (i - 1) < (data_P.length : Int)))
        (cond (decide (0 ≤ i) && decide (i < (data_P.length : Int)))
          (cond (decide (0 ≤ i) && decide (i < (data_P.length : Int)))
            (cond (decide (0 ≤ IntKind.i64.wrap (i - 1)) && decide (IntKind.i64.wrap (i - 1) < ((data_P.set i.toNat (data_P.getD ((IntKind.i64.wrap (i - 1)).toNat) 0)).length : Int)))
              (cond (decide ((IntKind.i64.wrap (i - a)) ≥ 2))
                (L4 a b i j (IntKind.i64.wrap (i - 1)) ((data_P.set i.toNat (data_P.getD ((IntKind.i64.wrap (i - 1)).toNat) 0)).set ((IntKind.i64.wrap (i - 1)).toNat) (data_P.getD i.toNat 0)))
                (J3 a b i j ((data_P.set i.toNat (data_P.getD ((IntKind.i64.wrap (i - 1)).toNat) 0)).set ((IntKind.i64.wrap (i - 1)).toNat) (data_P.getD i.toNat 0))))
              none)
            none)
          none)
        none))
noncomputable def SL2 (a : Int) (b : Int) (i : Int) (j : Int) (data_P : List Int) : R :=
  cond (decide (i < b))
    (cond (decide (0 ≤ i) && decide (i < (data_P.length : Int)))
      (cond (decide (0 ≤ IntKind.i64.wrap (i - 1)) && decide (IntKind.i64.wrap (i - 1) < (data_P.length : Int)))
        (Option.bind (cmp_Less_int (data_P.getD i.toNat 0) (data_P.getD ((IntKind.i64.wrap (i - 1)).toNat) 0)) fun x1 =>
        cond (!x1.1)
          (L2 a b (IntKind.i64.wrap (i + 1)) j data_P)
          (J1 a b i j data_P))
        none)
      none)
    (J1 a b i j data_P)
noncomputable def SJ3 (a : Int) (b : Int) (i : Int) (j : Int) (data_P : List Int) : R :=
  cond (decide ((IntKind.i64.wrap (b - i)) ≥ 2))
    (L5 a b i j (IntKind.i64.wrap (i + 1)) data_P)
    (L0 a b i (IntKind.i64.wrap (j + 1)) data_P)
noncomputable def SL4 (a : Int) (b : Int) (i : Int) (j : Int) (j_9 : Int) (data_P : List Int) : R :=
  cond (decide (j_9 ≥ 1))
    (cond (decide (0 ≤ j_9) && decide (j_9 < (data_P.length : Int)))
      (cond (decide (0 ≤ IntKind.i64.wrap (j_9 - 1)) && decide (IntKind.i64.wrap (j_9 - 1) < (data_P.length : Int)))
        (Option.bind (cmp_Less_int (data_P.getD j_9.toNat 0) (data_P.getD ((IntKind.i64.wrap (j_9 - 1)).toNat) 0)) fun x1 =>
        cond (!x1.1)
          (J3 a b i j data_P)
          (cond (decide (0 ≤ IntKind.i64.wrap (j_9 - 1)) && decide (IntKind.i64.wrap (j_9 - 1) < (data_P.length : Int)))
            (cond (decide (0 ≤ j_9) && decide (j_9 < (data_P.length : Int)))
              (cond (decide (0 ≤ j_9) && decide (j_9 < (data_P.length : Int)))
                (cond (decide (0 ≤ IntKind.i64.wrap (j_9 - 1)) && decide (IntKind.i64.wrap (j_9 - 1) < ((data_P.set j_9.toNat (data_P.getD ((IntKind.i64.wrap (j_9 - 1)).toNat) 0)).length : Int)))
                  (L4 a b i j (IntKind.i64.wrap (j_9 - 1)) ((data_P.set j_9.toNat (data_P.getD ((IntKind.i64.wrap (j_9 - 1)).toNat) 0)).set ((IntKind.i64.wrap (j_9 - 1)).toNat) (data_P.getD j_9.toNat 0)))
                  none)
                none)
              none)
            none))
        none)
      none)
    (J3 a b i j data_P)
noncomputable def SL5 (a : Int) (b : Int) (i : Int) (j : Int) (j_10 : Int) (data_P : List Int) : R :=
  cond (decide (j_10 < b))
    (cond (decide (0 ≤ j_10) && decide (j_10 < (data_P.length : Int)))
      (cond (decide (0 ≤ IntKind.i64.wrap (j_10 - 1)) && decide (IntKind.i64.wrap (j_10 - 1) < (data_P.length : Int)))
        (Option.bind (cmp_Less_int (data_P.getD j_10.toNat 0) (data_P.getD ((IntKind.i64.wrap (j_10 - 1)).toNat) 0)) fun x1 =>
        cond (!x1.1)
          (L0 a b i (IntKind.i64.wrap (j + 1)) data_P)
          (cond (decide (0 ≤ IntKind.i64.wrap (j_10 - 1)) && decide (IntKind.i64.wrap (j_10 - 1) < (data_P.length : Int)))
            (cond (decide (0 ≤ j_10) && decide (j_10 < (data_P.length : Int)))
              (cond (decide (0 ≤ j_10) && decide (j_10 < (data_P.length : Int)))
                (cond (decide (0 ≤ IntKind.i64.wrap (j_10 - 1)) && decide (IntKind.i64.wrap (j_10 - 1) < ((data_P.set j_10.toNat (data_P.getD ((IntKind.i64.wrap (j_10 - 1)).toNat) 0)).length : Int)))
                  (L5 a b i j (IntKind.i64.wrap (j_10 + 1)) ((data_P.set j_10.toNat (data_P.getD ((IntKind.i64.wrap (j_10 - 1)).toNat) 0)).set ((IntKind.i64.wrap (j_10 - 1)).toNat) (data_P.getD j_10.toNat 0)))
                  none)
                none)
              none)
            none))
        none)
      none)
    (L0 a b i (IntKind.i64.wrap (j + 1)) data_P)
noncomputable def Se (data : List Int) (a : Int) (b : Int) : R :=
  L0 a b (IntKind.i64.wrap (a + 1)) 0 data
theorem L0_eq (a b i j data_P) : L0 a b i j data_P = SL0 a b i j data_P := (lim_eq (.loop c1 K5) (tL0 a b i j data_P)).trans (by kernel_rfl)
theorem J1_eq (a b i j data_P) : J1 a b i j data_P = SJ1 a b i j data_P := (lim_eq (.code c3 K10) (tJ1 a b i j data_P)).trans (by kernel_rfl)
theorem L2_eq (a b i j data_P) : L2 a b i j data_P = SL2 a b i j data_P := (lim_eq (.loop c5 K12) (tL2 a b i j data_P)).trans (by kernel_rfl)
theorem J3_eq (a b i j data_P) : J3 a b i j data_P = SJ3 a b i j data_P := (lim_eq (.code c4 K10) (tJ3 a b i j data_P)).trans (by kernel_rfl)
theorem L4_eq (a b i j j_9 data_P) : L4 a b i j j_9 data_P = SL4 a b i j j_9 data_P := (lim_eq (.loop c6 K28) (tL4 a b i j j_9 data_P)).trans (by kernel_rfl)
theorem L5_eq (a b i j j_10 data_P) : L5 a b i j j_10 data_P = SL5 a b i j j_10 data_P := (lim_eq (.loop c7 K32) (tL5 a b i j j_10 data_P)).trans (by kernel_rfl)
theorem se (x : (argTy ps).den) : run E (lim E fin) fin depth (bodyOf Try.f50) .ret (entryFrom 0 ps x) = Se x.1 x.2.1 x.2.2.1 := by kernel_rfl
end slices_partialInsertionSortOrdered_int
noncomputable def slices_partialInsertionSortOrdered_int (data : List Int) (a : Int) (b : Int) : slices_partialInsertionSortOrdered_int.R :=
  slices_partialInsertionSortOrdered_int.Se data a b
namespace slices_partialInsertionSortOrdered_int
noncomputable def sig : Sig := ⟨ps, rs, fun x => slices_partialInsertionSortOrdered_int x.1 x.2.1 x.2.2.1⟩
theorem val (x : (argTy ps).den) : lim E fin (.code (bodyOf Try.f50) .ret) (entryFrom 0 ps x) = sig.run x := (lim_eq (.code (bodyOf Try.f50) .ret) (entryFrom 0 ps x)).trans (se x)
theorem ok : CallOK Try.prog 50 sig :=
  callOK_of_lim (E := E) mixed tt_ok (ctxOk_cons ctxOk_nil cmp_Less_int.ok Try.func51 (by kernel_rfl) (by kernel_rfl)) Try.func50 (by kernel_rfl : Try.f50.body = some (bodyOf Try.f50)) Try.ntmps50 (of_decide_eq_true (by kernel_rfl)) (of_decide_eq_true (by kernel_rfl)) fun x y h => (val x).trans h
noncomputable def ctxc (n : Nat) : List (Nat × Sig) := [(51, cmp_Less_int.sigc n)]
noncomputable def sigc (n : Nat) : Sig := ⟨ps, rs, fun x => runs (withCtx E (ctxc n)) fin n (.code (bodyOf Try.f50) .ret) (entryFrom 0 ps x)⟩
theorem sigc_le (n : Nat) : ∀ x y, (sigc n).run x = some y → sig.run x = some y := fun x y h => (val x).symm.trans (runs_lim (E := E) (c := ctxc n) (ctxLe_cons ctxLe_nil (cmp_Less_int.sigc_le n)) h)
end slices_partialInsertionSortOrdered_int
namespace slices_partitionEqualOrdered_int
abbrev ps : List PM := [.own (.int .i64), .pure (.int .i64), .pure (.int .i64), .pure (.int .i64)]
abbrev rs : List RM := [.pure (.int .i64)]
abbrev R : Type := Option (Int × List Int × Unit)
noncomputable def E : Env := { tt := tt, ctx := [(51, cmp_Less_int.sig)], nt := 84, ann := [(1000003, [(0, .keep), (1, .keep), (9, .keep), (10, .keep)]), (5, [(0, .keep), (1, .keep), (9, .keep), (10, .keep)]), (1000003, [(0, .keep), (1, .keep), (9, .keep), (10, .keep)]), (7, [(0, .keep), (1, .keep), (9, .keep), (10, .keep)]), (1000005, [(0, .keep), (1, .keep), (9, .keep), (10, .keep)])] }
noncomputable def c0 : Code := sub [1, 1, 1, 1] (bodyOf Try.f52)
noncomputable def c1 : Code := sub [1, 1, 1, 0, 0, 0] (bodyOf Try.f52)
noncomputable def c2 : Code := sub [1, 1, 1, 0, 0, 0, 0, 1] (bodyOf Try.f52)
noncomputable def c3 : Code := sub [1, 1, 1, 0, 0, 0, 0, 1, 1] (bodyOf Try.f52)
noncomputable def c4 : Code := sub [1, 1, 1, 0, 0, 0, 0, 0, 0, 0] (bodyOf Try.f52)
noncomputable def c5 : Code := sub [1, 1, 1, 0, 0, 0, 0, 1, 0, 0, 0] (bodyOf Try.f52)
noncomputable def K4 : Kont := .seq c0 .ret
noncomputable def K5 : Kont := .blk 0 K4
noncomputable def K6 : Kont := .loop c1 K5
noncomputable def K7 : Kont := .blk 1 K6
noncomputable def K8 : Kont := .seq c2 K7
noncomputable def K9 : Kont := .blk 2 K8
noncomputable def K14 : Kont := .seq c3 K7
noncomputable def K15 : Kont := .blk 4 K14
noncomputable def fin : ASt → R := Kret E Try.f52.results.toList ps rs
def tL0 (a : Int) (i : Int) (j : Int) (data_P : List Int) : ASt := ⟨[(10, .one (.val (.int .i64) j)), (9, .one (.val (.int .i64) i)), (1, .one (.val (.int .i64) a)), (0, .one (.own 10000))], [(10000, some ⟨.fixed, .int .i64, data_P⟩)]⟩
def tJ1 (a : Int) (i : Int) (j : Int) (data_P : List Int) : ASt := ⟨[(10, .one (.val (.int .i64) j)), (9, .one (.val (.int .i64) i)), (1, .one (.val (.int .i64) a)), (0, .one (.own 10000))], [(10000, some ⟨.fixed, .int .i64, data_P⟩)]⟩
def tL2 (a : Int) (i : Int) (j : Int) (data_P : List Int) : ASt := ⟨[(10, .one (.val (.int .i64) j)), (9, .one (.val (.int .i64) i)), (1, .one (.val (.int .i64) a)), (0, .one (.own 10000))], [(10000, some ⟨.fixed, .int .i64, data_P⟩)]⟩
def tJ3 (a : Int) (i : Int) (j : Int) (data_P : List Int) : ASt := ⟨[(10, .one (.val (.int .i64) j)), (9, .one (.val (.int .i64) i)), (1, .one (.val (.int .i64) a)), (0, .one (.own 10000))], [(10000, some ⟨.fixed, .int .i64, data_P⟩)]⟩
def tL4 (a : Int) (i : Int) (j : Int) (data_P : List Int) : ASt := ⟨[(10, .one (.val (.int .i64) j)), (9, .one (.val (.int .i64) i)), (1, .one (.val (.int .i64) a)), (0, .one (.own 10000))], [(10000, some ⟨.fixed, .int .i64, data_P⟩)]⟩
noncomputable def L0 (a : Int) (i : Int) (j : Int) (data_P : List Int) : R := lim E fin (.loop c1 K5) (tL0 a i j data_P)
noncomputable def J1 (a : Int) (i : Int) (j : Int) (data_P : List Int) : R := lim E fin (.code c2 K7) (tJ1 a i j data_P)
noncomputable def L2 (a : Int) (i : Int) (j : Int) (data_P : List Int) : R := lim E fin (.loop c4 K9) (tL2 a i j data_P)
noncomputable def J3 (a : Int) (i : Int) (j : Int) (data_P : List Int) : R := lim E fin (.code c3 K7) (tJ3 a i j data_P)
noncomputable def L4 (a : Int) (i : Int) (j : Int) (data_P : List Int) : R := lim E fin (.loop c5 K15) (tL4 a i j data_P)
noncomputable def SL0 (a : Int) (i : Int) (j : Int) (data_P : List Int) : R :=
  L2 a i j data_P
noncomputable def SJ1 (a : Int) (i : Int) (j : Int) (data_P : List Int) : R :=
  L4 a i j data_P
noncomputable def SL2 (a : Int) (i : Int) (j : Int) (data_P : List Int) : R :=
  cond (decide (i ≤ j))
    (cond (decide (0 ≤ a) && decide (a < (data_P.length : Int)))
      (cond (decide (0 ≤ i) && decide (i < (data_P.length : Int)))
        (Option.bind (cmp_Less_int (data_P.getD a.toNat 0) (data_P.getD i.toNat 0)) fun x1 =>
        cond (!x1.1)
          (L2 a (IntKind.i64.wrap (i + 1)) j data_P)
          (J1 a i j data_P))
        none)
      none)
    (J1 a i j data_P)
noncomputable def SJ3 (a : Int) (i : Int) (j : Int) (data_P : List Int) : R :=
  cond (decide (i > j))
    (some (i, data_P, ()))
    (cond (decide (0 ≤ j) && decide (j < (data_P.length : Int)))
      (cond (decide (0 ≤ i) && decide (i < (data_P.length : Int)))
        (cond (decide (0 ≤ i) && decide (i < (data_P.length : Int)))
          (cond (decide (0 ≤ j) && decide (j < ((data_P.set i.toNat (data_P.getD j.toNat 0)).length : Int)))
            (L0 a (IntKind.i64.wrap (i + 1)) (IntKind.i64.wrap (j - 1)) ((data_P.set i.toNat (data_P.getD j.toNat 0)).set j.toNat (data_P.getD i.toNat 0)))
            none)
          none)
        none)
      none)
noncomputable def SL4 (a : Int) (i : Int) (j : Int) (data_P : List Int) : R :=
  cond (decide (i ≤ j))
    (cond (decide (0 ≤ a) && decide (a < (data_P.length : Int)))
      (cond (decide (0 ≤ j) && decide (j < (data_P.length : Int)))
        (Option.bind (cmp_Less_int (data_P.getD a.toNat 0) (data_P.getD j.toNat 0)) fun x1 =>
        cond x1.1
          (L4 a i (IntKind.i64.wrap (j - 1)) data_P)
          (J3 a i j data_P))
        none)
      none)
    (J3 a i j data_P)
noncomputable def Se (data : List Int) (a : Int) (b : Int) (pivot : Int) : R :=
  cond (decide (0 ≤ pivot) && decide (pivot < (data.length : Int)))
    (cond (decide (0 ≤ a) && decide (a < (data.length : Int)))
      (cond (decide (0 ≤ a) && decide (a < (data.length : Int)))
        (cond (decide (0 ≤ pivot) && decide (pivot < ((data.set a.toNat (data.getD pivot.toNat 0)).length : Int)))
          (L0 a (IntKind.i64.wrap (a + 1)) (IntKind.i64.wrap (b - 1)) ((data.set a.toNat (data.getD pivot.toNat 0)).set pivot.toNat (data.getD a.toNat 0)))
          none)
        none)
      none)
    none
theorem L0_eq (a i j data_P) : L0 a i j data_P = SL0 a i j data_P := (lim_eq (.loop c1 K5) (tL0 a i j data_P)).trans (by kernel_rfl)
theorem J1_eq (a i j data_P) : J1 a i j data_P = SJ1 a i j data_P := (lim_eq (.code c2 K7) (tJ1 a i j data_P)).trans (by kernel_rfl)
theorem L2_eq (a i j data_P) : L2 a i j data_P = SL2 a i j data_P := (lim_eq (.loop c4 K9) (tL2 a i j data_P)).trans (by kernel_rfl)
theorem J3_eq (a i j data_P) : J3 a i j data_P = SJ3 a i j data_P := (lim_eq (.code c3 K7) (tJ3 a i j data_P)).trans (by kernel_rfl)
theorem L4_eq (a i j data_P) : L4 a i j data_P = SL4 a i j data_P := (lim_eq (.loop c5 K15) (tL4 a i j data_P)).trans (by kernel_rfl)
theorem se (x : (argTy ps).den) : run E (lim E fin) fin depth (bodyOf Try.f52) .ret (entryFrom 0 ps x) = Se x.1 x.2.1 x.2.2.1 x.2.2.2.1 := by kernel_rfl
end slices_partitionEqualOrdered_int
noncomputable def slices_partitionEqualOrdered_int (data : List Int) (a : Int) (b : Int) (pivot : Int) : slices_partitionEqualOrdered_int.R :=
  slices_partitionEqualOrdered_int.Se data a b pivot
namespace slices_partitionEqualOrdered_int
noncomputable def sig : Sig := ⟨ps, rs, fun x => slices_partitionEqualOrdered_int x.1 x.2.1 x.2.2.1 x.2.2.2.1⟩
theorem val (x : (argTy ps).den) : lim E fin (.code (bodyOf Try.f52) .ret) (entryFrom 0 ps x) = sig.run x := (lim_eq (.code (bodyOf Try.f52) .ret) (entryFrom 0 ps x)).trans (se x)
theorem ok : CallOK Try.prog 52 sig :=
  callOK_of_lim (E := E) mixed tt_ok (ctxOk_cons ctxOk_nil cmp_Less_int.ok Try.func51 (by kernel_rfl) (by kernel_rfl)) Try.func52 (by kernel_rfl : Try.f52.body = some (bodyOf Try.f52)) Try.ntmps52 (of_decide_eq_true (by kernel_rfl)) (of_decide_eq_true (by kernel_rfl)) fun x y h => (val x).trans h
noncomputable def ctxc (n : Nat) : List (Nat × Sig) := [(51, cmp_Less_int.sigc n)]
noncomputable def sigc (n : Nat) : Sig := ⟨ps, rs, fun x => runs (withCtx E (ctxc n)) fin n (.code (bodyOf Try.f52) .ret) (entryFrom 0 ps x)⟩
theorem sigc_le (n : Nat) : ∀ x y, (sigc n).run x = some y → sig.run x = some y := fun x y h => (val x).symm.trans (runs_lim (E := E) (c := ctxc n) (ctxLe_cons ctxLe_nil (cmp_Less_int.sigc_le n)) h)
end slices_partitionEqualOrdered_int
namespace slices_partitionOrdered_int
abbrev ps : List PM := [.own (.int .i64), .pure (.int .i64), .pure (.int .i64), .pure (.int .i64)]
abbrev rs : List RM := [.pure (.int .i64), .pure .bool]
abbrev R : Type := Option (Int × Bool × List Int × Unit)
noncomputable def E : Env := { tt := tt, ctx := [(51, cmp_Less_int.sig)], nt := 168, ann := [(5, [(0, .keep), (1, .keep), (10, .keep), (11, .keep)]), (1000003, [(0, .keep), (1, .keep), (10, .keep), (11, .keep)]), (7, [(0, .keep), (1, .keep), (10, .keep), (11, .keep)]), (1000005, [(0, .keep), (1, .keep), (10, .keep), (11, .keep)]), (1000013, [(0, .keep), (1, .keep), (10, .keep), (11, .keep)]), (15, [(0, .keep), (1, .keep), (10, .keep), (11, .keep)]), (1000013, [(0, .keep), (1, .keep), (10, .keep), (11, .keep)]), (17, [(0, .keep), (1, .keep), (10, .keep), (11, .keep)]), (1000015, [(0, .keep), (1, .keep), (10, .keep), (11, .keep)])] }
noncomputable def c0 : Code := sub [1, 1, 1, 1] (bodyOf Try.f53)
noncomputable def c1 : Code := sub [1, 1, 1, 1, 1] (bodyOf Try.f53)
noncomputable def c2 : Code := sub [1, 1, 1, 1, 1, 1, 1, 1, 1, 1] (bodyOf Try.f53)
noncomputable def c3 : Code := sub [1, 1, 1, 1, 1, 1, 1, 1, 1, 0, 0, 0] (bodyOf Try.f53)
noncomputable def c4 : Code := sub [1, 1, 1, 1, 1, 1, 1, 1, 1, 0, 0, 0, 0, 1] (bodyOf Try.f53)
noncomputable def c5 : Code := sub [1, 1, 1, 1, 1, 1, 1, 1, 1, 0, 0, 0, 0, 1, 1] (bodyOf Try.f53)
noncomputable def c6 : Code := sub [1, 1, 1, 0, 0, 0] (bodyOf Try.f53)
noncomputable def c7 : Code := sub [1, 1, 1, 1, 0, 0, 0] (bodyOf Try.f53)
noncomputable def c8 : Code := sub [1, 1, 1, 1, 1, 1, 1, 1, 1, 0, 0, 0, 0, 0, 0, 0] (bodyOf Try.f53)
noncomputable def c9 : Code := sub [1, 1, 1, 1, 1, 1, 1, 1, 1, 0, 0, 0, 0, 1, 0, 0, 0] (bodyOf Try.f53)
noncomputable def K4 : Kont := .seq c0 .ret
noncomputable def K5 : Kont := .blk 0 K4
noncomputable def K10 : Kont := .seq c1 .ret
noncomputable def K11 : Kont := .blk 2 K10
noncomputable def K23 : Kont := .seq c2 .ret
noncomputable def K24 : Kont := .blk 4 K23
noncomputable def K25 : Kont := .loop c3 K24
noncomputable def K26 : Kont := .blk 5 K25
noncomputable def K27 : Kont := .seq c4 K26
noncomputable def K28 : Kont := .blk 6 K27
noncomputable def K33 : Kont := .seq c5 K26
noncomputable def K34 : Kont := .blk 8 K33
noncomputable def fin : ASt → R := Kret E Try.f53.results.toList ps rs
def tJ0 (a : Int) (i : Int) (j : Int) (data_P : List Int) : ASt := ⟨[(11, .one (.val (.int .i64) j)), (10, .one (.val (.int .i64) i)), (1, .one (.val (.int .i64) a)), (0, .one (.own 10000))], [(10000, some ⟨.fixed, .int .i64, data_P⟩)]⟩
def tL1 (a : Int) (i : Int) (j : Int) (data_P : List Int) : ASt := ⟨[(11, .one (.val (.int .i64) j)), (10, .one (.val (.int .i64) i)), (1, .one (.val (.int .i64) a)), (0, .one (.own 10000))], [(10000, some ⟨.fixed, .int .i64, data_P⟩)]⟩
def tJ2 (a : Int) (i : Int) (j : Int) (data_P : List Int) : ASt := ⟨[(11, .one (.val (.int .i64) j)), (10, .one (.val (.int .i64) i)), (1, .one (.val (.int .i64) a)), (0, .one (.own 10000))], [(10000, some ⟨.fixed, .int .i64, data_P⟩)]⟩
def tL3 (a : Int) (i : Int) (j : Int) (data_P : List Int) : ASt := ⟨[(11, .one (.val (.int .i64) j)), (10, .one (.val (.int .i64) i)), (1, .one (.val (.int .i64) a)), (0, .one (.own 10000))], [(10000, some ⟨.fixed, .int .i64, data_P⟩)]⟩
def tL4 (a : Int) (i : Int) (j : Int) (data_P : List Int) : ASt := ⟨[(11, .one (.val (.int .i64) j)), (10, .one (.val (.int .i64) i)), (1, .one (.val (.int .i64) a)), (0, .one (.own 10000))], [(10000, some ⟨.fixed, .int .i64, data_P⟩)]⟩
def tJ5 (a : Int) (i : Int) (j : Int) (data_P : List Int) : ASt := ⟨[(11, .one (.val (.int .i64) j)), (10, .one (.val (.int .i64) i)), (1, .one (.val (.int .i64) a)), (0, .one (.own 10000))], [(10000, some ⟨.fixed, .int .i64, data_P⟩)]⟩
def tL6 (a : Int) (i : Int) (j : Int) (data_P : List Int) : ASt := ⟨[(11, .one (.val (.int .i64) j)), (10, .one (.val (.int .i64) i)), (1, .one (.val (.int .i64) a)), (0, .one (.own 10000))], [(10000, some ⟨.fixed, .int .i64, data_P⟩)]⟩
def tJ7 (a : Int) (i : Int) (j : Int) (data_P : List Int) : ASt := ⟨[(11, .one (.val (.int .i64) j)), (10, .one (.val (.int .i64) i)), (1, .one (.val (.int .i64) a)), (0, .one (.own 10000))], [(10000, some ⟨.fixed, .int .i64, data_P⟩)]⟩
def tL8 (a : Int) (i : Int) (j : Int) (data_P : List Int) : ASt := ⟨[(11, .one (.val (.int .i64) j)), (10, .one (.val (.int .i64) i)), (1, .one (.val (.int .i64) a)), (0, .one (.own 10000))], [(10000, some ⟨.fixed, .int .i64, data_P⟩)]⟩
noncomputable def J0 (a : Int) (i : Int) (j : Int) (data_P : List Int) : R := lim E fin (.code c0 .ret) (tJ0 a i j data_P)
noncomputable def L1 (a : Int) (i : Int) (j : Int) (data_P : List Int) : R := lim E fin (.loop c6 K5) (tL1 a i j data_P)
noncomputable def J2 (a : Int) (i : Int) (j : Int) (data_P : List Int) : R := lim E fin (.code c1 .ret) (tJ2 a i j data_P)
noncomputable def L3 (a : Int) (i : Int) (j : Int) (data_P : List Int) : R := lim E fin (.loop c7 K11) (tL3 a i j data_P)
noncomputable def L4 (a : Int) (i : Int) (j : Int) (data_P : List Int) : R := lim E fin (.loop c3 K24) (tL4 a i j data_P)
noncomputable def J5 (a : Int) (i : Int) (j : Int) (data_P : List Int) : R := lim E fin (.code c4 K26) (tJ5 a i j data_P)
noncomputable def L6 (a : Int) (i : Int) (j : Int) (data_P : List Int) : R := lim E fin (.loop c8 K28) (tL6 a i j data_P)
noncomputable def J7 (a : Int) (i : Int) (j : Int) (data_P : List Int) : R := lim E fin (.code c5 K26) (tJ7 a i j data_P)
noncomputable def L8 (a : Int) (i : Int) (j : Int) (data_P : List Int) : R := lim E fin (.loop c9 K34) (tL8 a i j data_P)
noncomputable def SJ0 (a : Int) (i : Int) (j : Int) (data_P : List Int) : R :=
  L3 a i j data_P
noncomputable def SL1 (a : Int) (i : Int) (j : Int) (data_P : List Int) : R :=
  cond (decide (i ≤ j))
    (cond (decide (0 ≤ i) && decide (i < (data_P.length : Int)))
      (cond (decide (0 ≤ a) && decide (a < (data_P.length : Int)))
        (Option.bind (cmp_Less_int (data_P.getD i.toNat 0) (data_P.getD a.toNat 0)) fun x1 =>
        cond x1.1
          (L1 a (IntKind.i64.wrap (i + 1)) j data_P)
          (J0 a i j data_P))
        none)
      none)
    (J0 a i j data_P)
noncomputable def SJ2 (a : Int) (i : Int) (j : Int) (data_P : List Int) : R :=
  cond (decide (i > j))
    (cond (decide (0 ≤ a) && decide (a < (data_P.length : Int)))
      (cond (decide (0 ≤ j) && decide (j < (data_P.length : Int)))
        (cond (decide (0 ≤ j) && decide (j < (data_P.length : Int)))
          (cond (decide (0 ≤ a) && decide (a < ((data_P.set j.toNat (data_P.getD a.toNat 0)).length : Int)))
            (some (j, true, ((data_P.set j.toNat (data_P.getD a.toNat 0)).set a.toNat (data_P.getD j.toNat 0)), ()))
            none)
          none)
        none)
      none)
    (cond (decide (0 ≤ j) && decide (j < (data_P.length : Int)))
      (cond (decide (0 ≤ i) && decide (i < (data_P.length : Int)))
        (cond (decide (0 ≤ i) && decide (i < (data_P.length : Int)))
          (cond (decide (0 ≤ j) && decide (j < ((data_P.set i.toNat (data_P.getD j.toNat 0)).length : Int)))
            (L4 a (IntKind.i64.wrap (i + 1)) (IntKind.i64.wrap (j - 1)) ((data_P.set i.toNat (data_P.getD j.toNat 0)).set j.toNat (data_P.getD i.toNat 0)))
            none)
          none)
        none)
      none)
noncomputable def SL3 (a : Int) (i : Int) (j : Int) (data_P : List Int) : R :=
  cond (decide (i ≤ j))
    (cond (decide (0 ≤ j) && decide (j < (data_P.length : Int)))
      (cond (decide (0 ≤ a) && decide (a < (data_P.length : Int)))
        (Option.bind (cmp_Less_int (data_P.getD j.toNat 0) (data_P.getD a.toNat 0)) fun x1 =>
        cond (!x1.1)
          (L3 a i (IntKind.i64.wrap (j - 1)) data_P)
          (J2 a i j data_P))
        none)
      none)
    (J2 a i j data_P)
noncomputable def SL4 (a : Int) (i : Int) (j : Int) (data_P : List Int) : R :=
  L6 a i j data_P
noncomputable def SJ5 (a : Int) (i : Int) (j : Int) (data_P : List Int) : R :=
  L8 a i j data_P
noncomputable def SL6 (a : Int) (i : Int) (j : Int) (data_P : List Int) : R :=
  cond (decide (i ≤ j))
    (cond (decide (0 ≤ i) && decide (i < (data_P.length : Int)))
      (cond (decide (0 ≤ a) && decide (a < (data_P.length : Int)))
        (Option.bind (cmp_Less_int (data_P.getD i.toNat 0) (data_P.getD a.toNat 0)) fun x1 =>
        cond x1.1
          (L6 a (IntKind.i64.wrap (i + 1)) j data_P)
          (J5 a i j data_P))
        none)
      none)
    (J5 a i j data_P)
noncomputable def SJ7 (a : Int) (i : Int) (j : Int) (data_P : List Int) : R :=
  cond (decide (i > j))
    (cond (decide (0 ≤ a) && decide (a < (data_P.length : Int)))
      (cond (decide (0 ≤ j) && decide (j < (data_P.length : Int)))
        (cond (decide (0 ≤ j) && decide (j < (data_P.length : Int)))
          (cond (decide (0 ≤ a) && decide (a < ((data_P.set j.toNat (data_P.getD a.toNat 0)).length : Int)))
            (some (j, false, ((data_P.set j.toNat (data_P.getD a.toNat 0)).set a.toNat (data_P.getD j.toNat 0)), ()))
            none)
          none)
        none)
      none)
    (cond (decide (0 ≤ j) && decide (j < (data_P.length : Int)))
      (cond (decide (0 ≤ i) && decide (i < (data_P.length : Int)))
        (cond (decide (0 ≤ i) && decide (i < (data_P.length : Int)))
          (cond (decide (0 ≤ j) && decide (j < ((data_P.set i.toNat (data_P.getD j.toNat 0)).length : Int)))
            (L4 a (IntKind.i64.wrap (i + 1)) (IntKind.i64.wrap (j - 1)) ((data_P.set i.toNat (data_P.getD j.toNat 0)).set j.toNat (data_P.getD i.toNat 0)))
            none)
          none)
        none)
      none)
noncomputable def SL8 (a : Int) (i : Int) (j : Int) (data_P : List Int) : R :=
  cond (decide (i ≤ j))
    (cond (decide (0 ≤ j) && decide (j < (data_P.length : Int)))
      (cond (decide (0 ≤ a) && decide (a < (data_P.length : Int)))
        (Option.bind (cmp_Less_int (data_P.getD j.toNat 0) (data_P.getD a.toNat 0)) fun x1 =>
        cond (!x1.1)
          (L8 a i (IntKind.i64.wrap (j - 1)) data_P)
          (J7 a i j data_P))
        none)
      none)
    (J7 a i j data_P)
noncomputable def Se (data : List Int) (a : Int) (b : Int) (pivot : Int) : R :=
  cond (decide (0 ≤ pivot) && decide (pivot < (data.length : Int)))
    (cond (decide (0 ≤ a) && decide (a < (data.length : Int)))
      (cond (decide (0 ≤ a) && decide (a < (data.length : Int)))
        (cond (decide (0 ≤ pivot) && decide (pivot < ((data.set a.toNat (data.getD pivot.toNat 0)).length : Int)))
          (L1 a (IntKind.i64.wrap (a + 1)) (IntKind.i64.wrap (b - 1)) ((data.set a.toNat (data.getD pivot.toNat 0)).set pivot.toNat (data.getD a.toNat 0)))
          none)
        none)
      none)
    none
theorem J0_eq (a i j data_P) : J0 a i j data_P = SJ0 a i j data_P := (lim_eq (.code c0 .ret) (tJ0 a i j data_P)).trans (by kernel_rfl)
theorem L1_eq (a i j data_P) : L1 a i j data_P = SL1 a i j data_P := (lim_eq (.loop c6 K5) (tL1 a i j data_P)).trans (by kernel_rfl)
theorem J2_eq (a i j data_P) : J2 a i j data_P = SJ2 a i j data_P := (lim_eq (.code c1 .ret) (tJ2 a i j data_P)).trans (by kernel_rfl)
theorem L3_eq (a i j data_P) : L3 a i j data_P = SL3 a i j data_P := (lim_eq (.loop c7 K11) (tL3 a i j data_P)).trans (by kernel_rfl)
theorem L4_eq (a i j data_P) : L4 a i j data_P = SL4 a i j data_P := (lim_eq (.loop c3 K24) (tL4 a i j data_P)).trans (by kernel_rfl)
theorem J5_eq (a i j data_P) : J5 a i j data_P = SJ5 a i j data_P := (lim_eq (.code c4 K26) (tJ5 a i j data_P)).trans (by kernel_rfl)
theorem L6_eq (a i j data_P) : L6 a i j data_P = SL6 a i j data_P := (lim_eq (.loop c8 K28) (tL6 a i j data_P)).trans (by kernel_rfl)
theorem J7_eq (a i j data_P) : J7 a i j data_P = SJ7 a i j data_P := (lim_eq (.code c5 K26) (tJ7 a i j data_P)).trans (by kernel_rfl)
theorem L8_eq (a i j data_P) : L8 a i j data_P = SL8 a i j data_P := (lim_eq (.loop c9 K34) (tL8 a i j data_P)).trans (by kernel_rfl)
theorem se (x : (argTy ps).den) : run E (lim E fin) fin depth (bodyOf Try.f53) .ret (entryFrom 0 ps x) = Se x.1 x.2.1 x.2.2.1 x.2.2.2.1 := by kernel_rfl
end slices_partitionOrdered_int
noncomputable def slices_partitionOrdered_int (data : List Int) (a : Int) (b : Int) (pivot : Int) : slices_partitionOrdered_int.R :=
  slices_partitionOrdered_int.Se data a b pivot
namespace slices_partitionOrdered_int
noncomputable def sig : Sig := ⟨ps, rs, fun x => slices_partitionOrdered_int x.1 x.2.1 x.2.2.1 x.2.2.2.1⟩
theorem val (x : (argTy ps).den) : lim E fin (.code (bodyOf Try.f53) .ret) (entryFrom 0 ps x) = sig.run x := (lim_eq (.code (bodyOf Try.f53) .ret) (entryFrom 0 ps x)).trans (se x)
theorem ok : CallOK Try.prog 53 sig :=
  callOK_of_lim (E := E) mixed tt_ok (ctxOk_cons ctxOk_nil cmp_Less_int.ok Try.func51 (by kernel_rfl) (by kernel_rfl)) Try.func53 (by kernel_rfl : Try.f53.body = some (bodyOf Try.f53)) Try.ntmps53 (of_decide_eq_true (by kernel_rfl)) (of_decide_eq_true (by kernel_rfl)) fun x y h => (val x).trans h
noncomputable def ctxc (n : Nat) : List (Nat × Sig) := [(51, cmp_Less_int.sigc n)]
noncomputable def sigc (n : Nat) : Sig := ⟨ps, rs, fun x => runs (withCtx E (ctxc n)) fin n (.code (bodyOf Try.f53) .ret) (entryFrom 0 ps x)⟩
theorem sigc_le (n : Nat) : ∀ x y, (sigc n).run x = some y → sig.run x = some y := fun x y h => (val x).symm.trans (runs_lim (E := E) (c := ctxc n) (ctxLe_cons ctxLe_nil (cmp_Less_int.sigc_le n)) h)
end slices_partitionOrdered_int
namespace slices_pdqsortOrdered_int
abbrev ps : List PM := [.own (.int .i64), .pure (.int .i64), .pure (.int .i64), .pure (.int .i64)]
abbrev rs : List RM := []
abbrev R : Type := Option (List Int × Unit)
noncomputable def E0 : Env := { tt := tt, ctx := [], nt := 134, ann := [(1000002, [(0, .keep), (1, .keep), (2, .keep), (3, .keep), (8, .keep), (9, .keep)]), (10, [(0, .keep), (1, .keep), (2, .keep), (3, .keep), (8, .keep), (9, .keep), (10, .keep)]), (15, [(0, .keep), (1, .keep), (2, .keep), (3, .keep), (8, .keep), (9, .keep), (10, .keep), (11, .keep), (12, .keep)]), (17, [(0, .keep), (1, .keep), (2, .keep), (3, .keep), (8, .keep), (9, .keep), (10, .keep), (11, .keep)]), (18, [(0, .keep), (1, .keep), (2, .keep), (3, .keep), (8, .keep), (9, .keep), (10, .keep), (11, .keep), (87, .keep)])] }
noncomputable def ctx0 : List (Nat × Sig) := [(45, slices_insertionSortOrdered_int.sig), (46, slices_heapSortOrdered_int.sig), (47, slices_breakPatternsOrdered_int.sig), (48, slices_choosePivotOrdered_int.sig), (49, slices_reverseRangeOrdered_int.sig), (50, slices_partialInsertionSortOrdered_int.sig), (51, cmp_Less_int.sig), (52, slices_partitionEqualOrdered_int.sig), (53, slices_partitionOrdered_int.sig)]
noncomputable def E (self : (List Int) → Int → Int → Int → R) : Env := withCtx E0 ((40, ⟨ps, rs, fun x => self x.1 x.2.1 x.2.2.1 x.2.2.2.1⟩) :: ctx0)
noncomputable def c0 : Code := sub [1, 1, 0, 0] (bodyOf Try.f40)
noncomputable def c1 : Code := sub [1, 1, 0, 0, 0, 1, 1, 1, 1, 1, 1, 1, 1] (bodyOf Try.f40)
noncomputable def c2 : Code := sub [1, 1, 0, 0, 0, 1, 1, 1, 1] (bodyOf Try.f40)
noncomputable def c3 : Code := sub [1, 1, 0, 0, 0, 1, 1, 1, 1, 1, 1] (bodyOf Try.f40)
noncomputable def c4 : Code := sub [1, 1, 0, 0, 0, 1, 1, 1, 1, 1, 1, 1] (bodyOf Try.f40)
noncomputable def c5 : Code := sub [1, 1, 0, 0, 0, 1, 1, 1, 1, 1, 1, 1, 0, 1] (bodyOf Try.f40)
noncomputable def K3 : Kont := .blk 0 .ret
noncomputable def K4 : Kont := .loop c0 K3
noncomputable def K5 : Kont := .blk 1 K4
noncomputable def K24 : Kont := .seq c1 K5
noncomputable def fin : ASt → R := Kret E0 Try.f40.results.toList ps rs
def tL0 (a : Int) (b : Int) (limit : Int) (wasBalanced : Bool) (wasPartitioned : Bool) (data_P : List Int) : ASt := ⟨[(9, .one (.val .bool wasPartitioned)), (8, .one (.val .bool wasBalanced)), (3, .one (.val (.int .i64) limit)), (2, .one (.val (.int .i64) b)), (1, .one (.val (.int .i64) a)), (0, .one (.own 10000))], [(10000, some ⟨.fixed, .int .i64, data_P⟩)]⟩
def tJ1 (a : Int) (b : Int) (limit : Int) (wasBalanced : Bool) (wasPartitioned : Bool) (length_10 : Int) (data_P : List Int) : ASt := ⟨[(10, .one (.val (.int .i64) length_10)), (9, .one (.val .bool wasPartitioned)), (8, .one (.val .bool wasBalanced)), (3, .one (.val (.int .i64) limit)), (2, .one (.val (.int .i64) b)), (1, .one (.val (.int .i64) a)), (0, .one (.own 10000))], [(10000, some ⟨.fixed, .int .i64, data_P⟩)]⟩
def tJ2 (a : Int) (b : Int) (limit : Int) (wasBalanced : Bool) (wasPartitioned : Bool) (length_10 : Int) (pivot : Int) (hint : Int) (data_P : List Int) : ASt := ⟨[(12, .one (.val (.int .i64) hint)), (11, .one (.val (.int .i64) pivot)), (10, .one (.val (.int .i64) length_10)), (9, .one (.val .bool wasPartitioned)), (8, .one (.val .bool wasBalanced)), (3, .one (.val (.int .i64) limit)), (2, .one (.val (.int .i64) b)), (1, .one (.val (.int .i64) a)), (0, .one (.own 10000))], [(10000, some ⟨.fixed, .int .i64, data_P⟩)]⟩
def tJ3 (a : Int) (b : Int) (limit : Int) (wasBalanced : Bool) (wasPartitioned : Bool) (length_10 : Int) (pivot : Int) (data_P : List Int) : ASt := ⟨[(11, .one (.val (.int .i64) pivot)), (10, .one (.val (.int .i64) length_10)), (9, .one (.val .bool wasPartitioned)), (8, .one (.val .bool wasBalanced)), (3, .one (.val (.int .i64) limit)), (2, .one (.val (.int .i64) b)), (1, .one (.val (.int .i64) a)), (0, .one (.own 10000))], [(10000, some ⟨.fixed, .int .i64, data_P⟩)]⟩
def tJ4 (a : Int) (b : Int) (limit : Int) (wasBalanced : Bool) (wasPartitioned : Bool) (length_10 : Int) (pivot : Int) (v_87 : Bool) (data_P : List Int) : ASt := ⟨[(87, .one (.val .bool v_87)), (11, .one (.val (.int .i64) pivot)), (10, .one (.val (.int .i64) length_10)), (9, .one (.val .bool wasPartitioned)), (8, .one (.val .bool wasBalanced)), (3, .one (.val (.int .i64) limit)), (2, .one (.val (.int .i64) b)), (1, .one (.val (.int .i64) a)), (0, .one (.own 10000))], [(10000, some ⟨.fixed, .int .i64, data_P⟩)]⟩
noncomputable def SL0 (self : (List Int) → Int → Int → Int → R) (kJ1 : Int → Int → Int → Bool → Bool → Int → (List Int) → R) (a : Int) (b : Int) (limit : Int) (wasBalanced : Bool) (wasPartitioned : Bool) (data_P : List Int) : R :=
  cond (decide ((IntKind.i64.wrap (b - a)) ≤ 12))
    (Option.bind (slices_insertionSortOrdered_int data_P a b) fun x1 =>
    some (x1.1, ()))
    (cond (limit == 0)
      (Option.bind (slices_heapSortOrdered_int data_P a b) fun x2 =>
      some (x2.1, ()))
      (cond (!wasBalanced)
        (Option.bind (slices_breakPatternsOrdered_int data_P a b) fun x3 =>
        kJ1 a b (IntKind.i64.wrap (limit - 1)) wasBalanced wasPartitioned (IntKind.i64.wrap (b - a)) x3.1)
        (kJ1 a b limit wasBalanced wasPartitioned (IntKind.i64.wrap (b - a)) data_P)))
noncomputable def SJ1 (self : (List Int) → Int → Int → Int → R) (kJ2 : Int → Int → Int → Bool → Bool → Int → Int → Int → (List Int) → R) (a : Int) (b : Int) (limit : Int) (wasBalanced : Bool) (wasPartitioned : Bool) (length_10 : Int) (data_P : List Int) : R :=
  Option.bind (slices_choosePivotOrdered_int data_P a b) fun x1 =>
  cond (x1.2.1 == 2)
    (Option.bind (slices_reverseRangeOrdered_int data_P a b) fun x2 =>
    kJ2 a b limit wasBalanced wasPartitioned length_10 (IntKind.i64.wrap ((IntKind.i64.wrap (b - 1)) - (IntKind.i64.wrap (x1.1 - a)))) 1 x2.1)
    (kJ2 a b limit wasBalanced wasPartitioned length_10 x1.1 x1.2.1 data_P)
noncomputable def SJ2 (self : (List Int) → Int → Int → Int → R) (kJ3 : Int → Int → Int → Bool → Bool → Int → Int → (List Int) → R) (a : Int) (b : Int) (limit : Int) (wasBalanced : Bool) (wasPartitioned : Bool) (length_10 : Int) (pivot : Int) (hint : Int) (data_P : List Int) : R :=
  cond wasBalanced
    (cond wasPartitioned
      (cond (hint == 1)
        (Option.bind (slices_partialInsertionSortOrdered_int data_P a b) fun x1 =>
        cond x1.1
          (some (x1.2.1, ()))
          (kJ3 a b limit wasBalanced wasPartitioned length_10 pivot x1.2.1))
        (kJ3 a b limit wasBalanced wasPartitioned length_10 pivot data_P))
      (kJ3 a b limit wasBalanced wasPartitioned length_10 pivot data_P))
    (kJ3 a b limit wasBalanced wasPartitioned length_10 pivot data_P)
noncomputable def SJ3 (self : (List Int) → Int → Int → Int → R) (kJ4 : Int → Int → Int → Bool → Bool → Int → Int → Bool → (List Int) → R) (a : Int) (b : Int) (limit : Int) (wasBalanced : Bool) (wasPartitioned : Bool) (length_10 : Int) (pivot : Int) (data_P : List Int) : R :=
  cond (decide (a > 0))
    (cond (decide (0 ≤ IntKind.i64.wrap (a - 1)) && decide (IntKind.i64.wrap (a - 1) < (data_P.length : Int)))
      (cond (decide (0 ≤ pivot) && decide (pivot < (data_P.length : Int)))
        (Option.bind (cmp_Less_int (data_P.getD ((IntKind.i64.wrap (a - 1)).toNat) 0) (data_P.getD pivot.toNat 0)) fun x1 =>
        kJ4 a b limit wasBalanced wasPartitioned length_10 pivot (!x1.1) data_P)
        none)
      none)
    (kJ4 a b limit wasBalanced wasPartitioned length_10 pivot false data_P)
noncomputable def SJ4 (self : (List Int) → Int → Int → Int → R) (kL0 : Int → Int → Int → Bool → Bool → (List Int) → R) (a : Int) (b : Int) (limit : Int) (wasBalanced : Bool) (wasPartitioned : Bool) (length_10 : Int) (pivot : Int) (v_87 : Bool) (data_P : List Int) : R :=
  cond v_87
    (Option.bind (slices_partitionEqualOrdered_int data_P a b pivot) fun x1 =>
    kL0 x1.1 b limit wasBalanced wasPartitioned x1.2.1)
    (Option.bind (slices_partitionOrdered_int data_P a b pivot) fun x2 =>
    cond (decide ((IntKind.i64.wrap (x2.1 - a)) < (IntKind.i64.wrap (b - x2.1))))
      (Option.bind (self x2.2.2.1 a x2.1 limit) fun x3 =>
      kL0 (IntKind.i64.wrap (x2.1 + 1)) b limit (decide ((IntKind.i64.wrap (x2.1 - a)) ≥ (IntKind.i64.wrap (Int.tdiv length_10 8)))) x2.2.1 x3.1)
      (Option.bind (self x2.2.2.1 (IntKind.i64.wrap (x2.1 + 1)) b limit) fun x4 =>
      kL0 a x2.1 limit (decide ((IntKind.i64.wrap (b - x2.1)) ≥ (IntKind.i64.wrap (Int.tdiv length_10 8)))) x2.2.1 x4.1))
noncomputable def Se (self : (List Int) → Int → Int → Int → R) (kL0 : Int → Int → Int → Bool → Bool → (List Int) → R) (data : List Int) (a : Int) (b : Int) (limit : Int) : R :=
  kL0 a b limit true true data
theorem sL0 (self : (List Int) → Int → Int → Int → R) (jmp : Tgt → ASt → R) (a : Int) (b : Int) (limit : Int) (wasBalanced : Bool) (wasPartitioned : Bool) (data_P : List Int) : run (E self) jmp fin depth c0 (.loop c0 K3) (tL0 a b limit wasBalanced wasPartitioned data_P) =
    SL0 self (fun a b limit wasBalanced wasPartitioned length_10 data_P => jmp (.code c2 K5) (tJ1 a b limit wasBalanced wasPartitioned length_10 data_P)) a b limit wasBalanced wasPartitioned data_P := by kernel_rfl
theorem sJ1 (self : (List Int) → Int → Int → Int → R) (jmp : Tgt → ASt → R) (a : Int) (b : Int) (limit : Int) (wasBalanced : Bool) (wasPartitioned : Bool) (length_10 : Int) (data_P : List Int) : run (E self) jmp fin depth c2 K5 (tJ1 a b limit wasBalanced wasPartitioned length_10 data_P) =
    SJ1 self (fun a b limit wasBalanced wasPartitioned length_10 pivot hint data_P => jmp (.code c3 K5) (tJ2 a b limit wasBalanced wasPartitioned length_10 pivot hint data_P)) a b limit wasBalanced wasPartitioned length_10 data_P := by kernel_rfl
theorem sJ2 (self : (List Int) → Int → Int → Int → R) (jmp : Tgt → ASt → R) (a : Int) (b : Int) (limit : Int) (wasBalanced : Bool) (wasPartitioned : Bool) (length_10 : Int) (pivot : Int) (hint : Int) (data_P : List Int) : run (E self) jmp fin depth c3 K5 (tJ2 a b limit wasBalanced wasPartitioned length_10 pivot hint data_P) =
    SJ2 self (fun a b limit wasBalanced wasPartitioned length_10 pivot data_P => jmp (.code c4 K5) (tJ3 a b limit wasBalanced wasPartitioned length_10 pivot data_P)) a b limit wasBalanced wasPartitioned length_10 pivot hint data_P := by kernel_rfl
theorem sJ3 (self : (List Int) → Int → Int → Int → R) (jmp : Tgt → ASt → R) (a : Int) (b : Int) (limit : Int) (wasBalanced : Bool) (wasPartitioned : Bool) (length_10 : Int) (pivot : Int) (data_P : List Int) : run (E self) jmp fin depth c4 K5 (tJ3 a b limit wasBalanced wasPartitioned length_10 pivot data_P) =
    SJ3 self (fun a b limit wasBalanced wasPartitioned length_10 pivot v_87 data_P => jmp (.code c5 K24) (tJ4 a b limit wasBalanced wasPartitioned length_10 pivot v_87 data_P)) a b limit wasBalanced wasPartitioned length_10 pivot data_P := by kernel_rfl
theorem sJ4 (self : (List Int) → Int → Int → Int → R) (jmp : Tgt → ASt → R) (a : Int) (b : Int) (limit : Int) (wasBalanced : Bool) (wasPartitioned : Bool) (length_10 : Int) (pivot : Int) (v_87 : Bool) (data_P : List Int) : run (E self) jmp fin depth c5 K24 (tJ4 a b limit wasBalanced wasPartitioned length_10 pivot v_87 data_P) =
    SJ4 self (fun a b limit wasBalanced wasPartitioned data_P => jmp (.loop c0 K3) (tL0 a b limit wasBalanced wasPartitioned data_P)) a b limit wasBalanced wasPartitioned length_10 pivot v_87 data_P := by kernel_rfl
theorem se (self : (List Int) → Int → Int → Int → R) (jmp : Tgt → ASt → R) (x : (argTy ps).den) : run (E self) jmp fin depth (bodyOf Try.f40) .ret (entryFrom 0 ps x) =
    Se self (fun a b limit wasBalanced wasPartitioned data_P => jmp (.loop c0 K3) (tL0 a b limit wasBalanced wasPartitioned data_P)) x.1 x.2.1 x.2.2.1 x.2.2.2.1 := by kernel_rfl
end slices_pdqsortOrdered_int
noncomputable def slices_pdqsortOrdered_int (data : List Int) (a : Int) (b : Int) (limit : Int) : slices_pdqsortOrdered_int.R :=
  recF slices_pdqsortOrdered_int.E0 slices_pdqsortOrdered_int.ctx0 40 slices_pdqsortOrdered_int.ps slices_pdqsortOrdered_int.rs slices_pdqsortOrdered_int.fin (bodyOf Try.f40) (data, a, b, limit, ())
namespace slices_pdqsortOrdered_int
noncomputable def L0 (a : Int) (b : Int) (limit : Int) (wasBalanced : Bool) (wasPartitioned : Bool) (data_P : List Int) : R := lim (E slices_pdqsortOrdered_int) fin (.loop c0 K3) (tL0 a b limit wasBalanced wasPartitioned data_P)
noncomputable def J1 (a : Int) (b : Int) (limit : Int) (wasBalanced : Bool) (wasPartitioned : Bool) (length_10 : Int) (data_P : List Int) : R := lim (E slices_pdqsortOrdered_int) fin (.code c2 K5) (tJ1 a b limit wasBalanced wasPartitioned length_10 data_P)
noncomputable def J2 (a : Int) (b : Int) (limit : Int) (wasBalanced : Bool) (wasPartitioned : Bool) (length_10 : Int) (pivot : Int) (hint : Int) (data_P : List Int) : R := lim (E slices_pdqsortOrdered_int) fin (.code c3 K5) (tJ2 a b limit wasBalanced wasPartitioned length_10 pivot hint data_P)
noncomputable def J3 (a : Int) (b : Int) (limit : Int) (wasBalanced : Bool) (wasPartitioned : Bool) (length_10 : Int) (pivot : Int) (data_P : List Int) : R := lim (E slices_pdqsortOrdered_int) fin (.code c4 K5) (tJ3 a b limit wasBalanced wasPartitioned length_10 pivot data_P)
noncomputable def J4 (a : Int) (b : Int) (limit : Int) (wasBalanced : Bool) (wasPartitioned : Bool) (length_10 : Int) (pivot : Int) (v_87 : Bool) (data_P : List Int) : R := lim (E slices_pdqsortOrdered_int) fin (.code c5 K24) (tJ4 a b limit wasBalanced wasPartitioned length_10 pivot v_87 data_P)
theorem L0_eq (a : Int) (b : Int) (limit : Int) (wasBalanced : Bool) (wasPartitioned : Bool) (data_P : List Int) : L0 a b limit wasBalanced wasPartitioned data_P = SL0 slices_pdqsortOrdered_int J1 a b limit wasBalanced wasPartitioned data_P :=
  (lim_eq (.loop c0 K3) (tL0 a b limit wasBalanced wasPartitioned data_P)).trans (sL0 slices_pdqsortOrdered_int (lim (E slices_pdqsortOrdered_int) fin) a b limit wasBalanced wasPartitioned data_P)
theorem J1_eq (a : Int) (b : Int) (limit : Int) (wasBalanced : Bool) (wasPartitioned : Bool) (length_10 : Int) (data_P : List Int) : J1 a b limit wasBalanced wasPartitioned length_10 data_P = SJ1 slices_pdqsortOrdered_int J2 a b limit wasBalanced wasPartitioned length_10 data_P :=
  (lim_eq (.code c2 K5) (tJ1 a b limit wasBalanced wasPartitioned length_10 data_P)).trans (sJ1 slices_pdqsortOrdered_int (lim (E slices_pdqsortOrdered_int) fin) a b limit wasBalanced wasPartitioned length_10 data_P)
theorem J2_eq (a : Int) (b : Int) (limit : Int) (wasBalanced : Bool) (wasPartitioned : Bool) (length_10 : Int) (pivot : Int) (hint : Int) (data_P : List Int) : J2 a b limit wasBalanced wasPartitioned length_10 pivot hint data_P = SJ2 slices_pdqsortOrdered_int J3 a b limit wasBalanced wasPartitioned length_10 pivot hint data_P :=
  (lim_eq (.code c3 K5) (tJ2 a b limit wasBalanced wasPartitioned length_10 pivot hint data_P)).trans (sJ2 slices_pdqsortOrdered_int (lim (E slices_pdqsortOrdered_int) fin) a b limit wasBalanced wasPartitioned length_10 pivot hint data_P)
theorem J3_eq (a : Int) (b : Int) (limit : Int) (wasBalanced : Bool) (wasPartitioned : Bool) (length_10 : Int) (pivot : Int) (data_P : List Int) : J3 a b limit wasBalanced wasPartitioned length_10 pivot data_P = SJ3 slices_pdqsortOrdered_int J4 a b limit wasBalanced wasPartitioned length_10 pivot data_P :=
  (lim_eq (.code c4 K5) (tJ3 a b limit wasBalanced wasPartitioned length_10 pivot data_P)).trans (sJ3 slices_pdqsortOrdered_int (lim (E slices_pdqsortOrdered_int) fin) a b limit wasBalanced wasPartitioned length_10 pivot data_P)
theorem J4_eq (a : Int) (b : Int) (limit : Int) (wasBalanced : Bool) (wasPartitioned : Bool) (length_10 : Int) (pivot : Int) (v_87 : Bool) (data_P : List Int) : J4 a b limit wasBalanced wasPartitioned length_10 pivot v_87 data_P = SJ4 slices_pdqsortOrdered_int L0 a b limit wasBalanced wasPartitioned length_10 pivot v_87 data_P :=
  (lim_eq (.code c5 K24) (tJ4 a b limit wasBalanced wasPartitioned length_10 pivot v_87 data_P)).trans (sJ4 slices_pdqsortOrdered_int (lim (E slices_pdqsortOrdered_int) fin) a b limit wasBalanced wasPartitioned length_10 pivot v_87 data_P)
theorem selfrun : (fun x : (argTy ps).den => slices_pdqsortOrdered_int x.1 x.2.1 x.2.2.1 x.2.2.2.1) = recF E0 ctx0 40 ps rs fin (bodyOf Try.f40) := by kernel_rfl
end slices_pdqsortOrdered_int
noncomputable def slices_pdqsortOrdered_int.sig : Sig := ⟨slices_pdqsortOrdered_int.ps, slices_pdqsortOrdered_int.rs, fun x => slices_pdqsortOrdered_int x.1 x.2.1 x.2.2.1 x.2.2.2.1⟩
theorem slices_pdqsortOrdered_int.val (x : (argTy slices_pdqsortOrdered_int.ps).den) : lim (slices_pdqsortOrdered_int.E slices_pdqsortOrdered_int) slices_pdqsortOrdered_int.fin (.code (bodyOf Try.f40) .ret) (entryFrom 0 slices_pdqsortOrdered_int.ps x) = slices_pdqsortOrdered_int.sig.run x := by
  have h := recF_eq (E := slices_pdqsortOrdered_int.E0) (ctx := slices_pdqsortOrdered_int.ctx0) (f := 40) (ps := slices_pdqsortOrdered_int.ps) (rs := slices_pdqsortOrdered_int.rs) (fin := slices_pdqsortOrdered_int.fin) (body := bodyOf Try.f40) x
  rw [← slices_pdqsortOrdered_int.selfrun] at h
  exact h.symm
theorem slices_pdqsortOrdered_int_eq (data : List Int) (a : Int) (b : Int) (limit : Int) : slices_pdqsortOrdered_int data a b limit = slices_pdqsortOrdered_int.Se slices_pdqsortOrdered_int slices_pdqsortOrdered_int.L0 data a b limit :=
  (slices_pdqsortOrdered_int.val (data, a, b, limit, ())).symm.trans ((lim_eq (.code (bodyOf Try.f40) .ret) (entryFrom 0 slices_pdqsortOrdered_int.ps (data, a, b, limit, ()))).trans (slices_pdqsortOrdered_int.se slices_pdqsortOrdered_int (lim (slices_pdqsortOrdered_int.E slices_pdqsortOrdered_int) slices_pdqsortOrdered_int.fin) (data, a, b, limit, ())))
theorem slices_pdqsortOrdered_int.ok : CallOK Try.prog 40 slices_pdqsortOrdered_int.sig := by
  have h := callOK_rec (E := slices_pdqsortOrdered_int.E0) (ctx := slices_pdqsortOrdered_int.ctx0) (f := 40) (ps := slices_pdqsortOrdered_int.ps) (rs := slices_pdqsortOrdered_int.rs) (fin := slices_pdqsortOrdered_int.fin) (body := bodyOf Try.f40) mixed tt_ok (ctxOk_cons (ctxOk_cons (ctxOk_cons (ctxOk_cons (ctxOk_cons (ctxOk_cons (ctxOk_cons (ctxOk_cons (ctxOk_cons ctxOk_nil slices_partitionOrdered_int.ok Try.func53 (by kernel_rfl) (by kernel_rfl)) slices_partitionEqualOrdered_int.ok Try.func52 (by kernel_rfl) (by kernel_rfl)) cmp_Less_int.ok Try.func51 (by kernel_rfl) (by kernel_rfl)) slices_partialInsertionSortOrdered_int.ok Try.func50 (by kernel_rfl) (by kernel_rfl)) slices_reverseRangeOrdered_int.ok Try.func49 (by kernel_rfl) (by kernel_rfl)) slices_choosePivotOrdered_int.ok Try.func48 (by kernel_rfl) (by kernel_rfl)) slices_breakPatternsOrdered_int.ok Try.func47 (by kernel_rfl) (by kernel_rfl)) slices_heapSortOrdered_int.ok Try.func46 (by kernel_rfl) (by kernel_rfl)) slices_insertionSortOrdered_int.ok Try.func45 (by kernel_rfl) (by kernel_rfl)) Try.func40 (by kernel_rfl : Try.f40.body = some (bodyOf Try.f40)) (by kernel_rfl) (by kernel_rfl) Try.ntmps40 (of_decide_eq_true (by kernel_rfl)) (of_decide_eq_true (by kernel_rfl)) rfl
  rw [← slices_pdqsortOrdered_int.selfrun] at h
  exact h
noncomputable def slices_pdqsortOrdered_int.ctxc (n : Nat) : List (Nat × Sig) := [(45, slices_insertionSortOrdered_int.sigc n), (46, slices_heapSortOrdered_int.sigc n), (47, slices_breakPatternsOrdered_int.sigc n), (48, slices_choosePivotOrdered_int.sigc n), (49, slices_reverseRangeOrdered_int.sigc n), (50, slices_partialInsertionSortOrdered_int.sigc n), (51, cmp_Less_int.sigc n), (52, slices_partitionEqualOrdered_int.sigc n), (53, slices_partitionOrdered_int.sigc n)]
noncomputable def slices_pdqsortOrdered_int.runc (n : Nat) : Nat → (argTy slices_pdqsortOrdered_int.ps).den → slices_pdqsortOrdered_int.R
  | 0, _ => none
  | d + 1, x => runs (withCtx slices_pdqsortOrdered_int.E0 ((40, ⟨slices_pdqsortOrdered_int.ps, slices_pdqsortOrdered_int.rs, slices_pdqsortOrdered_int.runc n d⟩) :: slices_pdqsortOrdered_int.ctxc n)) slices_pdqsortOrdered_int.fin n (.code (bodyOf Try.f40) .ret) (entryFrom 0 slices_pdqsortOrdered_int.ps x)
noncomputable def slices_pdqsortOrdered_int.sigc (n : Nat) : Sig := ⟨slices_pdqsortOrdered_int.ps, slices_pdqsortOrdered_int.rs, slices_pdqsortOrdered_int.runc n n⟩
theorem slices_pdqsortOrdered_int.runc_le (n : Nat) : ∀ d x y, slices_pdqsortOrdered_int.runc n d x = some y → slices_pdqsortOrdered_int.sig.run x = some y := by
  intro d
  induction d with
  | zero => intro x y h; cases h
  | succ d ih => exact fun x y h => (slices_pdqsortOrdered_int.val x).symm.trans (runs_lim (E := slices_pdqsortOrdered_int.E slices_pdqsortOrdered_int) (c := (40, ⟨slices_pdqsortOrdered_int.ps, slices_pdqsortOrdered_int.rs, slices_pdqsortOrdered_int.runc n d⟩) :: slices_pdqsortOrdered_int.ctxc n) (ctxLe_cons (ctxLe_cons (ctxLe_cons (ctxLe_cons (ctxLe_cons (ctxLe_cons (ctxLe_cons (ctxLe_cons (ctxLe_cons (ctxLe_cons ctxLe_nil (slices_partitionOrdered_int.sigc_le n)) (slices_partitionEqualOrdered_int.sigc_le n)) (cmp_Less_int.sigc_le n)) (slices_partialInsertionSortOrdered_int.sigc_le n)) (slices_reverseRangeOrdered_int.sigc_le n)) (slices_choosePivotOrdered_int.sigc_le n)) (slices_breakPatternsOrdered_int.sigc_le n)) (slices_heapSortOrdered_int.sigc_le n)) (slices_insertionSortOrdered_int.sigc_le n)) ih) h)
theorem slices_pdqsortOrdered_int.sigc_le (n : Nat) : ∀ x y, (slices_pdqsortOrdered_int.sigc n).run x = some y → slices_pdqsortOrdered_int.sig.run x = some y := slices_pdqsortOrdered_int.runc_le n n
namespace slices_Sort_int_int
abbrev ps : List PM := [.own (.int .i64)]
abbrev rs : List RM := []
abbrev R : Type := Option (List Int × Unit)
noncomputable def E : Env := { tt := tt, ctx := [(41, math_bits_Len.sig), (40, slices_pdqsortOrdered_int.sig)], nt := 11, ann := [] }
noncomputable def fin : ASt → R := Kret E Try.f32.results.toList ps rs
noncomputable def Se (x_0 : List Int) : R :=
  Option.bind (math_bits_Len (IntKind.u64.wrap (x_0.length : Int))) fun x1 =>
  Option.bind (slices_pdqsortOrdered_int x_0 0 (x_0.length : Int) x1.1) fun x2 =>
  some (x2.1, ())
theorem se (x : (argTy ps).den) : run E (lim E fin) fin depth (bodyOf Try.f32) .ret (entryFrom 0 ps x) = Se x.1 := by kernel_rfl
end slices_Sort_int_int
noncomputable def slices_Sort_int_int (x_0 : List Int) : slices_Sort_int_int.R :=
  slices_Sort_int_int.Se x_0
namespace slices_Sort_int_int
noncomputable def sig : Sig := ⟨ps, rs, fun x => slices_Sort_int_int x.1⟩
theorem val (x : (argTy ps).den) : lim E fin (.code (bodyOf Try.f32) .ret) (entryFrom 0 ps x) = sig.run x := (lim_eq (.code (bodyOf Try.f32) .ret) (entryFrom 0 ps x)).trans (se x)
theorem ok : CallOK Try.prog 32 sig :=
  callOK_of_lim (E := E) mixed tt_ok (ctxOk_cons (ctxOk_cons ctxOk_nil slices_pdqsortOrdered_int.ok Try.func40 (by kernel_rfl) (by kernel_rfl)) math_bits_Len.ok Try.func41 (by kernel_rfl) (by kernel_rfl)) Try.func32 (by kernel_rfl : Try.f32.body = some (bodyOf Try.f32)) Try.ntmps32 (of_decide_eq_true (by kernel_rfl)) (of_decide_eq_true (by kernel_rfl)) fun x y h => (val x).trans h
noncomputable def ctxc (n : Nat) : List (Nat × Sig) := [(41, math_bits_Len.sigc n), (40, slices_pdqsortOrdered_int.sigc n)]
noncomputable def sigc (n : Nat) : Sig := ⟨ps, rs, fun x => runs (withCtx E (ctxc n)) fin n (.code (bodyOf Try.f32) .ret) (entryFrom 0 ps x)⟩
theorem sigc_le (n : Nat) : ∀ x y, (sigc n).run x = some y → sig.run x = some y := fun x y h => (val x).symm.trans (runs_lim (E := E) (c := ctxc n) (ctxLe_cons (ctxLe_cons ctxLe_nil (slices_pdqsortOrdered_int.sigc_le n)) (math_bits_Len.sigc_le n)) h)
end slices_Sort_int_int
end Go.Proofs.Ytdkglohjlfoncaa
