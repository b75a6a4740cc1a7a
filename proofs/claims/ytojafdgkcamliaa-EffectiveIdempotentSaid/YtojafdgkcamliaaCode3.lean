import Derived.Test.YtojafdgkcamliaaCode2
set_option maxRecDepth 100000
set_option linter.unusedVariables false
namespace Go.Proofs.Ytojafdgkcamliaa
open Go Go.Lift
namespace same_Strings
abbrev ps : List PM := [.pure (.sl .str), .pure (.sl .str)]
abbrev rs : List RM := [.pure .bool]
abbrev R : Type := Option (Bool × Unit)
noncomputable def E : Env := { tt := tt, ctx := [], nt := 32, ann := [(1000004, [(0, .keep), (1, .keep), (5, .keep)]), (6, [(0, .keep), (1, .keep), (5, .keep)])] }
noncomputable def c0 : Code := sub [1, 1, 1] (bodyOf Try.f58)
noncomputable def c1 : Code := sub [1, 1, 0, 1, 0, 0] (bodyOf Try.f58)
noncomputable def c2 : Code := sub [1, 1, 0, 1, 0, 0, 1] (bodyOf Try.f58)
noncomputable def K5 : Kont := .seq c0 .ret
noncomputable def K7 : Kont := .blk 0 K5
noncomputable def K8 : Kont := .loop c1 K7
noncomputable def fin : ASt → R := Kret E Try.f58.results.toList ps rs
def tL0 (a : List (List UInt8)) (b : List (List UInt8)) (i : Int) : ASt := ⟨[(5, .one (.val (.int .i64) i)), (1, .one (.val (.sl .str) b)), (0, .one (.val (.sl .str) a))], []⟩
def tJ1 (a : List (List UInt8)) (b : List (List UInt8)) (i : Int) : ASt := ⟨[(5, .one (.val (.int .i64) i)), (1, .one (.val (.sl .str) b)), (0, .one (.val (.sl .str) a))], []⟩
noncomputable def L0 (a : List (List UInt8)) (b : List (List UInt8)) (i : Int) : R := lim E fin (.loop c1 K7) (tL0 a b i)
noncomputable def J1 (a : List (List UInt8)) (b : List (List UInt8)) (i : Int) : R := lim E fin (.code c2 K8) (tJ1 a b i)
noncomputable def SL0 (a : List (List UInt8)) (b : List (List UInt8)) (i : Int) : R :=
  cond (decide (i < (a.length : Int)))
    (cond (decide (i < (b.length : Int)))
      (J1 a b i)
      (some (true, ())))
    (some (true, ()))
noncomputable def SJ1 (a : List (List UInt8)) (b : List (List UInt8)) (i : Int) : R :=
  Option.bind (idx a i) fun x1 =>
  Option.bind (idx b i) fun x2 =>
  cond (!(x1 == x2))
    (some (false, ()))
    (L0 a b (IntKind.i64.wrap (i + 1)))
noncomputable def Se (a : List (List UInt8)) (b : List (List UInt8)) : R :=
  cond ((a.length : Int) != (b.length : Int))
    (some (false, ()))
    (L0 a b 0)
theorem L0_eq (a b i) : L0 a b i = SL0 a b i := (lim_eq (.loop c1 K7) (tL0 a b i)).trans (by kernel_rfl)
theorem J1_eq (a b i) : J1 a b i = SJ1 a b i := (lim_eq (.code c2 K8) (tJ1 a b i)).trans (by kernel_rfl)
theorem se (x : (argTy ps).den) : run E (lim E fin) fin depth (bodyOf Try.f58) .ret (entryFrom 0 ps x) = Se x.1 x.2.1 := by kernel_rfl
end same_Strings
noncomputable def same_Strings (a : List (List UInt8)) (b : List (List UInt8)) : same_Strings.R :=
  same_Strings.Se a b
namespace same_Strings
noncomputable def sig : Sig := ⟨ps, rs, fun x => same_Strings x.1 x.2.1⟩
theorem val (x : (argTy ps).den) : lim E fin (.code (bodyOf Try.f58) .ret) (entryFrom 0 ps x) = sig.run x := (lim_eq (.code (bodyOf Try.f58) .ret) (entryFrom 0 ps x)).trans (se x)
theorem ok : CallOK Try.prog 58 sig :=
  callOK_of_lim (E := E) mixed tt_ok ctxOk_nil Try.func58 (by kernel_rfl : Try.f58.body = some (bodyOf Try.f58)) Try.ntmps58 (of_decide_eq_true (by kernel_rfl)) (of_decide_eq_true (by kernel_rfl)) fun x y h => (val x).trans h
noncomputable def ctxc (n : Nat) : List (Nat × Sig) := []
noncomputable def sigc (n : Nat) : Sig := ⟨ps, rs, fun x => runs (withCtx E (ctxc n)) fin n (.code (bodyOf Try.f58) .ret) (entryFrom 0 ps x)⟩
theorem sigc_le (n : Nat) : ∀ x y, (sigc n).run x = some y → sig.run x = some y := fun x y h => (val x).symm.trans (runs_lim (E := E) (c := ctxc n) ctxLe_nil h)
end same_Strings
namespace same_Enum
abbrev ps : List PM := [.pure api_Enum, .pure api_Enum]
abbrev rs : List RM := [.pure .bool]
abbrev R : Type := Option (Bool × Unit)
noncomputable def E : Env := { tt := tt, ctx := [(58, same_Strings.sig)], nt := 17, ann := [] }
noncomputable def fin : ASt → R := Kret E Try.f45.results.toList ps rs
noncomputable def Se (a : api_EnumV) (b : api_EnumV) : R :=
  cond (a.1 == b.1)
    (Option.bind (same_Strings a.2.1 b.2.1) fun x1 =>
    some (x1.1, ()))
    (some (false, ()))
theorem se (x : (argTy ps).den) : run E (lim E fin) fin depth (bodyOf Try.f45) .ret (entryFrom 0 ps x) = Se x.1 x.2.1 := by kernel_rfl
end same_Enum
noncomputable def same_Enum (a : api_EnumV) (b : api_EnumV) : same_Enum.R :=
  same_Enum.Se a b
namespace same_Enum
noncomputable def sig : Sig := ⟨ps, rs, fun x => same_Enum x.1 x.2.1⟩
theorem val (x : (argTy ps).den) : lim E fin (.code (bodyOf Try.f45) .ret) (entryFrom 0 ps x) = sig.run x := (lim_eq (.code (bodyOf Try.f45) .ret) (entryFrom 0 ps x)).trans (se x)
theorem ok : CallOK Try.prog 45 sig :=
  callOK_of_lim (E := E) mixed tt_ok (ctxOk_cons ctxOk_nil same_Strings.ok Try.func58 (by kernel_rfl) (by kernel_rfl)) Try.func45 (by kernel_rfl : Try.f45.body = some (bodyOf Try.f45)) Try.ntmps45 (of_decide_eq_true (by kernel_rfl)) (of_decide_eq_true (by kernel_rfl)) fun x y h => (val x).trans h
noncomputable def ctxc (n : Nat) : List (Nat × Sig) := [(58, same_Strings.sigc n)]
noncomputable def sigc (n : Nat) : Sig := ⟨ps, rs, fun x => runs (withCtx E (ctxc n)) fin n (.code (bodyOf Try.f45) .ret) (entryFrom 0 ps x)⟩
theorem sigc_le (n : Nat) : ∀ x y, (sigc n).run x = some y → sig.run x = some y := fun x y h => (val x).symm.trans (runs_lim (E := E) (c := ctxc n) (ctxLe_cons ctxLe_nil (same_Strings.sigc_le n)) h)
end same_Enum
namespace same_Enums
abbrev ps : List PM := [.pure (.sl api_Enum), .pure (.sl api_Enum)]
abbrev rs : List RM := [.pure .bool]
abbrev R : Type := Option (Bool × Unit)
noncomputable def E : Env := { tt := tt, ctx := [(45, same_Enum.sig)], nt := 33, ann := [(1000004, [(0, .keep), (1, .keep), (5, .keep)]), (6, [(0, .keep), (1, .keep), (5, .keep)])] }
noncomputable def c0 : Code := sub [1, 1, 1] (bodyOf Try.f29)
noncomputable def c1 : Code := sub [1, 1, 0, 1, 0, 0] (bodyOf Try.f29)
noncomputable def c2 : Code := sub [1, 1, 0, 1, 0, 0, 1] (bodyOf Try.f29)
noncomputable def K5 : Kont := .seq c0 .ret
noncomputable def K7 : Kont := .blk 0 K5
noncomputable def K8 : Kont := .loop c1 K7
noncomputable def fin : ASt → R := Kret E Try.f29.results.toList ps rs
def tL0 (a : List api_EnumV) (b : List api_EnumV) (i : Int) : ASt := ⟨[(5, .one (.val (.int .i64) i)), (1, .one (.val (.sl api_Enum) b)), (0, .one (.val (.sl api_Enum) a))], []⟩
def tJ1 (a : List api_EnumV) (b : List api_EnumV) (i : Int) : ASt := ⟨[(5, .one (.val (.int .i64) i)), (1, .one (.val (.sl api_Enum) b)), (0, .one (.val (.sl api_Enum) a))], []⟩
noncomputable def L0 (a : List api_EnumV) (b : List api_EnumV) (i : Int) : R := lim E fin (.loop c1 K7) (tL0 a b i)
noncomputable def J1 (a : List api_EnumV) (b : List api_EnumV) (i : Int) : R := lim E fin (.code c2 K8) (tJ1 a b i)
noncomputable def SL0 (a : List api_EnumV) (b : List api_EnumV) (i : Int) : R :=
  cond (decide (i < (a.length : Int)))
    (cond (decide (i < (b.length : Int)))
      (J1 a b i)
      (some (true, ())))
    (some (true, ()))
noncomputable def SJ1 (a : List api_EnumV) (b : List api_EnumV) (i : Int) : R :=
  Option.bind (idx a i) fun x1 =>
  Option.bind (idx b i) fun x2 =>
  Option.bind (same_Enum x1 x2) fun x3 =>
  cond (!x3.1)
    (some (false, ()))
    (L0 a b (IntKind.i64.wrap (i + 1)))
noncomputable def Se (a : List api_EnumV) (b : List api_EnumV) : R :=
  cond ((a.length : Int) != (b.length : Int))
    (some (false, ()))
    (L0 a b 0)
theorem L0_eq (a b i) : L0 a b i = SL0 a b i := (lim_eq (.loop c1 K7) (tL0 a b i)).trans (by kernel_rfl)
theorem J1_eq (a b i) : J1 a b i = SJ1 a b i := (lim_eq (.code c2 K8) (tJ1 a b i)).trans (by kernel_rfl)
theorem se (x : (argTy ps).den) : run E (lim E fin) fin depth (bodyOf Try.f29) .ret (entryFrom 0 ps x) = Se x.1 x.2.1 := by kernel_rfl
end same_Enums
noncomputable def same_Enums (a : List api_EnumV) (b : List api_EnumV) : same_Enums.R :=
  same_Enums.Se a b
namespace same_Enums
noncomputable def sig : Sig := ⟨ps, rs, fun x => same_Enums x.1 x.2.1⟩
theorem val (x : (argTy ps).den) : lim E fin (.code (bodyOf Try.f29) .ret) (entryFrom 0 ps x) = sig.run x := (lim_eq (.code (bodyOf Try.f29) .ret) (entryFrom 0 ps x)).trans (se x)
theorem ok : CallOK Try.prog 29 sig :=
  callOK_of_lim (E := E) mixed tt_ok (ctxOk_cons ctxOk_nil same_Enum.ok Try.func45 (by kernel_rfl) (by kernel_rfl)) Try.func29 (by kernel_rfl : Try.f29.body = some (bodyOf Try.f29)) Try.ntmps29 (of_decide_eq_true (by kernel_rfl)) (of_decide_eq_true (by kernel_rfl)) fun x y h => (val x).trans h
noncomputable def ctxc (n : Nat) : List (Nat × Sig) := [(45, same_Enum.sigc n)]
noncomputable def sigc (n : Nat) : Sig := ⟨ps, rs, fun x => runs (withCtx E (ctxc n)) fin n (.code (bodyOf Try.f29) .ret) (entryFrom 0 ps x)⟩
theorem sigc_le (n : Nat) : ∀ x y, (sigc n).run x = some y → sig.run x = some y := fun x y h => (val x).symm.trans (runs_lim (E := E) (c := ctxc n) (ctxLe_cons ctxLe_nil (same_Enum.sigc_le n)) h)
end same_Enums
namespace same_Rows
abbrev ps : List PM := [.pure (.sl api_Row), .pure (.sl api_Row)]
abbrev rs : List RM := [.pure .bool]
abbrev R : Type := Option (Bool × Unit)
noncomputable def E : Env := { tt := tt, ctx := [], nt := 32, ann := [(1000004, [(0, .keep), (1, .keep), (5, .keep)]), (6, [(0, .keep), (1, .keep), (5, .keep)])] }
noncomputable def c0 : Code := sub [1, 1, 1] (bodyOf Try.f59)
noncomputable def c1 : Code := sub [1, 1, 0, 1, 0, 0] (bodyOf Try.f59)
noncomputable def c2 : Code := sub [1, 1, 0, 1, 0, 0, 1] (bodyOf Try.f59)
noncomputable def K5 : Kont := .seq c0 .ret
noncomputable def K7 : Kont := .blk 0 K5
noncomputable def K8 : Kont := .loop c1 K7
noncomputable def fin : ASt → R := Kret E Try.f59.results.toList ps rs
def tL0 (a : List api_RowV) (b : List api_RowV) (i : Int) : ASt := ⟨[(5, .one (.val (.int .i64) i)), (1, .one (.val (.sl api_Row) b)), (0, .one (.val (.sl api_Row) a))], []⟩
def tJ1 (a : List api_RowV) (b : List api_RowV) (i : Int) : ASt := ⟨[(5, .one (.val (.int .i64) i)), (1, .one (.val (.sl api_Row) b)), (0, .one (.val (.sl api_Row) a))], []⟩
noncomputable def L0 (a : List api_RowV) (b : List api_RowV) (i : Int) : R := lim E fin (.loop c1 K7) (tL0 a b i)
noncomputable def J1 (a : List api_RowV) (b : List api_RowV) (i : Int) : R := lim E fin (.code c2 K8) (tJ1 a b i)
noncomputable def SL0 (a : List api_RowV) (b : List api_RowV) (i : Int) : R :=
  cond (decide (i < (a.length : Int)))
    (cond (decide (i < (b.length : Int)))
      (J1 a b i)
      (some (true, ())))
    (some (true, ()))
noncomputable def SJ1 (a : List api_RowV) (b : List api_RowV) (i : Int) : R :=
  Option.bind (idx a i) fun x1 =>
  Option.bind (idx b i) fun x2 =>
  cond (!eqTy (.pair (.pair (.int .i64) (.pair (.int .i64) .unit)) (.pair (.int .i64) (.pair (.int .i64) (.pair (.int .i64) .unit)))) x1 x2)
    (some (false, ()))
    (L0 a b (IntKind.i64.wrap (i + 1)))
noncomputable def Se (a : List api_RowV) (b : List api_RowV) : R :=
  cond ((a.length : Int) != (b.length : Int))
    (some (false, ()))
    (L0 a b 0)
theorem L0_eq (a b i) : L0 a b i = SL0 a b i := (lim_eq (.loop c1 K7) (tL0 a b i)).trans (by kernel_rfl)
theorem J1_eq (a b i) : J1 a b i = SJ1 a b i := (lim_eq (.code c2 K8) (tJ1 a b i)).trans (by kernel_rfl)
theorem se (x : (argTy ps).den) : run E (lim E fin) fin depth (bodyOf Try.f59) .ret (entryFrom 0 ps x) = Se x.1 x.2.1 := by kernel_rfl
end same_Rows
noncomputable def same_Rows (a : List api_RowV) (b : List api_RowV) : same_Rows.R :=
  same_Rows.Se a b
namespace same_Rows
noncomputable def sig : Sig := ⟨ps, rs, fun x => same_Rows x.1 x.2.1⟩
theorem val (x : (argTy ps).den) : lim E fin (.code (bodyOf Try.f59) .ret) (entryFrom 0 ps x) = sig.run x := (lim_eq (.code (bodyOf Try.f59) .ret) (entryFrom 0 ps x)).trans (se x)
theorem ok : CallOK Try.prog 59 sig :=
  callOK_of_lim (E := E) mixed tt_ok ctxOk_nil Try.func59 (by kernel_rfl : Try.f59.body = some (bodyOf Try.f59)) Try.ntmps59 (of_decide_eq_true (by kernel_rfl)) (of_decide_eq_true (by kernel_rfl)) fun x y h => (val x).trans h
noncomputable def ctxc (n : Nat) : List (Nat × Sig) := []
noncomputable def sigc (n : Nat) : Sig := ⟨ps, rs, fun x => runs (withCtx E (ctxc n)) fin n (.code (bodyOf Try.f59) .ret) (entryFrom 0 ps x)⟩
theorem sigc_le (n : Nat) : ∀ x y, (sigc n).run x = some y → sig.run x = some y := fun x y h => (val x).symm.trans (runs_lim (E := E) (c := ctxc n) ctxLe_nil h)
end same_Rows
namespace same_Table
abbrev ps : List PM := [.pure api_Table, .pure api_Table]
abbrev rs : List RM := [.pure .bool]
abbrev R : Type := Option (Bool × Unit)
noncomputable def E : Env := { tt := tt, ctx := [(59, same_Rows.sig)], nt := 31, ann := [] }
noncomputable def fin : ASt → R := Kret E Try.f46.results.toList ps rs
noncomputable def Se (a : api_TableV) (b : api_TableV) : R :=
  cond (a.1 == b.1)
    (cond (eqTy (.pair (.int .i64) (.pair (.int .i64) .unit)) a.2.1 b.2.1)
      (cond (eqTy (.pair (.int .i64) (.pair (.int .i64) .unit)) a.2.2.1 b.2.2.1)
        (Option.bind (same_Rows a.2.2.2.1 b.2.2.2.1) fun x1 =>
        some (x1.1, ()))
        (some (false, ())))
      (some (false, ())))
    (some (false, ()))
theorem se (x : (argTy ps).den) : run E (lim E fin) fin depth (bodyOf Try.f46) .ret (entryFrom 0 ps x) = Se x.1 x.2.1 := by kernel_rfl
end same_Table
noncomputable def same_Table (a : api_TableV) (b : api_TableV) : same_Table.R :=
  same_Table.Se a b
namespace same_Table
noncomputable def sig : Sig := ⟨ps, rs, fun x => same_Table x.1 x.2.1⟩
theorem val (x : (argTy ps).den) : lim E fin (.code (bodyOf Try.f46) .ret) (entryFrom 0 ps x) = sig.run x := (lim_eq (.code (bodyOf Try.f46) .ret) (entryFrom 0 ps x)).trans (se x)
theorem ok : CallOK Try.prog 46 sig :=
  callOK_of_lim (E := E) mixed tt_ok (ctxOk_cons ctxOk_nil same_Rows.ok Try.func59 (by kernel_rfl) (by kernel_rfl)) Try.func46 (by kernel_rfl : Try.f46.body = some (bodyOf Try.f46)) Try.ntmps46 (of_decide_eq_true (by kernel_rfl)) (of_decide_eq_true (by kernel_rfl)) fun x y h => (val x).trans h
noncomputable def ctxc (n : Nat) : List (Nat × Sig) := [(59, same_Rows.sigc n)]
noncomputable def sigc (n : Nat) : Sig := ⟨ps, rs, fun x => runs (withCtx E (ctxc n)) fin n (.code (bodyOf Try.f46) .ret) (entryFrom 0 ps x)⟩
theorem sigc_le (n : Nat) : ∀ x y, (sigc n).run x = some y → sig.run x = some y := fun x y h => (val x).symm.trans (runs_lim (E := E) (c := ctxc n) (ctxLe_cons ctxLe_nil (same_Rows.sigc_le n)) h)
end same_Table
namespace same_Tables
abbrev ps : List PM := [.pure (.sl api_Table), .pure (.sl api_Table)]
abbrev rs : List RM := [.pure .bool]
abbrev R : Type := Option (Bool × Unit)
noncomputable def E : Env := { tt := tt, ctx := [(46, same_Table.sig)], nt := 33, ann := [(1000004, [(0, .keep), (1, .keep), (5, .keep)]), (6, [(0, .keep), (1, .keep), (5, .keep)])] }
noncomputable def c0 : Code := sub [1, 1, 1] (bodyOf Try.f30)
noncomputable def c1 : Code := sub [1, 1, 0, 1, 0, 0] (bodyOf Try.f30)
noncomputable def c2 : Code := sub [1, 1, 0, 1, 0, 0, 1] (bodyOf Try.f30)
noncomputable def K5 : Kont := .seq c0 .ret
noncomputable def K7 : Kont := .blk 0 K5
noncomputable def K8 : Kont := .loop c1 K7
noncomputable def fin : ASt → R := Kret E Try.f30.results.toList ps rs
def tL0 (a : List api_TableV) (b : List api_TableV) (i : Int) : ASt := ⟨[(5, .one (.val (.int .i64) i)), (1, .one (.val (.sl api_Table) b)), (0, .one (.val (.sl api_Table) a))], []⟩
def tJ1 (a : List api_TableV) (b : List api_TableV) (i : Int) : ASt := ⟨[(5, .one (.val (.int .i64) i)), (1, .one (.val (.sl api_Table) b)), (0, .one (.val (.sl api_Table) a))], []⟩
noncomputable def L0 (a : List api_TableV) (b : List api_TableV) (i : Int) : R := lim E fin (.loop c1 K7) (tL0 a b i)
noncomputable def J1 (a : List api_TableV) (b : List api_TableV) (i : Int) : R := lim E fin (.code c2 K8) (tJ1 a b i)
noncomputable def SL0 (a : List api_TableV) (b : List api_TableV) (i : Int) : R :=
  cond (decide (i < (a.length : Int)))
    (cond (decide (i < (b.length : Int)))
      (J1 a b i)
      (some (true, ())))
    (some (true, ()))
noncomputable def SJ1 (a : List api_TableV) (b : List api_TableV) (i : Int) : R :=
  Option.bind (idx a i) fun x1 =>
  Option.bind (idx b i) fun x2 =>
  Option.bind (same_Table x1 x2) fun x3 =>
  cond (!x3.1)
    (some (false, ()))
    (L0 a b (IntKind.i64.wrap (i + 1)))
noncomputable def Se (a : List api_TableV) (b : List api_TableV) : R :=
  cond ((a.length : Int) != (b.length : Int))
    (some (false, ()))
    (L0 a b 0)
theorem L0_eq (a b i) : L0 a b i = SL0 a b i := (lim_eq (.loop c1 K7) (tL0 a b i)).trans (by kernel_rfl)
theorem J1_eq (a b i) : J1 a b i = SJ1 a b i := (lim_eq (.code c2 K8) (tJ1 a b i)).trans (by kernel_rfl)
theorem se (x : (argTy ps).den) : run E (lim E fin) fin depth (bodyOf Try.f30) .ret (entryFrom 0 ps x) = Se x.1 x.2.1 := by kernel_rfl
end same_Tables
noncomputable def same_Tables (a : List api_TableV) (b : List api_TableV) : same_Tables.R :=
  same_Tables.Se a b
namespace same_Tables
noncomputable def sig : Sig := ⟨ps, rs, fun x => same_Tables x.1 x.2.1⟩
theorem val (x : (argTy ps).den) : lim E fin (.code (bodyOf Try.f30) .ret) (entryFrom 0 ps x) = sig.run x := (lim_eq (.code (bodyOf Try.f30) .ret) (entryFrom 0 ps x)).trans (se x)
theorem ok : CallOK Try.prog 30 sig :=
  callOK_of_lim (E := E) mixed tt_ok (ctxOk_cons ctxOk_nil same_Table.ok Try.func46 (by kernel_rfl) (by kernel_rfl)) Try.func30 (by kernel_rfl : Try.f30.body = some (bodyOf Try.f30)) Try.ntmps30 (of_decide_eq_true (by kernel_rfl)) (of_decide_eq_true (by kernel_rfl)) fun x y h => (val x).trans h
noncomputable def ctxc (n : Nat) : List (Nat × Sig) := [(46, same_Table.sigc n)]
noncomputable def sigc (n : Nat) : Sig := ⟨ps, rs, fun x => runs (withCtx E (ctxc n)) fin n (.code (bodyOf Try.f30) .ret) (entryFrom 0 ps x)⟩
theorem sigc_le (n : Nat) : ∀ x y, (sigc n).run x = some y → sig.run x = some y := fun x y h => (val x).symm.trans (runs_lim (E := E) (c := ctxc n) (ctxLe_cons ctxLe_nil (same_Table.sigc_le n)) h)
end same_Tables
namespace same_Fields
abbrev ps : List PM := [.pure (.sl api_Field), .pure (.sl api_Field)]
abbrev rs : List RM := [.pure .bool]
abbrev R : Type := Option (Bool × Unit)
noncomputable def E : Env := { tt := tt, ctx := [], nt := 32, ann := [(1000004, [(0, .keep), (1, .keep), (5, .keep)]), (6, [(0, .keep), (1, .keep), (5, .keep)])] }
noncomputable def c0 : Code := sub [1, 1, 1] (bodyOf Try.f60)
noncomputable def c1 : Code := sub [1, 1, 0, 1, 0, 0] (bodyOf Try.f60)
noncomputable def c2 : Code := sub [1, 1, 0, 1, 0, 0, 1] (bodyOf Try.f60)
noncomputable def K5 : Kont := .seq c0 .ret
noncomputable def K7 : Kont := .blk 0 K5
noncomputable def K8 : Kont := .loop c1 K7
noncomputable def fin : ASt → R := Kret E Try.f60.results.toList ps rs
def tL0 (a : List api_FieldV) (b : List api_FieldV) (i : Int) : ASt := ⟨[(5, .one (.val (.int .i64) i)), (1, .one (.val (.sl api_Field) b)), (0, .one (.val (.sl api_Field) a))], []⟩
def tJ1 (a : List api_FieldV) (b : List api_FieldV) (i : Int) : ASt := ⟨[(5, .one (.val (.int .i64) i)), (1, .one (.val (.sl api_Field) b)), (0, .one (.val (.sl api_Field) a))], []⟩
noncomputable def L0 (a : List api_FieldV) (b : List api_FieldV) (i : Int) : R := lim E fin (.loop c1 K7) (tL0 a b i)
noncomputable def J1 (a : List api_FieldV) (b : List api_FieldV) (i : Int) : R := lim E fin (.code c2 K8) (tJ1 a b i)
noncomputable def SL0 (a : List api_FieldV) (b : List api_FieldV) (i : Int) : R :=
  cond (decide (i < (a.length : Int)))
    (cond (decide (i < (b.length : Int)))
      (J1 a b i)
      (some (true, ())))
    (some (true, ()))
noncomputable def SJ1 (a : List api_FieldV) (b : List api_FieldV) (i : Int) : R :=
  Option.bind (idx a i) fun x1 =>
  Option.bind (idx b i) fun x2 =>
  cond (!eqTy (.pair .str (.pair (.pair (.int .i64) (.pair (.int .i64) .unit)) .unit)) x1 x2)
    (some (false, ()))
    (L0 a b (IntKind.i64.wrap (i + 1)))
noncomputable def Se (a : List api_FieldV) (b : List api_FieldV) : R :=
  cond ((a.length : Int) != (b.length : Int))
    (some (false, ()))
    (L0 a b 0)
theorem L0_eq (a b i) : L0 a b i = SL0 a b i := (lim_eq (.loop c1 K7) (tL0 a b i)).trans (by kernel_rfl)
theorem J1_eq (a b i) : J1 a b i = SJ1 a b i := (lim_eq (.code c2 K8) (tJ1 a b i)).trans (by kernel_rfl)
theorem se (x : (argTy ps).den) : run E (lim E fin) fin depth (bodyOf Try.f60) .ret (entryFrom 0 ps x) = Se x.1 x.2.1 := by kernel_rfl
end same_Fields
noncomputable def same_Fields (a : List api_FieldV) (b : List api_FieldV) : same_Fields.R :=
  same_Fields.Se a b
namespace same_Fields
noncomputable def sig : Sig := ⟨ps, rs, fun x => same_Fields x.1 x.2.1⟩
theorem val (x : (argTy ps).den) : lim E fin (.code (bodyOf Try.f60) .ret) (entryFrom 0 ps x) = sig.run x := (lim_eq (.code (bodyOf Try.f60) .ret) (entryFrom 0 ps x)).trans (se x)
theorem ok : CallOK Try.prog 60 sig :=
  callOK_of_lim (E := E) mixed tt_ok ctxOk_nil Try.func60 (by kernel_rfl : Try.f60.body = some (bodyOf Try.f60)) Try.ntmps60 (of_decide_eq_true (by kernel_rfl)) (of_decide_eq_true (by kernel_rfl)) fun x y h => (val x).trans h
noncomputable def ctxc (n : Nat) : List (Nat × Sig) := []
noncomputable def sigc (n : Nat) : Sig := ⟨ps, rs, fun x => runs (withCtx E (ctxc n)) fin n (.code (bodyOf Try.f60) .ret) (entryFrom 0 ps x)⟩
theorem sigc_le (n : Nat) : ∀ x y, (sigc n).run x = some y → sig.run x = some y := fun x y h => (val x).symm.trans (runs_lim (E := E) (c := ctxc n) ctxLe_nil h)
end same_Fields
namespace same_Nodes
abbrev ps : List PM := [.pure (.sl api_DateRange), .pure (.sl api_DateRange)]
abbrev rs : List RM := [.pure .bool]
abbrev R : Type := Option (Bool × Unit)
noncomputable def E : Env := { tt := tt, ctx := [], nt := 32, ann := [(1000004, [(0, .keep), (1, .keep), (5, .keep)]), (6, [(0, .keep), (1, .keep), (5, .keep)])] }
noncomputable def c0 : Code := sub [1, 1, 1] (bodyOf Try.f21)
noncomputable def c1 : Code := sub [1, 1, 0, 1, 0, 0] (bodyOf Try.f21)
noncomputable def c2 : Code := sub [1, 1, 0, 1, 0, 0, 1] (bodyOf Try.f21)
noncomputable def K5 : Kont := .seq c0 .ret
noncomputable def K7 : Kont := .blk 0 K5
noncomputable def K8 : Kont := .loop c1 K7
noncomputable def fin : ASt → R := Kret E Try.f21.results.toList ps rs
def tL0 (a : List api_DateRangeV) (b : List api_DateRangeV) (i : Int) : ASt := ⟨[(5, .one (.val (.int .i64) i)), (1, .one (.val (.sl api_DateRange) b)), (0, .one (.val (.sl api_DateRange) a))], []⟩
def tJ1 (a : List api_DateRangeV) (b : List api_DateRangeV) (i : Int) : ASt := ⟨[(5, .one (.val (.int .i64) i)), (1, .one (.val (.sl api_DateRange) b)), (0, .one (.val (.sl api_DateRange) a))], []⟩
noncomputable def L0 (a : List api_DateRangeV) (b : List api_DateRangeV) (i : Int) : R := lim E fin (.loop c1 K7) (tL0 a b i)
noncomputable def J1 (a : List api_DateRangeV) (b : List api_DateRangeV) (i : Int) : R := lim E fin (.code c2 K8) (tJ1 a b i)
noncomputable def SL0 (a : List api_DateRangeV) (b : List api_DateRangeV) (i : Int) : R :=
  cond (decide (i < (a.length : Int)))
    (cond (decide (i < (b.length : Int)))
      (J1 a b i)
      (some (true, ())))
    (some (true, ()))
noncomputable def SJ1 (a : List api_DateRangeV) (b : List api_DateRangeV) (i : Int) : R :=
  Option.bind (idx a i) fun x1 =>
  Option.bind (idx b i) fun x2 =>
  cond (!eqTy (.pair (.int .i64) (.pair (.int .i64) .unit)) x1 x2)
    (some (false, ()))
    (L0 a b (IntKind.i64.wrap (i + 1)))
noncomputable def Se (a : List api_DateRangeV) (b : List api_DateRangeV) : R :=
  cond ((a.length : Int) != (b.length : Int))
    (some (false, ()))
    (L0 a b 0)
theorem L0_eq (a b i) : L0 a b i = SL0 a b i := (lim_eq (.loop c1 K7) (tL0 a b i)).trans (by kernel_rfl)
theorem J1_eq (a b i) : J1 a b i = SJ1 a b i := (lim_eq (.code c2 K8) (tJ1 a b i)).trans (by kernel_rfl)
theorem se (x : (argTy ps).den) : run E (lim E fin) fin depth (bodyOf Try.f21) .ret (entryFrom 0 ps x) = Se x.1 x.2.1 := by kernel_rfl
end same_Nodes
noncomputable def same_Nodes (a : List api_DateRangeV) (b : List api_DateRangeV) : same_Nodes.R :=
  same_Nodes.Se a b
namespace same_Nodes
noncomputable def sig : Sig := ⟨ps, rs, fun x => same_Nodes x.1 x.2.1⟩
theorem val (x : (argTy ps).den) : lim E fin (.code (bodyOf Try.f21) .ret) (entryFrom 0 ps x) = sig.run x := (lim_eq (.code (bodyOf Try.f21) .ret) (entryFrom 0 ps x)).trans (se x)
theorem ok : CallOK Try.prog 21 sig :=
  callOK_of_lim (E := E) mixed tt_ok ctxOk_nil Try.func21 (by kernel_rfl : Try.f21.body = some (bodyOf Try.f21)) Try.ntmps21 (of_decide_eq_true (by kernel_rfl)) (of_decide_eq_true (by kernel_rfl)) fun x y h => (val x).trans h
noncomputable def ctxc (n : Nat) : List (Nat × Sig) := []
noncomputable def sigc (n : Nat) : Sig := ⟨ps, rs, fun x => runs (withCtx E (ctxc n)) fin n (.code (bodyOf Try.f21) .ret) (entryFrom 0 ps x)⟩
theorem sigc_le (n : Nat) : ∀ x y, (sigc n).run x = some y → sig.run x = some y := fun x y h => (val x).symm.trans (runs_lim (E := E) (c := ctxc n) ctxLe_nil h)
end same_Nodes
namespace same_Rule
abbrev ps : List PM := [.pure api_Rule, .pure api_Rule]
abbrev rs : List RM := [.pure .bool]
abbrev R : Type := Option (Bool × Unit)
noncomputable def E : Env := { tt := tt, ctx := [(21, same_Nodes.sig)], nt := 59, ann := [] }
noncomputable def fin : ASt → R := Kret E Try.f64.results.toList ps rs
noncomputable def Se (a : api_RuleV) (b : api_RuleV) : R :=
  cond (a.1 == b.1)
    (cond (a.2.1 == b.2.1)
      (cond (a.2.2.1 == b.2.2.1)
        (cond (a.2.2.2.1 == b.2.2.2.1)
          (cond (eqTy (.pair (.int .i64) (.pair (.int .i64) .unit)) a.2.2.2.2.1 b.2.2.2.2.1)
            (cond (a.2.2.2.2.2.2.2.1 == b.2.2.2.2.2.2.2.1)
              (Option.bind (same_Nodes a.2.2.2.2.2.1 b.2.2.2.2.2.1) fun x1 =>
              cond x1.1
                (Option.bind (same_Nodes a.2.2.2.2.2.2.1 b.2.2.2.2.2.2.1) fun x2 =>
                some (x2.1, ()))
                (some (false, ())))
              (some (false, ())))
            (some (false, ())))
          (some (false, ())))
        (some (false, ())))
      (some (false, ())))
    (some (false, ()))
theorem se (x : (argTy ps).den) : run E (lim E fin) fin depth (bodyOf Try.f64) .ret (entryFrom 0 ps x) = Se x.1 x.2.1 := by kernel_rfl
end same_Rule
noncomputable def same_Rule (a : api_RuleV) (b : api_RuleV) : same_Rule.R :=
  same_Rule.Se a b
namespace same_Rule
noncomputable def sig : Sig := ⟨ps, rs, fun x => same_Rule x.1 x.2.1⟩
theorem val (x : (argTy ps).den) : lim E fin (.code (bodyOf Try.f64) .ret) (entryFrom 0 ps x) = sig.run x := (lim_eq (.code (bodyOf Try.f64) .ret) (entryFrom 0 ps x)).trans (se x)
theorem ok : CallOK Try.prog 64 sig :=
  callOK_of_lim (E := E) mixed tt_ok (ctxOk_cons ctxOk_nil same_Nodes.ok Try.func21 (by kernel_rfl) (by kernel_rfl)) Try.func64 (by kernel_rfl : Try.f64.body = some (bodyOf Try.f64)) Try.ntmps64 (of_decide_eq_true (by kernel_rfl)) (of_decide_eq_true (by kernel_rfl)) fun x y h => (val x).trans h
noncomputable def ctxc (n : Nat) : List (Nat × Sig) := [(21, same_Nodes.sigc n)]
noncomputable def sigc (n : Nat) : Sig := ⟨ps, rs, fun x => runs (withCtx E (ctxc n)) fin n (.code (bodyOf Try.f64) .ret) (entryFrom 0 ps x)⟩
theorem sigc_le (n : Nat) : ∀ x y, (sigc n).run x = some y → sig.run x = some y := fun x y h => (val x).symm.trans (runs_lim (E := E) (c := ctxc n) (ctxLe_cons ctxLe_nil (same_Nodes.sigc_le n)) h)
end same_Rule
namespace same_Rules
abbrev ps : List PM := [.pure (.sl api_Rule), .pure (.sl api_Rule)]
abbrev rs : List RM := [.pure .bool]
abbrev R : Type := Option (Bool × Unit)
noncomputable def E : Env := { tt := tt, ctx := [(64, same_Rule.sig)], nt := 33, ann := [(1000004, [(0, .keep), (1, .keep), (5, .keep)]), (6, [(0, .keep), (1, .keep), (5, .keep)])] }
noncomputable def c0 : Code := sub [1, 1, 1] (bodyOf Try.f61)
noncomputable def c1 : Code := sub [1, 1, 0, 1, 0, 0] (bodyOf Try.f61)
noncomputable def c2 : Code := sub [1, 1, 0, 1, 0, 0, 1] (bodyOf Try.f61)
noncomputable def K5 : Kont := .seq c0 .ret
noncomputable def K7 : Kont := .blk 0 K5
noncomputable def K8 : Kont := .loop c1 K7
noncomputable def fin : ASt → R := Kret E Try.f61.results.toList ps rs
def tL0 (a : List api_RuleV) (b : List api_RuleV) (i : Int) : ASt := ⟨[(5, .one (.val (.int .i64) i)), (1, .one (.val (.sl api_Rule) b)), (0, .one (.val (.sl api_Rule) a))], []⟩
def tJ1 (a : List api_RuleV) (b : List api_RuleV) (i : Int) : ASt := ⟨[(5, .one (.val (.int .i64) i)), (1, .one (.val (.sl api_Rule) b)), (0, .one (.val (.sl api_Rule) a))], []⟩
noncomputable def L0 (a : List api_RuleV) (b : List api_RuleV) (i : Int) : R := lim E fin (.loop c1 K7) (tL0 a b i)
noncomputable def J1 (a : List api_RuleV) (b : List api_RuleV) (i : Int) : R := lim E fin (.code c2 K8) (tJ1 a b i)
noncomputable def SL0 (a : List api_RuleV) (b : List api_RuleV) (i : Int) : R :=
  cond (decide (i < (a.length : Int)))
    (cond (decide (i < (b.length : Int)))
      (J1 a b i)
      (some (true, ())))
    (some (true, ()))
noncomputable def SJ1 (a : List api_RuleV) (b : List api_RuleV) (i : Int) : R :=
  Option.bind (idx a i) fun x1 =>
  Option.bind (idx b i) fun x2 =>
  Option.bind (same_Rule x1 x2) fun x3 =>
  cond (!x3.1)
    (some (false, ()))
    (L0 a b (IntKind.i64.wrap (i + 1)))
noncomputable def Se (a : List api_RuleV) (b : List api_RuleV) : R :=
  cond ((a.length : Int) != (b.length : Int))
    (some (false, ()))
    (L0 a b 0)
theorem L0_eq (a b i) : L0 a b i = SL0 a b i := (lim_eq (.loop c1 K7) (tL0 a b i)).trans (by kernel_rfl)
theorem J1_eq (a b i) : J1 a b i = SJ1 a b i := (lim_eq (.code c2 K8) (tJ1 a b i)).trans (by kernel_rfl)
theorem se (x : (argTy ps).den) : run E (lim E fin) fin depth (bodyOf Try.f61) .ret (entryFrom 0 ps x) = Se x.1 x.2.1 := by kernel_rfl
end same_Rules
noncomputable def same_Rules (a : List api_RuleV) (b : List api_RuleV) : same_Rules.R :=
  same_Rules.Se a b
namespace same_Rules
noncomputable def sig : Sig := ⟨ps, rs, fun x => same_Rules x.1 x.2.1⟩
theorem val (x : (argTy ps).den) : lim E fin (.code (bodyOf Try.f61) .ret) (entryFrom 0 ps x) = sig.run x := (lim_eq (.code (bodyOf Try.f61) .ret) (entryFrom 0 ps x)).trans (se x)
theorem ok : CallOK Try.prog 61 sig :=
  callOK_of_lim (E := E) mixed tt_ok (ctxOk_cons ctxOk_nil same_Rule.ok Try.func64 (by kernel_rfl) (by kernel_rfl)) Try.func61 (by kernel_rfl : Try.f61.body = some (bodyOf Try.f61)) Try.ntmps61 (of_decide_eq_true (by kernel_rfl)) (of_decide_eq_true (by kernel_rfl)) fun x y h => (val x).trans h
noncomputable def ctxc (n : Nat) : List (Nat × Sig) := [(64, same_Rule.sigc n)]
noncomputable def sigc (n : Nat) : Sig := ⟨ps, rs, fun x => runs (withCtx E (ctxc n)) fin n (.code (bodyOf Try.f61) .ret) (entryFrom 0 ps x)⟩
theorem sigc_le (n : Nat) : ∀ x y, (sigc n).run x = some y → sig.run x = some y := fun x y h => (val x).symm.trans (runs_lim (E := E) (c := ctxc n) (ctxLe_cons ctxLe_nil (same_Rule.sigc_le n)) h)
end same_Rules
namespace same_Scope
abbrev ps : List PM := [.pure api_Scope, .pure api_Scope]
abbrev rs : List RM := [.pure .bool]
abbrev R : Type := Option (Bool × Unit)
noncomputable def E : Env := { tt := tt, ctx := [(60, same_Fields.sig), (61, same_Rules.sig)], nt := 38, ann := [] }
noncomputable def fin : ASt → R := Kret E Try.f47.results.toList ps rs
noncomputable def Se (a : api_ScopeV) (b : api_ScopeV) : R :=
  cond (a.1 == b.1)
    (cond (a.2.1 == b.2.1)
      (Option.bind (same_Fields a.2.2.1 b.2.2.1) fun x1 =>
      cond x1.1
        (Option.bind (same_Fields a.2.2.2.1 b.2.2.2.1) fun x2 =>
        cond x2.1
          (Option.bind (same_Rules a.2.2.2.2.1 b.2.2.2.2.1) fun x3 =>
          some (x3.1, ()))
          (some (false, ())))
        (some (false, ())))
      (some (false, ())))
    (some (false, ()))
theorem se (x : (argTy ps).den) : run E (lim E fin) fin depth (bodyOf Try.f47) .ret (entryFrom 0 ps x) = Se x.1 x.2.1 := by kernel_rfl
end same_Scope
noncomputable def same_Scope (a : api_ScopeV) (b : api_ScopeV) : same_Scope.R :=
  same_Scope.Se a b
namespace same_Scope
noncomputable def sig : Sig := ⟨ps, rs, fun x => same_Scope x.1 x.2.1⟩
theorem val (x : (argTy ps).den) : lim E fin (.code (bodyOf Try.f47) .ret) (entryFrom 0 ps x) = sig.run x := (lim_eq (.code (bodyOf Try.f47) .ret) (entryFrom 0 ps x)).trans (se x)
theorem ok : CallOK Try.prog 47 sig :=
  callOK_of_lim (E := E) mixed tt_ok (ctxOk_cons (ctxOk_cons ctxOk_nil same_Rules.ok Try.func61 (by kernel_rfl) (by kernel_rfl)) same_Fields.ok Try.func60 (by kernel_rfl) (by kernel_rfl)) Try.func47 (by kernel_rfl : Try.f47.body = some (bodyOf Try.f47)) Try.ntmps47 (of_decide_eq_true (by kernel_rfl)) (of_decide_eq_true (by kernel_rfl)) fun x y h => (val x).trans h
noncomputable def ctxc (n : Nat) : List (Nat × Sig) := [(60, same_Fields.sigc n), (61, same_Rules.sigc n)]
noncomputable def sigc (n : Nat) : Sig := ⟨ps, rs, fun x => runs (withCtx E (ctxc n)) fin n (.code (bodyOf Try.f47) .ret) (entryFrom 0 ps x)⟩
theorem sigc_le (n : Nat) : ∀ x y, (sigc n).run x = some y → sig.run x = some y := fun x y h => (val x).symm.trans (runs_lim (E := E) (c := ctxc n) (ctxLe_cons (ctxLe_cons ctxLe_nil (same_Rules.sigc_le n)) (same_Fields.sigc_le n)) h)
end same_Scope
namespace same_Scopes
abbrev ps : List PM := [.pure (.sl api_Scope), .pure (.sl api_Scope)]
abbrev rs : List RM := [.pure .bool]
abbrev R : Type := Option (Bool × Unit)
noncomputable def E : Env := { tt := tt, ctx := [(47, same_Scope.sig)], nt := 33, ann := [(1000004, [(0, .keep), (1, .keep), (5, .keep)]), (6, [(0, .keep), (1, .keep), (5, .keep)])] }
noncomputable def c0 : Code := sub [1, 1, 1] (bodyOf Try.f31)
noncomputable def c1 : Code := sub [1, 1, 0, 1, 0, 0] (bodyOf Try.f31)
noncomputable def c2 : Code := sub [1, 1, 0, 1, 0, 0, 1] (bodyOf Try.f31)
noncomputable def K5 : Kont := .seq c0 .ret
noncomputable def K7 : Kont := .blk 0 K5
noncomputable def K8 : Kont := .loop c1 K7
noncomputable def fin : ASt → R := Kret E Try.f31.results.toList ps rs
def tL0 (a : List api_ScopeV) (b : List api_ScopeV) (i : Int) : ASt := ⟨[(5, .one (.val (.int .i64) i)), (1, .one (.val (.sl api_Scope) b)), (0, .one (.val (.sl api_Scope) a))], []⟩
def tJ1 (a : List api_ScopeV) (b : List api_ScopeV) (i : Int) : ASt := ⟨[(5, .one (.val (.int .i64) i)), (1, .one (.val (.sl api_Scope) b)), (0, .one (.val (.sl api_Scope) a))], []⟩
noncomputable def L0 (a : List api_ScopeV) (b : List api_ScopeV) (i : Int) : R := lim E fin (.loop c1 K7) (tL0 a b i)
noncomputable def J1 (a : List api_ScopeV) (b : List api_ScopeV) (i : Int) : R := lim E fin (.code c2 K8) (tJ1 a b i)
noncomputable def SL0 (a : List api_ScopeV) (b : List api_ScopeV) (i : Int) : R :=
  cond (decide (i < (a.length : Int)))
    (cond (decide (i < (b.length : Int)))
      (J1 a b i)
      (some (true, ())))
    (some (true, ()))
noncomputable def SJ1 (a : List api_ScopeV) (b : List api_ScopeV) (i : Int) : R :=
  Option.bind (idx a i) fun x1 =>
  Option.bind (idx b i) fun x2 =>
  Option.bind (same_Scope x1 x2) fun x3 =>
  cond (!x3.1)
    (some (false, ()))
    (L0 a b (IntKind.i64.wrap (i + 1)))
noncomputable def Se (a : List api_ScopeV) (b : List api_ScopeV) : R :=
  cond ((a.length : Int) != (b.length : Int))
    (some (false, ()))
    (L0 a b 0)
theorem L0_eq (a b i) : L0 a b i = SL0 a b i := (lim_eq (.loop c1 K7) (tL0 a b i)).trans (by kernel_rfl)
theorem J1_eq (a b i) : J1 a b i = SJ1 a b i := (lim_eq (.code c2 K8) (tJ1 a b i)).trans (by kernel_rfl)
theorem se (x : (argTy ps).den) : run E (lim E fin) fin depth (bodyOf Try.f31) .ret (entryFrom 0 ps x) = Se x.1 x.2.1 := by kernel_rfl
end same_Scopes
noncomputable def same_Scopes (a : List api_ScopeV) (b : List api_ScopeV) : same_Scopes.R :=
  same_Scopes.Se a b
namespace same_Scopes
noncomputable def sig : Sig := ⟨ps, rs, fun x => same_Scopes x.1 x.2.1⟩
theorem val (x : (argTy ps).den) : lim E fin (.code (bodyOf Try.f31) .ret) (entryFrom 0 ps x) = sig.run x := (lim_eq (.code (bodyOf Try.f31) .ret) (entryFrom 0 ps x)).trans (se x)
theorem ok : CallOK Try.prog 31 sig :=
  callOK_of_lim (E := E) mixed tt_ok (ctxOk_cons ctxOk_nil same_Scope.ok Try.func47 (by kernel_rfl) (by kernel_rfl)) Try.func31 (by kernel_rfl : Try.f31.body = some (bodyOf Try.f31)) Try.ntmps31 (of_decide_eq_true (by kernel_rfl)) (of_decide_eq_true (by kernel_rfl)) fun x y h => (val x).trans h
noncomputable def ctxc (n : Nat) : List (Nat × Sig) := [(47, same_Scope.sigc n)]
noncomputable def sigc (n : Nat) : Sig := ⟨ps, rs, fun x => runs (withCtx E (ctxc n)) fin n (.code (bodyOf Try.f31) .ret) (entryFrom 0 ps x)⟩
theorem sigc_le (n : Nat) : ∀ x y, (sigc n).run x = some y → sig.run x = some y := fun x y h => (val x).symm.trans (runs_lim (E := E) (c := ctxc n) (ctxLe_cons ctxLe_nil (same_Scope.sigc_le n)) h)
end same_Scopes
namespace same_Law
abbrev ps : List PM := [.pure api_Law, .pure api_Law]
abbrev rs : List RM := [.pure .bool]
abbrev R : Type := Option (Bool × Unit)
noncomputable def E : Env := { tt := tt, ctx := [(29, same_Enums.sig), (30, same_Tables.sig), (31, same_Scopes.sig)], nt := 24, ann := [] }
noncomputable def fin : ASt → R := Kret E Try.f16.results.toList ps rs
noncomputable def Se (a : api_LawV) (b : api_LawV) : R :=
  Option.bind (same_Enums a.1 b.1) fun x1 =>
  cond x1.1
    (Option.bind (same_Tables a.2.1 b.2.1) fun x2 =>
    cond x2.1
      (Option.bind (same_Scopes a.2.2.1 b.2.2.1) fun x3 =>
      some (x3.1, ()))
      (some (false, ())))
    (some (false, ()))
theorem se (x : (argTy ps).den) : run E (lim E fin) fin depth (bodyOf Try.f16) .ret (entryFrom 0 ps x) = Se x.1 x.2.1 := by kernel_rfl
end same_Law
noncomputable def same_Law (a : api_LawV) (b : api_LawV) : same_Law.R :=
  same_Law.Se a b
namespace same_Law
noncomputable def sig : Sig := ⟨ps, rs, fun x => same_Law x.1 x.2.1⟩
theorem val (x : (argTy ps).den) : lim E fin (.code (bodyOf Try.f16) .ret) (entryFrom 0 ps x) = sig.run x := (lim_eq (.code (bodyOf Try.f16) .ret) (entryFrom 0 ps x)).trans (se x)
theorem ok : CallOK Try.prog 16 sig :=
  callOK_of_lim (E := E) mixed tt_ok (ctxOk_cons (ctxOk_cons (ctxOk_cons ctxOk_nil same_Scopes.ok Try.func31 (by kernel_rfl) (by kernel_rfl)) same_Tables.ok Try.func30 (by kernel_rfl) (by kernel_rfl)) same_Enums.ok Try.func29 (by kernel_rfl) (by kernel_rfl)) Try.func16 (by kernel_rfl : Try.f16.body = some (bodyOf Try.f16)) Try.ntmps16 (of_decide_eq_true (by kernel_rfl)) (of_decide_eq_true (by kernel_rfl)) fun x y h => (val x).trans h
noncomputable def ctxc (n : Nat) : List (Nat × Sig) := [(29, same_Enums.sigc n), (30, same_Tables.sigc n), (31, same_Scopes.sigc n)]
noncomputable def sigc (n : Nat) : Sig := ⟨ps, rs, fun x => runs (withCtx E (ctxc n)) fin n (.code (bodyOf Try.f16) .ret) (entryFrom 0 ps x)⟩
theorem sigc_le (n : Nat) : ∀ x y, (sigc n).run x = some y → sig.run x = some y := fun x y h => (val x).symm.trans (runs_lim (E := E) (c := ctxc n) (ctxLe_cons (ctxLe_cons (ctxLe_cons ctxLe_nil (same_Scopes.sigc_le n)) (same_Tables.sigc_le n)) (same_Enums.sigc_le n)) h)
end same_Law
namespace ref05_nonempty
abbrev ps : List PM := [.pure api_DateRange]
abbrev rs : List RM := [.pure .bool]
abbrev R : Type := Option (Bool × Unit)
noncomputable def E : Env := { tt := tt, ctx := [(57, ref05_Valid.sig)], nt := 12, ann := [] }
noncomputable def fin : ASt → R := Kret E Try.f55.results.toList ps rs
noncomputable def Se (r_0 : api_DateRangeV) : R :=
  Option.bind (ref05_Valid r_0) fun x1 =>
  cond x1.1
    (some (decide (r_0.1 < r_0.2.1), ()))
    (some (false, ()))
theorem se (x : (argTy ps).den) : run E (lim E fin) fin depth (bodyOf Try.f55) .ret (entryFrom 0 ps x) = Se x.1 := by kernel_rfl
end ref05_nonempty
noncomputable def ref05_nonempty (r_0 : api_DateRangeV) : ref05_nonempty.R :=
  ref05_nonempty.Se r_0
namespace ref05_nonempty
noncomputable def sig : Sig := ⟨ps, rs, fun x => ref05_nonempty x.1⟩
theorem val (x : (argTy ps).den) : lim E fin (.code (bodyOf Try.f55) .ret) (entryFrom 0 ps x) = sig.run x := (lim_eq (.code (bodyOf Try.f55) .ret) (entryFrom 0 ps x)).trans (se x)
theorem ok : CallOK Try.prog 55 sig :=
  callOK_of_lim (E := E) mixed tt_ok (ctxOk_cons ctxOk_nil ref05_Valid.ok Try.func57 (by kernel_rfl) (by kernel_rfl)) Try.func55 (by kernel_rfl : Try.f55.body = some (bodyOf Try.f55)) Try.ntmps55 (of_decide_eq_true (by kernel_rfl)) (of_decide_eq_true (by kernel_rfl)) fun x y h => (val x).trans h
noncomputable def ctxc (n : Nat) : List (Nat × Sig) := [(57, ref05_Valid.sigc n)]
noncomputable def sigc (n : Nat) : Sig := ⟨ps, rs, fun x => runs (withCtx E (ctxc n)) fin n (.code (bodyOf Try.f55) .ret) (entryFrom 0 ps x)⟩
theorem sigc_le (n : Nat) : ∀ x y, (sigc n).run x = some y → sig.run x = some y := fun x y h => (val x).symm.trans (runs_lim (E := E) (c := ctxc n) (ctxLe_cons ctxLe_nil (ref05_Valid.sigc_le n)) h)
end ref05_nonempty
namespace ref05_Insert
abbrev ps : List PM := [.pure (.sl (.int .i64)), .pure (.int .i64)]
abbrev rs : List RM := [.own (.int .i64)]
abbrev R : Type := Option (List Int × Unit)
noncomputable def E : Env := { tt := tt, ctx := [], nt := 51, ann := [(1000003, [(0, .keep), (1, .keep), (5, .own (.int .i64)), (6, .keep)]), (1000009, [(0, .keep), (1, .keep), (5, .keep), (7, .keep)])] }
noncomputable def c0 : Code := sub [1, 1, 1] (bodyOf Try.f56)
noncomputable def c1 : Code := sub [1, 1, 1, 1, 1] (bodyOf Try.f56)
noncomputable def c2 : Code := sub [1, 1, 0, 1, 0, 0] (bodyOf Try.f56)
noncomputable def c3 : Code := sub [1, 1, 1, 1, 0, 1, 0, 0] (bodyOf Try.f56)
noncomputable def K3 : Kont := .seq c0 .ret
noncomputable def K5 : Kont := .blk 0 K3
noncomputable def K13 : Kont := .seq c1 .ret
noncomputable def K15 : Kont := .blk 2 K13
noncomputable def fin : ASt → R := Kret E Try.f56.results.toList ps rs
def tL0 (l : List Int) (n_1 : Int) (out : List Int) (i : Int) : ASt := ⟨[(6, .one (.val (.int .i64) i)), (5, .one (.own 5)), (1, .one (.val (.int .i64) n_1)), (0, .one (.val (.sl (.int .i64)) l))], [(5, some ⟨.free, .int .i64, out⟩)]⟩
def tL1 (l : List Int) (n_1 : Int) (out : List Int) (i : Int) : ASt := ⟨[(7, .one (.val (.int .i64) i)), (5, .one (.own 5)), (1, .one (.val (.int .i64) n_1)), (0, .one (.val (.sl (.int .i64)) l))], [(5, some ⟨.free, .int .i64, out⟩)]⟩
noncomputable def L0 (l : List Int) (n_1 : Int) (out : List Int) (i : Int) : R := lim E fin (.loop c2 K5) (tL0 l n_1 out i)
noncomputable def L1 (l : List Int) (n_1 : Int) (out : List Int) (i : Int) : R := lim E fin (.loop c3 K15) (tL1 l n_1 out i)
noncomputable def SL0 (l : List Int) (n_1 : Int) (out : List Int) (i : Int) : R :=
  cond (decide (i < (l.length : Int)))
    (Option.bind (idx l i) fun x1 =>
    cond (decide (x1 < n_1))
      (Option.bind (idx l i) fun x2 =>
      cond (decide ((out.length + 1) * 8 ≤ room) && decide (0 < Ty.nc (.int .i64)))
        (L0 l n_1 (out ++ [x2]) (IntKind.i64.wrap (i + 1)))
        none)
      (L0 l n_1 out (IntKind.i64.wrap (i + 1))))
    (cond (decide ((out.length + 1) * 8 ≤ room) && decide (0 < Ty.nc (.int .i64)))
      (L1 l n_1 (out ++ [n_1]) 0)
      none)
noncomputable def SL1 (l : List Int) (n_1 : Int) (out : List Int) (i : Int) : R :=
  cond (decide (i < (l.length : Int)))
    (Option.bind (idx l i) fun x1 =>
    cond (decide (x1 > n_1))
      (Option.bind (idx l i) fun x2 =>
      cond (decide ((out.length + 1) * 8 ≤ room) && decide (0 < Ty.nc (.int .i64)))
        (L1 l n_1 (out ++ [x2]) (IntKind.i64.wrap (i + 1)))
        none)
      (L1 l n_1 out (IntKind.i64.wrap (i + 1))))
    (some (out, ()))
noncomputable def Se (l : List Int) (n_1 : Int) : R :=
  L0 l n_1 [] 0
theorem L0_eq (l n_1 out i) : L0 l n_1 out i = SL0 l n_1 out i := (lim_eq (.loop c2 K5) (tL0 l n_1 out i)).trans (by kernel_rfl)
theorem L1_eq (l n_1 out i) : L1 l n_1 out i = SL1 l n_1 out i := (lim_eq (.loop c3 K15) (tL1 l n_1 out i)).trans (by kernel_rfl)
theorem se (x : (argTy ps).den) : run E (lim E fin) fin depth (bodyOf Try.f56) .ret (entryFrom 0 ps x) = Se x.1 x.2.1 := by kernel_rfl
end ref05_Insert
noncomputable def ref05_Insert (l : List Int) (n_1 : Int) : ref05_Insert.R :=
  ref05_Insert.Se l n_1
namespace ref05_Insert
noncomputable def sig : Sig := ⟨ps, rs, fun x => ref05_Insert x.1 x.2.1⟩
theorem val (x : (argTy ps).den) : lim E fin (.code (bodyOf Try.f56) .ret) (entryFrom 0 ps x) = sig.run x := (lim_eq (.code (bodyOf Try.f56) .ret) (entryFrom 0 ps x)).trans (se x)
theorem ok : CallOK Try.prog 56 sig :=
  callOK_of_lim (E := E) mixed tt_ok ctxOk_nil Try.func56 (by kernel_rfl : Try.f56.body = some (bodyOf Try.f56)) Try.ntmps56 (of_decide_eq_true (by kernel_rfl)) (of_decide_eq_true (by kernel_rfl)) fun x y h => (val x).trans h
noncomputable def ctxc (n : Nat) : List (Nat × Sig) := []
noncomputable def sigc (n : Nat) : Sig := ⟨ps, rs, fun x => runs (withCtx E (ctxc n)) fin n (.code (bodyOf Try.f56) .ret) (entryFrom 0 ps x)⟩
theorem sigc_le (n : Nat) : ∀ x y, (sigc n).run x = some y → sig.run x = some y := fun x y h => (val x).symm.trans (runs_lim (E := E) (c := ctxc n) ctxLe_nil h)
end ref05_Insert
namespace ref05_Boundaries
abbrev ps : List PM := [.pure (.sl api_DateRange)]
abbrev rs : List RM := [.own (.int .i64)]
abbrev R : Type := Option (List Int × Unit)
noncomputable def E : Env := { tt := tt, ctx := [(55, ref05_nonempty.sig), (56, ref05_Insert.sig)], nt := 30, ann := [(1000003, [(0, .keep), (3, .own (.int .i64)), (4, .keep)])] }
noncomputable def c0 : Code := sub [1, 1, 1] (bodyOf Try.f40)
noncomputable def c1 : Code := sub [1, 1, 0, 1, 0, 0] (bodyOf Try.f40)
noncomputable def K3 : Kont := .seq c0 .ret
noncomputable def K5 : Kont := .blk 0 K3
noncomputable def fin : ASt → R := Kret E Try.f40.results.toList ps rs
def tL0 (l : List api_DateRangeV) (out : List Int) (i : Int) : ASt := ⟨[(4, .one (.val (.int .i64) i)), (3, .one (.own 3)), (0, .one (.val (.sl api_DateRange) l))], [(3, some ⟨.free, .int .i64, out⟩)]⟩
noncomputable def L0 (l : List api_DateRangeV) (out : List Int) (i : Int) : R := lim E fin (.loop c1 K5) (tL0 l out i)
noncomputable def SL0 (l : List api_DateRangeV) (out : List Int) (i : Int) : R :=
  cond (decide (i < (l.length : Int)))
    (Option.bind (idx l i) fun x1 =>
    Option.bind (ref05_nonempty x1) fun x2 =>
    cond x2.1
      (Option.bind (idx l i) fun x3 =>
      Option.bind (ref05_Insert out x3.1) fun x4 =>
      Option.bind (idx l i) fun x5 =>
      Option.bind (ref05_Insert x4.1 x5.2.1) fun x6 =>
      L0 l x6.1 (IntKind.i64.wrap (i + 1)))
      (L0 l out (IntKind.i64.wrap (i + 1))))
    (some (out, ()))
noncomputable def Se (l : List api_DateRangeV) : R :=
  L0 l [] 0
theorem L0_eq (l out i) : L0 l out i = SL0 l out i := (lim_eq (.loop c1 K5) (tL0 l out i)).trans (by kernel_rfl)
theorem se (x : (argTy ps).den) : run E (lim E fin) fin depth (bodyOf Try.f40) .ret (entryFrom 0 ps x) = Se x.1 := by kernel_rfl
end ref05_Boundaries
noncomputable def ref05_Boundaries (l : List api_DateRangeV) : ref05_Boundaries.R :=
  ref05_Boundaries.Se l
namespace ref05_Boundaries
noncomputable def sig : Sig := ⟨ps, rs, fun x => ref05_Boundaries x.1⟩
theorem val (x : (argTy ps).den) : lim E fin (.code (bodyOf Try.f40) .ret) (entryFrom 0 ps x) = sig.run x := (lim_eq (.code (bodyOf Try.f40) .ret) (entryFrom 0 ps x)).trans (se x)
theorem ok : CallOK Try.prog 40 sig :=
  callOK_of_lim (E := E) mixed tt_ok (ctxOk_cons (ctxOk_cons ctxOk_nil ref05_Insert.ok Try.func56 (by kernel_rfl) (by kernel_rfl)) ref05_nonempty.ok Try.func55 (by kernel_rfl) (by kernel_rfl)) Try.func40 (by kernel_rfl : Try.f40.body = some (bodyOf Try.f40)) Try.ntmps40 (of_decide_eq_true (by kernel_rfl)) (of_decide_eq_true (by kernel_rfl)) fun x y h => (val x).trans h
noncomputable def ctxc (n : Nat) : List (Nat × Sig) := [(55, ref05_nonempty.sigc n), (56, ref05_Insert.sigc n)]
noncomputable def sigc (n : Nat) : Sig := ⟨ps, rs, fun x => runs (withCtx E (ctxc n)) fin n (.code (bodyOf Try.f40) .ret) (entryFrom 0 ps x)⟩
theorem sigc_le (n : Nat) : ∀ x y, (sigc n).run x = some y → sig.run x = some y := fun x y h => (val x).symm.trans (runs_lim (E := E) (c := ctxc n) (ctxLe_cons (ctxLe_cons ctxLe_nil (ref05_Insert.sigc_le n)) (ref05_nonempty.sigc_le n)) h)
end ref05_Boundaries
namespace ref12_Within
abbrev ps : List PM := [.pure (.sl (.int .i64))]
abbrev rs : List RM := [.own (.int .i64)]
abbrev R : Type := Option (List Int × Unit)
noncomputable def E : Env := { tt := tt, ctx := [], nt := 31, ann := [(1000003, [(0, .keep), (3, .own (.int .i64)), (4, .keep)]), (6, [(0, .keep), (3, .own (.int .i64)), (4, .keep), (22, .keep)])] }
noncomputable def c0 : Code := sub [1, 1, 1] (bodyOf Try.f39)
noncomputable def c1 : Code := sub [1, 1, 0, 1, 0, 0] (bodyOf Try.f39)
noncomputable def c2 : Code := sub [1, 1, 0, 1, 0, 0, 1, 1] (bodyOf Try.f39)
noncomputable def c3 : Code := sub [1, 1, 0, 1, 0, 0, 1, 0, 0, 1] (bodyOf Try.f39)
noncomputable def K3 : Kont := .seq c0 .ret
noncomputable def K5 : Kont := .blk 0 K3
noncomputable def K6 : Kont := .loop c1 K5
noncomputable def K9 : Kont := .seq c2 K6
noncomputable def K10 : Kont := .blk 1 K9
noncomputable def fin : ASt → R := Kret E Try.f39.results.toList ps rs
def tL0 (l : List Int) (out : List Int) (i : Int) : ASt := ⟨[(4, .one (.val (.int .i64) i)), (3, .one (.own 3)), (0, .one (.val (.sl (.int .i64)) l))], [(3, some ⟨.free, .int .i64, out⟩)]⟩
def tJ1 (l : List Int) (out : List Int) (i : Int) (v_22 : Bool) : ASt := ⟨[(22, .one (.val .bool v_22)), (4, .one (.val (.int .i64) i)), (3, .one (.own 3)), (0, .one (.val (.sl (.int .i64)) l))], [(3, some ⟨.free, .int .i64, out⟩)]⟩
noncomputable def L0 (l : List Int) (out : List Int) (i : Int) : R := lim E fin (.loop c1 K5) (tL0 l out i)
noncomputable def J1 (l : List Int) (out : List Int) (i : Int) (v_22 : Bool) : R := lim E fin (.code c3 K10) (tJ1 l out i v_22)
noncomputable def SL0 (l : List Int) (out : List Int) (i : Int) : R :=
  cond (decide (i < (l.length : Int)))
    (Option.bind (idx l i) fun x1 =>
    cond (decide (x1 ≥ 1))
      (Option.bind (idx l i) fun x2 =>
      J1 l out i (decide (x2 ≤ 109572)))
      (J1 l out i false))
    (some (out, ()))
noncomputable def SJ1 (l : List Int) (out : List Int) (i : Int) (v_22 : Bool) : R :=
  cond v_22
    (Option.bind (idx l i) fun x1 =>
    cond (decide ((out.length + 1) * 8 ≤ room) && decide (0 < Ty.nc (.int .i64)))
      (L0 l (out ++ [x1]) (IntKind.i64.wrap (i + 1)))
      none)
    (L0 l out (IntKind.i64.wrap (i + 1)))
noncomputable def Se (l : List Int) : R :=
  L0 l [] 0
theorem L0_eq (l out i) : L0 l out i = SL0 l out i := (lim_eq (.loop c1 K5) (tL0 l out i)).trans (by kernel_rfl)
theorem J1_eq (l out i v_22) : J1 l out i v_22 = SJ1 l out i v_22 := (lim_eq (.code c3 K10) (tJ1 l out i v_22)).trans (by kernel_rfl)
theorem se (x : (argTy ps).den) : run E (lim E fin) fin depth (bodyOf Try.f39) .ret (entryFrom 0 ps x) = Se x.1 := by kernel_rfl
end ref12_Within
noncomputable def ref12_Within (l : List Int) : ref12_Within.R :=
  ref12_Within.Se l
namespace ref12_Within
noncomputable def sig : Sig := ⟨ps, rs, fun x => ref12_Within x.1⟩
theorem val (x : (argTy ps).den) : lim E fin (.code (bodyOf Try.f39) .ret) (entryFrom 0 ps x) = sig.run x := (lim_eq (.code (bodyOf Try.f39) .ret) (entryFrom 0 ps x)).trans (se x)
theorem ok : CallOK Try.prog 39 sig :=
  callOK_of_lim (E := E) mixed tt_ok ctxOk_nil Try.func39 (by kernel_rfl : Try.f39.body = some (bodyOf Try.f39)) Try.ntmps39 (of_decide_eq_true (by kernel_rfl)) (of_decide_eq_true (by kernel_rfl)) fun x y h => (val x).trans h
noncomputable def ctxc (n : Nat) : List (Nat × Sig) := []
noncomputable def sigc (n : Nat) : Sig := ⟨ps, rs, fun x => runs (withCtx E (ctxc n)) fin n (.code (bodyOf Try.f39) .ret) (entryFrom 0 ps x)⟩
theorem sigc_le (n : Nat) : ∀ x y, (sigc n).run x = some y → sig.run x = some y := fun x y h => (val x).symm.trans (runs_lim (E := E) (c := ctxc n) ctxLe_nil h)
end ref12_Within
namespace ref15_ChangeDates
abbrev ps : List PM := [.pure api_Law]
abbrev rs : List RM := [.own (.int .i64)]
abbrev R : Type := Option (List Int × Unit)
noncomputable def E : Env := { tt := tt, ctx := [(40, ref05_Boundaries.sig), (39, ref12_Within.sig)], nt := 73, ann := [(1000003, [(1, .keep), (3, .own api_DateRange), (4, .keep)]), (1000006, [(1, .keep), (3, .own api_DateRange), (4, .keep), (5, .keep)]), (1000010, [(1, .keep), (3, .own api_DateRange), (6, .keep)]), (1000013, [(1, .keep), (3, .own api_DateRange), (6, .keep), (7, .keep)])] }
noncomputable def c0 : Code := sub [1, 1, 1] (bodyOf Try.f20)
noncomputable def c1 : Code := sub [1, 1, 0, 1, 0, 0] (bodyOf Try.f20)
noncomputable def c2 : Code := sub [1, 1, 0, 1, 0, 0, 1, 1] (bodyOf Try.f20)
noncomputable def c3 : Code := sub [1, 1, 1, 1] (bodyOf Try.f20)
noncomputable def c4 : Code := sub [1, 1, 1, 0, 1, 0, 0] (bodyOf Try.f20)
noncomputable def c5 : Code := sub [1, 1, 1, 0, 1, 0, 0, 1, 1] (bodyOf Try.f20)
noncomputable def c6 : Code := sub [1, 1, 0, 1, 0, 0, 1, 0, 0, 1, 0, 0] (bodyOf Try.f20)
noncomputable def c7 : Code := sub [1, 1, 1, 0, 1, 0, 0, 1, 0, 0, 1, 0, 0] (bodyOf Try.f20)
noncomputable def K3 : Kont := .seq c0 .ret
noncomputable def K5 : Kont := .blk 0 K3
noncomputable def K6 : Kont := .loop c1 K5
noncomputable def K9 : Kont := .seq c2 K6
noncomputable def K10 : Kont := .blk 1 K9
noncomputable def K12 : Kont := .blk 2 K10
noncomputable def K14 : Kont := .seq c3 .ret
noncomputable def K16 : Kont := .blk 4 K14
noncomputable def K17 : Kont := .loop c4 K16
noncomputable def K24 : Kont := .seq c5 K17
noncomputable def K25 : Kont := .blk 5 K24
noncomputable def K27 : Kont := .blk 6 K25
noncomputable def fin : ASt → R := Kret E Try.f20.results.toList ps rs
def tL0 (l : api_LawV) (ranges : List api_DateRangeV) (i : Int) : ASt := ⟨[(4, .one (.val (.int .i64) i)), (3, .one (.own 3)), (1, .one (.optr 1 0 []))], [(3, some ⟨.free, api_DateRange, ranges⟩), (1, some ⟨.free, api_Law, [l]⟩)]⟩
def tL1 (l : api_LawV) (ranges : List api_DateRangeV) (i : Int) (k : Int) : ASt := ⟨[(5, .one (.val (.int .i64) k)), (4, .one (.val (.int .i64) i)), (3, .one (.own 3)), (1, .one (.optr 1 0 []))], [(3, some ⟨.free, api_DateRange, ranges⟩), (1, some ⟨.free, api_Law, [l]⟩)]⟩
def tL2 (l : api_LawV) (ranges : List api_DateRangeV) (i : Int) : ASt := ⟨[(6, .one (.val (.int .i64) i)), (3, .one (.own 3)), (1, .one (.optr 1 0 []))], [(3, some ⟨.free, api_DateRange, ranges⟩), (1, some ⟨.free, api_Law, [l]⟩)]⟩
def tL3 (l : api_LawV) (ranges : List api_DateRangeV) (i : Int) (k : Int) : ASt := ⟨[(7, .one (.val (.int .i64) k)), (6, .one (.val (.int .i64) i)), (3, .one (.own 3)), (1, .one (.optr 1 0 []))], [(3, some ⟨.free, api_DateRange, ranges⟩), (1, some ⟨.free, api_Law, [l]⟩)]⟩
noncomputable def L0 (l : api_LawV) (ranges : List api_DateRangeV) (i : Int) : R := lim E fin (.loop c1 K5) (tL0 l ranges i)
noncomputable def L1 (l : api_LawV) (ranges : List api_DateRangeV) (i : Int) (k : Int) : R := lim E fin (.loop c6 K12) (tL1 l ranges i k)
noncomputable def L2 (l : api_LawV) (ranges : List api_DateRangeV) (i : Int) : R := lim E fin (.loop c4 K16) (tL2 l ranges i)
noncomputable def L3 (l : api_LawV) (ranges : List api_DateRangeV) (i : Int) (k : Int) : R := lim E fin (.loop c7 K27) (tL3 l ranges i k)
noncomputable def SL0 (l : api_LawV) (ranges : List api_DateRangeV) (i : Int) : R :=
  cond (decide (i < (l.2.1.length : Int)))
    (L1 l ranges i 0)
    (L2 l ranges 0)
noncomputable def SL1 (l : api_LawV) (ranges : List api_DateRangeV) (i : Int) (k : Int) : R :=
  Option.bind (idx l.2.1 i) fun x1 =>
  cond (decide (k < (x1.2.2.2.1.length : Int)))
    (Option.bind (idx l.2.1 i) fun x2 =>
    Option.bind (idx x2.2.2.2.1 k) fun x3 =>
    cond (decide ((ranges.length + 1) * 16 ≤ room) && decide (0 < Ty.nc (.pair (.int .i64) (.pair (.int .i64) .unit))))
      (L1 l (ranges ++ [x3.1]) i (IntKind.i64.wrap (k + 1)))
      none)
    (L0 l ranges (IntKind.i64.wrap (i + 1)))
noncomputable def SL2 (l : api_LawV) (ranges : List api_DateRangeV) (i : Int) : R :=
  cond (decide (i < (l.2.2.1.length : Int)))
    (L3 l ranges i 0)
    (Option.bind (ref05_Boundaries ranges) fun x1 =>
    Option.bind (ref12_Within x1.1) fun x2 =>
    some (x2.1, ()))
noncomputable def SL3 (l : api_LawV) (ranges : List api_DateRangeV) (i : Int) (k : Int) : R :=
  Option.bind (idx l.2.2.1 i) fun x1 =>
  cond (decide (k < (x1.2.2.2.2.1.length : Int)))
    (Option.bind (idx l.2.2.1 i) fun x2 =>
    Option.bind (idx x2.2.2.2.2.1 k) fun x3 =>
    cond (decide ((ranges.length + 1) * 16 ≤ room) && decide (0 < Ty.nc (.pair (.int .i64) (.pair (.int .i64) .unit))))
      (L3 l (ranges ++ [x3.2.2.2.2.1]) i (IntKind.i64.wrap (k + 1)))
      none)
    (L2 l ranges (IntKind.i64.wrap (i + 1)))
noncomputable def Se (l : api_LawV) : R :=
  L0 l [] 0
theorem L0_eq (l ranges i) : L0 l ranges i = SL0 l ranges i := (lim_eq (.loop c1 K5) (tL0 l ranges i)).trans (by kernel_rfl)
theorem L1_eq (l ranges i k) : L1 l ranges i k = SL1 l ranges i k := (lim_eq (.loop c6 K12) (tL1 l ranges i k)).trans (by kernel_rfl)
theorem L2_eq (l ranges i) : L2 l ranges i = SL2 l ranges i := (lim_eq (.loop c4 K16) (tL2 l ranges i)).trans (by kernel_rfl)
theorem L3_eq (l ranges i k) : L3 l ranges i k = SL3 l ranges i k := (lim_eq (.loop c7 K27) (tL3 l ranges i k)).trans (by kernel_rfl)
theorem se (x : (argTy ps).den) : run E (lim E fin) fin depth (bodyOf Try.f20) .ret (entryFrom 0 ps x) = Se x.1 := by kernel_rfl
end ref15_ChangeDates
noncomputable def ref15_ChangeDates (l : api_LawV) : ref15_ChangeDates.R :=
  ref15_ChangeDates.Se l
namespace ref15_ChangeDates
noncomputable def sig : Sig := ⟨ps, rs, fun x => ref15_ChangeDates x.1⟩
theorem val (x : (argTy ps).den) : lim E fin (.code (bodyOf Try.f20) .ret) (entryFrom 0 ps x) = sig.run x := (lim_eq (.code (bodyOf Try.f20) .ret) (entryFrom 0 ps x)).trans (se x)
theorem ok : CallOK Try.prog 20 sig :=
  callOK_of_lim (E := E) mixed tt_ok (ctxOk_cons (ctxOk_cons ctxOk_nil ref12_Within.ok Try.func39 (by kernel_rfl) (by kernel_rfl)) ref05_Boundaries.ok Try.func40 (by kernel_rfl) (by kernel_rfl)) Try.func20 (by kernel_rfl : Try.f20.body = some (bodyOf Try.f20)) Try.ntmps20 (of_decide_eq_true (by kernel_rfl)) (of_decide_eq_true (by kernel_rfl)) fun x y h => (val x).trans h
noncomputable def ctxc (n : Nat) : List (Nat × Sig) := [(40, ref05_Boundaries.sigc n), (39, ref12_Within.sigc n)]
noncomputable def sigc (n : Nat) : Sig := ⟨ps, rs, fun x => runs (withCtx E (ctxc n)) fin n (.code (bodyOf Try.f20) .ret) (entryFrom 0 ps x)⟩
theorem sigc_le (n : Nat) : ∀ x y, (sigc n).run x = some y → sig.run x = some y := fun x y h => (val x).symm.trans (runs_lim (E := E) (c := ctxc n) (ctxLe_cons (ctxLe_cons ctxLe_nil (ref12_Within.sigc_le n)) (ref05_Boundaries.sigc_le n)) h)
end ref15_ChangeDates
namespace law15_EffectiveIdempotent
abbrev ps : List PM := [.pure api_Law, .pure (.int .i64), .pure (.int .i64)]
abbrev rs : List RM := [.pure .bool]
abbrev R : Type := Option (Bool × Unit)
noncomputable def E : Env := { tt := tt, ctx := [(15, same_SmallLaw.sig), (10, law15_awake.sig), (17, effective_LawOn.sig), (19, effective_ChangeDates.sig), (16, same_Law.sig)], nt := 37, ann := [(3, [(1, .keep), (2, .keep), (3, .keep)])] }
noncomputable def c0 : Code := sub [1, 1] (bodyOf Try.f6)
noncomputable def fin : ASt → R := Kret E Try.f6.results.toList ps rs
def tJ0 (a : Int) (b : Int) (l : api_LawV) : ASt := ⟨[(3, .one (.optr 3 0 [])), (2, .one (.val (.int .i64) b)), (1, .one (.val (.int .i64) a))], [(3, some ⟨.free, api_Law, [l]⟩)]⟩
noncomputable def J0 (a : Int) (b : Int) (l : api_LawV) : R := lim E fin (.code c0 .ret) (tJ0 a b l)
noncomputable def SJ0 (a : Int) (b : Int) (l : api_LawV) : R :=
  Option.bind (effective_LawOn l a) fun x1 =>
  Option.bind (effective_ChangeDates x1.1) fun x2 =>
  cond ((x2.1.length : Int) == 0)
    (Option.bind (effective_LawOn x1.1 b) fun x3 =>
    Option.bind (same_Law x3.1 x1.1) fun x4 =>
    cond x4.1
      (Option.bind law15_awake fun x5 =>
      some (x5.1, ()))
      (some (false, ())))
    (some (false, ()))
noncomputable def Se (l : api_LawV) (a : Int) (b : Int) : R :=
  Option.bind (same_SmallLaw l) fun x1 =>
  cond (!x1.1)
    (Option.bind law15_awake fun x2 =>
    some (x2.1, ()))
    (cond (decide (b < 0))
      (Option.bind law15_awake fun x3 =>
      some (x3.1, ()))
      (cond (decide (b > 109572))
        (Option.bind law15_awake fun x4 =>
        some (x4.1, ()))
        (J0 a b l)))
theorem J0_eq (a b l) : J0 a b l = SJ0 a b l := (lim_eq (.code c0 .ret) (tJ0 a b l)).trans (by kernel_rfl)
theorem se (x : (argTy ps).den) : run E (lim E fin) fin depth (bodyOf Try.f6) .ret (entryFrom 0 ps x) = Se x.1 x.2.1 x.2.2.1 := by kernel_rfl
end law15_EffectiveIdempotent
noncomputable def law15_EffectiveIdempotent (l : api_LawV) (a : Int) (b : Int) : law15_EffectiveIdempotent.R :=
  law15_EffectiveIdempotent.Se l a b
namespace law15_EffectiveIdempotent
noncomputable def sig : Sig := ⟨ps, rs, fun x => law15_EffectiveIdempotent x.1 x.2.1 x.2.2.1⟩
theorem val (x : (argTy ps).den) : lim E fin (.code (bodyOf Try.f6) .ret) (entryFrom 0 ps x) = sig.run x := (lim_eq (.code (bodyOf Try.f6) .ret) (entryFrom 0 ps x)).trans (se x)
theorem ok : CallOK Try.prog 6 sig :=
  callOK_of_lim (E := E) mixed tt_ok (ctxOk_cons (ctxOk_cons (ctxOk_cons (ctxOk_cons (ctxOk_cons ctxOk_nil same_Law.ok Try.func16 (by kernel_rfl) (by kernel_rfl)) effective_ChangeDates.ok Try.func19 (by kernel_rfl) (by kernel_rfl)) effective_LawOn.ok Try.func17 (by kernel_rfl) (by kernel_rfl)) law15_awake.ok Try.func10 (by kernel_rfl) (by kernel_rfl)) same_SmallLaw.ok Try.func15 (by kernel_rfl) (by kernel_rfl)) Try.func6 (by kernel_rfl : Try.f6.body = some (bodyOf Try.f6)) Try.ntmps6 (of_decide_eq_true (by kernel_rfl)) (of_decide_eq_true (by kernel_rfl)) fun x y h => (val x).trans h
noncomputable def ctxc (n : Nat) : List (Nat × Sig) := [(15, same_SmallLaw.sigc n), (10, law15_awake.sigc n), (17, effective_LawOn.sigc n), (19, effective_ChangeDates.sigc n), (16, same_Law.sigc n)]
noncomputable def sigc (n : Nat) : Sig := ⟨ps, rs, fun x => runs (withCtx E (ctxc n)) fin n (.code (bodyOf Try.f6) .ret) (entryFrom 0 ps x)⟩
theorem sigc_le (n : Nat) : ∀ x y, (sigc n).run x = some y → sig.run x = some y := fun x y h => (val x).symm.trans (runs_lim (E := E) (c := ctxc n) (ctxLe_cons (ctxLe_cons (ctxLe_cons (ctxLe_cons (ctxLe_cons ctxLe_nil (same_Law.sigc_le n)) (effective_ChangeDates.sigc_le n)) (effective_LawOn.sigc_le n)) (law15_awake.sigc_le n)) (same_SmallLaw.sigc_le n)) h)
end law15_EffectiveIdempotent
end Go.Proofs.Ytojafdgkcamliaa
