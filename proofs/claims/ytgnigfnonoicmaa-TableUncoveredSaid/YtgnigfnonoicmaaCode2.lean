import Derived.Test.YtgnigfnonoicmaaCode1
set_option maxRecDepth 100000
set_option linter.unusedVariables false
namespace Go.Proofs.Ytgnigfnonoicmaa
open Go Go.Lift
namespace cmp_Compare_int
abbrev ps : List PM := [.pure (.int .i64), .pure (.int .i64)]
abbrev rs : List RM := [.pure (.int .i64)]
abbrev R : Type := Option (Int × Unit)
noncomputable def E : Env := { tt := tt, ctx := [(70, cmp_isNaN_int.sig)], nt := 20, ann := [] }
noncomputable def fin : ASt → R := Kret E Try.f42.results.toList ps rs
noncomputable def Se (x_0 : Int) (y : Int) : R :=
  Option.bind (cmp_isNaN_int x_0) fun x1 =>
  Option.bind (cmp_isNaN_int y) fun x2 =>
  cond x1.1
    (cond x2.1
      (some (0, ()))
      (some ((-1), ())))
    (cond x2.1
      (some (1, ()))
      (cond (decide (x_0 < y))
        (some ((-1), ()))
        (cond (decide (x_0 > y))
          (some (1, ()))
          (some (0, ())))))
theorem se (jmp : Tgt → ASt → R) (x : (argTy ps).den) : run E jmp fin depth (bodyOf Try.f42) .ret (entryFrom 0 ps x) =
    Se x.1 x.2.1 := by kernel_rfl
end cmp_Compare_int
noncomputable def cmp_Compare_int (x_0 : Int) (y : Int) : cmp_Compare_int.R :=
  cmp_Compare_int.Se x_0 y
noncomputable def cmp_Compare_int.sig : Sig := ⟨cmp_Compare_int.ps, cmp_Compare_int.rs, fun x => cmp_Compare_int x.1 x.2.1⟩
theorem cmp_Compare_int.ok : CallOK Try.prog 42 cmp_Compare_int.sig :=
  callOK_of_lim (E := cmp_Compare_int.E) mixed tt_ok (ctxOk_cons ctxOk_nil cmp_isNaN_int.ok Try.func70 (by kernel_rfl) (by kernel_rfl)) Try.func42 (by kernel_rfl : Try.f42.body = some (bodyOf Try.f42)) Try.ntmps42 (of_decide_eq_true (by kernel_rfl)) (of_decide_eq_true (by kernel_rfl))
    fun x y h => ((lim_eq (.code (bodyOf Try.f42) .ret) (entryFrom 0 cmp_Compare_int.ps x)).trans (cmp_Compare_int.se (lim cmp_Compare_int.E cmp_Compare_int.fin) x)).trans h
theorem cmp_Compare_int.val (x : (argTy cmp_Compare_int.ps).den) : lim cmp_Compare_int.E cmp_Compare_int.fin (.code (bodyOf Try.f42) .ret) (entryFrom 0 cmp_Compare_int.ps x) = cmp_Compare_int.sig.run x :=
  (lim_eq (.code (bodyOf Try.f42) .ret) (entryFrom 0 cmp_Compare_int.ps x)).trans (cmp_Compare_int.se (lim cmp_Compare_int.E cmp_Compare_int.fin) x)
noncomputable def cmp_Compare_int.ctxc (n : Nat) : List (Nat × Sig) := [(70, cmp_isNaN_int.sigc n)]
noncomputable def cmp_Compare_int.sigc (n : Nat) : Sig := ⟨cmp_Compare_int.ps, cmp_Compare_int.rs, fun x => runs (withCtx cmp_Compare_int.E (cmp_Compare_int.ctxc n)) cmp_Compare_int.fin n (.code (bodyOf Try.f42) .ret) (entryFrom 0 cmp_Compare_int.ps x)⟩
theorem cmp_Compare_int.sigc_le (n : Nat) : ∀ x y, (cmp_Compare_int.sigc n).run x = some y → cmp_Compare_int.sig.run x = some y :=
  fun x y h => (cmp_Compare_int.val x).symm.trans (runs_lim (E := cmp_Compare_int.E) (c := cmp_Compare_int.ctxc n) (ctxLe_cons ctxLe_nil (cmp_isNaN_int.sigc_le n)) h)
namespace table_UncoveredKeys_1
abbrev ps : List PM := [.pure api_Row, .pure api_Row]
abbrev rs : List RM := [.pure (.int .i64)]
abbrev R : Type := Option (Int × Unit)
noncomputable def E : Env := { tt := tt, ctx := [(42, cmp_Compare_int.sig)], nt := 10, ann := [] }
noncomputable def fin : ASt → R := Kret E Try.f41.results.toList ps rs
noncomputable def Se (a : api_RowV) (b : api_RowV) : R :=
  Option.bind (cmp_Compare_int a.2.1 b.2.1) fun x1 =>
  some (x1.1, ())
theorem se (jmp : Tgt → ASt → R) (x : (argTy ps).den) : run E jmp fin depth (bodyOf Try.f41) .ret (entryFrom 0 ps x) =
    Se x.1 x.2.1 := by kernel_rfl
end table_UncoveredKeys_1
noncomputable def table_UncoveredKeys_1 (a : api_RowV) (b : api_RowV) : table_UncoveredKeys_1.R :=
  table_UncoveredKeys_1.Se a b
noncomputable def table_UncoveredKeys_1.sig : Sig := ⟨table_UncoveredKeys_1.ps, table_UncoveredKeys_1.rs, fun x => table_UncoveredKeys_1 x.1 x.2.1⟩
theorem table_UncoveredKeys_1.ok : CallOK Try.prog 41 table_UncoveredKeys_1.sig :=
  callOK_of_lim (E := table_UncoveredKeys_1.E) mixed tt_ok (ctxOk_cons ctxOk_nil cmp_Compare_int.ok Try.func42 (by kernel_rfl) (by kernel_rfl)) Try.func41 (by kernel_rfl : Try.f41.body = some (bodyOf Try.f41)) Try.ntmps41 (of_decide_eq_true (by kernel_rfl)) (of_decide_eq_true (by kernel_rfl))
    fun x y h => ((lim_eq (.code (bodyOf Try.f41) .ret) (entryFrom 0 table_UncoveredKeys_1.ps x)).trans (table_UncoveredKeys_1.se (lim table_UncoveredKeys_1.E table_UncoveredKeys_1.fin) x)).trans h
theorem table_UncoveredKeys_1.val (x : (argTy table_UncoveredKeys_1.ps).den) : lim table_UncoveredKeys_1.E table_UncoveredKeys_1.fin (.code (bodyOf Try.f41) .ret) (entryFrom 0 table_UncoveredKeys_1.ps x) = table_UncoveredKeys_1.sig.run x :=
  (lim_eq (.code (bodyOf Try.f41) .ret) (entryFrom 0 table_UncoveredKeys_1.ps x)).trans (table_UncoveredKeys_1.se (lim table_UncoveredKeys_1.E table_UncoveredKeys_1.fin) x)
noncomputable def table_UncoveredKeys_1.ctxc (n : Nat) : List (Nat × Sig) := [(42, cmp_Compare_int.sigc n)]
noncomputable def table_UncoveredKeys_1.sigc (n : Nat) : Sig := ⟨table_UncoveredKeys_1.ps, table_UncoveredKeys_1.rs, fun x => runs (withCtx table_UncoveredKeys_1.E (table_UncoveredKeys_1.ctxc n)) table_UncoveredKeys_1.fin n (.code (bodyOf Try.f41) .ret) (entryFrom 0 table_UncoveredKeys_1.ps x)⟩
theorem table_UncoveredKeys_1.sigc_le (n : Nat) : ∀ x y, (table_UncoveredKeys_1.sigc n).run x = some y → table_UncoveredKeys_1.sig.run x = some y :=
  fun x y h => (table_UncoveredKeys_1.val x).symm.trans (runs_lim (E := table_UncoveredKeys_1.E) (c := table_UncoveredKeys_1.ctxc n) (ctxLe_cons ctxLe_nil (cmp_Compare_int.sigc_le n)) h)
namespace slices_insertionSortCmpFunc_api_Row_table_UncoveredKeys_1
abbrev ps : List PM := [.own api_Row, .pure (.int .i64), .pure (.int .i64), .fn 41]
abbrev rs : List RM := []
abbrev R : Type := Option (List api_RowV × Unit)
noncomputable def E : Env := { tt := tt, ctx := [(41, table_UncoveredKeys_1.sig)], nt := 53, ann := [(1000001, [(0, .keep), (1, .keep), (2, .keep), (3, .keep), (8, .keep)]), (1000004, [(0, .keep), (1, .keep), (2, .keep), (3, .keep), (8, .keep), (9, .keep)]), (6, [(0, .keep), (1, .keep), (2, .keep), (3, .keep), (8, .keep), (9, .keep)])] }
noncomputable def c0 : Code := sub [1, 0, 0] (bodyOf Try.f81)
noncomputable def c1 : Code := sub [1, 0, 0, 1, 1] (bodyOf Try.f81)
noncomputable def c2 : Code := sub [1, 0, 0, 1, 0, 0, 1, 0, 0] (bodyOf Try.f81)
noncomputable def c3 : Code := sub [1, 0, 0, 1, 0, 0, 1, 0, 0, 1] (bodyOf Try.f81)
noncomputable def K2 : Kont := .blk 0 .ret
noncomputable def K3 : Kont := .loop c0 K2
noncomputable def K6 : Kont := .seq c1 K3
noncomputable def K7 : Kont := .blk 1 K6
noncomputable def K9 : Kont := .blk 2 K7
noncomputable def K10 : Kont := .loop c2 K9
noncomputable def fin : ASt → R := Kret E Try.f81.results.toList ps rs
def tL0 (a : Int) (b : Int) (i : Int) (data_P : List api_RowV) : ASt := ⟨[(8, .one (.val (.int .i64) i)), (3, .one (.fn 41 [])), (2, .one (.val (.int .i64) b)), (1, .one (.val (.int .i64) a)), (0, .one (.own 10000))], [(10000, some ⟨.fixed, api_Row, data_P⟩)]⟩
def tL1 (a : Int) (b : Int) (i : Int) (j : Int) (data_P : List api_RowV) : ASt := ⟨[(9, .one (.val (.int .i64) j)), (8, .one (.val (.int .i64) i)), (3, .one (.fn 41 [])), (2, .one (.val (.int .i64) b)), (1, .one (.val (.int .i64) a)), (0, .one (.own 10000))], [(10000, some ⟨.fixed, api_Row, data_P⟩)]⟩
def tJ2 (a : Int) (b : Int) (i : Int) (j : Int) (data_P : List api_RowV) : ASt := ⟨[(9, .one (.val (.int .i64) j)), (8, .one (.val (.int .i64) i)), (3, .one (.fn 41 [])), (2, .one (.val (.int .i64) b)), (1, .one (.val (.int .i64) a)), (0, .one (.own 10000))], [(10000, some ⟨.fixed, api_Row, data_P⟩)]⟩
noncomputable def SL0 (kL1 : Int → Int → Int → Int → (List api_RowV) → R) (a : Int) (b : Int) (i : Int) (data_P : List api_RowV) : R :=
  cond (decide (i < b))
    (kL1 a b i i data_P)
    (some (data_P, ()))
noncomputable def SL1 (kJ2 : Int → Int → Int → Int → (List api_RowV) → R) (kL0 : Int → Int → Int → (List api_RowV) → R) (a : Int) (b : Int) (i : Int) (j : Int) (data_P : List api_RowV) : R :=
  cond (decide (j > a))
    (cond (decide (0 ≤ j) && decide (j < (data_P.length : Int)))
      (cond (decide (0 ≤ IntKind.i64.wrap (j - 1)) && decide (IntKind.i64.wrap (j - 1) < (data_P.length : Int)))
        (Option.bind (table_UncoveredKeys_1 (data_P.getD j.toNat ((0, 0, ()), 0, 0, 0, ())) (data_P.getD ((IntKind.i64.wrap (j - 1)).toNat) ((0, 0, ()), 0, 0, 0, ()))) fun x1 =>
        cond (decide (x1.1 < 0))
          (kJ2 a b i j data_P)
          (kL0 a b (IntKind.i64.wrap (i + 1)) data_P))
        none)
      none)
    (kL0 a b (IntKind.i64.wrap (i + 1)) data_P)
noncomputable def SJ2 (kL1 : Int → Int → Int → Int → (List api_RowV) → R) (a : Int) (b : Int) (i : Int) (j : Int) (data_P : List api_RowV) : R :=
  cond (decide (0 ≤ IntKind.i64.wrap (j - 1)) && decide (IntKind.i64.wrap (j - 1) < (data_P.length : Int)))
    (cond (decide (0 ≤ j) && decide (j < (data_P.length : Int)))
      (cond (decide (0 ≤ j) && decide (j < (data_P.length : Int)))
        (cond (decide (0 ≤ IntKind.i64.wrap (j - 1)) && decide (IntKind.i64.wrap (j - 1) < ((data_P.set j.toNat (data_P.getD ((IntKind.i64.wrap (j - 1)).toNat) ((0, 0, ()), 0, 0, 0, ()))).length : Int)))
          (kL1 a b i (IntKind.i64.wrap (j - 1)) ((data_P.set j.toNat (data_P.getD ((IntKind.i64.wrap (j - 1)).toNat) ((0, 0, ()), 0, 0, 0, ()))).set ((IntKind.i64.wrap (j - 1)).toNat) (data_P.getD j.toNat ((0, 0, ()), 0, 0, 0, ()))))
          none)
        none)
      none)
    none
noncomputable def Se (kL0 : Int → Int → Int → (List api_RowV) → R) (data : List api_RowV) (a : Int) (b : Int) : R :=
  kL0 a b (IntKind.i64.wrap (a + 1)) data
theorem sL0 (jmp : Tgt → ASt → R) (a : Int) (b : Int) (i : Int) (data_P : List api_RowV) : run E jmp fin depth c0 (.loop c0 K2) (tL0 a b i data_P) =
    SL0 (fun a b i j data_P => jmp (.loop c2 K9) (tL1 a b i j data_P)) a b i data_P := by kernel_rfl
theorem sL1 (jmp : Tgt → ASt → R) (a : Int) (b : Int) (i : Int) (j : Int) (data_P : List api_RowV) : run E jmp fin depth c2 (.loop c2 K9) (tL1 a b i j data_P) =
    SL1 (fun a b i j data_P => jmp (.code c3 K10) (tJ2 a b i j data_P)) (fun a b i data_P => jmp (.loop c0 K2) (tL0 a b i data_P)) a b i j data_P := by kernel_rfl
theorem sJ2 (jmp : Tgt → ASt → R) (a : Int) (b : Int) (i : Int) (j : Int) (data_P : List api_RowV) : run E jmp fin depth c3 K10 (tJ2 a b i j data_P) =
    SJ2 (fun a b i j data_P => jmp (.loop c2 K9) (tL1 a b i j data_P)) a b i j data_P := by kernel_rfl
theorem se (jmp : Tgt → ASt → R) (x : (argTy ps).den) : run E jmp fin depth (bodyOf Try.f81) .ret (entryFrom 0 ps x) =
    Se (fun a b i data_P => jmp (.loop c0 K2) (tL0 a b i data_P)) x.1 x.2.1 x.2.2.1 := by kernel_rfl
noncomputable def L0 (a : Int) (b : Int) (i : Int) (data_P : List api_RowV) : R := lim E fin (.loop c0 K2) (tL0 a b i data_P)
noncomputable def L1 (a : Int) (b : Int) (i : Int) (j : Int) (data_P : List api_RowV) : R := lim E fin (.loop c2 K9) (tL1 a b i j data_P)
noncomputable def J2 (a : Int) (b : Int) (i : Int) (j : Int) (data_P : List api_RowV) : R := lim E fin (.code c3 K10) (tJ2 a b i j data_P)
theorem L0_eq (a : Int) (b : Int) (i : Int) (data_P : List api_RowV) : L0 a b i data_P = SL0 L1 a b i data_P :=
  (lim_eq (.loop c0 K2) (tL0 a b i data_P)).trans (sL0 (lim E fin) a b i data_P)
theorem L1_eq (a : Int) (b : Int) (i : Int) (j : Int) (data_P : List api_RowV) : L1 a b i j data_P = SL1 J2 L0 a b i j data_P :=
  (lim_eq (.loop c2 K9) (tL1 a b i j data_P)).trans (sL1 (lim E fin) a b i j data_P)
theorem J2_eq (a : Int) (b : Int) (i : Int) (j : Int) (data_P : List api_RowV) : J2 a b i j data_P = SJ2 L1 a b i j data_P :=
  (lim_eq (.code c3 K10) (tJ2 a b i j data_P)).trans (sJ2 (lim E fin) a b i j data_P)
end slices_insertionSortCmpFunc_api_Row_table_UncoveredKeys_1
noncomputable def slices_insertionSortCmpFunc_api_Row_table_UncoveredKeys_1 (data : List api_RowV) (a : Int) (b : Int) : slices_insertionSortCmpFunc_api_Row_table_UncoveredKeys_1.R :=
  slices_insertionSortCmpFunc_api_Row_table_UncoveredKeys_1.Se slices_insertionSortCmpFunc_api_Row_table_UncoveredKeys_1.L0 data a b
noncomputable def slices_insertionSortCmpFunc_api_Row_table_UncoveredKeys_1.sig : Sig := ⟨slices_insertionSortCmpFunc_api_Row_table_UncoveredKeys_1.ps, slices_insertionSortCmpFunc_api_Row_table_UncoveredKeys_1.rs, fun x => slices_insertionSortCmpFunc_api_Row_table_UncoveredKeys_1 x.1 x.2.1 x.2.2.1⟩
theorem slices_insertionSortCmpFunc_api_Row_table_UncoveredKeys_1.ok : CallOK Try.prog 81 slices_insertionSortCmpFunc_api_Row_table_UncoveredKeys_1.sig :=
  callOK_of_lim (E := slices_insertionSortCmpFunc_api_Row_table_UncoveredKeys_1.E) mixed tt_ok (ctxOk_cons ctxOk_nil table_UncoveredKeys_1.ok Try.func41 (by kernel_rfl) (by kernel_rfl)) Try.func81 (by kernel_rfl : Try.f81.body = some (bodyOf Try.f81)) Try.ntmps81 (of_decide_eq_true (by kernel_rfl)) (of_decide_eq_true (by kernel_rfl))
    fun x y h => ((lim_eq (.code (bodyOf Try.f81) .ret) (entryFrom 0 slices_insertionSortCmpFunc_api_Row_table_UncoveredKeys_1.ps x)).trans (slices_insertionSortCmpFunc_api_Row_table_UncoveredKeys_1.se (lim slices_insertionSortCmpFunc_api_Row_table_UncoveredKeys_1.E slices_insertionSortCmpFunc_api_Row_table_UncoveredKeys_1.fin) x)).trans h
theorem slices_insertionSortCmpFunc_api_Row_table_UncoveredKeys_1.val (x : (argTy slices_insertionSortCmpFunc_api_Row_table_UncoveredKeys_1.ps).den) : lim slices_insertionSortCmpFunc_api_Row_table_UncoveredKeys_1.E slices_insertionSortCmpFunc_api_Row_table_UncoveredKeys_1.fin (.code (bodyOf Try.f81) .ret) (entryFrom 0 slices_insertionSortCmpFunc_api_Row_table_UncoveredKeys_1.ps x) = slices_insertionSortCmpFunc_api_Row_table_UncoveredKeys_1.sig.run x :=
  (lim_eq (.code (bodyOf Try.f81) .ret) (entryFrom 0 slices_insertionSortCmpFunc_api_Row_table_UncoveredKeys_1.ps x)).trans (slices_insertionSortCmpFunc_api_Row_table_UncoveredKeys_1.se (lim slices_insertionSortCmpFunc_api_Row_table_UncoveredKeys_1.E slices_insertionSortCmpFunc_api_Row_table_UncoveredKeys_1.fin) x)
noncomputable def slices_insertionSortCmpFunc_api_Row_table_UncoveredKeys_1.ctxc (n : Nat) : List (Nat × Sig) := [(41, table_UncoveredKeys_1.sigc n)]
noncomputable def slices_insertionSortCmpFunc_api_Row_table_UncoveredKeys_1.sigc (n : Nat) : Sig := ⟨slices_insertionSortCmpFunc_api_Row_table_UncoveredKeys_1.ps, slices_insertionSortCmpFunc_api_Row_table_UncoveredKeys_1.rs, fun x => runs (withCtx slices_insertionSortCmpFunc_api_Row_table_UncoveredKeys_1.E (slices_insertionSortCmpFunc_api_Row_table_UncoveredKeys_1.ctxc n)) slices_insertionSortCmpFunc_api_Row_table_UncoveredKeys_1.fin n (.code (bodyOf Try.f81) .ret) (entryFrom 0 slices_insertionSortCmpFunc_api_Row_table_UncoveredKeys_1.ps x)⟩
theorem slices_insertionSortCmpFunc_api_Row_table_UncoveredKeys_1.sigc_le (n : Nat) : ∀ x y, (slices_insertionSortCmpFunc_api_Row_table_UncoveredKeys_1.sigc n).run x = some y → slices_insertionSortCmpFunc_api_Row_table_UncoveredKeys_1.sig.run x = some y :=
  fun x y h => (slices_insertionSortCmpFunc_api_Row_table_UncoveredKeys_1.val x).symm.trans (runs_lim (E := slices_insertionSortCmpFunc_api_Row_table_UncoveredKeys_1.E) (c := slices_insertionSortCmpFunc_api_Row_table_UncoveredKeys_1.ctxc n) (ctxLe_cons ctxLe_nil (table_UncoveredKeys_1.sigc_le n)) h)
namespace slices_siftDownCmpFunc_api_Row_table_UncoveredKeys_1
abbrev ps : List PM := [.own api_Row, .pure (.int .i64), .pure (.int .i64), .pure (.int .i64), .fn 41]
abbrev rs : List RM := []
abbrev R : Type := Option (List api_RowV × Unit)
noncomputable def E : Env := { tt := tt, ctx := [(41, table_UncoveredKeys_1.sig)], nt := 82, ann := [(1000001, [(0, .keep), (2, .keep), (3, .keep), (4, .keep), (10, .keep)]), (5, [(0, .keep), (2, .keep), (3, .keep), (4, .keep), (10, .keep), (11, .keep)])] }
noncomputable def c0 : Code := sub [1, 0, 0] (bodyOf Try.f92)
noncomputable def c1 : Code := sub [1, 0, 0, 0, 1, 1, 1] (bodyOf Try.f92)
noncomputable def K2 : Kont := .blk 0 .ret
noncomputable def K3 : Kont := .loop c0 K2
noncomputable def K4 : Kont := .blk 1 K3
noncomputable def fin : ASt → R := Kret E Try.f92.results.toList ps rs
def tL0 (hi : Int) (first : Int) (root : Int) (data_P : List api_RowV) : ASt := ⟨[(10, .one (.val (.int .i64) root)), (4, .one (.fn 41 [])), (3, .one (.val (.int .i64) first)), (2, .one (.val (.int .i64) hi)), (0, .one (.own 10000))], [(10000, some ⟨.fixed, api_Row, data_P⟩)]⟩
def tJ1 (hi : Int) (first : Int) (root : Int) (child : Int) (data_P : List api_RowV) : ASt := ⟨[(11, .one (.val (.int .i64) child)), (10, .one (.val (.int .i64) root)), (4, .one (.fn 41 [])), (3, .one (.val (.int .i64) first)), (2, .one (.val (.int .i64) hi)), (0, .one (.own 10000))], [(10000, some ⟨.fixed, api_Row, data_P⟩)]⟩
noncomputable def SL0 (kJ1 : Int → Int → Int → Int → (List api_RowV) → R) (hi : Int) (first : Int) (root : Int) (data_P : List api_RowV) : R :=
  cond (decide ((IntKind.i64.wrap ((IntKind.i64.wrap (2 * root)) + 1)) ≥ hi))
    (some (data_P, ()))
    (cond (decide ((IntKind.i64.wrap ((IntKind.i64.wrap ((IntKind.i64.wrap (2 * root)) + 1)) + 1)) < hi))
      (cond (decide (0 ≤ IntKind.i64.wrap (first + (IntKind.i64.wrap ((IntKind.i64.wrap (2 * root)) + 1)))) && decide (IntKind.i64.wrap (first + (IntKind.i64.wrap ((IntKind.i64.wrap (2 * root)) + 1))) < (data_P.length : Int)))
        (cond (decide (0 ≤ IntKind.i64.wrap ((IntKind.i64.wrap (first + (IntKind.i64.wrap ((IntKind.i64.wrap (2 * root)) + 1)))) + 1)) && decide (IntKind.i64.wrap ((IntKind.i64.wrap (first + (IntKind.i64.wrap ((IntKind.i64.wrap (2 * root)) + 1)))) + 1) < (data_P.length : Int)))
          (Option.bind (table_UncoveredKeys_1 (data_P.getD ((IntKind.i64.wrap (first + (IntKind.i64.wrap ((IntKind.i64.wrap (2 * root)) + 1)))).toNat) ((0, 0, ()), 0, 0, 0, ())) (data_P.getD ((IntKind.i64.wrap ((IntKind.i64.wrap (first + (IntKind.i64.wrap ((IntKind.i64.wrap (2 * root)) + 1)))) + 1)).toNat) ((0, 0, ()), 0, 0, 0, ()))) fun x1 =>
          cond (decide (x1.1 < 0))
            (kJ1 hi first root (IntKind.i64.wrap ((IntKind.i64.wrap ((IntKind.i64.wrap (2 * root)) + 1)) + 1)) data_P)
            (kJ1 hi first root (IntKind.i64.wrap ((IntKind.i64.wrap (2 * root)) + 1)) data_P))
          none)
        none)
      (kJ1 hi first root (IntKind.i64.wrap ((IntKind.i64.wrap (2 * root)) + 1)) data_P))
noncomputable def SJ1 (kL0 : Int → Int → Int → (List api_RowV) → R) (hi : Int) (first : Int) (root : Int) (child : Int) (data_P : List api_RowV) : R :=
  cond (decide (0 ≤ IntKind.i64.wrap (first + root)) && decide (IntKind.i64.wrap (first + root) < (data_P.length : Int)))
    (cond (decide (0 ≤ IntKind.i64.wrap (first + child)) && decide (IntKind.i64.wrap (first + child) < (data_P.length : Int)))
      (Option.bind (table_UncoveredKeys_1 (data_P.getD ((IntKind.i64.wrap (first + root)).toNat) ((0, 0, ()), 0, 0, 0, ())) (data_P.getD ((IntKind.i64.wrap (first + child)).toNat) ((0, 0, ()), 0, 0, 0, ()))) fun x1 =>
      cond (!(decide (x1.1 < 0)))
        (some (data_P, ()))
        (cond (decide (0 ≤ IntKind.i64.wrap (first + child)) && decide (IntKind.i64.wrap (first + child) < (data_P.length : Int)))
          (cond (decide (0 ≤ IntKind.i64.wrap (first + root)) && decide (IntKind.i64.wrap (first + root) < (data_P.length : Int)))
            (cond (decide (0 ≤ IntKind.i64.wrap (first + root)) && decide (IntKind.i64.wrap (first + root) < (data_P.length : Int)))
              (cond (decide (0 ≤ IntKind.i64.wrap (first + child)) && decide (IntKind.i64.wrap (first + child) < ((data_P.set ((IntKind.i64.wrap (first + root)).toNat) (data_P.getD ((IntKind.i64.wrap (first + child)).toNat) ((0, 0, ()), 0, 0, 0, ()))).length : Int)))
                (kL0 hi first child ((data_P.set ((IntKind.i64.wrap (first + root)).toNat) (data_P.getD ((IntKind.i64.wrap (first + child)).toNat) ((0, 0, ()), 0, 0, 0, ()))).set ((IntKind.i64.wrap (first + child)).toNat) (data_P.getD ((IntKind.i64.wrap (first + root)).toNat) ((0, 0, ()), 0, 0, 0, ()))))
                none)
              none)
            none)
          none))
      none)
    none
noncomputable def Se (kL0 : Int → Int → Int → (List api_RowV) → R) (data : List api_RowV) (lo : Int) (hi : Int) (first : Int) : R :=
  kL0 hi first lo data
theorem sL0 (jmp : Tgt → ASt → R) (hi : Int) (first : Int) (root : Int) (data_P : List api_RowV) : run E jmp fin depth c0 (.loop c0 K2) (tL0 hi first root data_P) =
    SL0 (fun hi first root child data_P => jmp (.code c1 K4) (tJ1 hi first root child data_P)) hi first root data_P := by kernel_rfl
theorem sJ1 (jmp : Tgt → ASt → R) (hi : Int) (first : Int) (root : Int) (child : Int) (data_P : List api_RowV) : run E jmp fin depth c1 K4 (tJ1 hi first root child data_P) =
    SJ1 (fun hi first root data_P => jmp (.loop c0 K2) (tL0 hi first root data_P)) hi first root child data_P := by kernel_rfl
theorem se (jmp : Tgt → ASt → R) (x : (argTy ps).den) : run E jmp fin depth (bodyOf Try.f92) .ret (entryFrom 0 ps x) =
    Se (fun hi first root data_P => jmp (.loop c0 K2) (tL0 hi first root data_P)) x.1 x.2.1 x.2.2.1 x.2.2.2.1 := by kernel_rfl
noncomputable def L0 (hi : Int) (first : Int) (root : Int) (data_P : List api_RowV) : R := lim E fin (.loop c0 K2) (tL0 hi first root data_P)
noncomputable def J1 (hi : Int) (first : Int) (root : Int) (child : Int) (data_P : List api_RowV) : R := lim E fin (.code c1 K4) (tJ1 hi first root child data_P)
theorem L0_eq (hi : Int) (first : Int) (root : Int) (data_P : List api_RowV) : L0 hi first root data_P = SL0 J1 hi first root data_P :=
  (lim_eq (.loop c0 K2) (tL0 hi first root data_P)).trans (sL0 (lim E fin) hi first root data_P)
theorem J1_eq (hi : Int) (first : Int) (root : Int) (child : Int) (data_P : List api_RowV) : J1 hi first root child data_P = SJ1 L0 hi first root child data_P :=
  (lim_eq (.code c1 K4) (tJ1 hi first root child data_P)).trans (sJ1 (lim E fin) hi first root child data_P)
end slices_siftDownCmpFunc_api_Row_table_UncoveredKeys_1
noncomputable def slices_siftDownCmpFunc_api_Row_table_UncoveredKeys_1 (data : List api_RowV) (lo : Int) (hi : Int) (first : Int) : slices_siftDownCmpFunc_api_Row_table_UncoveredKeys_1.R :=
  slices_siftDownCmpFunc_api_Row_table_UncoveredKeys_1.Se slices_siftDownCmpFunc_api_Row_table_UncoveredKeys_1.L0 data lo hi first
noncomputable def slices_siftDownCmpFunc_api_Row_table_UncoveredKeys_1.sig : Sig := ⟨slices_siftDownCmpFunc_api_Row_table_UncoveredKeys_1.ps, slices_siftDownCmpFunc_api_Row_table_UncoveredKeys_1.rs, fun x => slices_siftDownCmpFunc_api_Row_table_UncoveredKeys_1 x.1 x.2.1 x.2.2.1 x.2.2.2.1⟩
theorem slices_siftDownCmpFunc_api_Row_table_UncoveredKeys_1.ok : CallOK Try.prog 92 slices_siftDownCmpFunc_api_Row_table_UncoveredKeys_1.sig :=
  callOK_of_lim (E := slices_siftDownCmpFunc_api_Row_table_UncoveredKeys_1.E) mixed tt_ok (ctxOk_cons ctxOk_nil table_UncoveredKeys_1.ok Try.func41 (by kernel_rfl) (by kernel_rfl)) Try.func92 (by kernel_rfl : Try.f92.body = some (bodyOf Try.f92)) Try.ntmps92 (of_decide_eq_true (by kernel_rfl)) (of_decide_eq_true (by kernel_rfl))
    fun x y h => ((lim_eq (.code (bodyOf Try.f92) .ret) (entryFrom 0 slices_siftDownCmpFunc_api_Row_table_UncoveredKeys_1.ps x)).trans (slices_siftDownCmpFunc_api_Row_table_UncoveredKeys_1.se (lim slices_siftDownCmpFunc_api_Row_table_UncoveredKeys_1.E slices_siftDownCmpFunc_api_Row_table_UncoveredKeys_1.fin) x)).trans h
theorem slices_siftDownCmpFunc_api_Row_table_UncoveredKeys_1.val (x : (argTy slices_siftDownCmpFunc_api_Row_table_UncoveredKeys_1.ps).den) : lim slices_siftDownCmpFunc_api_Row_table_UncoveredKeys_1.E slices_siftDownCmpFunc_api_Row_table_UncoveredKeys_1.fin (.code (bodyOf Try.f92) .ret) (entryFrom 0 slices_siftDownCmpFunc_api_Row_table_UncoveredKeys_1.ps x) = slices_siftDownCmpFunc_api_Row_table_UncoveredKeys_1.sig.run x :=
  (lim_eq (.code (bodyOf Try.f92) .ret) (entryFrom 0 slices_siftDownCmpFunc_api_Row_table_UncoveredKeys_1.ps x)).trans (slices_siftDownCmpFunc_api_Row_table_UncoveredKeys_1.se (lim slices_siftDownCmpFunc_api_Row_table_UncoveredKeys_1.E slices_siftDownCmpFunc_api_Row_table_UncoveredKeys_1.fin) x)
noncomputable def slices_siftDownCmpFunc_api_Row_table_UncoveredKeys_1.ctxc (n : Nat) : List (Nat × Sig) := [(41, table_UncoveredKeys_1.sigc n)]
noncomputable def slices_siftDownCmpFunc_api_Row_table_UncoveredKeys_1.sigc (n : Nat) : Sig := ⟨slices_siftDownCmpFunc_api_Row_table_UncoveredKeys_1.ps, slices_siftDownCmpFunc_api_Row_table_UncoveredKeys_1.rs, fun x => runs (withCtx slices_siftDownCmpFunc_api_Row_table_UncoveredKeys_1.E (slices_siftDownCmpFunc_api_Row_table_UncoveredKeys_1.ctxc n)) slices_siftDownCmpFunc_api_Row_table_UncoveredKeys_1.fin n (.code (bodyOf Try.f92) .ret) (entryFrom 0 slices_siftDownCmpFunc_api_Row_table_UncoveredKeys_1.ps x)⟩
theorem slices_siftDownCmpFunc_api_Row_table_UncoveredKeys_1.sigc_le (n : Nat) : ∀ x y, (slices_siftDownCmpFunc_api_Row_table_UncoveredKeys_1.sigc n).run x = some y → slices_siftDownCmpFunc_api_Row_table_UncoveredKeys_1.sig.run x = some y :=
  fun x y h => (slices_siftDownCmpFunc_api_Row_table_UncoveredKeys_1.val x).symm.trans (runs_lim (E := slices_siftDownCmpFunc_api_Row_table_UncoveredKeys_1.E) (c := slices_siftDownCmpFunc_api_Row_table_UncoveredKeys_1.ctxc n) (ctxLe_cons ctxLe_nil (table_UncoveredKeys_1.sigc_le n)) h)
namespace slices_heapSortCmpFunc_api_Row_table_UncoveredKeys_1
abbrev ps : List PM := [.own api_Row, .pure (.int .i64), .pure (.int .i64), .fn 41]
abbrev rs : List RM := []
abbrev R : Type := Option (List api_RowV × Unit)
noncomputable def E : Env := { tt := tt, ctx := [(92, slices_siftDownCmpFunc_api_Row_table_UncoveredKeys_1.sig)], nt := 60, ann := [(1000004, [(0, .keep), (3, .keep), (8, .keep), (9, .keep), (10, .keep), (11, .keep)]), (1000008, [(0, .keep), (3, .keep), (8, .keep), (9, .keep), (12, .keep)])] }
noncomputable def c0 : Code := sub [1, 1, 1, 1] (bodyOf Try.f82)
noncomputable def c1 : Code := sub [1, 1, 1, 0, 1, 0, 0] (bodyOf Try.f82)
noncomputable def c2 : Code := sub [1, 1, 1, 1, 1, 0, 0] (bodyOf Try.f82)
noncomputable def K4 : Kont := .seq c0 .ret
noncomputable def K6 : Kont := .blk 0 K4
noncomputable def K13 : Kont := .blk 2 .ret
noncomputable def fin : ASt → R := Kret E Try.f82.results.toList ps rs
def tL0 (first : Int) (lo : Int) (hi : Int) (i : Int) (data_P : List api_RowV) : ASt := ⟨[(11, .one (.val (.int .i64) i)), (10, .one (.val (.int .i64) hi)), (9, .one (.val (.int .i64) lo)), (8, .one (.val (.int .i64) first)), (3, .one (.fn 41 [])), (0, .one (.own 10000))], [(10000, some ⟨.fixed, api_Row, data_P⟩)]⟩
def tL1 (first : Int) (lo : Int) (i : Int) (data_P : List api_RowV) : ASt := ⟨[(12, .one (.val (.int .i64) i)), (9, .one (.val (.int .i64) lo)), (8, .one (.val (.int .i64) first)), (3, .one (.fn 41 [])), (0, .one (.own 10000))], [(10000, some ⟨.fixed, api_Row, data_P⟩)]⟩
noncomputable def SL0 (kL0 : Int → Int → Int → Int → (List api_RowV) → R) (kL1 : Int → Int → Int → (List api_RowV) → R) (first : Int) (lo : Int) (hi : Int) (i : Int) (data_P : List api_RowV) : R :=
  cond (decide (i ≥ 0))
    (Option.bind (slices_siftDownCmpFunc_api_Row_table_UncoveredKeys_1 data_P i hi first) fun x1 =>
    kL0 first lo hi (IntKind.i64.wrap (i - 1)) x1.1)
    (kL1 first lo (IntKind.i64.wrap (hi - 1)) data_P)
noncomputable def SL1 (kL1 : Int → Int → Int → (List api_RowV) → R) (first : Int) (lo : Int) (i : Int) (data_P : List api_RowV) : R :=
  cond (decide (i ≥ 0))
    (cond (decide (0 ≤ IntKind.i64.wrap (first + i)) && decide (IntKind.i64.wrap (first + i) < (data_P.length : Int)))
      (cond (decide (0 ≤ first) && decide (first < (data_P.length : Int)))
        (cond (decide (0 ≤ first) && decide (first < (data_P.length : Int)))
          (cond (decide (0 ≤ IntKind.i64.wrap (first + i)) && decide (IntKind.i64.wrap (first + i) < ((data_P.set first.toNat (data_P.getD ((IntKind.i64.wrap (first + i)).toNat) ((0, 0, ()), 0, 0, 0, ()))).length : Int)))
            (Option.bind (slices_siftDownCmpFunc_api_Row_table_UncoveredKeys_1 ((data_P.set first.toNat (data_P.getD ((IntKind.i64.wrap (first + i)).toNat) ((0, 0, ()), 0, 0, 0, ()))).set ((IntKind.i64.wrap (first + i)).toNat) (data_P.getD first.toNat ((0, 0, ()), 0, 0, 0, ()))) lo i first) fun x1 =>
            kL1 first lo (IntKind.i64.wrap (i - 1)) x1.1)
            none)
          none)
        none)
      none)
    (some (data_P, ()))
noncomputable def Se (kL0 : Int → Int → Int → Int → (List api_RowV) → R) (data : List api_RowV) (a : Int) (b : Int) : R :=
  kL0 a 0 (IntKind.i64.wrap (b - a)) (IntKind.i64.wrap (Int.tdiv (IntKind.i64.wrap ((IntKind.i64.wrap (b - a)) - 1)) 2)) data
theorem sL0 (jmp : Tgt → ASt → R) (first : Int) (lo : Int) (hi : Int) (i : Int) (data_P : List api_RowV) : run E jmp fin depth c1 (.loop c1 K6) (tL0 first lo hi i data_P) =
    SL0 (fun first lo hi i data_P => jmp (.loop c1 K6) (tL0 first lo hi i data_P)) (fun first lo i data_P => jmp (.loop c2 K13) (tL1 first lo i data_P)) first lo hi i data_P := by kernel_rfl
theorem sL1 (jmp : Tgt → ASt → R) (first : Int) (lo : Int) (i : Int) (data_P : List api_RowV) : run E jmp fin depth c2 (.loop c2 K13) (tL1 first lo i data_P) =
    SL1 (fun first lo i data_P => jmp (.loop c2 K13) (tL1 first lo i data_P)) first lo i data_P := by kernel_rfl
theorem se (jmp : Tgt → ASt → R) (x : (argTy ps).den) : run E jmp fin depth (bodyOf Try.f82) .ret (entryFrom 0 ps x) =
    Se (fun first lo hi i data_P => jmp (.loop c1 K6) (tL0 first lo hi i data_P)) x.1 x.2.1 x.2.2.1 := by kernel_rfl
noncomputable def L0 (first : Int) (lo : Int) (hi : Int) (i : Int) (data_P : List api_RowV) : R := lim E fin (.loop c1 K6) (tL0 first lo hi i data_P)
noncomputable def L1 (first : Int) (lo : Int) (i : Int) (data_P : List api_RowV) : R := lim E fin (.loop c2 K13) (tL1 first lo i data_P)
theorem L0_eq (first : Int) (lo : Int) (hi : Int) (i : Int) (data_P : List api_RowV) : L0 first lo hi i data_P = SL0 L0 L1 first lo hi i data_P :=
  (lim_eq (.loop c1 K6) (tL0 first lo hi i data_P)).trans (sL0 (lim E fin) first lo hi i data_P)
theorem L1_eq (first : Int) (lo : Int) (i : Int) (data_P : List api_RowV) : L1 first lo i data_P = SL1 L1 first lo i data_P :=
  (lim_eq (.loop c2 K13) (tL1 first lo i data_P)).trans (sL1 (lim E fin) first lo i data_P)
end slices_heapSortCmpFunc_api_Row_table_UncoveredKeys_1
noncomputable def slices_heapSortCmpFunc_api_Row_table_UncoveredKeys_1 (data : List api_RowV) (a : Int) (b : Int) : slices_heapSortCmpFunc_api_Row_table_UncoveredKeys_1.R :=
  slices_heapSortCmpFunc_api_Row_table_UncoveredKeys_1.Se slices_heapSortCmpFunc_api_Row_table_UncoveredKeys_1.L0 data a b
noncomputable def slices_heapSortCmpFunc_api_Row_table_UncoveredKeys_1.sig : Sig := ⟨slices_heapSortCmpFunc_api_Row_table_UncoveredKeys_1.ps, slices_heapSortCmpFunc_api_Row_table_UncoveredKeys_1.rs, fun x => slices_heapSortCmpFunc_api_Row_table_UncoveredKeys_1 x.1 x.2.1 x.2.2.1⟩
theorem slices_heapSortCmpFunc_api_Row_table_UncoveredKeys_1.ok : CallOK Try.prog 82 slices_heapSortCmpFunc_api_Row_table_UncoveredKeys_1.sig :=
  callOK_of_lim (E := slices_heapSortCmpFunc_api_Row_table_UncoveredKeys_1.E) mixed tt_ok (ctxOk_cons ctxOk_nil slices_siftDownCmpFunc_api_Row_table_UncoveredKeys_1.ok Try.func92 (by kernel_rfl) (by kernel_rfl)) Try.func82 (by kernel_rfl : Try.f82.body = some (bodyOf Try.f82)) Try.ntmps82 (of_decide_eq_true (by kernel_rfl)) (of_decide_eq_true (by kernel_rfl))
    fun x y h => ((lim_eq (.code (bodyOf Try.f82) .ret) (entryFrom 0 slices_heapSortCmpFunc_api_Row_table_UncoveredKeys_1.ps x)).trans (slices_heapSortCmpFunc_api_Row_table_UncoveredKeys_1.se (lim slices_heapSortCmpFunc_api_Row_table_UncoveredKeys_1.E slices_heapSortCmpFunc_api_Row_table_UncoveredKeys_1.fin) x)).trans h
theorem slices_heapSortCmpFunc_api_Row_table_UncoveredKeys_1.val (x : (argTy slices_heapSortCmpFunc_api_Row_table_UncoveredKeys_1.ps).den) : lim slices_heapSortCmpFunc_api_Row_table_UncoveredKeys_1.E slices_heapSortCmpFunc_api_Row_table_UncoveredKeys_1.fin (.code (bodyOf Try.f82) .ret) (entryFrom 0 slices_heapSortCmpFunc_api_Row_table_UncoveredKeys_1.ps x) = slices_heapSortCmpFunc_api_Row_table_UncoveredKeys_1.sig.run x :=
  (lim_eq (.code (bodyOf Try.f82) .ret) (entryFrom 0 slices_heapSortCmpFunc_api_Row_table_UncoveredKeys_1.ps x)).trans (slices_heapSortCmpFunc_api_Row_table_UncoveredKeys_1.se (lim slices_heapSortCmpFunc_api_Row_table_UncoveredKeys_1.E slices_heapSortCmpFunc_api_Row_table_UncoveredKeys_1.fin) x)
noncomputable def slices_heapSortCmpFunc_api_Row_table_UncoveredKeys_1.ctxc (n : Nat) : List (Nat × Sig) := [(92, slices_siftDownCmpFunc_api_Row_table_UncoveredKeys_1.sigc n)]
noncomputable def slices_heapSortCmpFunc_api_Row_table_UncoveredKeys_1.sigc (n : Nat) : Sig := ⟨slices_heapSortCmpFunc_api_Row_table_UncoveredKeys_1.ps, slices_heapSortCmpFunc_api_Row_table_UncoveredKeys_1.rs, fun x => runs (withCtx slices_heapSortCmpFunc_api_Row_table_UncoveredKeys_1.E (slices_heapSortCmpFunc_api_Row_table_UncoveredKeys_1.ctxc n)) slices_heapSortCmpFunc_api_Row_table_UncoveredKeys_1.fin n (.code (bodyOf Try.f82) .ret) (entryFrom 0 slices_heapSortCmpFunc_api_Row_table_UncoveredKeys_1.ps x)⟩
theorem slices_heapSortCmpFunc_api_Row_table_UncoveredKeys_1.sigc_le (n : Nat) : ∀ x y, (slices_heapSortCmpFunc_api_Row_table_UncoveredKeys_1.sigc n).run x = some y → slices_heapSortCmpFunc_api_Row_table_UncoveredKeys_1.sig.run x = some y :=
  fun x y h => (slices_heapSortCmpFunc_api_Row_table_UncoveredKeys_1.val x).symm.trans (runs_lim (E := slices_heapSortCmpFunc_api_Row_table_UncoveredKeys_1.E) (c := slices_heapSortCmpFunc_api_Row_table_UncoveredKeys_1.ctxc n) (ctxLe_cons ctxLe_nil (slices_siftDownCmpFunc_api_Row_table_UncoveredKeys_1.sigc_le n)) h)
namespace slices_nextPowerOfTwo
abbrev ps : List PM := [.pure (.int .i64)]
abbrev rs : List RM := [.pure (.int .u64)]
abbrev R : Type := Option (Int × Unit)
noncomputable def E : Env := { tt := tt, ctx := [(69, math_bits_Len.sig)], nt := 7, ann := [] }
noncomputable def fin : ASt → R := Kret E Try.f93.results.toList ps rs
noncomputable def Se (length_0 : Int) : R :=
  Option.bind (math_bits_Len (IntKind.u64.wrap length_0)) fun x1 =>
  cond (decide (x1.1 < 0))
    none
    (some (IntKind.u64.wrap (1 * 2 ^ (min x1.1.toNat IntKind.u64.bits)), ()))
theorem se (jmp : Tgt → ASt → R) (x : (argTy ps).den) : run E jmp fin depth (bodyOf Try.f93) .ret (entryFrom 0 ps x) =
    Se x.1 := by kernel_rfl
end slices_nextPowerOfTwo
noncomputable def slices_nextPowerOfTwo (length_0 : Int) : slices_nextPowerOfTwo.R :=
  slices_nextPowerOfTwo.Se length_0
noncomputable def slices_nextPowerOfTwo.sig : Sig := ⟨slices_nextPowerOfTwo.ps, slices_nextPowerOfTwo.rs, fun x => slices_nextPowerOfTwo x.1⟩
theorem slices_nextPowerOfTwo.ok : CallOK Try.prog 93 slices_nextPowerOfTwo.sig :=
  callOK_of_lim (E := slices_nextPowerOfTwo.E) mixed tt_ok (ctxOk_cons ctxOk_nil math_bits_Len.ok Try.func69 (by kernel_rfl) (by kernel_rfl)) Try.func93 (by kernel_rfl : Try.f93.body = some (bodyOf Try.f93)) Try.ntmps93 (of_decide_eq_true (by kernel_rfl)) (of_decide_eq_true (by kernel_rfl))
    fun x y h => ((lim_eq (.code (bodyOf Try.f93) .ret) (entryFrom 0 slices_nextPowerOfTwo.ps x)).trans (slices_nextPowerOfTwo.se (lim slices_nextPowerOfTwo.E slices_nextPowerOfTwo.fin) x)).trans h
theorem slices_nextPowerOfTwo.val (x : (argTy slices_nextPowerOfTwo.ps).den) : lim slices_nextPowerOfTwo.E slices_nextPowerOfTwo.fin (.code (bodyOf Try.f93) .ret) (entryFrom 0 slices_nextPowerOfTwo.ps x) = slices_nextPowerOfTwo.sig.run x :=
  (lim_eq (.code (bodyOf Try.f93) .ret) (entryFrom 0 slices_nextPowerOfTwo.ps x)).trans (slices_nextPowerOfTwo.se (lim slices_nextPowerOfTwo.E slices_nextPowerOfTwo.fin) x)
noncomputable def slices_nextPowerOfTwo.ctxc (n : Nat) : List (Nat × Sig) := [(69, math_bits_Len.sigc n)]
noncomputable def slices_nextPowerOfTwo.sigc (n : Nat) : Sig := ⟨slices_nextPowerOfTwo.ps, slices_nextPowerOfTwo.rs, fun x => runs (withCtx slices_nextPowerOfTwo.E (slices_nextPowerOfTwo.ctxc n)) slices_nextPowerOfTwo.fin n (.code (bodyOf Try.f93) .ret) (entryFrom 0 slices_nextPowerOfTwo.ps x)⟩
theorem slices_nextPowerOfTwo.sigc_le (n : Nat) : ∀ x y, (slices_nextPowerOfTwo.sigc n).run x = some y → slices_nextPowerOfTwo.sig.run x = some y :=
  fun x y h => (slices_nextPowerOfTwo.val x).symm.trans (runs_lim (E := slices_nextPowerOfTwo.E) (c := slices_nextPowerOfTwo.ctxc n) (ctxLe_cons ctxLe_nil (math_bits_Len.sigc_le n)) h)
namespace slices_xorshift_Next
abbrev ps : List PM := [.ptr (.int .u64)]
abbrev rs : List RM := [.pure (.int .u64)]
abbrev R : Type := Option (Int × Int × Unit)
noncomputable def E : Env := { tt := tt, ctx := [], nt := 33, ann := [] }
noncomputable def fin : ASt → R := Kret E Try.f94.results.toList ps rs
noncomputable def Se (r_0 : Int) : R :=
  some (IntKind.u64.wrap (BitVec.ofInt IntKind.u64.bits (IntKind.u64.wrap (BitVec.ofInt IntKind.u64.bits (IntKind.u64.wrap (BitVec.ofInt IntKind.u64.bits r_0 ^^^ BitVec.ofInt IntKind.u64.bits (IntKind.u64.wrap (r_0 * 2 ^ (min 13 IntKind.u64.bits)))).toNat) ^^^ BitVec.ofInt IntKind.u64.bits (Int.fdiv (IntKind.u64.wrap (BitVec.ofInt IntKind.u64.bits r_0 ^^^ BitVec.ofInt IntKind.u64.bits (IntKind.u64.wrap (r_0 * 2 ^ (min 13 IntKind.u64.bits)))).toNat) (2 ^ (min 7 IntKind.u64.bits)))).toNat) ^^^ BitVec.ofInt IntKind.u64.bits (IntKind.u64.wrap ((IntKind.u64.wrap (BitVec.ofInt IntKind.u64.bits (IntKind.u64.wrap (BitVec.ofInt IntKind.u64.bits r_0 ^^^ BitVec.ofInt IntKind.u64.bits (IntKind.u64.wrap (r_0 * 2 ^ (min 13 IntKind.u64.bits)))).toNat) ^^^ BitVec.ofInt IntKind.u64.bits (Int.fdiv (IntKind.u64.wrap (BitVec.ofInt IntKind.u64.bits r_0 ^^^ BitVec.ofInt IntKind.u64.bits (IntKind.u64.wrap (r_0 * 2 ^ (min 13 IntKind.u64.bits)))).toNat) (2 ^ (min 7 IntKind.u64.bits)))).toNat) * 2 ^ (min 17 IntKind.u64.bits)))).toNat, IntKind.u64.wrap (BitVec.ofInt IntKind.u64.bits (IntKind.u64.wrap (BitVec.ofInt IntKind.u64.bits (IntKind.u64.wrap (BitVec.ofInt IntKind.u64.bits r_0 ^^^ BitVec.ofInt IntKind.u64.bits (IntKind.u64.wrap (r_0 * 2 ^ (min 13 IntKind.u64.bits)))).toNat) ^^^ BitVec.ofInt IntKind.u64.bits (Int.fdiv (IntKind.u64.wrap (BitVec.ofInt IntKind.u64.bits r_0 ^^^ BitVec.ofInt IntKind.u64.bits (IntKind.u64.wrap (r_0 * 2 ^ (min 13 IntKind.u64.bits)))).toNat) (2 ^ (min 7 IntKind.u64.bits)))).toNat) ^^^ BitVec.ofInt IntKind.u64.bits (IntKind.u64.wrap ((IntKind.u64.wrap (BitVec.ofInt IntKind.u64.bits (IntKind.u64.wrap (BitVec.ofInt IntKind.u64.bits r_0 ^^^ BitVec.ofInt IntKind.u64.bits (IntKind.u64.wrap (r_0 * 2 ^ (min 13 IntKind.u64.bits)))).toNat) ^^^ BitVec.ofInt IntKind.u64.bits (Int.fdiv (IntKind.u64.wrap (BitVec.ofInt IntKind.u64.bits r_0 ^^^ BitVec.ofInt IntKind.u64.bits (IntKind.u64.wrap (r_0 * 2 ^ (min 13 IntKind.u64.bits)))).toNat) (2 ^ (min 7 IntKind.u64.bits)))).toNat) * 2 ^ (min 17 IntKind.u64.bits)))).toNat, ())
theorem se (jmp : Tgt → ASt → R) (x : (argTy ps).den) : run E jmp fin depth (bodyOf Try.f94) .ret (entryFrom 0 ps x) =
    Se x.1 := by kernel_rfl
end slices_xorshift_Next
noncomputable def slices_xorshift_Next (r_0 : Int) : slices_xorshift_Next.R :=
  slices_xorshift_Next.Se r_0
noncomputable def slices_xorshift_Next.sig : Sig := ⟨slices_xorshift_Next.ps, slices_xorshift_Next.rs, fun x => slices_xorshift_Next x.1⟩
theorem slices_xorshift_Next.ok : CallOK Try.prog 94 slices_xorshift_Next.sig :=
  callOK_of_lim (E := slices_xorshift_Next.E) mixed tt_ok ctxOk_nil Try.func94 (by kernel_rfl : Try.f94.body = some (bodyOf Try.f94)) Try.ntmps94 (of_decide_eq_true (by kernel_rfl)) (of_decide_eq_true (by kernel_rfl))
    fun x y h => ((lim_eq (.code (bodyOf Try.f94) .ret) (entryFrom 0 slices_xorshift_Next.ps x)).trans (slices_xorshift_Next.se (lim slices_xorshift_Next.E slices_xorshift_Next.fin) x)).trans h
theorem slices_xorshift_Next.val (x : (argTy slices_xorshift_Next.ps).den) : lim slices_xorshift_Next.E slices_xorshift_Next.fin (.code (bodyOf Try.f94) .ret) (entryFrom 0 slices_xorshift_Next.ps x) = slices_xorshift_Next.sig.run x :=
  (lim_eq (.code (bodyOf Try.f94) .ret) (entryFrom 0 slices_xorshift_Next.ps x)).trans (slices_xorshift_Next.se (lim slices_xorshift_Next.E slices_xorshift_Next.fin) x)
noncomputable def slices_xorshift_Next.ctxc (n : Nat) : List (Nat × Sig) := []
noncomputable def slices_xorshift_Next.sigc (n : Nat) : Sig := ⟨slices_xorshift_Next.ps, slices_xorshift_Next.rs, fun x => runs (withCtx slices_xorshift_Next.E (slices_xorshift_Next.ctxc n)) slices_xorshift_Next.fin n (.code (bodyOf Try.f94) .ret) (entryFrom 0 slices_xorshift_Next.ps x)⟩
theorem slices_xorshift_Next.sigc_le (n : Nat) : ∀ x y, (slices_xorshift_Next.sigc n).run x = some y → slices_xorshift_Next.sig.run x = some y :=
  fun x y h => (slices_xorshift_Next.val x).symm.trans (runs_lim (E := slices_xorshift_Next.E) (c := slices_xorshift_Next.ctxc n) ctxLe_nil h)
namespace slices_breakPatternsCmpFunc_api_Row_table_UncoveredKeys_1
abbrev ps : List PM := [.own api_Row, .pure (.int .i64), .pure (.int .i64), .fn 41]
abbrev rs : List RM := []
abbrev R : Type := Option (List api_RowV × Unit)
noncomputable def E : Env := { tt := tt, ctx := [(93, slices_nextPowerOfTwo.sig), (94, slices_xorshift_Next.sig)], nt := 67, ann := [(1000005, [(0, .keep), (1, .keep), (8, .keep), (9, .keep), (10, .keep), (11, .keep)]), (10, [(0, .keep), (1, .keep), (8, .keep), (9, .keep), (10, .keep), (11, .keep), (12, .keep)])] }
noncomputable def c0 : Code := sub [1, 1, 0, 1, 1, 1, 0, 0] (bodyOf Try.f83)
noncomputable def c1 : Code := sub [1, 1, 0, 1, 1, 1, 0, 0, 1, 1] (bodyOf Try.f83)
noncomputable def c2 : Code := sub [1, 1, 0, 1, 1, 1, 0, 0, 1, 0, 0, 1, 1] (bodyOf Try.f83)
noncomputable def K6 : Kont := .blk 0 .ret
noncomputable def K7 : Kont := .loop c0 K6
noncomputable def K10 : Kont := .seq c1 K7
noncomputable def K11 : Kont := .blk 1 K10
noncomputable def fin : ASt → R := Kret E Try.f83.results.toList ps rs
def tL0 (a : Int) (length_8 : Int) (random : Int) (modulus : Int) (idx_11 : Int) (data_P : List api_RowV) : ASt := ⟨[(11, .one (.val (.int .i64) idx_11)), (10, .one (.val (.int .u64) modulus)), (9, .one (.optr 9 0 [])), (8, .one (.val (.int .i64) length_8)), (1, .one (.val (.int .i64) a)), (0, .one (.own 10000))], [(9, some ⟨.free, .int .u64, [random]⟩), (10000, some ⟨.fixed, api_Row, data_P⟩)]⟩
def tJ1 (a : Int) (length_8 : Int) (random : Int) (modulus : Int) (idx_11 : Int) (other : Int) (data_P : List api_RowV) : ASt := ⟨[(12, .one (.val (.int .i64) other)), (11, .one (.val (.int .i64) idx_11)), (10, .one (.val (.int .u64) modulus)), (9, .one (.optr 9 0 [])), (8, .one (.val (.int .i64) length_8)), (1, .one (.val (.int .i64) a)), (0, .one (.own 10000))], [(9, some ⟨.free, .int .u64, [random]⟩), (10000, some ⟨.fixed, api_Row, data_P⟩)]⟩
noncomputable def SL0 (kJ1 : Int → Int → Int → Int → Int → Int → (List api_RowV) → R) (a : Int) (length_8 : Int) (random : Int) (modulus : Int) (idx_11 : Int) (data_P : List api_RowV) : R :=
  cond (decide (idx_11 ≤ (IntKind.i64.wrap ((IntKind.i64.wrap (a + (IntKind.i64.wrap ((IntKind.i64.wrap (Int.tdiv length_8 4)) * 2)))) + 1))))
    (Option.bind (slices_xorshift_Next random) fun x1 =>
    cond (decide ((IntKind.i64.wrap (IntKind.u64.wrap (BitVec.ofInt IntKind.u64.bits x1.1 &&& BitVec.ofInt IntKind.u64.bits (IntKind.u64.wrap (modulus - 1))).toNat)) ≥ length_8))
      (kJ1 a length_8 x1.2.1 modulus idx_11 (IntKind.i64.wrap ((IntKind.i64.wrap (IntKind.u64.wrap (BitVec.ofInt IntKind.u64.bits x1.1 &&& BitVec.ofInt IntKind.u64.bits (IntKind.u64.wrap (modulus - 1))).toNat)) - length_8)) data_P)
      (kJ1 a length_8 x1.2.1 modulus idx_11 (IntKind.i64.wrap (IntKind.u64.wrap (BitVec.ofInt IntKind.u64.bits x1.1 &&& BitVec.ofInt IntKind.u64.bits (IntKind.u64.wrap (modulus - 1))).toNat)) data_P))
    (some (data_P, ()))
noncomputable def SJ1 (kL0 : Int → Int → Int → Int → Int → (List api_RowV) → R) (a : Int) (length_8 : Int) (random : Int) (modulus : Int) (idx_11 : Int) (other : Int) (data_P : List api_RowV) : R :=
  cond (decide (0 ≤ IntKind.i64.wrap (a + other)) && decide (IntKind.i64.wrap (a + other) < (data_P.length : Int)))
    (cond (decide (0 ≤ idx_11) && decide (idx_11 < (data_P.length : Int)))
      (cond (decide (0 ≤ idx_11) && decide (idx_11 < (data_P.length : Int)))
        (cond (decide (0 ≤ IntKind.i64.wrap (a + other)) && decide (IntKind.i64.wrap (a + other) < ((data_P.set idx_11.toNat (data_P.getD ((IntKind.i64.wrap (a + other)).toNat) ((0, 0, ()), 0, 0, 0, ()))).length : Int)))
          (kL0 a length_8 random modulus (IntKind.i64.wrap (idx_11 + 1)) ((data_P.set idx_11.toNat (data_P.getD ((IntKind.i64.wrap (a + other)).toNat) ((0, 0, ()), 0, 0, 0, ()))).set ((IntKind.i64.wrap (a + other)).toNat) (data_P.getD idx_11.toNat ((0, 0, ()), 0, 0, 0, ()))))
          none)
        none)
      none)
    none
noncomputable def Se (kL0 : Int → Int → Int → Int → Int → (List api_RowV) → R) (data : List api_RowV) (a : Int) (b : Int) : R :=
  cond (decide ((IntKind.i64.wrap (b - a)) ≥ 8))
    (Option.bind (slices_nextPowerOfTwo (IntKind.i64.wrap (b - a))) fun x1 =>
    kL0 a (IntKind.i64.wrap (b - a)) (IntKind.u64.wrap (IntKind.i64.wrap (b - a))) x1.1 (IntKind.i64.wrap ((IntKind.i64.wrap (a + (IntKind.i64.wrap ((IntKind.i64.wrap (Int.tdiv (IntKind.i64.wrap (b - a)) 4)) * 2)))) - 1)) data)
    (some (data, ()))
theorem sL0 (jmp : Tgt → ASt → R) (a : Int) (length_8 : Int) (random : Int) (modulus : Int) (idx_11 : Int) (data_P : List api_RowV) : run E jmp fin depth c0 (.loop c0 K6) (tL0 a length_8 random modulus idx_11 data_P) =
    SL0 (fun a length_8 random modulus idx_11 other data_P => jmp (.code c2 K11) (tJ1 a length_8 random modulus idx_11 other data_P)) a length_8 random modulus idx_11 data_P := by kernel_rfl
theorem sJ1 (jmp : Tgt → ASt → R) (a : Int) (length_8 : Int) (random : Int) (modulus : Int) (idx_11 : Int) (other : Int) (data_P : List api_RowV) : run E jmp fin depth c2 K11 (tJ1 a length_8 random modulus idx_11 other data_P) =
    SJ1 (fun a length_8 random modulus idx_11 data_P => jmp (.loop c0 K6) (tL0 a length_8 random modulus idx_11 data_P)) a length_8 random modulus idx_11 other data_P := by kernel_rfl
theorem se (jmp : Tgt → ASt → R) (x : (argTy ps).den) : run E jmp fin depth (bodyOf Try.f83) .ret (entryFrom 0 ps x) =
    Se (fun a length_8 random modulus idx_11 data_P => jmp (.loop c0 K6) (tL0 a length_8 random modulus idx_11 data_P)) x.1 x.2.1 x.2.2.1 := by kernel_rfl
noncomputable def L0 (a : Int) (length_8 : Int) (random : Int) (modulus : Int) (idx_11 : Int) (data_P : List api_RowV) : R := lim E fin (.loop c0 K6) (tL0 a length_8 random modulus idx_11 data_P)
noncomputable def J1 (a : Int) (length_8 : Int) (random : Int) (modulus : Int) (idx_11 : Int) (other : Int) (data_P : List api_RowV) : R := lim E fin (.code c2 K11) (tJ1 a length_8 random modulus idx_11 other data_P)
theorem L0_eq (a : Int) (length_8 : Int) (random : Int) (modulus : Int) (idx_11 : Int) (data_P : List api_RowV) : L0 a length_8 random modulus idx_11 data_P = SL0 J1 a length_8 random modulus idx_11 data_P :=
  (lim_eq (.loop c0 K6) (tL0 a length_8 random modulus idx_11 data_P)).trans (sL0 (lim E fin) a length_8 random modulus idx_11 data_P)
theorem J1_eq (a : Int) (length_8 : Int) (random : Int) (modulus : Int) (idx_11 : Int) (other : Int) (data_P : List api_RowV) : J1 a length_8 random modulus idx_11 other data_P = SJ1 L0 a length_8 random modulus idx_11 other data_P :=
  (lim_eq (.code c2 K11) (tJ1 a length_8 random modulus idx_11 other data_P)).trans (sJ1 (lim E fin) a length_8 random modulus idx_11 other data_P)
end slices_breakPatternsCmpFunc_api_Row_table_UncoveredKeys_1
noncomputable def slices_breakPatternsCmpFunc_api_Row_table_UncoveredKeys_1 (data : List api_RowV) (a : Int) (b : Int) : slices_breakPatternsCmpFunc_api_Row_table_UncoveredKeys_1.R :=
  slices_breakPatternsCmpFunc_api_Row_table_UncoveredKeys_1.Se slices_breakPatternsCmpFunc_api_Row_table_UncoveredKeys_1.L0 data a b
noncomputable def slices_breakPatternsCmpFunc_api_Row_table_UncoveredKeys_1.sig : Sig := ⟨slices_breakPatternsCmpFunc_api_Row_table_UncoveredKeys_1.ps, slices_breakPatternsCmpFunc_api_Row_table_UncoveredKeys_1.rs, fun x => slices_breakPatternsCmpFunc_api_Row_table_UncoveredKeys_1 x.1 x.2.1 x.2.2.1⟩
theorem slices_breakPatternsCmpFunc_api_Row_table_UncoveredKeys_1.ok : CallOK Try.prog 83 slices_breakPatternsCmpFunc_api_Row_table_UncoveredKeys_1.sig :=
  callOK_of_lim (E := slices_breakPatternsCmpFunc_api_Row_table_UncoveredKeys_1.E) mixed tt_ok (ctxOk_cons (ctxOk_cons ctxOk_nil slices_xorshift_Next.ok Try.func94 (by kernel_rfl) (by kernel_rfl)) slices_nextPowerOfTwo.ok Try.func93 (by kernel_rfl) (by kernel_rfl)) Try.func83 (by kernel_rfl : Try.f83.body = some (bodyOf Try.f83)) Try.ntmps83 (of_decide_eq_true (by kernel_rfl)) (of_decide_eq_true (by kernel_rfl))
    fun x y h => ((lim_eq (.code (bodyOf Try.f83) .ret) (entryFrom 0 slices_breakPatternsCmpFunc_api_Row_table_UncoveredKeys_1.ps x)).trans (slices_breakPatternsCmpFunc_api_Row_table_UncoveredKeys_1.se (lim slices_breakPatternsCmpFunc_api_Row_table_UncoveredKeys_1.E slices_breakPatternsCmpFunc_api_Row_table_UncoveredKeys_1.fin) x)).trans h
theorem slices_breakPatternsCmpFunc_api_Row_table_UncoveredKeys_1.val (x : (argTy slices_breakPatternsCmpFunc_api_Row_table_UncoveredKeys_1.ps).den) : lim slices_breakPatternsCmpFunc_api_Row_table_UncoveredKeys_1.E slices_breakPatternsCmpFunc_api_Row_table_UncoveredKeys_1.fin (.code (bodyOf Try.f83) .ret) (entryFrom 0 slices_breakPatternsCmpFunc_api_Row_table_UncoveredKeys_1.ps x) = slices_breakPatternsCmpFunc_api_Row_table_UncoveredKeys_1.sig.run x :=
  (lim_eq (.code (bodyOf Try.f83) .ret) (entryFrom 0 slices_breakPatternsCmpFunc_api_Row_table_UncoveredKeys_1.ps x)).trans (slices_breakPatternsCmpFunc_api_Row_table_UncoveredKeys_1.se (lim slices_breakPatternsCmpFunc_api_Row_table_UncoveredKeys_1.E slices_breakPatternsCmpFunc_api_Row_table_UncoveredKeys_1.fin) x)
noncomputable def slices_breakPatternsCmpFunc_api_Row_table_UncoveredKeys_1.ctxc (n : Nat) : List (Nat × Sig) := [(93, slices_nextPowerOfTwo.sigc n), (94, slices_xorshift_Next.sigc n)]
noncomputable def slices_breakPatternsCmpFunc_api_Row_table_UncoveredKeys_1.sigc (n : Nat) : Sig := ⟨slices_breakPatternsCmpFunc_api_Row_table_UncoveredKeys_1.ps, slices_breakPatternsCmpFunc_api_Row_table_UncoveredKeys_1.rs, fun x => runs (withCtx slices_breakPatternsCmpFunc_api_Row_table_UncoveredKeys_1.E (slices_breakPatternsCmpFunc_api_Row_table_UncoveredKeys_1.ctxc n)) slices_breakPatternsCmpFunc_api_Row_table_UncoveredKeys_1.fin n (.code (bodyOf Try.f83) .ret) (entryFrom 0 slices_breakPatternsCmpFunc_api_Row_table_UncoveredKeys_1.ps x)⟩
theorem slices_breakPatternsCmpFunc_api_Row_table_UncoveredKeys_1.sigc_le (n : Nat) : ∀ x y, (slices_breakPatternsCmpFunc_api_Row_table_UncoveredKeys_1.sigc n).run x = some y → slices_breakPatternsCmpFunc_api_Row_table_UncoveredKeys_1.sig.run x = some y :=
  fun x y h => (slices_breakPatternsCmpFunc_api_Row_table_UncoveredKeys_1.val x).symm.trans (runs_lim (E := slices_breakPatternsCmpFunc_api_Row_table_UncoveredKeys_1.E) (c := slices_breakPatternsCmpFunc_api_Row_table_UncoveredKeys_1.ctxc n) (ctxLe_cons (ctxLe_cons ctxLe_nil (slices_xorshift_Next.sigc_le n)) (slices_nextPowerOfTwo.sigc_le n)) h)
namespace slices_order2CmpFunc_api_Row_table_UncoveredKeys_1
abbrev ps : List PM := [.pure (.sl api_Row), .pure (.int .i64), .pure (.int .i64), .ptr (.int .i64), .fn 41]
abbrev rs : List RM := [.pure (.int .i64), .pure (.int .i64)]
abbrev R : Type := Option (Int × Int × Int × Unit)
noncomputable def E : Env := { tt := tt, ctx := [(41, table_UncoveredKeys_1.sig)], nt := 32, ann := [] }
noncomputable def fin : ASt → R := Kret E Try.f106.results.toList ps rs
noncomputable def Se (data : List api_RowV) (a : Int) (b : Int) (swaps : Int) : R :=
  Option.bind (idx data b) fun x1 =>
  Option.bind (idx data a) fun x2 =>
  Option.bind (table_UncoveredKeys_1 x1 x2) fun x3 =>
  cond (decide (x3.1 < 0))
    (some (b, a, IntKind.i64.wrap (swaps + 1), ()))
    (some (a, b, swaps, ()))
theorem se (jmp : Tgt → ASt → R) (x : (argTy ps).den) : run E jmp fin depth (bodyOf Try.f106) .ret (entryFrom 0 ps x) =
    Se x.1 x.2.1 x.2.2.1 x.2.2.2.1 := by kernel_rfl
end slices_order2CmpFunc_api_Row_table_UncoveredKeys_1
noncomputable def slices_order2CmpFunc_api_Row_table_UncoveredKeys_1 (data : List api_RowV) (a : Int) (b : Int) (swaps : Int) : slices_order2CmpFunc_api_Row_table_UncoveredKeys_1.R :=
  slices_order2CmpFunc_api_Row_table_UncoveredKeys_1.Se data a b swaps
noncomputable def slices_order2CmpFunc_api_Row_table_UncoveredKeys_1.sig : Sig := ⟨slices_order2CmpFunc_api_Row_table_UncoveredKeys_1.ps, slices_order2CmpFunc_api_Row_table_UncoveredKeys_1.rs, fun x => slices_order2CmpFunc_api_Row_table_UncoveredKeys_1 x.1 x.2.1 x.2.2.1 x.2.2.2.1⟩
theorem slices_order2CmpFunc_api_Row_table_UncoveredKeys_1.ok : CallOK Try.prog 106 slices_order2CmpFunc_api_Row_table_UncoveredKeys_1.sig :=
  callOK_of_lim (E := slices_order2CmpFunc_api_Row_table_UncoveredKeys_1.E) mixed tt_ok (ctxOk_cons ctxOk_nil table_UncoveredKeys_1.ok Try.func41 (by kernel_rfl) (by kernel_rfl)) Try.func106 (by kernel_rfl : Try.f106.body = some (bodyOf Try.f106)) Try.ntmps106 (of_decide_eq_true (by kernel_rfl)) (of_decide_eq_true (by kernel_rfl))
    fun x y h => ((lim_eq (.code (bodyOf Try.f106) .ret) (entryFrom 0 slices_order2CmpFunc_api_Row_table_UncoveredKeys_1.ps x)).trans (slices_order2CmpFunc_api_Row_table_UncoveredKeys_1.se (lim slices_order2CmpFunc_api_Row_table_UncoveredKeys_1.E slices_order2CmpFunc_api_Row_table_UncoveredKeys_1.fin) x)).trans h
theorem slices_order2CmpFunc_api_Row_table_UncoveredKeys_1.val (x : (argTy slices_order2CmpFunc_api_Row_table_UncoveredKeys_1.ps).den) : lim slices_order2CmpFunc_api_Row_table_UncoveredKeys_1.E slices_order2CmpFunc_api_Row_table_UncoveredKeys_1.fin (.code (bodyOf Try.f106) .ret) (entryFrom 0 slices_order2CmpFunc_api_Row_table_UncoveredKeys_1.ps x) = slices_order2CmpFunc_api_Row_table_UncoveredKeys_1.sig.run x :=
  (lim_eq (.code (bodyOf Try.f106) .ret) (entryFrom 0 slices_order2CmpFunc_api_Row_table_UncoveredKeys_1.ps x)).trans (slices_order2CmpFunc_api_Row_table_UncoveredKeys_1.se (lim slices_order2CmpFunc_api_Row_table_UncoveredKeys_1.E slices_order2CmpFunc_api_Row_table_UncoveredKeys_1.fin) x)
noncomputable def slices_order2CmpFunc_api_Row_table_UncoveredKeys_1.ctxc (n : Nat) : List (Nat × Sig) := [(41, table_UncoveredKeys_1.sigc n)]
noncomputable def slices_order2CmpFunc_api_Row_table_UncoveredKeys_1.sigc (n : Nat) : Sig := ⟨slices_order2CmpFunc_api_Row_table_UncoveredKeys_1.ps, slices_order2CmpFunc_api_Row_table_UncoveredKeys_1.rs, fun x => runs (withCtx slices_order2CmpFunc_api_Row_table_UncoveredKeys_1.E (slices_order2CmpFunc_api_Row_table_UncoveredKeys_1.ctxc n)) slices_order2CmpFunc_api_Row_table_UncoveredKeys_1.fin n (.code (bodyOf Try.f106) .ret) (entryFrom 0 slices_order2CmpFunc_api_Row_table_UncoveredKeys_1.ps x)⟩
theorem slices_order2CmpFunc_api_Row_table_UncoveredKeys_1.sigc_le (n : Nat) : ∀ x y, (slices_order2CmpFunc_api_Row_table_UncoveredKeys_1.sigc n).run x = some y → slices_order2CmpFunc_api_Row_table_UncoveredKeys_1.sig.run x = some y :=
  fun x y h => (slices_order2CmpFunc_api_Row_table_UncoveredKeys_1.val x).symm.trans (runs_lim (E := slices_order2CmpFunc_api_Row_table_UncoveredKeys_1.E) (c := slices_order2CmpFunc_api_Row_table_UncoveredKeys_1.ctxc n) (ctxLe_cons ctxLe_nil (table_UncoveredKeys_1.sigc_le n)) h)
namespace slices_medianCmpFunc_api_Row_table_UncoveredKeys_1
abbrev ps : List PM := [.pure (.sl api_Row), .pure (.int .i64), .pure (.int .i64), .pure (.int .i64), .ptr (.int .i64), .fn 41]
abbrev rs : List RM := [.pure (.int .i64)]
abbrev R : Type := Option (Int × Int × Unit)
noncomputable def E : Env := { tt := tt, ctx := [(106, slices_order2CmpFunc_api_Row_table_UncoveredKeys_1.sig)], nt := 41, ann := [] }
noncomputable def fin : ASt → R := Kret E Try.f96.results.toList ps rs
noncomputable def Se (data : List api_RowV) (a : Int) (b : Int) (c_3 : Int) (swaps : Int) : R :=
  Option.bind (slices_order2CmpFunc_api_Row_table_UncoveredKeys_1 data a b swaps) fun x1 =>
  Option.bind (slices_order2CmpFunc_api_Row_table_UncoveredKeys_1 data x1.2.1 c_3 x1.2.2.1) fun x2 =>
  Option.bind (slices_order2CmpFunc_api_Row_table_UncoveredKeys_1 data x1.1 x2.1 x2.2.2.1) fun x3 =>
  some (x3.2.1, x3.2.2.1, ())
theorem se (jmp : Tgt → ASt → R) (x : (argTy ps).den) : run E jmp fin depth (bodyOf Try.f96) .ret (entryFrom 0 ps x) =
    Se x.1 x.2.1 x.2.2.1 x.2.2.2.1 x.2.2.2.2.1 := by kernel_rfl
end slices_medianCmpFunc_api_Row_table_UncoveredKeys_1
noncomputable def slices_medianCmpFunc_api_Row_table_UncoveredKeys_1 (data : List api_RowV) (a : Int) (b : Int) (c_3 : Int) (swaps : Int) : slices_medianCmpFunc_api_Row_table_UncoveredKeys_1.R :=
  slices_medianCmpFunc_api_Row_table_UncoveredKeys_1.Se data a b c_3 swaps
noncomputable def slices_medianCmpFunc_api_Row_table_UncoveredKeys_1.sig : Sig := ⟨slices_medianCmpFunc_api_Row_table_UncoveredKeys_1.ps, slices_medianCmpFunc_api_Row_table_UncoveredKeys_1.rs, fun x => slices_medianCmpFunc_api_Row_table_UncoveredKeys_1 x.1 x.2.1 x.2.2.1 x.2.2.2.1 x.2.2.2.2.1⟩
theorem slices_medianCmpFunc_api_Row_table_UncoveredKeys_1.ok : CallOK Try.prog 96 slices_medianCmpFunc_api_Row_table_UncoveredKeys_1.sig :=
  callOK_of_lim (E := slices_medianCmpFunc_api_Row_table_UncoveredKeys_1.E) mixed tt_ok (ctxOk_cons ctxOk_nil slices_order2CmpFunc_api_Row_table_UncoveredKeys_1.ok Try.func106 (by kernel_rfl) (by kernel_rfl)) Try.func96 (by kernel_rfl : Try.f96.body = some (bodyOf Try.f96)) Try.ntmps96 (of_decide_eq_true (by kernel_rfl)) (of_decide_eq_true (by kernel_rfl))
    fun x y h => ((lim_eq (.code (bodyOf Try.f96) .ret) (entryFrom 0 slices_medianCmpFunc_api_Row_table_UncoveredKeys_1.ps x)).trans (slices_medianCmpFunc_api_Row_table_UncoveredKeys_1.se (lim slices_medianCmpFunc_api_Row_table_UncoveredKeys_1.E slices_medianCmpFunc_api_Row_table_UncoveredKeys_1.fin) x)).trans h
theorem slices_medianCmpFunc_api_Row_table_UncoveredKeys_1.val (x : (argTy slices_medianCmpFunc_api_Row_table_UncoveredKeys_1.ps).den) : lim slices_medianCmpFunc_api_Row_table_UncoveredKeys_1.E slices_medianCmpFunc_api_Row_table_UncoveredKeys_1.fin (.code (bodyOf Try.f96) .ret) (entryFrom 0 slices_medianCmpFunc_api_Row_table_UncoveredKeys_1.ps x) = slices_medianCmpFunc_api_Row_table_UncoveredKeys_1.sig.run x :=
  (lim_eq (.code (bodyOf Try.f96) .ret) (entryFrom 0 slices_medianCmpFunc_api_Row_table_UncoveredKeys_1.ps x)).trans (slices_medianCmpFunc_api_Row_table_UncoveredKeys_1.se (lim slices_medianCmpFunc_api_Row_table_UncoveredKeys_1.E slices_medianCmpFunc_api_Row_table_UncoveredKeys_1.fin) x)
noncomputable def slices_medianCmpFunc_api_Row_table_UncoveredKeys_1.ctxc (n : Nat) : List (Nat × Sig) := [(106, slices_order2CmpFunc_api_Row_table_UncoveredKeys_1.sigc n)]
noncomputable def slices_medianCmpFunc_api_Row_table_UncoveredKeys_1.sigc (n : Nat) : Sig := ⟨slices_medianCmpFunc_api_Row_table_UncoveredKeys_1.ps, slices_medianCmpFunc_api_Row_table_UncoveredKeys_1.rs, fun x => runs (withCtx slices_medianCmpFunc_api_Row_table_UncoveredKeys_1.E (slices_medianCmpFunc_api_Row_table_UncoveredKeys_1.ctxc n)) slices_medianCmpFunc_api_Row_table_UncoveredKeys_1.fin n (.code (bodyOf Try.f96) .ret) (entryFrom 0 slices_medianCmpFunc_api_Row_table_UncoveredKeys_1.ps x)⟩
theorem slices_medianCmpFunc_api_Row_table_UncoveredKeys_1.sigc_le (n : Nat) : ∀ x y, (slices_medianCmpFunc_api_Row_table_UncoveredKeys_1.sigc n).run x = some y → slices_medianCmpFunc_api_Row_table_UncoveredKeys_1.sig.run x = some y :=
  fun x y h => (slices_medianCmpFunc_api_Row_table_UncoveredKeys_1.val x).symm.trans (runs_lim (E := slices_medianCmpFunc_api_Row_table_UncoveredKeys_1.E) (c := slices_medianCmpFunc_api_Row_table_UncoveredKeys_1.ctxc n) (ctxLe_cons ctxLe_nil (slices_order2CmpFunc_api_Row_table_UncoveredKeys_1.sigc_le n)) h)
namespace slices_medianAdjacentCmpFunc_api_Row_table_UncoveredKeys_1
abbrev ps : List PM := [.pure (.sl api_Row), .pure (.int .i64), .ptr (.int .i64), .fn 41]
abbrev rs : List RM := [.pure (.int .i64)]
abbrev R : Type := Option (Int × Int × Unit)
noncomputable def E : Env := { tt := tt, ctx := [(96, slices_medianCmpFunc_api_Row_table_UncoveredKeys_1.sig)], nt := 18, ann := [] }
noncomputable def fin : ASt → R := Kret E Try.f95.results.toList ps rs
noncomputable def Se (data : List api_RowV) (a : Int) (swaps : Int) : R :=
  Option.bind (slices_medianCmpFunc_api_Row_table_UncoveredKeys_1 data (IntKind.i64.wrap (a - 1)) a (IntKind.i64.wrap (a + 1)) swaps) fun x1 =>
  some (x1.1, x1.2.1, ())
theorem se (jmp : Tgt → ASt → R) (x : (argTy ps).den) : run E jmp fin depth (bodyOf Try.f95) .ret (entryFrom 0 ps x) =
    Se x.1 x.2.1 x.2.2.1 := by kernel_rfl
end slices_medianAdjacentCmpFunc_api_Row_table_UncoveredKeys_1
noncomputable def slices_medianAdjacentCmpFunc_api_Row_table_UncoveredKeys_1 (data : List api_RowV) (a : Int) (swaps : Int) : slices_medianAdjacentCmpFunc_api_Row_table_UncoveredKeys_1.R :=
  slices_medianAdjacentCmpFunc_api_Row_table_UncoveredKeys_1.Se data a swaps
noncomputable def slices_medianAdjacentCmpFunc_api_Row_table_UncoveredKeys_1.sig : Sig := ⟨slices_medianAdjacentCmpFunc_api_Row_table_UncoveredKeys_1.ps, slices_medianAdjacentCmpFunc_api_Row_table_UncoveredKeys_1.rs, fun x => slices_medianAdjacentCmpFunc_api_Row_table_UncoveredKeys_1 x.1 x.2.1 x.2.2.1⟩
theorem slices_medianAdjacentCmpFunc_api_Row_table_UncoveredKeys_1.ok : CallOK Try.prog 95 slices_medianAdjacentCmpFunc_api_Row_table_UncoveredKeys_1.sig :=
  callOK_of_lim (E := slices_medianAdjacentCmpFunc_api_Row_table_UncoveredKeys_1.E) mixed tt_ok (ctxOk_cons ctxOk_nil slices_medianCmpFunc_api_Row_table_UncoveredKeys_1.ok Try.func96 (by kernel_rfl) (by kernel_rfl)) Try.func95 (by kernel_rfl : Try.f95.body = some (bodyOf Try.f95)) Try.ntmps95 (of_decide_eq_true (by kernel_rfl)) (of_decide_eq_true (by kernel_rfl))
    fun x y h => ((lim_eq (.code (bodyOf Try.f95) .ret) (entryFrom 0 slices_medianAdjacentCmpFunc_api_Row_table_UncoveredKeys_1.ps x)).trans (slices_medianAdjacentCmpFunc_api_Row_table_UncoveredKeys_1.se (lim slices_medianAdjacentCmpFunc_api_Row_table_UncoveredKeys_1.E slices_medianAdjacentCmpFunc_api_Row_table_UncoveredKeys_1.fin) x)).trans h
theorem slices_medianAdjacentCmpFunc_api_Row_table_UncoveredKeys_1.val (x : (argTy slices_medianAdjacentCmpFunc_api_Row_table_UncoveredKeys_1.ps).den) : lim slices_medianAdjacentCmpFunc_api_Row_table_UncoveredKeys_1.E slices_medianAdjacentCmpFunc_api_Row_table_UncoveredKeys_1.fin (.code (bodyOf Try.f95) .ret) (entryFrom 0 slices_medianAdjacentCmpFunc_api_Row_table_UncoveredKeys_1.ps x) = slices_medianAdjacentCmpFunc_api_Row_table_UncoveredKeys_1.sig.run x :=
  (lim_eq (.code (bodyOf Try.f95) .ret) (entryFrom 0 slices_medianAdjacentCmpFunc_api_Row_table_UncoveredKeys_1.ps x)).trans (slices_medianAdjacentCmpFunc_api_Row_table_UncoveredKeys_1.se (lim slices_medianAdjacentCmpFunc_api_Row_table_UncoveredKeys_1.E slices_medianAdjacentCmpFunc_api_Row_table_UncoveredKeys_1.fin) x)
noncomputable def slices_medianAdjacentCmpFunc_api_Row_table_UncoveredKeys_1.ctxc (n : Nat) : List (Nat × Sig) := [(96, slices_medianCmpFunc_api_Row_table_UncoveredKeys_1.sigc n)]
noncomputable def slices_medianAdjacentCmpFunc_api_Row_table_UncoveredKeys_1.sigc (n : Nat) : Sig := ⟨slices_medianAdjacentCmpFunc_api_Row_table_UncoveredKeys_1.ps, slices_medianAdjacentCmpFunc_api_Row_table_UncoveredKeys_1.rs, fun x => runs (withCtx slices_medianAdjacentCmpFunc_api_Row_table_UncoveredKeys_1.E (slices_medianAdjacentCmpFunc_api_Row_table_UncoveredKeys_1.ctxc n)) slices_medianAdjacentCmpFunc_api_Row_table_UncoveredKeys_1.fin n (.code (bodyOf Try.f95) .ret) (entryFrom 0 slices_medianAdjacentCmpFunc_api_Row_table_UncoveredKeys_1.ps x)⟩
theorem slices_medianAdjacentCmpFunc_api_Row_table_UncoveredKeys_1.sigc_le (n : Nat) : ∀ x y, (slices_medianAdjacentCmpFunc_api_Row_table_UncoveredKeys_1.sigc n).run x = some y → slices_medianAdjacentCmpFunc_api_Row_table_UncoveredKeys_1.sig.run x = some y :=
  fun x y h => (slices_medianAdjacentCmpFunc_api_Row_table_UncoveredKeys_1.val x).symm.trans (runs_lim (E := slices_medianAdjacentCmpFunc_api_Row_table_UncoveredKeys_1.E) (c := slices_medianAdjacentCmpFunc_api_Row_table_UncoveredKeys_1.ctxc n) (ctxLe_cons ctxLe_nil (slices_medianCmpFunc_api_Row_table_UncoveredKeys_1.sigc_le n)) h)
namespace slices_choosePivotCmpFunc_api_Row_table_UncoveredKeys_1
abbrev ps : List PM := [.pure (.sl api_Row), .pure (.int .i64), .pure (.int .i64), .fn 41]
abbrev rs : List RM := [.pure (.int .i64), .pure (.int .i64)]
abbrev R : Type := Option (Int × Int × Unit)
noncomputable def E : Env := { tt := tt, ctx := [(95, slices_medianAdjacentCmpFunc_api_Row_table_UncoveredKeys_1.sig), (96, slices_medianCmpFunc_api_Row_table_UncoveredKeys_1.sig)], nt := 63, ann := [(12, [(11, .keep), (13, .keep)])] }
noncomputable def c0 : Code := sub [1, 1, 1, 1, 1, 1, 1] (bodyOf Try.f84)
noncomputable def fin : ASt → R := Kret E Try.f84.results.toList ps rs
def tJ0 (swaps : Int) (j : Int) : ASt := ⟨[(13, .one (.val (.int .i64) j)), (11, .one (.optr 11 0 []))], [(11, some ⟨.free, .int .i64, [swaps]⟩)]⟩
noncomputable def SJ0 (swaps : Int) (j : Int) : R :=
  cond (swaps == 0)
    (some (j, 1, ()))
    (cond (swaps == 12)
      (some (j, 2, ()))
      (some (j, 0, ())))
noncomputable def Se (kJ0 : Int → Int → R) (data : List api_RowV) (a : Int) (b : Int) : R :=
  cond (decide ((IntKind.i64.wrap (b - a)) ≥ 8))
    (cond (decide ((IntKind.i64.wrap (b - a)) ≥ 50))
      (Option.bind (slices_medianAdjacentCmpFunc_api_Row_table_UncoveredKeys_1 data (IntKind.i64.wrap (a + (IntKind.i64.wrap ((IntKind.i64.wrap (Int.tdiv (IntKind.i64.wrap (b - a)) 4)) * 1)))) 0) fun x1 =>
      Option.bind (slices_medianAdjacentCmpFunc_api_Row_table_UncoveredKeys_1 data (IntKind.i64.wrap (a + (IntKind.i64.wrap ((IntKind.i64.wrap (Int.tdiv (IntKind.i64.wrap (b - a)) 4)) * 2)))) x1.2.1) fun x2 =>
      Option.bind (slices_medianAdjacentCmpFunc_api_Row_table_UncoveredKeys_1 data (IntKind.i64.wrap (a + (IntKind.i64.wrap ((IntKind.i64.wrap (Int.tdiv (IntKind.i64.wrap (b - a)) 4)) * 3)))) x2.2.1) fun x3 =>
      Option.bind (slices_medianCmpFunc_api_Row_table_UncoveredKeys_1 data x1.1 x2.1 x3.1 x3.2.1) fun x4 =>
      kJ0 x4.2.1 x4.1)
      (Option.bind (slices_medianCmpFunc_api_Row_table_UncoveredKeys_1 data (IntKind.i64.wrap (a + (IntKind.i64.wrap ((IntKind.i64.wrap (Int.tdiv (IntKind.i64.wrap (b - a)) 4)) * 1)))) (IntKind.i64.wrap (a + (IntKind.i64.wrap ((IntKind.i64.wrap (Int.tdiv (IntKind.i64.wrap (b - a)) 4)) * 2)))) (IntKind.i64.wrap (a + (IntKind.i64.wrap ((IntKind.i64.wrap (Int.tdiv (IntKind.i64.wrap (b - a)) 4)) * 3)))) 0) fun x5 =>
      kJ0 x5.2.1 x5.1))
    (kJ0 0 (IntKind.i64.wrap (a + (IntKind.i64.wrap ((IntKind.i64.wrap (Int.tdiv (IntKind.i64.wrap (b - a)) 4)) * 2)))))
theorem sJ0 (jmp : Tgt → ASt → R) (swaps : Int) (j : Int) : run E jmp fin depth c0 .ret (tJ0 swaps j) =
    SJ0 swaps j := by kernel_rfl
theorem se (jmp : Tgt → ASt → R) (x : (argTy ps).den) : run E jmp fin depth (bodyOf Try.f84) .ret (entryFrom 0 ps x) =
    Se (fun swaps j => jmp (.code c0 .ret) (tJ0 swaps j)) x.1 x.2.1 x.2.2.1 := by kernel_rfl
noncomputable def J0 (swaps : Int) (j : Int) : R := lim E fin (.code c0 .ret) (tJ0 swaps j)
theorem J0_eq (swaps : Int) (j : Int) : J0 swaps j = SJ0 swaps j :=
  (lim_eq (.code c0 .ret) (tJ0 swaps j)).trans (sJ0 (lim E fin) swaps j)
end slices_choosePivotCmpFunc_api_Row_table_UncoveredKeys_1
noncomputable def slices_choosePivotCmpFunc_api_Row_table_UncoveredKeys_1 (data : List api_RowV) (a : Int) (b : Int) : slices_choosePivotCmpFunc_api_Row_table_UncoveredKeys_1.R :=
  slices_choosePivotCmpFunc_api_Row_table_UncoveredKeys_1.Se slices_choosePivotCmpFunc_api_Row_table_UncoveredKeys_1.J0 data a b
noncomputable def slices_choosePivotCmpFunc_api_Row_table_UncoveredKeys_1.sig : Sig := ⟨slices_choosePivotCmpFunc_api_Row_table_UncoveredKeys_1.ps, slices_choosePivotCmpFunc_api_Row_table_UncoveredKeys_1.rs, fun x => slices_choosePivotCmpFunc_api_Row_table_UncoveredKeys_1 x.1 x.2.1 x.2.2.1⟩
theorem slices_choosePivotCmpFunc_api_Row_table_UncoveredKeys_1.ok : CallOK Try.prog 84 slices_choosePivotCmpFunc_api_Row_table_UncoveredKeys_1.sig :=
  callOK_of_lim (E := slices_choosePivotCmpFunc_api_Row_table_UncoveredKeys_1.E) mixed tt_ok (ctxOk_cons (ctxOk_cons ctxOk_nil slices_medianCmpFunc_api_Row_table_UncoveredKeys_1.ok Try.func96 (by kernel_rfl) (by kernel_rfl)) slices_medianAdjacentCmpFunc_api_Row_table_UncoveredKeys_1.ok Try.func95 (by kernel_rfl) (by kernel_rfl)) Try.func84 (by kernel_rfl : Try.f84.body = some (bodyOf Try.f84)) Try.ntmps84 (of_decide_eq_true (by kernel_rfl)) (of_decide_eq_true (by kernel_rfl))
    fun x y h => ((lim_eq (.code (bodyOf Try.f84) .ret) (entryFrom 0 slices_choosePivotCmpFunc_api_Row_table_UncoveredKeys_1.ps x)).trans (slices_choosePivotCmpFunc_api_Row_table_UncoveredKeys_1.se (lim slices_choosePivotCmpFunc_api_Row_table_UncoveredKeys_1.E slices_choosePivotCmpFunc_api_Row_table_UncoveredKeys_1.fin) x)).trans h
theorem slices_choosePivotCmpFunc_api_Row_table_UncoveredKeys_1.val (x : (argTy slices_choosePivotCmpFunc_api_Row_table_UncoveredKeys_1.ps).den) : lim slices_choosePivotCmpFunc_api_Row_table_UncoveredKeys_1.E slices_choosePivotCmpFunc_api_Row_table_UncoveredKeys_1.fin (.code (bodyOf Try.f84) .ret) (entryFrom 0 slices_choosePivotCmpFunc_api_Row_table_UncoveredKeys_1.ps x) = slices_choosePivotCmpFunc_api_Row_table_UncoveredKeys_1.sig.run x :=
  (lim_eq (.code (bodyOf Try.f84) .ret) (entryFrom 0 slices_choosePivotCmpFunc_api_Row_table_UncoveredKeys_1.ps x)).trans (slices_choosePivotCmpFunc_api_Row_table_UncoveredKeys_1.se (lim slices_choosePivotCmpFunc_api_Row_table_UncoveredKeys_1.E slices_choosePivotCmpFunc_api_Row_table_UncoveredKeys_1.fin) x)
noncomputable def slices_choosePivotCmpFunc_api_Row_table_UncoveredKeys_1.ctxc (n : Nat) : List (Nat × Sig) := [(95, slices_medianAdjacentCmpFunc_api_Row_table_UncoveredKeys_1.sigc n), (96, slices_medianCmpFunc_api_Row_table_UncoveredKeys_1.sigc n)]
noncomputable def slices_choosePivotCmpFunc_api_Row_table_UncoveredKeys_1.sigc (n : Nat) : Sig := ⟨slices_choosePivotCmpFunc_api_Row_table_UncoveredKeys_1.ps, slices_choosePivotCmpFunc_api_Row_table_UncoveredKeys_1.rs, fun x => runs (withCtx slices_choosePivotCmpFunc_api_Row_table_UncoveredKeys_1.E (slices_choosePivotCmpFunc_api_Row_table_UncoveredKeys_1.ctxc n)) slices_choosePivotCmpFunc_api_Row_table_UncoveredKeys_1.fin n (.code (bodyOf Try.f84) .ret) (entryFrom 0 slices_choosePivotCmpFunc_api_Row_table_UncoveredKeys_1.ps x)⟩
theorem slices_choosePivotCmpFunc_api_Row_table_UncoveredKeys_1.sigc_le (n : Nat) : ∀ x y, (slices_choosePivotCmpFunc_api_Row_table_UncoveredKeys_1.sigc n).run x = some y → slices_choosePivotCmpFunc_api_Row_table_UncoveredKeys_1.sig.run x = some y :=
  fun x y h => (slices_choosePivotCmpFunc_api_Row_table_UncoveredKeys_1.val x).symm.trans (runs_lim (E := slices_choosePivotCmpFunc_api_Row_table_UncoveredKeys_1.E) (c := slices_choosePivotCmpFunc_api_Row_table_UncoveredKeys_1.ctxc n) (ctxLe_cons (ctxLe_cons ctxLe_nil (slices_medianCmpFunc_api_Row_table_UncoveredKeys_1.sigc_le n)) (slices_medianAdjacentCmpFunc_api_Row_table_UncoveredKeys_1.sigc_le n)) h)
namespace slices_reverseRangeCmpFunc_api_Row_table_UncoveredKeys_1
abbrev ps : List PM := [.own api_Row, .pure (.int .i64), .pure (.int .i64), .fn 41]
abbrev rs : List RM := []
abbrev R : Type := Option (List api_RowV × Unit)
noncomputable def E : Env := { tt := tt, ctx := [], nt := 34, ann := [(1000002, [(0, .keep), (8, .keep), (9, .keep)])] }
noncomputable def c0 : Code := sub [1, 1, 0, 0] (bodyOf Try.f85)
noncomputable def K3 : Kont := .blk 0 .ret
noncomputable def fin : ASt → R := Kret E Try.f85.results.toList ps rs
def tL0 (i : Int) (j : Int) (data_P : List api_RowV) : ASt := ⟨[(9, .one (.val (.int .i64) j)), (8, .one (.val (.int .i64) i)), (0, .one (.own 10000))], [(10000, some ⟨.fixed, api_Row, data_P⟩)]⟩
noncomputable def SL0 (kL0 : Int → Int → (List api_RowV) → R) (i : Int) (j : Int) (data_P : List api_RowV) : R :=
  cond (decide (i < j))
    (cond (decide (0 ≤ j) && decide (j < (data_P.length : Int)))
      (cond (decide (0 ≤ i) && decide (i < (data_P.length : Int)))
        (cond (decide (0 ≤ i) && decide (i < (data_P.length : Int)))
          (cond (decide (0 ≤ j) && decide (j < ((data_P.set i.toNat (data_P.getD j.toNat ((0, 0, ()), 0, 0, 0, ()))).length : Int)))
            (kL0 (IntKind.i64.wrap (i + 1)) (IntKind.i64.wrap (j - 1)) ((data_P.set i.toNat (data_P.getD j.toNat ((0, 0, ()), 0, 0, 0, ()))).set j.toNat (data_P.getD i.toNat ((0, 0, ()), 0, 0, 0, ()))))
            none)
          none)
        none)
      none)
    (some (data_P, ()))
noncomputable def Se (kL0 : Int → Int → (List api_RowV) → R) (data : List api_RowV) (a : Int) (b : Int) : R :=
  kL0 a (IntKind.i64.wrap (b - 1)) data
theorem sL0 (jmp : Tgt → ASt → R) (i : Int) (j : Int) (data_P : List api_RowV) : run E jmp fin depth c0 (.loop c0 K3) (tL0 i j data_P) =
    SL0 (fun i j data_P => jmp (.loop c0 K3) (tL0 i j data_P)) i j data_P := by kernel_rfl
theorem se (jmp : Tgt → ASt → R) (x : (argTy ps).den) : run E jmp fin depth (bodyOf Try.f85) .ret (entryFrom 0 ps x) =
    Se (fun i j data_P => jmp (.loop c0 K3) (tL0 i j data_P)) x.1 x.2.1 x.2.2.1 := by kernel_rfl
noncomputable def L0 (i : Int) (j : Int) (data_P : List api_RowV) : R := lim E fin (.loop c0 K3) (tL0 i j data_P)
theorem L0_eq (i : Int) (j : Int) (data_P : List api_RowV) : L0 i j data_P = SL0 L0 i j data_P :=
  (lim_eq (.loop c0 K3) (tL0 i j data_P)).trans (sL0 (lim E fin) i j data_P)
end slices_reverseRangeCmpFunc_api_Row_table_UncoveredKeys_1
noncomputable def slices_reverseRangeCmpFunc_api_Row_table_UncoveredKeys_1 (data : List api_RowV) (a : Int) (b : Int) : slices_reverseRangeCmpFunc_api_Row_table_UncoveredKeys_1.R :=
  slices_reverseRangeCmpFunc_api_Row_table_UncoveredKeys_1.Se slices_reverseRangeCmpFunc_api_Row_table_UncoveredKeys_1.L0 data a b
noncomputable def slices_reverseRangeCmpFunc_api_Row_table_UncoveredKeys_1.sig : Sig := ⟨slices_reverseRangeCmpFunc_api_Row_table_UncoveredKeys_1.ps, slices_reverseRangeCmpFunc_api_Row_table_UncoveredKeys_1.rs, fun x => slices_reverseRangeCmpFunc_api_Row_table_UncoveredKeys_1 x.1 x.2.1 x.2.2.1⟩
theorem slices_reverseRangeCmpFunc_api_Row_table_UncoveredKeys_1.ok : CallOK Try.prog 85 slices_reverseRangeCmpFunc_api_Row_table_UncoveredKeys_1.sig :=
  callOK_of_lim (E := slices_reverseRangeCmpFunc_api_Row_table_UncoveredKeys_1.E) mixed tt_ok ctxOk_nil Try.func85 (by kernel_rfl : Try.f85.body = some (bodyOf Try.f85)) Try.ntmps85 (of_decide_eq_true (by kernel_rfl)) (of_decide_eq_true (by kernel_rfl))
    fun x y h => ((lim_eq (.code (bodyOf Try.f85) .ret) (entryFrom 0 slices_reverseRangeCmpFunc_api_Row_table_UncoveredKeys_1.ps x)).trans (slices_reverseRangeCmpFunc_api_Row_table_UncoveredKeys_1.se (lim slices_reverseRangeCmpFunc_api_Row_table_UncoveredKeys_1.E slices_reverseRangeCmpFunc_api_Row_table_UncoveredKeys_1.fin) x)).trans h
theorem slices_reverseRangeCmpFunc_api_Row_table_UncoveredKeys_1.val (x : (argTy slices_reverseRangeCmpFunc_api_Row_table_UncoveredKeys_1.ps).den) : lim slices_reverseRangeCmpFunc_api_Row_table_UncoveredKeys_1.E slices_reverseRangeCmpFunc_api_Row_table_UncoveredKeys_1.fin (.code (bodyOf Try.f85) .ret) (entryFrom 0 slices_reverseRangeCmpFunc_api_Row_table_UncoveredKeys_1.ps x) = slices_reverseRangeCmpFunc_api_Row_table_UncoveredKeys_1.sig.run x :=
  (lim_eq (.code (bodyOf Try.f85) .ret) (entryFrom 0 slices_reverseRangeCmpFunc_api_Row_table_UncoveredKeys_1.ps x)).trans (slices_reverseRangeCmpFunc_api_Row_table_UncoveredKeys_1.se (lim slices_reverseRangeCmpFunc_api_Row_table_UncoveredKeys_1.E slices_reverseRangeCmpFunc_api_Row_table_UncoveredKeys_1.fin) x)
noncomputable def slices_reverseRangeCmpFunc_api_Row_table_UncoveredKeys_1.ctxc (n : Nat) : List (Nat × Sig) := []
noncomputable def slices_reverseRangeCmpFunc_api_Row_table_UncoveredKeys_1.sigc (n : Nat) : Sig := ⟨slices_reverseRangeCmpFunc_api_Row_table_UncoveredKeys_1.ps, slices_reverseRangeCmpFunc_api_Row_table_UncoveredKeys_1.rs, fun x => runs (withCtx slices_reverseRangeCmpFunc_api_Row_table_UncoveredKeys_1.E (slices_reverseRangeCmpFunc_api_Row_table_UncoveredKeys_1.ctxc n)) slices_reverseRangeCmpFunc_api_Row_table_UncoveredKeys_1.fin n (.code (bodyOf Try.f85) .ret) (entryFrom 0 slices_reverseRangeCmpFunc_api_Row_table_UncoveredKeys_1.ps x)⟩
theorem slices_reverseRangeCmpFunc_api_Row_table_UncoveredKeys_1.sigc_le (n : Nat) : ∀ x y, (slices_reverseRangeCmpFunc_api_Row_table_UncoveredKeys_1.sigc n).run x = some y → slices_reverseRangeCmpFunc_api_Row_table_UncoveredKeys_1.sig.run x = some y :=
  fun x y h => (slices_reverseRangeCmpFunc_api_Row_table_UncoveredKeys_1.val x).symm.trans (runs_lim (E := slices_reverseRangeCmpFunc_api_Row_table_UncoveredKeys_1.E) (c := slices_reverseRangeCmpFunc_api_Row_table_UncoveredKeys_1.ctxc n) ctxLe_nil h)
namespace slices_partialInsertionSortCmpFunc_api_Row_table_UncoveredKeys_1
abbrev ps : List PM := [.own api_Row, .pure (.int .i64), .pure (.int .i64), .fn 41]
abbrev rs : List RM := [.pure .bool]
abbrev R : Type := Option (Bool × List api_RowV × Unit)
noncomputable def E : Env := { tt := tt, ctx := [(41, table_UncoveredKeys_1.sig)], nt := 141, ann := [(1000003, [(0, .keep), (1, .keep), (2, .keep), (3, .keep), (9, .keep), (10, .keep)]), (7, [(0, .keep), (1, .keep), (2, .keep), (3, .keep), (9, .keep), (10, .keep)]), (1000005, [(0, .keep), (1, .keep), (2, .keep), (3, .keep), (9, .keep), (10, .keep)]), (18, [(0, .keep), (1, .keep), (2, .keep), (3, .keep), (9, .keep), (10, .keep)]), (1000014, [(0, .keep), (1, .keep), (2, .keep), (3, .keep), (9, .keep), (10, .keep), (11, .keep)]), (1000020, [(0, .keep), (1, .keep), (2, .keep), (3, .keep), (9, .keep), (10, .keep), (12, .keep)])] }
noncomputable def c0 : Code := sub [1, 1, 1] (bodyOf Try.f86)
noncomputable def c1 : Code := sub [1, 1, 0, 1, 0, 0] (bodyOf Try.f86)
noncomputable def c2 : Code := sub [1, 1, 0, 1, 0, 0, 1, 1] (bodyOf Try.f86)
noncomputable def c3 : Code := sub [1, 1, 0, 1, 0, 0, 1, 0, 0, 1] (bodyOf Try.f86)
noncomputable def c4 : Code := sub [1, 1, 0, 1, 0, 0, 1, 0, 0, 1, 1, 1, 1, 1] (bodyOf Try.f86)
noncomputable def c5 : Code := sub [1, 1, 0, 1, 0, 0, 1, 0, 0, 0, 0, 0] (bodyOf Try.f86)
noncomputable def c6 : Code := sub [1, 1, 0, 1, 0, 0, 1, 0, 0, 1, 1, 1, 1, 0, 1, 0, 1, 0, 0] (bodyOf Try.f86)
noncomputable def c7 : Code := sub [1, 1, 0, 1, 0, 0, 1, 0, 0, 1, 1, 1, 1, 1, 1, 0, 1, 0, 0] (bodyOf Try.f86)
noncomputable def K3 : Kont := .seq c0 .ret
noncomputable def K5 : Kont := .blk 0 K3
noncomputable def K6 : Kont := .loop c1 K5
noncomputable def K9 : Kont := .seq c2 K6
noncomputable def K10 : Kont := .blk 1 K9
noncomputable def K11 : Kont := .seq c3 K10
noncomputable def K12 : Kont := .blk 2 K11
noncomputable def K25 : Kont := .seq c4 K10
noncomputable def K28 : Kont := .blk 4 K25
noncomputable def K32 : Kont := .blk 6 K10
noncomputable def fin : ASt → R := Kret E Try.f86.results.toList ps rs
def tL0 (a : Int) (b : Int) (i : Int) (j : Int) (data_P : List api_RowV) : ASt := ⟨[(10, .one (.val (.int .i64) j)), (9, .one (.val (.int .i64) i)), (3, .one (.fn 41 [])), (2, .one (.val (.int .i64) b)), (1, .one (.val (.int .i64) a)), (0, .one (.own 10000))], [(10000, some ⟨.fixed, api_Row, data_P⟩)]⟩
def tJ1 (a : Int) (b : Int) (i : Int) (j : Int) (data_P : List api_RowV) : ASt := ⟨[(10, .one (.val (.int .i64) j)), (9, .one (.val (.int .i64) i)), (3, .one (.fn 41 [])), (2, .one (.val (.int .i64) b)), (1, .one (.val (.int .i64) a)), (0, .one (.own 10000))], [(10000, some ⟨.fixed, api_Row, data_P⟩)]⟩
def tL2 (a : Int) (b : Int) (i : Int) (j : Int) (data_P : List api_RowV) : ASt := ⟨[(10, .one (.val (.int .i64) j)), (9, .one (.val (.int .i64) i)), (3, .one (.fn 41 [])), (2, .one (.val (.int .i64) b)), (1, .one (.val (.int .i64) a)), (0, .one (.own 10000))], [(10000, some ⟨.fixed, api_Row, data_P⟩)]⟩
def tJ3 (a : Int) (b : Int) (i : Int) (j : Int) (data_P : List api_RowV) : ASt := ⟨[(10, .one (.val (.int .i64) j)), (9, .one (.val (.int .i64) i)), (3, .one (.fn 41 [])), (2, .one (.val (.int .i64) b)), (1, .one (.val (.int .i64) a)), (0, .one (.own 10000))], [(10000, some ⟨.fixed, api_Row, data_P⟩)]⟩
def tL4 (a : Int) (b : Int) (i : Int) (j : Int) (j_11 : Int) (data_P : List api_RowV) : ASt := ⟨[(11, .one (.val (.int .i64) j_11)), (10, .one (.val (.int .i64) j)), (9, .one (.val (.int .i64) i)), (3, .one (.fn 41 [])), (2, .one (.val (.int .i64) b)), (1, .one (.val (.int .i64) a)), (0, .one (.own 10000))], [(10000, some ⟨.fixed, api_Row, data_P⟩)]⟩
def tL5 (a : Int) (b : Int) (i : Int) (j : Int) (j_12 : Int) (data_P : List api_RowV) : ASt := ⟨[(12, .one (.val (.int .i64) j_12)), (10, .one (.val (.int .i64) j)), (9, .one (.val (.int .i64) i)), (3, .one (.fn 41 [])), (2, .one (.val (.int .i64) b)), (1, .one (.val (.int .i64) a)), (0, .one (.own 10000))], [(10000, some ⟨.fixed, api_Row, data_P⟩)]⟩
noncomputable def SL0 (kL2 : Int → Int → Int → Int → (List api_RowV) → R) (a : Int) (b : Int) (i : Int) (j : Int) (data_P : List api_RowV) : R :=
  cond (decide (j < 5))
    (kL2 a b i j data_P)
    (some (false, data_P, ()))
noncomputable def SJ1 (kL4 : Int → Int → Int → Int → Int → (List api_RowV) → R) (kJ3 : Int → Int → Int → Int → (List api_RowV) → R) (a : Int) (b : Int) (i : Int) (j : Int) (data_P : List api_RowV) : R :=
  cond (i == b)
    (some (true, data_P, ()))
    (cond (decide ((IntKind.i64.wrap (b - a)) < 50))
      (some (false, data_P, ()))
      (cond (decide (0 ≤ IntKind.i64.wrap (i - 1)) && decide (IntKind.i64.wrap (i - 1) < (data_P.length : Int)))
        (cond (decide (0 ≤ i) && decide (i < (data_P.length : Int)))
          (cond (decide (0 ≤ i) && decide (i < (data_P.length : Int)))
            (cond (decide (0 ≤ IntKind.i64.wrap (i - 1)) && decide (IntKind.i64.wrap (i - 1) < ((data_P.set i.toNat (data_P.getD ((IntKind.i64.wrap (i - 1)).toNat) ((0, 0, ()), 0, 0, 0, ()))).length : Int)))
              (cond (decide ((IntKind.i64.wrap (i - a)) ≥ 2))
                (kL4 a b i j (IntKind.i64.wrap (i - 1)) ((data_P.set i.toNat (data_P.getD ((IntKind.i64.wrap (i - 1)).toNat) ((0, 0, ()), 0, 0, 0, ()))).set ((IntKind.i64.wrap (i - 1)).toNat) (data_P.getD i.toNat ((0, 0, ()), 0, 0, 0, ()))))
                (kJ3 a b i j ((data_P.set i.toNat (data_P.getD ((IntKind.i64.wrap (i - 1)).toNat) ((0, 0, ()), 0, 0, 0, ()))).set ((IntKind.i64.wrap (i - 1)).toNat) (data_P.getD i.toNat ((0, 0, ()), 0, 0, 0, ())))))
              none)
            none)
          none)
        none))
noncomputable def SL2 (kL2 : Int → Int → Int → Int → (List api_RowV) → R) (kJ1 : Int → Int → Int → Int → (List api_RowV) → R) (a : Int) (b : Int) (i : Int) (j : Int) (data_P : List api_RowV) : R :=
  cond (decide (i < b))
    (cond (decide (0 ≤ i) && decide (i < (data_P.length : Int)))
      (cond (decide (0 ≤ IntKind.i64.wrap (i - 1)) && decide (IntKind.i64.wrap (i - 1) < (data_P.length : Int)))
        (Option.bind (table_UncoveredKeys_1 (data_P.getD i.toNat ((0, 0, ()), 0, 0, 0, ())) (data_P.getD ((IntKind.i64.wrap (i - 1)).toNat) ((0, 0, ()), 0, 0, 0, ()))) fun x1 =>
        cond (!(decide (x1.1 < 0)))
          (kL2 a b (IntKind.i64.wrap (i + 1)) j data_P)
          (kJ1 a b i j data_P))
        none)
      none)
    (kJ1 a b i j data_P)
noncomputable def SJ3 (kL5 : Int → Int → Int → Int → Int → (List api_RowV) → R) (kL0 : Int → Int → Int → Int → (List api_RowV) → R) (a : Int) (b : Int) (i : Int) (j : Int) (data_P : List api_RowV) : R :=
  cond (decide ((IntKind.i64.wrap (b - i)) ≥ 2))
    (kL5 a b i j (IntKind.i64.wrap (i + 1)) data_P)
    (kL0 a b i (IntKind.i64.wrap (j + 1)) data_P)
noncomputable def SL4 (kJ3 : Int → Int → Int → Int → (List api_RowV) → R) (kL4 : Int → Int → Int → Int → Int → (List api_RowV) → R) (a : Int) (b : Int) (i : Int) (j : Int) (j_11 : Int) (data_P : List api_RowV) : R :=
  cond (decide (j_11 ≥ 1))
    (cond (decide (0 ≤ j_11) && decide (j_11 < (data_P.length : Int)))
      (cond (decide (0 ≤ IntKind.i64.wrap (j_11 - 1)) && decide (IntKind.i64.wrap (j_11 - 1) < (data_P.length : Int)))
        (Option.bind (table_UncoveredKeys_1 (data_P.getD j_11.toNat ((0, 0, ()), 0, 0, 0, ())) (data_P.getD ((IntKind.i64.wrap (j_11 - 1)).toNat) ((0, 0, ()), 0, 0, 0, ()))) fun x1 =>
        cond (!(decide (x1.1 < 0)))
          (kJ3 a b i j data_P)
          (cond (decide (0 ≤ IntKind.i64.wrap (j_11 - 1)) && decide (IntKind.i64.wrap (j_11 - 1) < (data_P.length : Int)))
            (cond (decide (0 ≤ j_11) && decide (j_11 < (data_P.length : Int)))
              (cond (decide (0 ≤ j_11) && decide (j_11 < (data_P.length : Int)))
                (cond (decide (0 ≤ IntKind.i64.wrap (j_11 - 1)) && decide (IntKind.i64.wrap (j_11 - 1) < ((data_P.set j_11.toNat (data_P.getD ((IntKind.i64.wrap (j_11 - 1)).toNat) ((0, 0, ()), 0, 0, 0, ()))).length : Int)))
                  (kL4 a b i j (IntKind.i64.wrap (j_11 - 1)) ((data_P.set j_11.toNat (data_P.getD ((IntKind.i64.wrap (j_11 - 1)).toNat) ((0, 0, ()), 0, 0, 0, ()))).set ((IntKind.i64.wrap (j_11 - 1)).toNat) (data_P.getD j_11.toNat ((0, 0, ()), 0, 0, 0, ()))))
                  none)
                none)
              none)
            none))
        none)
      none)
    (kJ3 a b i j data_P)
noncomputable def SL5 (kL0 : Int → Int → Int → Int → (List api_RowV) → R) (kL5 : Int → Int → Int → Int → Int → (List api_RowV) → R) (a : Int) (b : Int) (i : Int) (j : Int) (j_12 : Int) (data_P : List api_RowV) : R :=
  cond (decide (j_12 < b))
    (cond (decide (0 ≤ j_12) && decide (j_12 < (data_P.length : Int)))
      (cond (decide (0 ≤ IntKind.i64.wrap (j_12 - 1)) && decide (IntKind.i64.wrap (j_12 - 1) < (data_P.length : Int)))
        (Option.bind (table_UncoveredKeys_1 (data_P.getD j_12.toNat ((0, 0, ()), 0, 0, 0, ())) (data_P.getD ((IntKind.i64.wrap (j_12 - 1)).toNat) ((0, 0, ()), 0, 0, 0, ()))) fun x1 =>
        cond (!(decide (x1.1 < 0)))
          (kL0 a b i (IntKind.i64.wrap (j + 1)) data_P)
          (cond (decide (0 ≤ IntKind.i64.wrap (j_12 - 1)) && decide (IntKind.i64.wrap (j_12 - 1) < (data_P.length : Int)))
            (cond (decide (0 ≤ j_12) && decide (j_12 < (data_P.length : Int)))
              (cond (decide (0 ≤ j_12) && decide (j_12 < (data_P.length : Int)))
                (cond (decide (0 ≤ IntKind.i64.wrap (j_12 - 1)) && decide (IntKind.i64.wrap (j_12 - 1) < ((data_P.set j_12.toNat (data_P.getD ((IntKind.i64.wrap (j_12 - 1)).toNat) ((0, 0, ()), 0, 0, 0, ()))).length : Int)))
                  (kL5 a b i j (IntKind.i64.wrap (j_12 + 1)) ((data_P.set j_12.toNat (data_P.getD ((IntKind.i64.wrap (j_12 - 1)).toNat) ((0, 0, ()), 0, 0, 0, ()))).set ((IntKind.i64.wrap (j_12 - 1)).toNat) (data_P.getD j_12.toNat ((0, 0, ()), 0, 0, 0, ()))))
                  none)
                none)
              none)
            none))
        none)
      none)
    (kL0 a b i (IntKind.i64.wrap (j + 1)) data_P)
noncomputable def Se (kL0 : Int → Int → Int → Int → (List api_RowV) → R) (data : List api_RowV) (a : Int) (b : Int) : R :=
  kL0 a b (IntKind.i64.wrap (a + 1)) 0 data
theorem sL0 (jmp : Tgt → ASt → R) (a : Int) (b : Int) (i : Int) (j : Int) (data_P : List api_RowV) : run E jmp fin depth c1 (.loop c1 K5) (tL0 a b i j data_P) =
    SL0 (fun a b i j data_P => jmp (.loop c5 K12) (tL2 a b i j data_P)) a b i j data_P := by kernel_rfl
theorem sJ1 (jmp : Tgt → ASt → R) (a : Int) (b : Int) (i : Int) (j : Int) (data_P : List api_RowV) : run E jmp fin depth c3 K10 (tJ1 a b i j data_P) =
    SJ1 (fun a b i j j_11 data_P => jmp (.loop c6 K28) (tL4 a b i j j_11 data_P)) (fun a b i j data_P => jmp (.code c4 K10) (tJ3 a b i j data_P)) a b i j data_P := by kernel_rfl
theorem sL2 (jmp : Tgt → ASt → R) (a : Int) (b : Int) (i : Int) (j : Int) (data_P : List api_RowV) : run E jmp fin depth c5 (.loop c5 K12) (tL2 a b i j data_P) =
    SL2 (fun a b i j data_P => jmp (.loop c5 K12) (tL2 a b i j data_P)) (fun a b i j data_P => jmp (.code c3 K10) (tJ1 a b i j data_P)) a b i j data_P := by kernel_rfl
theorem sJ3 (jmp : Tgt → ASt → R) (a : Int) (b : Int) (i : Int) (j : Int) (data_P : List api_RowV) : run E jmp fin depth c4 K10 (tJ3 a b i j data_P) =
    SJ3 (fun a b i j j_12 data_P => jmp (.loop c7 K32) (tL5 a b i j j_12 data_P)) (fun a b i j data_P => jmp (.loop c1 K5) (tL0 a b i j data_P)) a b i j data_P := by kernel_rfl
theorem sL4 (jmp : Tgt → ASt → R) (a : Int) (b : Int) (i : Int) (j : Int) (j_11 : Int) (data_P : List api_RowV) : run E jmp fin depth c6 (.loop c6 K28) (tL4 a b i j j_11 data_P) =
    SL4 (fun a b i j data_P => jmp (.code c4 K10) (tJ3 a b i j data_P)) (fun a b i j j_11 data_P => jmp (.loop c6 K28) (tL4 a b i j j_11 data_P)) a b i j j_11 data_P := by kernel_rfl
theorem sL5 (jmp : Tgt → ASt → R) (a : Int) (b : Int) (i : Int) (j : Int) (j_12 : Int) (data_P : List api_RowV) : run E jmp fin depth c7 (.loop c7 K32) (tL5 a b i j j_12 data_P) =
    SL5 (fun a b i j data_P => jmp (.loop c1 K5) (tL0 a b i j data_P)) (fun a b i j j_12 data_P => jmp (.loop c7 K32) (tL5 a b i j j_12 data_P)) a b i j j_12 data_P := by kernel_rfl
theorem se (jmp : Tgt → ASt → R) (x : (argTy ps).den) : run E jmp fin depth (bodyOf Try.f86) .ret (entryFrom 0 ps x) =
    Se (fun a b i j data_P => jmp (.loop c1 K5) (tL0 a b i j data_P)) x.1 x.2.1 x.2.2.1 := by kernel_rfl
noncomputable def L0 (a : Int) (b : Int) (i : Int) (j : Int) (data_P : List api_RowV) : R := lim E fin (.loop c1 K5) (tL0 a b i j data_P)
noncomputable def J1 (a : Int) (b : Int) (i : Int) (j : Int) (data_P : List api_RowV) : R := lim E fin (.code c3 K10) (tJ1 a b i j data_P)
noncomputable def L2 (a : Int) (b : Int) (i : Int) (j : Int) (data_P : List api_RowV) : R := lim E fin (.loop c5 K12) (tL2 a b i j data_P)
noncomputable def J3 (a : Int) (b : Int) (i : Int) (j : Int) (data_P : List api_RowV) : R := lim E fin (.code c4 K10) (tJ3 a b i j data_P)
noncomputable def L4 (a : Int) (b : Int) (i : Int) (j : Int) (j_11 : Int) (data_P : List api_RowV) : R := lim E fin (.loop c6 K28) (tL4 a b i j j_11 data_P)
noncomputable def L5 (a : Int) (b : Int) (i : Int) (j : Int) (j_12 : Int) (data_P : List api_RowV) : R := lim E fin (.loop c7 K32) (tL5 a b i j j_12 data_P)
theorem L0_eq (a : Int) (b : Int) (i : Int) (j : Int) (data_P : List api_RowV) : L0 a b i j data_P = SL0 L2 a b i j data_P :=
  (lim_eq (.loop c1 K5) (tL0 a b i j data_P)).trans (sL0 (lim E fin) a b i j data_P)
theorem J1_eq (a : Int) (b : Int) (i : Int) (j : Int) (data_P : List api_RowV) : J1 a b i j data_P = SJ1 L4 J3 a b i j data_P :=
  (lim_eq (.code c3 K10) (tJ1 a b i j data_P)).trans (sJ1 (lim E fin) a b i j data_P)
theorem L2_eq (a : Int) (b : Int) (i : Int) (j : Int) (data_P : List api_RowV) : L2 a b i j data_P = SL2 L2 J1 a b i j data_P :=
  (lim_eq (.loop c5 K12) (tL2 a b i j data_P)).trans (sL2 (lim E fin) a b i j data_P)
theorem J3_eq (a : Int) (b : Int) (i : Int) (j : Int) (data_P : List api_RowV) : J3 a b i j data_P = SJ3 L5 L0 a b i j data_P :=
  (lim_eq (.code c4 K10) (tJ3 a b i j data_P)).trans (sJ3 (lim E fin) a b i j data_P)
theorem L4_eq (a : Int) (b : Int) (i : Int) (j : Int) (j_11 : Int) (data_P : List api_RowV) : L4 a b i j j_11 data_P = SL4 J3 L4 a b i j j_11 data_P :=
  (lim_eq (.loop c6 K28) (tL4 a b i j j_11 data_P)).trans (sL4 (lim E fin) a b i j j_11 data_P)
theorem L5_eq (a : Int) (b : Int) (i : Int) (j : Int) (j_12 : Int) (data_P : List api_RowV) : L5 a b i j j_12 data_P = SL5 L0 L5 a b i j j_12 data_P :=
  (lim_eq (.loop c7 K32) (tL5 a b i j j_12 data_P)).trans (sL5 (lim E fin) a b i j j_12 data_P)
end slices_partialInsertionSortCmpFunc_api_Row_table_UncoveredKeys_1
noncomputable def slices_partialInsertionSortCmpFunc_api_Row_table_UncoveredKeys_1 (data : List api_RowV) (a : Int) (b : Int) : slices_partialInsertionSortCmpFunc_api_Row_table_UncoveredKeys_1.R :=
  slices_partialInsertionSortCmpFunc_api_Row_table_UncoveredKeys_1.Se slices_partialInsertionSortCmpFunc_api_Row_table_UncoveredKeys_1.L0 data a b
noncomputable def slices_partialInsertionSortCmpFunc_api_Row_table_UncoveredKeys_1.sig : Sig := ⟨slices_partialInsertionSortCmpFunc_api_Row_table_UncoveredKeys_1.ps, slices_partialInsertionSortCmpFunc_api_Row_table_UncoveredKeys_1.rs, fun x => slices_partialInsertionSortCmpFunc_api_Row_table_UncoveredKeys_1 x.1 x.2.1 x.2.2.1⟩
theorem slices_partialInsertionSortCmpFunc_api_Row_table_UncoveredKeys_1.ok : CallOK Try.prog 86 slices_partialInsertionSortCmpFunc_api_Row_table_UncoveredKeys_1.sig :=
  callOK_of_lim (E := slices_partialInsertionSortCmpFunc_api_Row_table_UncoveredKeys_1.E) mixed tt_ok (ctxOk_cons ctxOk_nil table_UncoveredKeys_1.ok Try.func41 (by kernel_rfl) (by kernel_rfl)) Try.func86 (by kernel_rfl : Try.f86.body = some (bodyOf Try.f86)) Try.ntmps86 (of_decide_eq_true (by kernel_rfl)) (of_decide_eq_true (by kernel_rfl))
    fun x y h => ((lim_eq (.code (bodyOf Try.f86) .ret) (entryFrom 0 slices_partialInsertionSortCmpFunc_api_Row_table_UncoveredKeys_1.ps x)).trans (slices_partialInsertionSortCmpFunc_api_Row_table_UncoveredKeys_1.se (lim slices_partialInsertionSortCmpFunc_api_Row_table_UncoveredKeys_1.E slices_partialInsertionSortCmpFunc_api_Row_table_UncoveredKeys_1.fin) x)).trans h
theorem slices_partialInsertionSortCmpFunc_api_Row_table_UncoveredKeys_1.val (x : (argTy slices_partialInsertionSortCmpFunc_api_Row_table_UncoveredKeys_1.ps).den) : lim slices_partialInsertionSortCmpFunc_api_Row_table_UncoveredKeys_1.E slices_partialInsertionSortCmpFunc_api_Row_table_UncoveredKeys_1.fin (.code (bodyOf Try.f86) .ret) (entryFrom 0 slices_partialInsertionSortCmpFunc_api_Row_table_UncoveredKeys_1.ps x) = slices_partialInsertionSortCmpFunc_api_Row_table_UncoveredKeys_1.sig.run x :=
  (lim_eq (.code (bodyOf Try.f86) .ret) (entryFrom 0 slices_partialInsertionSortCmpFunc_api_Row_table_UncoveredKeys_1.ps x)).trans (slices_partialInsertionSortCmpFunc_api_Row_table_UncoveredKeys_1.se (lim slices_partialInsertionSortCmpFunc_api_Row_table_UncoveredKeys_1.E slices_partialInsertionSortCmpFunc_api_Row_table_UncoveredKeys_1.fin) x)
noncomputable def slices_partialInsertionSortCmpFunc_api_Row_table_UncoveredKeys_1.ctxc (n : Nat) : List (Nat × Sig) := [(41, table_UncoveredKeys_1.sigc n)]
noncomputable def slices_partialInsertionSortCmpFunc_api_Row_table_UncoveredKeys_1.sigc (n : Nat) : Sig := ⟨slices_partialInsertionSortCmpFunc_api_Row_table_UncoveredKeys_1.ps, slices_partialInsertionSortCmpFunc_api_Row_table_UncoveredKeys_1.rs, fun x => runs (withCtx slices_partialInsertionSortCmpFunc_api_Row_table_UncoveredKeys_1.E (slices_partialInsertionSortCmpFunc_api_Row_table_UncoveredKeys_1.ctxc n)) slices_partialInsertionSortCmpFunc_api_Row_table_UncoveredKeys_1.fin n (.code (bodyOf Try.f86) .ret) (entryFrom 0 slices_partialInsertionSortCmpFunc_api_Row_table_UncoveredKeys_1.ps x)⟩
theorem slices_partialInsertionSortCmpFunc_api_Row_table_UncoveredKeys_1.sigc_le (n : Nat) : ∀ x y, (slices_partialInsertionSortCmpFunc_api_Row_table_UncoveredKeys_1.sigc n).run x = some y → slices_partialInsertionSortCmpFunc_api_Row_table_UncoveredKeys_1.sig.run x = some y :=
  fun x y h => (slices_partialInsertionSortCmpFunc_api_Row_table_UncoveredKeys_1.val x).symm.trans (runs_lim (E := slices_partialInsertionSortCmpFunc_api_Row_table_UncoveredKeys_1.E) (c := slices_partialInsertionSortCmpFunc_api_Row_table_UncoveredKeys_1.ctxc n) (ctxLe_cons ctxLe_nil (table_UncoveredKeys_1.sigc_le n)) h)
namespace slices_partitionEqualCmpFunc_api_Row_table_UncoveredKeys_1
abbrev ps : List PM := [.own api_Row, .pure (.int .i64), .pure (.int .i64), .pure (.int .i64), .fn 41]
abbrev rs : List RM := [.pure (.int .i64)]
abbrev R : Type := Option (Int × List api_RowV × Unit)
noncomputable def E : Env := { tt := tt, ctx := [(41, table_UncoveredKeys_1.sig)], nt := 90, ann := [(1000003, [(0, .keep), (1, .keep), (4, .keep), (11, .keep), (12, .keep)]), (5, [(0, .keep), (1, .keep), (4, .keep), (11, .keep), (12, .keep)]), (1000003, [(0, .keep), (1, .keep), (4, .keep), (11, .keep), (12, .keep)]), (7, [(0, .keep), (1, .keep), (4, .keep), (11, .keep), (12, .keep)]), (1000005, [(0, .keep), (1, .keep), (4, .keep), (11, .keep), (12, .keep)])] }
noncomputable def c0 : Code := sub [1, 1, 1, 1] (bodyOf Try.f87)
noncomputable def c1 : Code := sub [1, 1, 1, 0, 0, 0] (bodyOf Try.f87)
noncomputable def c2 : Code := sub [1, 1, 1, 0, 0, 0, 0, 1] (bodyOf Try.f87)
noncomputable def c3 : Code := sub [1, 1, 1, 0, 0, 0, 0, 1, 1] (bodyOf Try.f87)
noncomputable def c4 : Code := sub [1, 1, 1, 0, 0, 0, 0, 0, 0, 0] (bodyOf Try.f87)
noncomputable def c5 : Code := sub [1, 1, 1, 0, 0, 0, 0, 1, 0, 0, 0] (bodyOf Try.f87)
noncomputable def K4 : Kont := .seq c0 .ret
noncomputable def K5 : Kont := .blk 0 K4
noncomputable def K6 : Kont := .loop c1 K5
noncomputable def K7 : Kont := .blk 1 K6
noncomputable def K8 : Kont := .seq c2 K7
noncomputable def K9 : Kont := .blk 2 K8
noncomputable def K14 : Kont := .seq c3 K7
noncomputable def K15 : Kont := .blk 4 K14
noncomputable def fin : ASt → R := Kret E Try.f87.results.toList ps rs
def tL0 (a : Int) (i : Int) (j : Int) (data_P : List api_RowV) : ASt := ⟨[(12, .one (.val (.int .i64) j)), (11, .one (.val (.int .i64) i)), (4, .one (.fn 41 [])), (1, .one (.val (.int .i64) a)), (0, .one (.own 10000))], [(10000, some ⟨.fixed, api_Row, data_P⟩)]⟩
def tJ1 (a : Int) (i : Int) (j : Int) (data_P : List api_RowV) : ASt := ⟨[(12, .one (.val (.int .i64) j)), (11, .one (.val (.int .i64) i)), (4, .one (.fn 41 [])), (1, .one (.val (.int .i64) a)), (0, .one (.own 10000))], [(10000, some ⟨.fixed, api_Row, data_P⟩)]⟩
def tL2 (a : Int) (i : Int) (j : Int) (data_P : List api_RowV) : ASt := ⟨[(12, .one (.val (.int .i64) j)), (11, .one (.val (.int .i64) i)), (4, .one (.fn 41 [])), (1, .one (.val (.int .i64) a)), (0, .one (.own 10000))], [(10000, some ⟨.fixed, api_Row, data_P⟩)]⟩
def tJ3 (a : Int) (i : Int) (j : Int) (data_P : List api_RowV) : ASt := ⟨[(12, .one (.val (.int .i64) j)), (11, .one (.val (.int .i64) i)), (4, .one (.fn 41 [])), (1, .one (.val (.int .i64) a)), (0, .one (.own 10000))], [(10000, some ⟨.fixed, api_Row, data_P⟩)]⟩
def tL4 (a : Int) (i : Int) (j : Int) (data_P : List api_RowV) : ASt := ⟨[(12, .one (.val (.int .i64) j)), (11, .one (.val (.int .i64) i)), (4, .one (.fn 41 [])), (1, .one (.val (.int .i64) a)), (0, .one (.own 10000))], [(10000, some ⟨.fixed, api_Row, data_P⟩)]⟩
noncomputable def SL0 (kL2 : Int → Int → Int → (List api_RowV) → R) (a : Int) (i : Int) (j : Int) (data_P : List api_RowV) : R :=
  kL2 a i j data_P
noncomputable def SJ1 (kL4 : Int → Int → Int → (List api_RowV) → R) (a : Int) (i : Int) (j : Int) (data_P : List api_RowV) : R :=
  kL4 a i j data_P
noncomputable def SL2 (kL2 : Int → Int → Int → (List api_RowV) → R) (kJ1 : Int → Int → Int → (List api_RowV) → R) (a : Int) (i : Int) (j : Int) (data_P : List api_RowV) : R :=
  cond (decide (i ≤ j))
    (cond (decide (0 ≤ a) && decide (a < (data_P.length : Int)))
      (cond (decide (0 ≤ i) && decide (i < (data_P.length : Int)))
        (Option.bind (table_UncoveredKeys_1 (data_P.getD a.toNat ((0, 0, ()), 0, 0, 0, ())) (data_P.getD i.toNat ((0, 0, ()), 0, 0, 0, ()))) fun x1 =>
        cond (!(decide (x1.1 < 0)))
          (kL2 a (IntKind.i64.wrap (i + 1)) j data_P)
          (kJ1 a i j data_P))
        none)
      none)
    (kJ1 a i j data_P)
noncomputable def SJ3 (kL0 : Int → Int → Int → (List api_RowV) → R) (a : Int) (i : Int) (j : Int) (data_P : List api_RowV) : R :=
  cond (decide (i > j))
    (some (i, data_P, ()))
    (cond (decide (0 ≤ j) && decide (j < (data_P.length : Int)))
      (cond (decide (0 ≤ i) && decide (i < (data_P.length : Int)))
        (cond (decide (0 ≤ i) && decide (i < (data_P.length : Int)))
          (cond (decide (0 ≤ j) && decide (j < ((data_P.set i.toNat (data_P.getD j.toNat ((0, 0, ()), 0, 0, 0, ()))).length : Int)))
            (kL0 a (IntKind.i64.wrap (i + 1)) (IntKind.i64.wrap (j - 1)) ((data_P.set i.toNat (data_P.getD j.toNat ((0, 0, ()), 0, 0, 0, ()))).set j.toNat (data_P.getD i.toNat ((0, 0, ()), 0, 0, 0, ()))))
            none)
          none)
        none)
      none)
noncomputable def SL4 (kL4 : Int → Int → Int → (List api_RowV) → R) (kJ3 : Int → Int → Int → (List api_RowV) → R) (a : Int) (i : Int) (j : Int) (data_P : List api_RowV) : R :=
  cond (decide (i ≤ j))
    (cond (decide (0 ≤ a) && decide (a < (data_P.length : Int)))
      (cond (decide (0 ≤ j) && decide (j < (data_P.length : Int)))
        (Option.bind (table_UncoveredKeys_1 (data_P.getD a.toNat ((0, 0, ()), 0, 0, 0, ())) (data_P.getD j.toNat ((0, 0, ()), 0, 0, 0, ()))) fun x1 =>
        cond (decide (x1.1 < 0))
          (kL4 a i (IntKind.i64.wrap (j - 1)) data_P)
          (kJ3 a i j data_P))
        none)
      none)
    (kJ3 a i j data_P)
noncomputable def Se (kL0 : Int → Int → Int → (List api_RowV) → R) (data : List api_RowV) (a : Int) (b : Int) (pivot : Int) : R :=
  cond (decide (0 ≤ pivot) && decide (pivot < (data.length : Int)))
    (cond (decide (0 ≤ a) && decide (a < (data.length : Int)))
      (cond (decide (0 ≤ a) && decide (a < (data.length : Int)))
        (cond (decide (0 ≤ pivot) && decide (pivot < ((data.set a.toNat (data.getD pivot.toNat ((0, 0, ()), 0, 0, 0, ()))).length : Int)))
          (kL0 a (IntKind.i64.wrap (a + 1)) (IntKind.i64.wrap (b - 1)) ((data.set a.toNat (data.getD pivot.toNat ((0, 0, ()), 0, 0, 0, ()))).set pivot.toNat (data.getD a.toNat ((0, 0, ()), 0, 0, 0, ()))))
          none)
        none)
      none)
    none
theorem sL0 (jmp : Tgt → ASt → R) (a : Int) (i : Int) (j : Int) (data_P : List api_RowV) : run E jmp fin depth c1 (.loop c1 K5) (tL0 a i j data_P) =
    SL0 (fun a i j data_P => jmp (.loop c4 K9) (tL2 a i j data_P)) a i j data_P := by kernel_rfl
theorem sJ1 (jmp : Tgt → ASt → R) (a : Int) (i : Int) (j : Int) (data_P : List api_RowV) : run E jmp fin depth c2 K7 (tJ1 a i j data_P) =
    SJ1 (fun a i j data_P => jmp (.loop c5 K15) (tL4 a i j data_P)) a i j data_P := by kernel_rfl
theorem sL2 (jmp : Tgt → ASt → R) (a : Int) (i : Int) (j : Int) (data_P : List api_RowV) : run E jmp fin depth c4 (.loop c4 K9) (tL2 a i j data_P) =
    SL2 (fun a i j data_P => jmp (.loop c4 K9) (tL2 a i j data_P)) (fun a i j data_P => jmp (.code c2 K7) (tJ1 a i j data_P)) a i j data_P := by kernel_rfl
theorem sJ3 (jmp : Tgt → ASt → R) (a : Int) (i : Int) (j : Int) (data_P : List api_RowV) : run E jmp fin depth c3 K7 (tJ3 a i j data_P) =
    SJ3 (fun a i j data_P => jmp (.loop c1 K5) (tL0 a i j data_P)) a i j data_P := by kernel_rfl
theorem sL4 (jmp : Tgt → ASt → R) (a : Int) (i : Int) (j : Int) (data_P : List api_RowV) : run E jmp fin depth c5 (.loop c5 K15) (tL4 a i j data_P) =
    SL4 (fun a i j data_P => jmp (.loop c5 K15) (tL4 a i j data_P)) (fun a i j data_P => jmp (.code c3 K7) (tJ3 a i j data_P)) a i j data_P := by kernel_rfl
theorem se (jmp : Tgt → ASt → R) (x : (argTy ps).den) : run E jmp fin depth (bodyOf Try.f87) .ret (entryFrom 0 ps x) =
    Se (fun a i j data_P => jmp (.loop c1 K5) (tL0 a i j data_P)) x.1 x.2.1 x.2.2.1 x.2.2.2.1 := by kernel_rfl
noncomputable def L0 (a : Int) (i : Int) (j : Int) (data_P : List api_RowV) : R := lim E fin (.loop c1 K5) (tL0 a i j data_P)
noncomputable def J1 (a : Int) (i : Int) (j : Int) (data_P : List api_RowV) : R := lim E fin (.code c2 K7) (tJ1 a i j data_P)
noncomputable def L2 (a : Int) (i : Int) (j : Int) (data_P : List api_RowV) : R := lim E fin (.loop c4 K9) (tL2 a i j data_P)
noncomputable def J3 (a : Int) (i : Int) (j : Int) (data_P : List api_RowV) : R := lim E fin (.code c3 K7) (tJ3 a i j data_P)
noncomputable def L4 (a : Int) (i : Int) (j : Int) (data_P : List api_RowV) : R := lim E fin (.loop c5 K15) (tL4 a i j data_P)
theorem L0_eq (a : Int) (i : Int) (j : Int) (data_P : List api_RowV) : L0 a i j data_P = SL0 L2 a i j data_P :=
  (lim_eq (.loop c1 K5) (tL0 a i j data_P)).trans (sL0 (lim E fin) a i j data_P)
theorem J1_eq (a : Int) (i : Int) (j : Int) (data_P : List api_RowV) : J1 a i j data_P = SJ1 L4 a i j data_P :=
  (lim_eq (.code c2 K7) (tJ1 a i j data_P)).trans (sJ1 (lim E fin) a i j data_P)
theorem L2_eq (a : Int) (i : Int) (j : Int) (data_P : List api_RowV) : L2 a i j data_P = SL2 L2 J1 a i j data_P :=
  (lim_eq (.loop c4 K9) (tL2 a i j data_P)).trans (sL2 (lim E fin) a i j data_P)
theorem J3_eq (a : Int) (i : Int) (j : Int) (data_P : List api_RowV) : J3 a i j data_P = SJ3 L0 a i j data_P :=
  (lim_eq (.code c3 K7) (tJ3 a i j data_P)).trans (sJ3 (lim E fin) a i j data_P)
theorem L4_eq (a : Int) (i : Int) (j : Int) (data_P : List api_RowV) : L4 a i j data_P = SL4 L4 J3 a i j data_P :=
  (lim_eq (.loop c5 K15) (tL4 a i j data_P)).trans (sL4 (lim E fin) a i j data_P)
end slices_partitionEqualCmpFunc_api_Row_table_UncoveredKeys_1
noncomputable def slices_partitionEqualCmpFunc_api_Row_table_UncoveredKeys_1 (data : List api_RowV) (a : Int) (b : Int) (pivot : Int) : slices_partitionEqualCmpFunc_api_Row_table_UncoveredKeys_1.R :=
  slices_partitionEqualCmpFunc_api_Row_table_UncoveredKeys_1.Se slices_partitionEqualCmpFunc_api_Row_table_UncoveredKeys_1.L0 data a b pivot
noncomputable def slices_partitionEqualCmpFunc_api_Row_table_UncoveredKeys_1.sig : Sig := ⟨slices_partitionEqualCmpFunc_api_Row_table_UncoveredKeys_1.ps, slices_partitionEqualCmpFunc_api_Row_table_UncoveredKeys_1.rs, fun x => slices_partitionEqualCmpFunc_api_Row_table_UncoveredKeys_1 x.1 x.2.1 x.2.2.1 x.2.2.2.1⟩
theorem slices_partitionEqualCmpFunc_api_Row_table_UncoveredKeys_1.ok : CallOK Try.prog 87 slices_partitionEqualCmpFunc_api_Row_table_UncoveredKeys_1.sig :=
  callOK_of_lim (E := slices_partitionEqualCmpFunc_api_Row_table_UncoveredKeys_1.E) mixed tt_ok (ctxOk_cons ctxOk_nil table_UncoveredKeys_1.ok Try.func41 (by kernel_rfl) (by kernel_rfl)) Try.func87 (by kernel_rfl : Try.f87.body = some (bodyOf Try.f87)) Try.ntmps87 (of_decide_eq_true (by kernel_rfl)) (of_decide_eq_true (by kernel_rfl))
    fun x y h => ((lim_eq (.code (bodyOf Try.f87) .ret) (entryFrom 0 slices_partitionEqualCmpFunc_api_Row_table_UncoveredKeys_1.ps x)).trans (slices_partitionEqualCmpFunc_api_Row_table_UncoveredKeys_1.se (lim slices_partitionEqualCmpFunc_api_Row_table_UncoveredKeys_1.E slices_partitionEqualCmpFunc_api_Row_table_UncoveredKeys_1.fin) x)).trans h
theorem slices_partitionEqualCmpFunc_api_Row_table_UncoveredKeys_1.val (x : (argTy slices_partitionEqualCmpFunc_api_Row_table_UncoveredKeys_1.ps).den) : lim slices_partitionEqualCmpFunc_api_Row_table_UncoveredKeys_1.E slices_partitionEqualCmpFunc_api_Row_table_UncoveredKeys_1.fin (.code (bodyOf Try.f87) .ret) (entryFrom 0 slices_partitionEqualCmpFunc_api_Row_table_UncoveredKeys_1.ps x) = slices_partitionEqualCmpFunc_api_Row_table_UncoveredKeys_1.sig.run x :=
  (lim_eq (.code (bodyOf Try.f87) .ret) (entryFrom 0 slices_partitionEqualCmpFunc_api_Row_table_UncoveredKeys_1.ps x)).trans (slices_partitionEqualCmpFunc_api_Row_table_UncoveredKeys_1.se (lim slices_partitionEqualCmpFunc_api_Row_table_UncoveredKeys_1.E slices_partitionEqualCmpFunc_api_Row_table_UncoveredKeys_1.fin) x)
noncomputable def slices_partitionEqualCmpFunc_api_Row_table_UncoveredKeys_1.ctxc (n : Nat) : List (Nat × Sig) := [(41, table_UncoveredKeys_1.sigc n)]
noncomputable def slices_partitionEqualCmpFunc_api_Row_table_UncoveredKeys_1.sigc (n : Nat) : Sig := ⟨slices_partitionEqualCmpFunc_api_Row_table_UncoveredKeys_1.ps, slices_partitionEqualCmpFunc_api_Row_table_UncoveredKeys_1.rs, fun x => runs (withCtx slices_partitionEqualCmpFunc_api_Row_table_UncoveredKeys_1.E (slices_partitionEqualCmpFunc_api_Row_table_UncoveredKeys_1.ctxc n)) slices_partitionEqualCmpFunc_api_Row_table_UncoveredKeys_1.fin n (.code (bodyOf Try.f87) .ret) (entryFrom 0 slices_partitionEqualCmpFunc_api_Row_table_UncoveredKeys_1.ps x)⟩
theorem slices_partitionEqualCmpFunc_api_Row_table_UncoveredKeys_1.sigc_le (n : Nat) : ∀ x y, (slices_partitionEqualCmpFunc_api_Row_table_UncoveredKeys_1.sigc n).run x = some y → slices_partitionEqualCmpFunc_api_Row_table_UncoveredKeys_1.sig.run x = some y :=
  fun x y h => (slices_partitionEqualCmpFunc_api_Row_table_UncoveredKeys_1.val x).symm.trans (runs_lim (E := slices_partitionEqualCmpFunc_api_Row_table_UncoveredKeys_1.E) (c := slices_partitionEqualCmpFunc_api_Row_table_UncoveredKeys_1.ctxc n) (ctxLe_cons ctxLe_nil (table_UncoveredKeys_1.sigc_le n)) h)
end Go.Proofs.Ytgnigfnonoicmaa
