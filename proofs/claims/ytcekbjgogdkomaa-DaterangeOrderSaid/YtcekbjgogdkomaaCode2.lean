/- The functions of the program as typed Lean functions, with the proof that they are what the code computes. -/
import Derived.Test.YtcekbjgogdkomaaCode1
set_option maxRecDepth 100000
set_option linter.unusedVariables false
namespace Go.Proofs.Ytcekbjgogdkomaa
open Go Go.Lift

/-! ### slices.partitionEqualCmpFunc[guerdon/api.DateRange] -/
namespace slices_partitionEqualCmpFunc_api_DateRange_daterange_Union_1
abbrev ps : List PM := [.own api_DateRange, .pure (.int .i64), .pure (.int .i64), .pure (.int .i64), .fn 31]
abbrev rs : List RM := [.pure (.int .i64)]
abbrev R : Type := Option (Int × List api_DateRangeV × Unit)
noncomputable def E : Env := { tt := tt, ctx := [(31, daterange_Union_1.sig)], nt := 90, ann := [(1000003, [(0, .keep), (1, .keep), (4, .keep), (11, .keep), (12, .keep)]), (5, [(0, .keep), (1, .keep), (4, .keep), (11, .keep), (12, .keep)]), (1000003, [(0, .keep), (1, .keep), (4, .keep), (11, .keep), (12, .keep)]), (7, [(0, .keep), (1, .keep), (4, .keep), (11, .keep), (12, .keep)]), (1000005, [(0, .keep), (1, .keep), (4, .keep), (11, .keep), (12, .keep)])] }
noncomputable def c0 : Code := sub [1, 1, 1, 1] (bodyOf Try.f48)
noncomputable def c1 : Code := sub [1, 1, 1, 0, 0, 0] (bodyOf Try.f48)
noncomputable def c2 : Code := sub [1, 1, 1, 0, 0, 0, 0, 1] (bodyOf Try.f48)
noncomputable def c3 : Code := sub [1, 1, 1, 0, 0, 0, 0, 1, 1] (bodyOf Try.f48)
noncomputable def c4 : Code := sub [1, 1, 1, 0, 0, 0, 0, 0, 0, 0] (bodyOf Try.f48)
noncomputable def c5 : Code := sub [1, 1, 1, 0, 0, 0, 0, 1, 0, 0, 0] (bodyOf Try.f48)
noncomputable def K4 : Kont := .seq c0 .ret
noncomputable def K5 : Kont := .blk 0 K4
noncomputable def K6 : Kont := .loop c1 K5
noncomputable def K7 : Kont := .blk 1 K6
noncomputable def K8 : Kont := .seq c2 K7
noncomputable def K9 : Kont := .blk 2 K8
noncomputable def K14 : Kont := .seq c3 K7
noncomputable def K15 : Kont := .blk 4 K14
noncomputable def fin : ASt → R := Kret E Try.f48.results.toList ps rs
def tL0 (a : Int) (i : Int) (j : Int) (data_P : List api_DateRangeV) : ASt := ⟨[(12, .one (.val (.int .i64) j)), (11, .one (.val (.int .i64) i)), (4, .one (.fn 31 [])), (1, .one (.val (.int .i64) a)), (0, .one (.own 10000))], [(10000, some ⟨.fixed, api_DateRange, data_P⟩)]⟩
def tJ1 (a : Int) (i : Int) (j : Int) (data_P : List api_DateRangeV) : ASt := ⟨[(12, .one (.val (.int .i64) j)), (11, .one (.val (.int .i64) i)), (4, .one (.fn 31 [])), (1, .one (.val (.int .i64) a)), (0, .one (.own 10000))], [(10000, some ⟨.fixed, api_DateRange, data_P⟩)]⟩
def tL2 (a : Int) (i : Int) (j : Int) (data_P : List api_DateRangeV) : ASt := ⟨[(12, .one (.val (.int .i64) j)), (11, .one (.val (.int .i64) i)), (4, .one (.fn 31 [])), (1, .one (.val (.int .i64) a)), (0, .one (.own 10000))], [(10000, some ⟨.fixed, api_DateRange, data_P⟩)]⟩
def tJ3 (a : Int) (i : Int) (j : Int) (data_P : List api_DateRangeV) : ASt := ⟨[(12, .one (.val (.int .i64) j)), (11, .one (.val (.int .i64) i)), (4, .one (.fn 31 [])), (1, .one (.val (.int .i64) a)), (0, .one (.own 10000))], [(10000, some ⟨.fixed, api_DateRange, data_P⟩)]⟩
def tL4 (a : Int) (i : Int) (j : Int) (data_P : List api_DateRangeV) : ASt := ⟨[(12, .one (.val (.int .i64) j)), (11, .one (.val (.int .i64) i)), (4, .one (.fn 31 [])), (1, .one (.val (.int .i64) a)), (0, .one (.own 10000))], [(10000, some ⟨.fixed, api_DateRange, data_P⟩)]⟩
noncomputable def SL0 (kL2 : Int → Int → Int → (List api_DateRangeV) → R) (a : Int) (i : Int) (j : Int) (data_P : List api_DateRangeV) : R :=
  kL2 a i j data_P
noncomputable def SJ1 (kL4 : Int → Int → Int → (List api_DateRangeV) → R) (a : Int) (i : Int) (j : Int) (data_P : List api_DateRangeV) : R :=
  kL4 a i j data_P
noncomputable def SL2 (kL2 : Int → Int → Int → (List api_DateRangeV) → R) (kJ1 : Int → Int → Int → (List api_DateRangeV) → R) (a : Int) (i : Int) (j : Int) (data_P : List api_DateRangeV) : R :=
  cond (decide (i ≤ j))
    (cond (decide (0 ≤ a) && decide (a < (data_P.length : Int)))
      (cond (decide (0 ≤ i) && decide (i < (data_P.length : Int)))
        (Option.bind (daterange_Union_1 (data_P.getD a.toNat (0, 0, ())) (data_P.getD i.toNat (0, 0, ()))) fun x1 =>
        cond (!(decide (x1.1 < 0)))
          (kL2 a (IntKind.i64.wrap (i + 1)) j data_P)
          (kJ1 a i j data_P))
        none)
      none)
    (kJ1 a i j data_P)
noncomputable def SJ3 (kL0 : Int → Int → Int → (List api_DateRangeV) → R) (a : Int) (i : Int) (j : Int) (data_P : List api_DateRangeV) : R :=
  cond (decide (i > j))
    (some (i, data_P, ()))
    (cond (decide (0 ≤ j) && decide (j < (data_P.length : Int)))
      (cond (decide (0 ≤ i) && decide (i < (data_P.length : Int)))
        (cond (decide (0 ≤ i) && decide (i < (data_P.length : Int)))
          (cond (decide (0 ≤ j) && decide (j < ((data_P.set i.toNat (data_P.getD j.toNat (0, 0, ()))).length : Int)))
            (kL0 a (IntKind.i64.wrap (i + 1)) (IntKind.i64.wrap (j - 1)) ((data_P.set i.toNat (data_P.getD j.toNat (0, 0, ()))).set j.toNat (data_P.getD i.toNat (0, 0, ()))))
            none)
          none)
        none)
      none)
noncomputable def SL4 (kL4 : Int → Int → Int → (List api_DateRangeV) → R) (kJ3 : Int → Int → Int → (List api_DateRangeV) → R) (a : Int) (i : Int) (j : Int) (data_P : List api_DateRangeV) : R :=
  cond (decide (i ≤ j))
    (cond (decide (0 ≤ a) && decide (a < (data_P.length : Int)))
      (cond (decide (0 ≤ j) && decide (j < (data_P.length : Int)))
        (Option.bind (daterange_Union_1 (data_P.getD a.toNat (0, 0, ())) (data_P.getD j.toNat (0, 0, ()))) fun x1 =>
        cond (decide (x1.1 < 0))
          (kL4 a i (IntKind.i64.wrap (j - 1)) data_P)
          (kJ3 a i j data_P))
        none)
      none)
    (kJ3 a i j data_P)
noncomputable def Se (kL0 : Int → Int → Int → (List api_DateRangeV) → R) (data : List api_DateRangeV) (a : Int) (b : Int) (pivot : Int) : R :=
  cond (decide (0 ≤ pivot) && decide (pivot < (data.length : Int)))
    (cond (decide (0 ≤ a) && decide (a < (data.length : Int)))
      (cond (decide (0 ≤ a) && decide (a < (data.length : Int)))
        (cond (decide (0 ≤ pivot) && decide (pivot < ((data.set a.toNat (data.getD pivot.toNat (0, 0, ()))).length : Int)))
          (kL0 a (IntKind.i64.wrap (a + 1)) (IntKind.i64.wrap (b - 1)) ((data.set a.toNat (data.getD pivot.toNat (0, 0, ()))).set pivot.toNat (data.getD a.toNat (0, 0, ()))))
          none)
        none)
      none)
    none
theorem sL0 (jmp : Tgt → ASt → R) (a : Int) (i : Int) (j : Int) (data_P : List api_DateRangeV) : run E jmp fin depth c1 (.loop c1 K5) (tL0 a i j data_P) =
    SL0 (fun a i j data_P => jmp (.loop c4 K9) (tL2 a i j data_P)) a i j data_P := by kernel_rfl
theorem sJ1 (jmp : Tgt → ASt → R) (a : Int) (i : Int) (j : Int) (data_P : List api_DateRangeV) : run E jmp fin depth c2 K7 (tJ1 a i j data_P) =
    SJ1 (fun a i j data_P => jmp (.loop c5 K15) (tL4 a i j data_P)) a i j data_P := by kernel_rfl
theorem sL2 (jmp : Tgt → ASt → R) (a : Int) (i : Int) (j : Int) (data_P : List api_DateRangeV) : run E jmp fin depth c4 (.loop c4 K9) (tL2 a i j data_P) =
    SL2 (fun a i j data_P => jmp (.loop c4 K9) (tL2 a i j data_P)) (fun a i j data_P => jmp (.code c2 K7) (tJ1 a i j data_P)) a i j data_P := by kernel_rfl
theorem sJ3 (jmp : Tgt → ASt → R) (a : Int) (i : Int) (j : Int) (data_P : List api_DateRangeV) : run E jmp fin depth c3 K7 (tJ3 a i j data_P) =
    SJ3 (fun a i j data_P => jmp (.loop c1 K5) (tL0 a i j data_P)) a i j data_P := by kernel_rfl
theorem sL4 (jmp : Tgt → ASt → R) (a : Int) (i : Int) (j : Int) (data_P : List api_DateRangeV) : run E jmp fin depth c5 (.loop c5 K15) (tL4 a i j data_P) =
    SL4 (fun a i j data_P => jmp (.loop c5 K15) (tL4 a i j data_P)) (fun a i j data_P => jmp (.code c3 K7) (tJ3 a i j data_P)) a i j data_P := by kernel_rfl
theorem se (jmp : Tgt → ASt → R) (x : (argTy ps).den) : run E jmp fin depth (bodyOf Try.f48) .ret (entryFrom 0 ps x) =
    Se (fun a i j data_P => jmp (.loop c1 K5) (tL0 a i j data_P)) x.1 x.2.1 x.2.2.1 x.2.2.2.1 := by kernel_rfl
noncomputable def L0 (a : Int) (i : Int) (j : Int) (data_P : List api_DateRangeV) : R := lim E fin (.loop c1 K5) (tL0 a i j data_P)
noncomputable def J1 (a : Int) (i : Int) (j : Int) (data_P : List api_DateRangeV) : R := lim E fin (.code c2 K7) (tJ1 a i j data_P)
noncomputable def L2 (a : Int) (i : Int) (j : Int) (data_P : List api_DateRangeV) : R := lim E fin (.loop c4 K9) (tL2 a i j data_P)
noncomputable def J3 (a : Int) (i : Int) (j : Int) (data_P : List api_DateRangeV) : R := lim E fin (.code c3 K7) (tJ3 a i j data_P)
noncomputable def L4 (a : Int) (i : Int) (j : Int) (data_P : List api_DateRangeV) : R := lim E fin (.loop c5 K15) (tL4 a i j data_P)
theorem L0_eq (a : Int) (i : Int) (j : Int) (data_P : List api_DateRangeV) : L0 a i j data_P = SL0 L2 a i j data_P :=
  (lim_eq (.loop c1 K5) (tL0 a i j data_P)).trans (sL0 (lim E fin) a i j data_P)
theorem J1_eq (a : Int) (i : Int) (j : Int) (data_P : List api_DateRangeV) : J1 a i j data_P = SJ1 L4 a i j data_P :=
  (lim_eq (.code c2 K7) (tJ1 a i j data_P)).trans (sJ1 (lim E fin) a i j data_P)
theorem L2_eq (a : Int) (i : Int) (j : Int) (data_P : List api_DateRangeV) : L2 a i j data_P = SL2 L2 J1 a i j data_P :=
  (lim_eq (.loop c4 K9) (tL2 a i j data_P)).trans (sL2 (lim E fin) a i j data_P)
theorem J3_eq (a : Int) (i : Int) (j : Int) (data_P : List api_DateRangeV) : J3 a i j data_P = SJ3 L0 a i j data_P :=
  (lim_eq (.code c3 K7) (tJ3 a i j data_P)).trans (sJ3 (lim E fin) a i j data_P)
theorem L4_eq (a : Int) (i : Int) (j : Int) (data_P : List api_DateRangeV) : L4 a i j data_P = SL4 L4 J3 a i j data_P :=
  (lim_eq (.loop c5 K15) (tL4 a i j data_P)).trans (sL4 (lim E fin) a i j data_P)
end slices_partitionEqualCmpFunc_api_DateRange_daterange_Union_1
noncomputable def slices_partitionEqualCmpFunc_api_DateRange_daterange_Union_1 (data : List api_DateRangeV) (a : Int) (b : Int) (pivot : Int) : slices_partitionEqualCmpFunc_api_DateRange_daterange_Union_1.R :=
  slices_partitionEqualCmpFunc_api_DateRange_daterange_Union_1.Se slices_partitionEqualCmpFunc_api_DateRange_daterange_Union_1.L0 data a b pivot
noncomputable def slices_partitionEqualCmpFunc_api_DateRange_daterange_Union_1.sig : Sig := ⟨slices_partitionEqualCmpFunc_api_DateRange_daterange_Union_1.ps, slices_partitionEqualCmpFunc_api_DateRange_daterange_Union_1.rs, fun x => slices_partitionEqualCmpFunc_api_DateRange_daterange_Union_1 x.1 x.2.1 x.2.2.1 x.2.2.2.1⟩
theorem slices_partitionEqualCmpFunc_api_DateRange_daterange_Union_1.ok : CallOK Try.prog 48 slices_partitionEqualCmpFunc_api_DateRange_daterange_Union_1.sig :=
  callOK_of_lim (E := slices_partitionEqualCmpFunc_api_DateRange_daterange_Union_1.E) mixed tt_ok (ctxOk_cons ctxOk_nil daterange_Union_1.ok Try.func31 (by kernel_rfl) (by kernel_rfl)) Try.func48 (by kernel_rfl : Try.f48.body = some (bodyOf Try.f48)) Try.ntmps48 (of_decide_eq_true (by kernel_rfl)) (of_decide_eq_true (by kernel_rfl))
    fun x y h => ((lim_eq (.code (bodyOf Try.f48) .ret) (entryFrom 0 slices_partitionEqualCmpFunc_api_DateRange_daterange_Union_1.ps x)).trans (slices_partitionEqualCmpFunc_api_DateRange_daterange_Union_1.se (lim slices_partitionEqualCmpFunc_api_DateRange_daterange_Union_1.E slices_partitionEqualCmpFunc_api_DateRange_daterange_Union_1.fin) x)).trans h
theorem slices_partitionEqualCmpFunc_api_DateRange_daterange_Union_1.val (x : (argTy slices_partitionEqualCmpFunc_api_DateRange_daterange_Union_1.ps).den) : lim slices_partitionEqualCmpFunc_api_DateRange_daterange_Union_1.E slices_partitionEqualCmpFunc_api_DateRange_daterange_Union_1.fin (.code (bodyOf Try.f48) .ret) (entryFrom 0 slices_partitionEqualCmpFunc_api_DateRange_daterange_Union_1.ps x) = slices_partitionEqualCmpFunc_api_DateRange_daterange_Union_1.sig.run x :=
  (lim_eq (.code (bodyOf Try.f48) .ret) (entryFrom 0 slices_partitionEqualCmpFunc_api_DateRange_daterange_Union_1.ps x)).trans (slices_partitionEqualCmpFunc_api_DateRange_daterange_Union_1.se (lim slices_partitionEqualCmpFunc_api_DateRange_daterange_Union_1.E slices_partitionEqualCmpFunc_api_DateRange_daterange_Union_1.fin) x)
noncomputable def slices_partitionEqualCmpFunc_api_DateRange_daterange_Union_1.ctxc (n : Nat) : List (Nat × Sig) := [(31, daterange_Union_1.sigc n)]
noncomputable def slices_partitionEqualCmpFunc_api_DateRange_daterange_Union_1.sigc (n : Nat) : Sig := ⟨slices_partitionEqualCmpFunc_api_DateRange_daterange_Union_1.ps, slices_partitionEqualCmpFunc_api_DateRange_daterange_Union_1.rs, fun x => runs (withCtx slices_partitionEqualCmpFunc_api_DateRange_daterange_Union_1.E (slices_partitionEqualCmpFunc_api_DateRange_daterange_Union_1.ctxc n)) slices_partitionEqualCmpFunc_api_DateRange_daterange_Union_1.fin n (.code (bodyOf Try.f48) .ret) (entryFrom 0 slices_partitionEqualCmpFunc_api_DateRange_daterange_Union_1.ps x)⟩
theorem slices_partitionEqualCmpFunc_api_DateRange_daterange_Union_1.sigc_le (n : Nat) : ∀ x y, (slices_partitionEqualCmpFunc_api_DateRange_daterange_Union_1.sigc n).run x = some y → slices_partitionEqualCmpFunc_api_DateRange_daterange_Union_1.sig.run x = some y :=
  fun x y h => (slices_partitionEqualCmpFunc_api_DateRange_daterange_Union_1.val x).symm.trans (runs_lim (E := slices_partitionEqualCmpFunc_api_DateRange_daterange_Union_1.E) (c := slices_partitionEqualCmpFunc_api_DateRange_daterange_Union_1.ctxc n) (ctxLe_cons ctxLe_nil (daterange_Union_1.sigc_le n)) h)

/-! ### slices.partitionCmpFunc[guerdon/api.DateRange] -/
namespace slices_partitionCmpFunc_api_DateRange_daterange_Union_1
abbrev ps : List PM := [.own api_DateRange, .pure (.int .i64), .pure (.int .i64), .pure (.int .i64), .fn 31]
abbrev rs : List RM := [.pure (.int .i64), .pure .bool]
abbrev R : Type := Option (Int × Bool × List api_DateRangeV × Unit)
noncomputable def E : Env := { tt := tt, ctx := [(31, daterange_Union_1.sig)], nt := 178, ann := [(5, [(0, .keep), (1, .keep), (4, .keep), (12, .keep), (13, .keep)]), (1000003, [(0, .keep), (1, .keep), (4, .keep), (12, .keep), (13, .keep)]), (7, [(0, .keep), (1, .keep), (4, .keep), (12, .keep), (13, .keep)]), (1000005, [(0, .keep), (1, .keep), (4, .keep), (12, .keep), (13, .keep)]), (1000013, [(0, .keep), (1, .keep), (4, .keep), (12, .keep), (13, .keep)]), (15, [(0, .keep), (1, .keep), (4, .keep), (12, .keep), (13, .keep)]), (1000013, [(0, .keep), (1, .keep), (4, .keep), (12, .keep), (13, .keep)]), (17, [(0, .keep), (1, .keep), (4, .keep), (12, .keep), (13, .keep)]), (1000015, [(0, .keep), (1, .keep), (4, .keep), (12, .keep), (13, .keep)])] }
noncomputable def c0 : Code := sub [1, 1, 1, 1] (bodyOf Try.f49)
noncomputable def c1 : Code := sub [1, 1, 1, 1, 1] (bodyOf Try.f49)
noncomputable def c2 : Code := sub [1, 1, 1, 1, 1, 1, 1, 1, 1, 1] (bodyOf Try.f49)
noncomputable def c3 : Code := sub [1, 1, 1, 1, 1, 1, 1, 1, 1, 0, 0, 0] (bodyOf Try.f49)
noncomputable def c4 : Code := sub [1, 1, 1, 1, 1, 1, 1, 1, 1, 0, 0, 0, 0, 1] (bodyOf Try.f49)
noncomputable def c5 : Code := sub [1, 1, 1, 1, 1, 1, 1, 1, 1, 0, 0, 0, 0, 1, 1] (bodyOf Try.f49)
noncomputable def c6 : Code := sub [1, 1, 1, 0, 0, 0] (bodyOf Try.f49)
noncomputable def c7 : Code := sub [1, 1, 1, 1, 0, 0, 0] (bodyOf Try.f49)
noncomputable def c8 : Code := sub [1, 1, 1, 1, 1, 1, 1, 1, 1, 0, 0, 0, 0, 0, 0, 0] (bodyOf Try.f49)
noncomputable def c9 : Code := sub [1, 1, 1, 1, 1, 1, 1, 1, 1, 0, 0, 0, 0, 1, 0, 0, 0] (bodyOf Try.f49)
noncomputable def K4 : Kont := .seq c0 .ret
noncomputable def K5 : Kont := .blk 0 K4
noncomputable def K10 : Kont := .seq c1 .ret
noncomputable def K11 : Kont := .blk 2 K10
noncomputable def K23 : Kont := .seq c2 .ret
noncomputable def K24 : Kont := .blk 4 K23
noncomputable def K25 : Kont := .loop c3 K24
noncomputable def K26 : Kont := .blk 5 K25
noncomputable def K27 : Kont := .seq c4 K26
noncomputable def K28 : Kont := .blk 6 K27
noncomputable def K33 : Kont := .seq c5 K26
noncomputable def K34 : Kont := .blk 8 K33
noncomputable def fin : ASt → R := Kret E Try.f49.results.toList ps rs
def tJ0 (a : Int) (i : Int) (j : Int) (data_P : List api_DateRangeV) : ASt := ⟨[(13, .one (.val (.int .i64) j)), (12, .one (.val (.int .i64) i)), (4, .one (.fn 31 [])), (1, .one (.val (.int .i64) a)), (0, .one (.own 10000))], [(10000, some ⟨.fixed, api_DateRange, data_P⟩)]⟩
def tL1 (a : Int) (i : Int) (j : Int) (data_P : List api_DateRangeV) : ASt := ⟨[(13, .one (.val (.int .i64) j)), (12, .one (.val (.int .i64) i)), (4, .one (.fn 31 [])), (1, .one (.val (.int .i64) a)), (0, .one (.own 10000))], [(10000, some ⟨.fixed, api_DateRange, data_P⟩)]⟩
def tJ2 (a : Int) (i : Int) (j : Int) (data_P : List api_DateRangeV) : ASt := ⟨[(13, .one (.val (.int .i64) j)), (12, .one (.val (.int .i64) i)), (4, .one (.fn 31 [])), (1, .one (.val (.int .i64) a)), (0, .one (.own 10000))], [(10000, some ⟨.fixed, api_DateRange, data_P⟩)]⟩
def tL3 (a : Int) (i : Int) (j : Int) (data_P : List api_DateRangeV) : ASt := ⟨[(13, .one (.val (.int .i64) j)), (12, .one (.val (.int .i64) i)), (4, .one (.fn 31 [])), (1, .one (.val (.int .i64) a)), (0, .one (.own 10000))], [(10000, some ⟨.fixed, api_DateRange, data_P⟩)]⟩
def tL4 (a : Int) (i : Int) (j : Int) (data_P : List api_DateRangeV) : ASt := ⟨[(13, .one (.val (.int .i64) j)), (12, .one (.val (.int .i64) i)), (4, .one (.fn 31 [])), (1, .one (.val (.int .i64) a)), (0, .one (.own 10000))], [(10000, some ⟨.fixed, api_DateRange, data_P⟩)]⟩
def tJ5 (a : Int) (i : Int) (j : Int) (data_P : List api_DateRangeV) : ASt := ⟨[(13, .one (.val (.int .i64) j)), (12, .one (.val (.int .i64) i)), (4, .one (.fn 31 [])), (1, .one (.val (.int .i64) a)), (0, .one (.own 10000))], [(10000, some ⟨.fixed, api_DateRange, data_P⟩)]⟩
def tL6 (a : Int) (i : Int) (j : Int) (data_P : List api_DateRangeV) : ASt := ⟨[(13, .one (.val (.int .i64) j)), (12, .one (.val (.int .i64) i)), (4, .one (.fn 31 [])), (1, .one (.val (.int .i64) a)), (0, .one (.own 10000))], [(10000, some ⟨.fixed, api_DateRange, data_P⟩)]⟩
def tJ7 (a : Int) (i : Int) (j : Int) (data_P : List api_DateRangeV) : ASt := ⟨[(13, .one (.val (.int .i64) j)), (12, .one (.val (.int .i64) i)), (4, .one (.fn 31 [])), (1, .one (.val (.int .i64) a)), (0, .one (.own 10000))], [(10000, some ⟨.fixed, api_DateRange, data_P⟩)]⟩
def tL8 (a : Int) (i : Int) (j : Int) (data_P : List api_DateRangeV) : ASt := ⟨[(13, .one (.val (.int .i64) j)), (12, .one (.val (.int .i64) i)), (4, .one (.fn 31 [])), (1, .one (.val (.int .i64) a)), (0, .one (.own 10000))], [(10000, some ⟨.fixed, api_DateRange, data_P⟩)]⟩
noncomputable def SJ0 (kL3 : Int → Int → Int → (List api_DateRangeV) → R) (a : Int) (i : Int) (j : Int) (data_P : List api_DateRangeV) : R :=
  kL3 a i j data_P
noncomputable def SL1 (kL1 : Int → Int → Int → (List api_DateRangeV) → R) (kJ0 : Int → Int → Int → (List api_DateRangeV) → R) (a : Int) (i : Int) (j : Int) (data_P : List api_DateRangeV) : R :=
  cond (decide (i ≤ j))
    (cond (decide (0 ≤ i) && decide (i < (data_P.length : Int)))
      (cond (decide (0 ≤ a) && decide (a < (data_P.length : Int)))
        (Option.bind (daterange_Union_1 (data_P.getD i.toNat (0, 0, ())) (data_P.getD a.toNat (0, 0, ()))) fun x1 =>
        cond (decide (x1.1 < 0))
          (kL1 a (IntKind.i64.wrap (i + 1)) j data_P)
          (kJ0 a i j data_P))
        none)
      none)
    (kJ0 a i j data_P)
noncomputable def SJ2 (kL4 : Int → Int → Int → (List api_DateRangeV) → R) (a : Int) (i : Int) (j : Int) (data_P : List api_DateRangeV) : R :=
  cond (decide (i > j))
    (cond (decide (0 ≤ a) && decide (a < (data_P.length : Int)))
      (cond (decide (0 ≤ j) && decide (j < (data_P.length : Int)))
        (cond (decide (0 ≤ j) && decide (j < (data_P.length : Int)))
          (cond (decide (0 ≤ a) && decide (a < ((data_P.set j.toNat (data_P.getD a.toNat (0, 0, ()))).length : Int)))
            (some (j, true, ((data_P.set j.toNat (data_P.getD a.toNat (0, 0, ()))).set a.toNat (data_P.getD j.toNat (0, 0, ()))), ()))
            none)
          none)
        none)
      none)
    (cond (decide (0 ≤ j) && decide (j < (data_P.length : Int)))
      (cond (decide (0 ≤ i) && decide (i < (data_P.length : Int)))
        (cond (decide (0 ≤ i) && decide (i < (data_P.length : Int)))
          (cond (decide (0 ≤ j) && decide (j < ((data_P.set i.toNat (data_P.getD j.toNat (0, 0, ()))).length : Int)))
            (kL4 a (IntKind.i64.wrap (i + 1)) (IntKind.i64.wrap (j - 1)) ((data_P.set i.toNat (data_P.getD j.toNat (0, 0, ()))).set j.toNat (data_P.getD i.toNat (0, 0, ()))))
            none)
          none)
        none)
      none)
noncomputable def SL3 (kL3 : Int → Int → Int → (List api_DateRangeV) → R) (kJ2 : Int → Int → Int → (List api_DateRangeV) → R) (a : Int) (i : Int) (j : Int) (data_P : List api_DateRangeV) : R :=
  cond (decide (i ≤ j))
    (cond (decide (0 ≤ j) && decide (j < (data_P.length : Int)))
      (cond (decide (0 ≤ a) && decide (a < (data_P.length : Int)))
        (Option.bind (daterange_Union_1 (data_P.getD j.toNat (0, 0, ())) (data_P.getD a.toNat (0, 0, ()))) fun x1 =>
        cond (!(decide (x1.1 < 0)))
          (kL3 a i (IntKind.i64.wrap (j - 1)) data_P)
          (kJ2 a i j data_P))
        none)
      none)
    (kJ2 a i j data_P)
noncomputable def SL4 (kL6 : Int → Int → Int → (List api_DateRangeV) → R) (a : Int) (i : Int) (j : Int) (data_P : List api_DateRangeV) : R :=
  kL6 a i j data_P
noncomputable def SJ5 (kL8 : Int → Int → Int → (List api_DateRangeV) → R) (a : Int) (i : Int) (j : Int) (data_P : List api_DateRangeV) : R :=
  kL8 a i j data_P
noncomputable def SL6 (kL6 : Int → Int → Int → (List api_DateRangeV) → R) (kJ5 : Int → Int → Int → (List api_DateRangeV) → R) (a : Int) (i : Int) (j : Int) (data_P : List api_DateRangeV) : R :=
  cond (decide (i ≤ j))
    (cond (decide (0 ≤ i) && decide (i < (data_P.length : Int)))
      (cond (decide (0 ≤ a) && decide (a < (data_P.length : Int)))
        (Option.bind (daterange_Union_1 (data_P.getD i.toNat (0, 0, ())) (data_P.getD a.toNat (0, 0, ()))) fun x1 =>
        cond (decide (x1.1 < 0))
          (kL6 a (IntKind.i64.wrap (i + 1)) j data_P)
          (kJ5 a i j data_P))
        none)
      none)
    (kJ5 a i j data_P)
noncomputable def SJ7 (kL4 : Int → Int → Int → (List api_DateRangeV) → R) (a : Int) (i : Int) (j : Int) (data_P : List api_DateRangeV) : R :=
  cond (decide (i > j))
    (cond (decide (0 ≤ a) && decide (a < (data_P.length : Int)))
      (cond (decide (0 ≤ j) && decide (j < (data_P.length : Int)))
        (cond (decide (0 ≤ j) && decide (j < (data_P.length : Int)))
          (cond (decide (0 ≤ a) && decide (a < ((data_P.set j.toNat (data_P.getD a.toNat (0, 0, ()))).length : Int)))
            (some (j, false, ((data_P.set j.toNat (data_P.getD a.toNat (0, 0, ()))).set a.toNat (data_P.getD j.toNat (0, 0, ()))), ()))
            none)
          none)
        none)
      none)
    (cond (decide (0 ≤ j) && decide (j < (data_P.length : Int)))
      (cond (decide (0 ≤ i) && decide (i < (data_P.length : Int)))
        (cond (decide (0 ≤ i) && decide (i < (data_P.length : Int)))
          (cond (decide (0 ≤ j) && decide (j < ((data_P.set i.toNat (data_P.getD j.toNat (0, 0, ()))).length : Int)))
            (kL4 a (IntKind.i64.wrap (i + 1)) (IntKind.i64.wrap (j - 1)) ((data_P.set i.toNat (data_P.getD j.toNat (0, 0, ()))).set j.toNat (data_P.getD i.toNat (0, 0, ()))))
            none)
          none)
        none)
      none)
noncomputable def SL8 (kL8 : Int → Int → Int → (List api_DateRangeV) → R) (kJ7 : Int → Int → Int → (List api_DateRangeV) → R) (a : Int) (i : Int) (j : Int) (data_P : List api_DateRangeV) : R :=
  cond (decide (i ≤ j))
    (cond (decide (0 ≤ j) && decide (j < (data_P.length : Int)))
      (cond (decide (0 ≤ a) && decide (a < (data_P.length : Int)))
        (Option.bind (daterange_Union_1 (data_P.getD j.toNat (0, 0, ())) (data_P.getD a.toNat (0, 0, ()))) fun x1 =>
        cond (!(decide (x1.1 < 0)))
          (kL8 a i (IntKind.i64.wrap (j - 1)) data_P)
          (kJ7 a i j data_P))
        none)
      none)
    (kJ7 a i j data_P)
noncomputable def Se (kL1 : Int → Int → Int → (List api_DateRangeV) → R) (data : List api_DateRangeV) (a : Int) (b : Int) (pivot : Int) : R :=
  cond (decide (0 ≤ pivot) && decide (pivot < (data.length : Int)))
    (cond (decide (0 ≤ a) && decide (a < (data.length : Int)))
      (cond (decide (0 ≤ a) && decide (a < (data.length : Int)))
        (cond (decide (0 ≤ pivot) && decide (pivot < ((data.set a.toNat (data.getD pivot.toNat (0, 0, ()))).length : Int)))
          (kL1 a (IntKind.i64.wrap (a + 1)) (IntKind.i64.wrap (b - 1)) ((data.set a.toNat (data.getD pivot.toNat (0, 0, ()))).set pivot.toNat (data.getD a.toNat (0, 0, ()))))
          none)
        none)
      none)
    none
theorem sJ0 (jmp : Tgt → ASt → R) (a : Int) (i : Int) (j : Int) (data_P : List api_DateRangeV) : run E jmp fin depth c0 .ret (tJ0 a i j data_P) =
    SJ0 (fun a i j data_P => jmp (.loop c7 K11) (tL3 a i j data_P)) a i j data_P := by kernel_rfl
theorem sL1 (jmp : Tgt → ASt → R) (a : Int) (i : Int) (j : Int) (data_P : List api_DateRangeV) : run E jmp fin depth c6 (.loop c6 K5) (tL1 a i j data_P) =
    SL1 (fun a i j data_P => jmp (.loop c6 K5) (tL1 a i j data_P)) (fun a i j data_P => jmp (.code c0 .ret) (tJ0 a i j data_P)) a i j data_P := by kernel_rfl
theorem sJ2 (jmp : Tgt → ASt → R) (a : Int) (i : Int) (j : Int) (data_P : List api_DateRangeV) : run E jmp fin depth c1 .ret (tJ2 a i j data_P) =
    SJ2 (fun a i j data_P => jmp (.loop c3 K24) (tL4 a i j data_P)) a i j data_P := by kernel_rfl
theorem sL3 (jmp : Tgt → ASt → R) (a : Int) (i : Int) (j : Int) (data_P : List api_DateRangeV) : run E jmp fin depth c7 (.loop c7 K11) (tL3 a i j data_P) =
    SL3 (fun a i j data_P => jmp (.loop c7 K11) (tL3 a i j data_P)) (fun a i j data_P => jmp (.code c1 .ret) (tJ2 a i j data_P)) a i j data_P := by kernel_rfl
theorem sL4 (jmp : Tgt → ASt → R) (a : Int) (i : Int) (j : Int) (data_P : List api_DateRangeV) : run E jmp fin depth c3 (.loop c3 K24) (tL4 a i j data_P) =
    SL4 (fun a i j data_P => jmp (.loop c8 K28) (tL6 a i j data_P)) a i j data_P := by kernel_rfl
theorem sJ5 (jmp : Tgt → ASt → R) (a : Int) (i : Int) (j : Int) (data_P : List api_DateRangeV) : run E jmp fin depth c4 K26 (tJ5 a i j data_P) =
    SJ5 (fun a i j data_P => jmp (.loop c9 K34) (tL8 a i j data_P)) a i j data_P := by kernel_rfl
theorem sL6 (jmp : Tgt → ASt → R) (a : Int) (i : Int) (j : Int) (data_P : List api_DateRangeV) : run E jmp fin depth c8 (.loop c8 K28) (tL6 a i j data_P) =
    SL6 (fun a i j data_P => jmp (.loop c8 K28) (tL6 a i j data_P)) (fun a i j data_P => jmp (.code c4 K26) (tJ5 a i j data_P)) a i j data_P := by kernel_rfl
theorem sJ7 (jmp : Tgt → ASt → R) (a : Int) (i : Int) (j : Int) (data_P : List api_DateRangeV) : run E jmp fin depth c5 K26 (tJ7 a i j data_P) =
    SJ7 (fun a i j data_P => jmp (.loop c3 K24) (tL4 a i j data_P)) a i j data_P := by kernel_rfl
theorem sL8 (jmp : Tgt → ASt → R) (a : Int) (i : Int) (j : Int) (data_P : List api_DateRangeV) : run E jmp fin depth c9 (.loop c9 K34) (tL8 a i j data_P) =
    SL8 (fun a i j data_P => jmp (.loop c9 K34) (tL8 a i j data_P)) (fun a i j data_P => jmp (.code c5 K26) (tJ7 a i j data_P)) a i j data_P := by kernel_rfl
theorem se (jmp : Tgt → ASt → R) (x : (argTy ps).den) : run E jmp fin depth (bodyOf Try.f49) .ret (entryFrom 0 ps x) =
    Se (fun a i j data_P => jmp (.loop c6 K5) (tL1 a i j data_P)) x.1 x.2.1 x.2.2.1 x.2.2.2.1 := by kernel_rfl
noncomputable def J0 (a : Int) (i : Int) (j : Int) (data_P : List api_DateRangeV) : R := lim E fin (.code c0 .ret) (tJ0 a i j data_P)
noncomputable def L1 (a : Int) (i : Int) (j : Int) (data_P : List api_DateRangeV) : R := lim E fin (.loop c6 K5) (tL1 a i j data_P)
noncomputable def J2 (a : Int) (i : Int) (j : Int) (data_P : List api_DateRangeV) : R := lim E fin (.code c1 .ret) (tJ2 a i j data_P)
noncomputable def L3 (a : Int) (i : Int) (j : Int) (data_P : List api_DateRangeV) : R := lim E fin (.loop c7 K11) (tL3 a i j data_P)
noncomputable def L4 (a : Int) (i : Int) (j : Int) (data_P : List api_DateRangeV) : R := lim E fin (.loop c3 K24) (tL4 a i j data_P)
noncomputable def J5 (a : Int) (i : Int) (j : Int) (data_P : List api_DateRangeV) : R := lim E fin (.code c4 K26) (tJ5 a i j data_P)
noncomputable def L6 (a : Int) (i : Int) (j : Int) (data_P : List api_DateRangeV) : R := lim E fin (.loop c8 K28) (tL6 a i j data_P)
noncomputable def J7 (a : Int) (i : Int) (j : Int) (data_P : List api_DateRangeV) : R := lim E fin (.code c5 K26) (tJ7 a i j data_P)
noncomputable def L8 (a : Int) (i : Int) (j : Int) (data_P : List api_DateRangeV) : R := lim E fin (.loop c9 K34) (tL8 a i j data_P)
theorem J0_eq (a : Int) (i : Int) (j : Int) (data_P : List api_DateRangeV) : J0 a i j data_P = SJ0 L3 a i j data_P :=
  (lim_eq (.code c0 .ret) (tJ0 a i j data_P)).trans (sJ0 (lim E fin) a i j data_P)
theorem L1_eq (a : Int) (i : Int) (j : Int) (data_P : List api_DateRangeV) : L1 a i j data_P = SL1 L1 J0 a i j data_P :=
  (lim_eq (.loop c6 K5) (tL1 a i j data_P)).trans (sL1 (lim E fin) a i j data_P)
theorem J2_eq (a : Int) (i : Int) (j : Int) (data_P : List api_DateRangeV) : J2 a i j data_P = SJ2 L4 a i j data_P :=
  (lim_eq (.code c1 .ret) (tJ2 a i j data_P)).trans (sJ2 (lim E fin) a i j data_P)
theorem L3_eq (a : Int) (i : Int) (j : Int) (data_P : List api_DateRangeV) : L3 a i j data_P = SL3 L3 J2 a i j data_P :=
  (lim_eq (.loop c7 K11) (tL3 a i j data_P)).trans (sL3 (lim E fin) a i j data_P)
theorem L4_eq (a : Int) (i : Int) (j : Int) (data_P : List api_DateRangeV) : L4 a i j data_P = SL4 L6 a i j data_P :=
  (lim_eq (.loop c3 K24) (tL4 a i j data_P)).trans (sL4 (lim E fin) a i j data_P)
theorem J5_eq (a : Int) (i : Int) (j : Int) (data_P : List api_DateRangeV) : J5 a i j data_P = SJ5 L8 a i j data_P :=
  (lim_eq (.code c4 K26) (tJ5 a i j data_P)).trans (sJ5 (lim E fin) a i j data_P)
theorem L6_eq (a : Int) (i : Int) (j : Int) (data_P : List api_DateRangeV) : L6 a i j data_P = SL6 L6 J5 a i j data_P :=
  (lim_eq (.loop c8 K28) (tL6 a i j data_P)).trans (sL6 (lim E fin) a i j data_P)
theorem J7_eq (a : Int) (i : Int) (j : Int) (data_P : List api_DateRangeV) : J7 a i j data_P = SJ7 L4 a i j data_P :=
  (lim_eq (.code c5 K26) (tJ7 a i j data_P)).trans (sJ7 (lim E fin) a i j data_P)
theorem L8_eq (a : Int) (i : Int) (j : Int) (data_P : List api_DateRangeV) : L8 a i j data_P = SL8 L8 J7 a i j data_P :=
  (lim_eq (.loop c9 K34) (tL8 a i j data_P)).trans (sL8 (lim E fin) a i j data_P)
end slices_partitionCmpFunc_api_DateRange_daterange_Union_1
noncomputable def slices_partitionCmpFunc_api_DateRange_daterange_Union_1 (data : List api_DateRangeV) (a : Int) (b : Int) (pivot : Int) : slices_partitionCmpFunc_api_DateRange_daterange_Union_1.R :=
  slices_partitionCmpFunc_api_DateRange_daterange_Union_1.Se slices_partitionCmpFunc_api_DateRange_daterange_Union_1.L1 data a b pivot
noncomputable def slices_partitionCmpFunc_api_DateRange_daterange_Union_1.sig : Sig := ⟨slices_partitionCmpFunc_api_DateRange_daterange_Union_1.ps, slices_partitionCmpFunc_api_DateRange_daterange_Union_1.rs, fun x => slices_partitionCmpFunc_api_DateRange_daterange_Union_1 x.1 x.2.1 x.2.2.1 x.2.2.2.1⟩
theorem slices_partitionCmpFunc_api_DateRange_daterange_Union_1.ok : CallOK Try.prog 49 slices_partitionCmpFunc_api_DateRange_daterange_Union_1.sig :=
  callOK_of_lim (E := slices_partitionCmpFunc_api_DateRange_daterange_Union_1.E) mixed tt_ok (ctxOk_cons ctxOk_nil daterange_Union_1.ok Try.func31 (by kernel_rfl) (by kernel_rfl)) Try.func49 (by kernel_rfl : Try.f49.body = some (bodyOf Try.f49)) Try.ntmps49 (of_decide_eq_true (by kernel_rfl)) (of_decide_eq_true (by kernel_rfl))
    fun x y h => ((lim_eq (.code (bodyOf Try.f49) .ret) (entryFrom 0 slices_partitionCmpFunc_api_DateRange_daterange_Union_1.ps x)).trans (slices_partitionCmpFunc_api_DateRange_daterange_Union_1.se (lim slices_partitionCmpFunc_api_DateRange_daterange_Union_1.E slices_partitionCmpFunc_api_DateRange_daterange_Union_1.fin) x)).trans h
theorem slices_partitionCmpFunc_api_DateRange_daterange_Union_1.val (x : (argTy slices_partitionCmpFunc_api_DateRange_daterange_Union_1.ps).den) : lim slices_partitionCmpFunc_api_DateRange_daterange_Union_1.E slices_partitionCmpFunc_api_DateRange_daterange_Union_1.fin (.code (bodyOf Try.f49) .ret) (entryFrom 0 slices_partitionCmpFunc_api_DateRange_daterange_Union_1.ps x) = slices_partitionCmpFunc_api_DateRange_daterange_Union_1.sig.run x :=
  (lim_eq (.code (bodyOf Try.f49) .ret) (entryFrom 0 slices_partitionCmpFunc_api_DateRange_daterange_Union_1.ps x)).trans (slices_partitionCmpFunc_api_DateRange_daterange_Union_1.se (lim slices_partitionCmpFunc_api_DateRange_daterange_Union_1.E slices_partitionCmpFunc_api_DateRange_daterange_Union_1.fin) x)
noncomputable def slices_partitionCmpFunc_api_DateRange_daterange_Union_1.ctxc (n : Nat) : List (Nat × Sig) := [(31, daterange_Union_1.sigc n)]
noncomputable def slices_partitionCmpFunc_api_DateRange_daterange_Union_1.sigc (n : Nat) : Sig := ⟨slices_partitionCmpFunc_api_DateRange_daterange_Union_1.ps, slices_partitionCmpFunc_api_DateRange_daterange_Union_1.rs, fun x => runs (withCtx slices_partitionCmpFunc_api_DateRange_daterange_Union_1.E (slices_partitionCmpFunc_api_DateRange_daterange_Union_1.ctxc n)) slices_partitionCmpFunc_api_DateRange_daterange_Union_1.fin n (.code (bodyOf Try.f49) .ret) (entryFrom 0 slices_partitionCmpFunc_api_DateRange_daterange_Union_1.ps x)⟩
theorem slices_partitionCmpFunc_api_DateRange_daterange_Union_1.sigc_le (n : Nat) : ∀ x y, (slices_partitionCmpFunc_api_DateRange_daterange_Union_1.sigc n).run x = some y → slices_partitionCmpFunc_api_DateRange_daterange_Union_1.sig.run x = some y :=
  fun x y h => (slices_partitionCmpFunc_api_DateRange_daterange_Union_1.val x).symm.trans (runs_lim (E := slices_partitionCmpFunc_api_DateRange_daterange_Union_1.E) (c := slices_partitionCmpFunc_api_DateRange_daterange_Union_1.ctxc n) (ctxLe_cons ctxLe_nil (daterange_Union_1.sigc_le n)) h)

/-! ### slices.pdqsortCmpFunc[guerdon/api.DateRange] -/
namespace slices_pdqsortCmpFunc_api_DateRange_daterange_Union_1
abbrev ps : List PM := [.own api_DateRange, .pure (.int .i64), .pure (.int .i64), .pure (.int .i64), .fn 31]
abbrev rs : List RM := []
abbrev R : Type := Option (List api_DateRangeV × Unit)
noncomputable def E0 : Env := { tt := tt, ctx := [], nt := 148, ann := [(1000002, [(0, .keep), (1, .keep), (2, .keep), (3, .keep), (4, .keep), (10, .keep), (11, .keep)]), (10, [(0, .keep), (1, .keep), (2, .keep), (3, .keep), (4, .keep), (10, .keep), (11, .keep), (12, .keep)]), (15, [(0, .keep), (1, .keep), (2, .keep), (3, .keep), (4, .keep), (10, .keep), (11, .keep), (12, .keep), (13, .keep), (14, .keep)]), (17, [(0, .keep), (1, .keep), (2, .keep), (3, .keep), (4, .keep), (10, .keep), (11, .keep), (12, .keep), (13, .keep)]), (18, [(0, .keep), (1, .keep), (2, .keep), (3, .keep), (4, .keep), (10, .keep), (11, .keep), (12, .keep), (13, .keep), (97, .keep)])] }
noncomputable def ctx0 : List (Nat × Sig) := [(42, slices_insertionSortCmpFunc_api_DateRange_daterange_Union_1.sig), (43, slices_heapSortCmpFunc_api_DateRange_daterange_Union_1.sig), (44, slices_breakPatternsCmpFunc_api_DateRange_daterange_Union_1.sig), (45, slices_choosePivotCmpFunc_api_DateRange_daterange_Union_1.sig), (46, slices_reverseRangeCmpFunc_api_DateRange_daterange_Union_1.sig), (47, slices_partialInsertionSortCmpFunc_api_DateRange_daterange_Union_1.sig), (31, daterange_Union_1.sig), (48, slices_partitionEqualCmpFunc_api_DateRange_daterange_Union_1.sig), (49, slices_partitionCmpFunc_api_DateRange_daterange_Union_1.sig)]
noncomputable def E (self : (List api_DateRangeV) → Int → Int → Int → R) : Env := withCtx E0 ((38, ⟨ps, rs, fun x => self x.1 x.2.1 x.2.2.1 x.2.2.2.1⟩) :: ctx0)
noncomputable def c0 : Code := sub [1, 1, 0, 0] (bodyOf Try.f38)
noncomputable def c1 : Code := sub [1, 1, 0, 0, 0, 1, 1, 1, 1, 1, 1, 1, 1] (bodyOf Try.f38)
noncomputable def c2 : Code := sub [1, 1, 0, 0, 0, 1, 1, 1, 1] (bodyOf Try.f38)
noncomputable def c3 : Code := sub [1, 1, 0, 0, 0, 1, 1, 1, 1, 1, 1] (bodyOf Try.f38)
noncomputable def c4 : Code := sub [1, 1, 0, 0, 0, 1, 1, 1, 1, 1, 1, 1] (bodyOf Try.f38)
noncomputable def c5 : Code := sub [1, 1, 0, 0, 0, 1, 1, 1, 1, 1, 1, 1, 0, 1] (bodyOf Try.f38)
noncomputable def K3 : Kont := .blk 0 .ret
noncomputable def K4 : Kont := .loop c0 K3
noncomputable def K5 : Kont := .blk 1 K4
noncomputable def K24 : Kont := .seq c1 K5
noncomputable def fin : ASt → R := Kret E0 Try.f38.results.toList ps rs
def tL0 (a : Int) (b : Int) (limit : Int) (wasBalanced : Bool) (wasPartitioned : Bool) (data_P : List api_DateRangeV) : ASt := ⟨[(11, .one (.val .bool wasPartitioned)), (10, .one (.val .bool wasBalanced)), (4, .one (.fn 31 [])), (3, .one (.val (.int .i64) limit)), (2, .one (.val (.int .i64) b)), (1, .one (.val (.int .i64) a)), (0, .one (.own 10000))], [(10000, some ⟨.fixed, api_DateRange, data_P⟩)]⟩
def tJ1 (a : Int) (b : Int) (limit : Int) (wasBalanced : Bool) (wasPartitioned : Bool) (length_12 : Int) (data_P : List api_DateRangeV) : ASt := ⟨[(12, .one (.val (.int .i64) length_12)), (11, .one (.val .bool wasPartitioned)), (10, .one (.val .bool wasBalanced)), (4, .one (.fn 31 [])), (3, .one (.val (.int .i64) limit)), (2, .one (.val (.int .i64) b)), (1, .one (.val (.int .i64) a)), (0, .one (.own 10000))], [(10000, some ⟨.fixed, api_DateRange, data_P⟩)]⟩
def tJ2 (a : Int) (b : Int) (limit : Int) (wasBalanced : Bool) (wasPartitioned : Bool) (length_12 : Int) (pivot : Int) (hint : Int) (data_P : List api_DateRangeV) : ASt := ⟨[(14, .one (.val (.int .i64) hint)), (13, .one (.val (.int .i64) pivot)), (12, .one (.val (.int .i64) length_12)), (11, .one (.val .bool wasPartitioned)), (10, .one (.val .bool wasBalanced)), (4, .one (.fn 31 [])), (3, .one (.val (.int .i64) limit)), (2, .one (.val (.int .i64) b)), (1, .one (.val (.int .i64) a)), (0, .one (.own 10000))], [(10000, some ⟨.fixed, api_DateRange, data_P⟩)]⟩
def tJ3 (a : Int) (b : Int) (limit : Int) (wasBalanced : Bool) (wasPartitioned : Bool) (length_12 : Int) (pivot : Int) (data_P : List api_DateRangeV) : ASt := ⟨[(13, .one (.val (.int .i64) pivot)), (12, .one (.val (.int .i64) length_12)), (11, .one (.val .bool wasPartitioned)), (10, .one (.val .bool wasBalanced)), (4, .one (.fn 31 [])), (3, .one (.val (.int .i64) limit)), (2, .one (.val (.int .i64) b)), (1, .one (.val (.int .i64) a)), (0, .one (.own 10000))], [(10000, some ⟨.fixed, api_DateRange, data_P⟩)]⟩
def tJ4 (a : Int) (b : Int) (limit : Int) (wasBalanced : Bool) (wasPartitioned : Bool) (length_12 : Int) (pivot : Int) (v_97 : Bool) (data_P : List api_DateRangeV) : ASt := ⟨[(97, .one (.val .bool v_97)), (13, .one (.val (.int .i64) pivot)), (12, .one (.val (.int .i64) length_12)), (11, .one (.val .bool wasPartitioned)), (10, .one (.val .bool wasBalanced)), (4, .one (.fn 31 [])), (3, .one (.val (.int .i64) limit)), (2, .one (.val (.int .i64) b)), (1, .one (.val (.int .i64) a)), (0, .one (.own 10000))], [(10000, some ⟨.fixed, api_DateRange, data_P⟩)]⟩
noncomputable def SL0 (self : (List api_DateRangeV) → Int → Int → Int → R) (kJ1 : Int → Int → Int → Bool → Bool → Int → (List api_DateRangeV) → R) (a : Int) (b : Int) (limit : Int) (wasBalanced : Bool) (wasPartitioned : Bool) (data_P : List api_DateRangeV) : R :=
  cond (decide ((IntKind.i64.wrap (b - a)) ≤ 12))
    (Option.bind (slices_insertionSortCmpFunc_api_DateRange_daterange_Union_1 data_P a b) fun x1 =>
    some (x1.1, ()))
    (cond (limit == 0)
      (Option.bind (slices_heapSortCmpFunc_api_DateRange_daterange_Union_1 data_P a b) fun x2 =>
      some (x2.1, ()))
      (cond (!wasBalanced)
        (Option.bind (slices_breakPatternsCmpFunc_api_DateRange_daterange_Union_1 data_P a b) fun x3 =>
        kJ1 a b (IntKind.i64.wrap (limit - 1)) wasBalanced wasPartitioned (IntKind.i64.wrap (b - a)) x3.1)
        (kJ1 a b limit wasBalanced wasPartitioned (IntKind.i64.wrap (b - a)) data_P)))
noncomputable def SJ1 (self : (List api_DateRangeV) → Int → Int → Int → R) (kJ2 : Int → Int → Int → Bool → Bool → Int → Int → Int → (List api_DateRangeV) → R) (a : Int) (b : Int) (limit : Int) (wasBalanced : Bool) (wasPartitioned : Bool) (length_12 : Int) (data_P : List api_DateRangeV) : R :=
  Option.bind (slices_choosePivotCmpFunc_api_DateRange_daterange_Union_1 data_P a b) fun x1 =>
  cond (x1.2.1 == 2)
    (Option.bind (slices_reverseRangeCmpFunc_api_DateRange_daterange_Union_1 data_P a b) fun x2 =>
    kJ2 a b limit wasBalanced wasPartitioned length_12 (IntKind.i64.wrap ((IntKind.i64.wrap (b - 1)) - (IntKind.i64.wrap (x1.1 - a)))) 1 x2.1)
    (kJ2 a b limit wasBalanced wasPartitioned length_12 x1.1 x1.2.1 data_P)
noncomputable def SJ2 (self : (List api_DateRangeV) → Int → Int → Int → R) (kJ3 : Int → Int → Int → Bool → Bool → Int → Int → (List api_DateRangeV) → R) (a : Int) (b : Int) (limit : Int) (wasBalanced : Bool) (wasPartitioned : Bool) (length_12 : Int) (pivot : Int) (hint : Int) (data_P : List api_DateRangeV) : R :=
  cond wasBalanced
    (cond wasPartitioned
      (cond (hint == 1)
        (Option.bind (slices_partialInsertionSortCmpFunc_api_DateRange_daterange_Union_1 data_P a b) fun x1 =>
        cond x1.1
          (some (x1.2.1, ()))
          (kJ3 a b limit wasBalanced wasPartitioned length_12 pivot x1.2.1))
        (kJ3 a b limit wasBalanced wasPartitioned length_12 pivot data_P))
      (kJ3 a b limit wasBalanced wasPartitioned length_12 pivot data_P))
    (kJ3 a b limit wasBalanced wasPartitioned length_12 pivot data_P)
noncomputable def SJ3 (self : (List api_DateRangeV) → Int → Int → Int → R) (kJ4 : Int → Int → Int → Bool → Bool → Int → Int → Bool → (List api_DateRangeV) → R) (a : Int) (b : Int) (limit : Int) (wasBalanced : Bool) (wasPartitioned : Bool) (length_12 : Int) (pivot : Int) (data_P : List api_DateRangeV) : R :=
  cond (decide (a > 0))
    (cond (decide (0 ≤ IntKind.i64.wrap (a - 1)) && decide (IntKind.i64.wrap (a - 1) < (data_P.length : Int)))
      (cond (decide (0 ≤ pivot) && decide (pivot < (data_P.length : Int)))
        (Option.bind (daterange_Union_1 (data_P.getD ((IntKind.i64.wrap (a - 1)).toNat) (0, 0, ())) (data_P.getD pivot.toNat (0, 0, ()))) fun x1 =>
        kJ4 a b limit wasBalanced wasPartitioned length_12 pivot (!(decide (x1.1 < 0))) data_P)
        none)
      none)
    (kJ4 a b limit wasBalanced wasPartitioned length_12 pivot false data_P)
noncomputable def SJ4 (self : (List api_DateRangeV) → Int → Int → Int → R) (kL0 : Int → Int → Int → Bool → Bool → (List api_DateRangeV) → R) (a : Int) (b : Int) (limit : Int) (wasBalanced : Bool) (wasPartitioned : Bool) (length_12 : Int) (pivot : Int) (v_97 : Bool) (data_P : List api_DateRangeV) : R :=
  cond v_97
    (Option.bind (slices_partitionEqualCmpFunc_api_DateRange_daterange_Union_1 data_P a b pivot) fun x1 =>
    kL0 x1.1 b limit wasBalanced wasPartitioned x1.2.1)
    (Option.bind (slices_partitionCmpFunc_api_DateRange_daterange_Union_1 data_P a b pivot) fun x2 =>
    cond (decide ((IntKind.i64.wrap (x2.1 - a)) < (IntKind.i64.wrap (b - x2.1))))
      (Option.bind (self x2.2.2.1 a x2.1 limit) fun x3 =>
      kL0 (IntKind.i64.wrap (x2.1 + 1)) b limit (decide ((IntKind.i64.wrap (x2.1 - a)) ≥ (IntKind.i64.wrap (Int.tdiv length_12 8)))) x2.2.1 x3.1)
      (Option.bind (self x2.2.2.1 (IntKind.i64.wrap (x2.1 + 1)) b limit) fun x4 =>
      kL0 a x2.1 limit (decide ((IntKind.i64.wrap (b - x2.1)) ≥ (IntKind.i64.wrap (Int.tdiv length_12 8)))) x2.2.1 x4.1))
noncomputable def Se (self : (List api_DateRangeV) → Int → Int → Int → R) (kL0 : Int → Int → Int → Bool → Bool → (List api_DateRangeV) → R) (data : List api_DateRangeV) (a : Int) (b : Int) (limit : Int) : R :=
  kL0 a b limit true true data
theorem sL0 (self : (List api_DateRangeV) → Int → Int → Int → R) (jmp : Tgt → ASt → R) (a : Int) (b : Int) (limit : Int) (wasBalanced : Bool) (wasPartitioned : Bool) (data_P : List api_DateRangeV) : run (E self) jmp fin depth c0 (.loop c0 K3) (tL0 a b limit wasBalanced wasPartitioned data_P) =
    SL0 self (fun a b limit wasBalanced wasPartitioned length_12 data_P => jmp (.code c2 K5) (tJ1 a b limit wasBalanced wasPartitioned length_12 data_P)) a b limit wasBalanced wasPartitioned data_P := by kernel_rfl
theorem sJ1 (self : (List api_DateRangeV) → Int → Int → Int → R) (jmp : Tgt → ASt → R) (a : Int) (b : Int) (limit : Int) (wasBalanced : Bool) (wasPartitioned : Bool) (length_12 : Int) (data_P : List api_DateRangeV) : run (E self) jmp fin depth c2 K5 (tJ1 a b limit wasBalanced wasPartitioned length_12 data_P) =
    SJ1 self (fun a b limit wasBalanced wasPartitioned length_12 pivot hint data_P => jmp (.code c3 K5) (tJ2 a b limit wasBalanced wasPartitioned length_12 pivot hint data_P)) a b limit wasBalanced wasPartitioned length_12 data_P := by kernel_rfl
theorem sJ2 (self : (List api_DateRangeV) → Int → Int → Int → R) (jmp : Tgt → ASt → R) (a : Int) (b : Int) (limit : Int) (wasBalanced : Bool) (wasPartitioned : Bool) (length_12 : Int) (pivot : Int) (hint : Int) (data_P : List api_DateRangeV) : run (E self) jmp fin depth c3 K5 (tJ2 a b limit wasBalanced wasPartitioned length_12 pivot hint data_P) =
    SJ2 self (fun a b limit wasBalanced wasPartitioned length_12 pivot data_P => jmp (.code c4 K5) (tJ3 a b limit wasBalanced wasPartitioned length_12 pivot data_P)) a b limit wasBalanced wasPartitioned length_12 pivot hint data_P := by kernel_rfl
theorem sJ3 (self : (List api_DateRangeV) → Int → Int → Int → R) (jmp : Tgt → ASt → R) (a : Int) (b : Int) (limit : Int) (wasBalanced : Bool) (wasPartitioned : Bool) (length_12 : Int) (pivot : Int) (data_P : List api_DateRangeV) : run (E self) jmp fin depth c4 K5 (tJ3 a b limit wasBalanced wasPartitioned length_12 pivot data_P) =
    SJ3 self (fun a b limit wasBalanced wasPartitioned length_12 pivot v_97 data_P => jmp (.code c5 K24) (tJ4 a b limit wasBalanced wasPartitioned length_12 pivot v_97 data_P)) a b limit wasBalanced wasPartitioned length_12 pivot data_P := by kernel_rfl
theorem sJ4 (self : (List api_DateRangeV) → Int → Int → Int → R) (jmp : Tgt → ASt → R) (a : Int) (b : Int) (limit : Int) (wasBalanced : Bool) (wasPartitioned : Bool) (length_12 : Int) (pivot : Int) (v_97 : Bool) (data_P : List api_DateRangeV) : run (E self) jmp fin depth c5 K24 (tJ4 a b limit wasBalanced wasPartitioned length_12 pivot v_97 data_P) =
    SJ4 self (fun a b limit wasBalanced wasPartitioned data_P => jmp (.loop c0 K3) (tL0 a b limit wasBalanced wasPartitioned data_P)) a b limit wasBalanced wasPartitioned length_12 pivot v_97 data_P := by kernel_rfl
theorem se (self : (List api_DateRangeV) → Int → Int → Int → R) (jmp : Tgt → ASt → R) (x : (argTy ps).den) : run (E self) jmp fin depth (bodyOf Try.f38) .ret (entryFrom 0 ps x) =
    Se self (fun a b limit wasBalanced wasPartitioned data_P => jmp (.loop c0 K3) (tL0 a b limit wasBalanced wasPartitioned data_P)) x.1 x.2.1 x.2.2.1 x.2.2.2.1 := by kernel_rfl
end slices_pdqsortCmpFunc_api_DateRange_daterange_Union_1
noncomputable def slices_pdqsortCmpFunc_api_DateRange_daterange_Union_1 (data : List api_DateRangeV) (a : Int) (b : Int) (limit : Int) : slices_pdqsortCmpFunc_api_DateRange_daterange_Union_1.R :=
  recF slices_pdqsortCmpFunc_api_DateRange_daterange_Union_1.E0 slices_pdqsortCmpFunc_api_DateRange_daterange_Union_1.ctx0 38 slices_pdqsortCmpFunc_api_DateRange_daterange_Union_1.ps slices_pdqsortCmpFunc_api_DateRange_daterange_Union_1.rs slices_pdqsortCmpFunc_api_DateRange_daterange_Union_1.fin (bodyOf Try.f38) (data, a, b, limit, (), ())
namespace slices_pdqsortCmpFunc_api_DateRange_daterange_Union_1
noncomputable def L0 (a : Int) (b : Int) (limit : Int) (wasBalanced : Bool) (wasPartitioned : Bool) (data_P : List api_DateRangeV) : R := lim (E slices_pdqsortCmpFunc_api_DateRange_daterange_Union_1) fin (.loop c0 K3) (tL0 a b limit wasBalanced wasPartitioned data_P)
noncomputable def J1 (a : Int) (b : Int) (limit : Int) (wasBalanced : Bool) (wasPartitioned : Bool) (length_12 : Int) (data_P : List api_DateRangeV) : R := lim (E slices_pdqsortCmpFunc_api_DateRange_daterange_Union_1) fin (.code c2 K5) (tJ1 a b limit wasBalanced wasPartitioned length_12 data_P)
noncomputable def J2 (a : Int) (b : Int) (limit : Int) (wasBalanced : Bool) (wasPartitioned : Bool) (length_12 : Int) (pivot : Int) (hint : Int) (data_P : List api_DateRangeV) : R := lim (E slices_pdqsortCmpFunc_api_DateRange_daterange_Union_1) fin (.code c3 K5) (tJ2 a b limit wasBalanced wasPartitioned length_12 pivot hint data_P)
noncomputable def J3 (a : Int) (b : Int) (limit : Int) (wasBalanced : Bool) (wasPartitioned : Bool) (length_12 : Int) (pivot : Int) (data_P : List api_DateRangeV) : R := lim (E slices_pdqsortCmpFunc_api_DateRange_daterange_Union_1) fin (.code c4 K5) (tJ3 a b limit wasBalanced wasPartitioned length_12 pivot data_P)
noncomputable def J4 (a : Int) (b : Int) (limit : Int) (wasBalanced : Bool) (wasPartitioned : Bool) (length_12 : Int) (pivot : Int) (v_97 : Bool) (data_P : List api_DateRangeV) : R := lim (E slices_pdqsortCmpFunc_api_DateRange_daterange_Union_1) fin (.code c5 K24) (tJ4 a b limit wasBalanced wasPartitioned length_12 pivot v_97 data_P)
theorem L0_eq (a : Int) (b : Int) (limit : Int) (wasBalanced : Bool) (wasPartitioned : Bool) (data_P : List api_DateRangeV) : L0 a b limit wasBalanced wasPartitioned data_P = SL0 slices_pdqsortCmpFunc_api_DateRange_daterange_Union_1 J1 a b limit wasBalanced wasPartitioned data_P :=
  (lim_eq (.loop c0 K3) (tL0 a b limit wasBalanced wasPartitioned data_P)).trans (sL0 slices_pdqsortCmpFunc_api_DateRange_daterange_Union_1 (lim (E slices_pdqsortCmpFunc_api_DateRange_daterange_Union_1) fin) a b limit wasBalanced wasPartitioned data_P)
theorem J1_eq (a : Int) (b : Int) (limit : Int) (wasBalanced : Bool) (wasPartitioned : Bool) (length_12 : Int) (data_P : List api_DateRangeV) : J1 a b limit wasBalanced wasPartitioned length_12 data_P = SJ1 slices_pdqsortCmpFunc_api_DateRange_daterange_Union_1 J2 a b limit wasBalanced wasPartitioned length_12 data_P :=
  (lim_eq (.code c2 K5) (tJ1 a b limit wasBalanced wasPartitioned length_12 data_P)).trans (sJ1 slices_pdqsortCmpFunc_api_DateRange_daterange_Union_1 (lim (E slices_pdqsortCmpFunc_api_DateRange_daterange_Union_1) fin) a b limit wasBalanced wasPartitioned length_12 data_P)
theorem J2_eq (a : Int) (b : Int) (limit : Int) (wasBalanced : Bool) (wasPartitioned : Bool) (length_12 : Int) (pivot : Int) (hint : Int) (data_P : List api_DateRangeV) : J2 a b limit wasBalanced wasPartitioned length_12 pivot hint data_P = SJ2 slices_pdqsortCmpFunc_api_DateRange_daterange_Union_1 J3 a b limit wasBalanced wasPartitioned length_12 pivot hint data_P :=
  (lim_eq (.code c3 K5) (tJ2 a b limit wasBalanced wasPartitioned length_12 pivot hint data_P)).trans (sJ2 slices_pdqsortCmpFunc_api_DateRange_daterange_Union_1 (lim (E slices_pdqsortCmpFunc_api_DateRange_daterange_Union_1) fin) a b limit wasBalanced wasPartitioned length_12 pivot hint data_P)
theorem J3_eq (a : Int) (b : Int) (limit : Int) (wasBalanced : Bool) (wasPartitioned : Bool) (length_12 : Int) (pivot : Int) (data_P : List api_DateRangeV) : J3 a b limit wasBalanced wasPartitioned length_12 pivot data_P = SJ3 slices_pdqsortCmpFunc_api_DateRange_daterange_Union_1 J4 a b limit wasBalanced wasPartitioned length_12 pivot data_P :=
  (lim_eq (.code c4 K5) (tJ3 a b limit wasBalanced wasPartitioned length_12 pivot data_P)).trans (sJ3 slices_pdqsortCmpFunc_api_DateRange_daterange_Union_1 (lim (E slices_pdqsortCmpFunc_api_DateRange_daterange_Union_1) fin) a b limit wasBalanced wasPartitioned length_12 pivot data_P)
theorem J4_eq (a : Int) (b : Int) (limit : Int) (wasBalanced : Bool) (wasPartitioned : Bool) (length_12 : Int) (pivot : Int) (v_97 : Bool) (data_P : List api_DateRangeV) : J4 a b limit wasBalanced wasPartitioned length_12 pivot v_97 data_P = SJ4 slices_pdqsortCmpFunc_api_DateRange_daterange_Union_1 L0 a b limit wasBalanced wasPartitioned length_12 pivot v_97 data_P :=
  (lim_eq (.code c5 K24) (tJ4 a b limit wasBalanced wasPartitioned length_12 pivot v_97 data_P)).trans (sJ4 slices_pdqsortCmpFunc_api_DateRange_daterange_Union_1 (lim (E slices_pdqsortCmpFunc_api_DateRange_daterange_Union_1) fin) a b limit wasBalanced wasPartitioned length_12 pivot v_97 data_P)
theorem selfrun : (fun x : (argTy ps).den => slices_pdqsortCmpFunc_api_DateRange_daterange_Union_1 x.1 x.2.1 x.2.2.1 x.2.2.2.1) = recF E0 ctx0 38 ps rs fin (bodyOf Try.f38) := by kernel_rfl
end slices_pdqsortCmpFunc_api_DateRange_daterange_Union_1
noncomputable def slices_pdqsortCmpFunc_api_DateRange_daterange_Union_1.sig : Sig := ⟨slices_pdqsortCmpFunc_api_DateRange_daterange_Union_1.ps, slices_pdqsortCmpFunc_api_DateRange_daterange_Union_1.rs, fun x => slices_pdqsortCmpFunc_api_DateRange_daterange_Union_1 x.1 x.2.1 x.2.2.1 x.2.2.2.1⟩
theorem slices_pdqsortCmpFunc_api_DateRange_daterange_Union_1.val (x : (argTy slices_pdqsortCmpFunc_api_DateRange_daterange_Union_1.ps).den) : lim (slices_pdqsortCmpFunc_api_DateRange_daterange_Union_1.E slices_pdqsortCmpFunc_api_DateRange_daterange_Union_1) slices_pdqsortCmpFunc_api_DateRange_daterange_Union_1.fin (.code (bodyOf Try.f38) .ret) (entryFrom 0 slices_pdqsortCmpFunc_api_DateRange_daterange_Union_1.ps x) = slices_pdqsortCmpFunc_api_DateRange_daterange_Union_1.sig.run x := by
  have h := recF_eq (E := slices_pdqsortCmpFunc_api_DateRange_daterange_Union_1.E0) (ctx := slices_pdqsortCmpFunc_api_DateRange_daterange_Union_1.ctx0) (f := 38) (ps := slices_pdqsortCmpFunc_api_DateRange_daterange_Union_1.ps) (rs := slices_pdqsortCmpFunc_api_DateRange_daterange_Union_1.rs) (fin := slices_pdqsortCmpFunc_api_DateRange_daterange_Union_1.fin) (body := bodyOf Try.f38) x
  rw [← slices_pdqsortCmpFunc_api_DateRange_daterange_Union_1.selfrun] at h
  exact h.symm
theorem slices_pdqsortCmpFunc_api_DateRange_daterange_Union_1_eq (data : List api_DateRangeV) (a : Int) (b : Int) (limit : Int) : slices_pdqsortCmpFunc_api_DateRange_daterange_Union_1 data a b limit = slices_pdqsortCmpFunc_api_DateRange_daterange_Union_1.Se slices_pdqsortCmpFunc_api_DateRange_daterange_Union_1 slices_pdqsortCmpFunc_api_DateRange_daterange_Union_1.L0 data a b limit :=
  (slices_pdqsortCmpFunc_api_DateRange_daterange_Union_1.val (data, a, b, limit, (), ())).symm.trans ((lim_eq (.code (bodyOf Try.f38) .ret) (entryFrom 0 slices_pdqsortCmpFunc_api_DateRange_daterange_Union_1.ps (data, a, b, limit, (), ()))).trans (slices_pdqsortCmpFunc_api_DateRange_daterange_Union_1.se slices_pdqsortCmpFunc_api_DateRange_daterange_Union_1 (lim (slices_pdqsortCmpFunc_api_DateRange_daterange_Union_1.E slices_pdqsortCmpFunc_api_DateRange_daterange_Union_1) slices_pdqsortCmpFunc_api_DateRange_daterange_Union_1.fin) (data, a, b, limit, (), ())))
theorem slices_pdqsortCmpFunc_api_DateRange_daterange_Union_1.ok : CallOK Try.prog 38 slices_pdqsortCmpFunc_api_DateRange_daterange_Union_1.sig := by
  have h := callOK_rec (E := slices_pdqsortCmpFunc_api_DateRange_daterange_Union_1.E0) (ctx := slices_pdqsortCmpFunc_api_DateRange_daterange_Union_1.ctx0) (f := 38) (ps := slices_pdqsortCmpFunc_api_DateRange_daterange_Union_1.ps) (rs := slices_pdqsortCmpFunc_api_DateRange_daterange_Union_1.rs) (fin := slices_pdqsortCmpFunc_api_DateRange_daterange_Union_1.fin) (body := bodyOf Try.f38) mixed tt_ok (ctxOk_cons (ctxOk_cons (ctxOk_cons (ctxOk_cons (ctxOk_cons (ctxOk_cons (ctxOk_cons (ctxOk_cons (ctxOk_cons ctxOk_nil slices_partitionCmpFunc_api_DateRange_daterange_Union_1.ok Try.func49 (by kernel_rfl) (by kernel_rfl)) slices_partitionEqualCmpFunc_api_DateRange_daterange_Union_1.ok Try.func48 (by kernel_rfl) (by kernel_rfl)) daterange_Union_1.ok Try.func31 (by kernel_rfl) (by kernel_rfl)) slices_partialInsertionSortCmpFunc_api_DateRange_daterange_Union_1.ok Try.func47 (by kernel_rfl) (by kernel_rfl)) slices_reverseRangeCmpFunc_api_DateRange_daterange_Union_1.ok Try.func46 (by kernel_rfl) (by kernel_rfl)) slices_choosePivotCmpFunc_api_DateRange_daterange_Union_1.ok Try.func45 (by kernel_rfl) (by kernel_rfl)) slices_breakPatternsCmpFunc_api_DateRange_daterange_Union_1.ok Try.func44 (by kernel_rfl) (by kernel_rfl)) slices_heapSortCmpFunc_api_DateRange_daterange_Union_1.ok Try.func43 (by kernel_rfl) (by kernel_rfl)) slices_insertionSortCmpFunc_api_DateRange_daterange_Union_1.ok Try.func42 (by kernel_rfl) (by kernel_rfl)) Try.func38 (by kernel_rfl : Try.f38.body = some (bodyOf Try.f38)) (by kernel_rfl) (by kernel_rfl) Try.ntmps38 (of_decide_eq_true (by kernel_rfl)) (of_decide_eq_true (by kernel_rfl)) rfl
  rw [← slices_pdqsortCmpFunc_api_DateRange_daterange_Union_1.selfrun] at h
  exact h
noncomputable def slices_pdqsortCmpFunc_api_DateRange_daterange_Union_1.ctxc (n : Nat) : List (Nat × Sig) := [(42, slices_insertionSortCmpFunc_api_DateRange_daterange_Union_1.sigc n), (43, slices_heapSortCmpFunc_api_DateRange_daterange_Union_1.sigc n), (44, slices_breakPatternsCmpFunc_api_DateRange_daterange_Union_1.sigc n), (45, slices_choosePivotCmpFunc_api_DateRange_daterange_Union_1.sigc n), (46, slices_reverseRangeCmpFunc_api_DateRange_daterange_Union_1.sigc n), (47, slices_partialInsertionSortCmpFunc_api_DateRange_daterange_Union_1.sigc n), (31, daterange_Union_1.sigc n), (48, slices_partitionEqualCmpFunc_api_DateRange_daterange_Union_1.sigc n), (49, slices_partitionCmpFunc_api_DateRange_daterange_Union_1.sigc n)]
noncomputable def slices_pdqsortCmpFunc_api_DateRange_daterange_Union_1.runc (n : Nat) : Nat → (argTy slices_pdqsortCmpFunc_api_DateRange_daterange_Union_1.ps).den → slices_pdqsortCmpFunc_api_DateRange_daterange_Union_1.R
  | 0, _ => none
  | d + 1, x => runs (withCtx slices_pdqsortCmpFunc_api_DateRange_daterange_Union_1.E0 ((38, ⟨slices_pdqsortCmpFunc_api_DateRange_daterange_Union_1.ps, slices_pdqsortCmpFunc_api_DateRange_daterange_Union_1.rs, slices_pdqsortCmpFunc_api_DateRange_daterange_Union_1.runc n d⟩) :: slices_pdqsortCmpFunc_api_DateRange_daterange_Union_1.ctxc n)) slices_pdqsortCmpFunc_api_DateRange_daterange_Union_1.fin n (.code (bodyOf Try.f38) .ret) (entryFrom 0 slices_pdqsortCmpFunc_api_DateRange_daterange_Union_1.ps x)
noncomputable def slices_pdqsortCmpFunc_api_DateRange_daterange_Union_1.sigc (n : Nat) : Sig := ⟨slices_pdqsortCmpFunc_api_DateRange_daterange_Union_1.ps, slices_pdqsortCmpFunc_api_DateRange_daterange_Union_1.rs, slices_pdqsortCmpFunc_api_DateRange_daterange_Union_1.runc n n⟩
theorem slices_pdqsortCmpFunc_api_DateRange_daterange_Union_1.runc_le (n : Nat) : ∀ d x y, slices_pdqsortCmpFunc_api_DateRange_daterange_Union_1.runc n d x = some y → slices_pdqsortCmpFunc_api_DateRange_daterange_Union_1.sig.run x = some y := by
  intro d
  induction d with
  | zero => intro x y h; cases h
  | succ d ih => exact fun x y h => (slices_pdqsortCmpFunc_api_DateRange_daterange_Union_1.val x).symm.trans (runs_lim (E := slices_pdqsortCmpFunc_api_DateRange_daterange_Union_1.E slices_pdqsortCmpFunc_api_DateRange_daterange_Union_1) (c := (38, ⟨slices_pdqsortCmpFunc_api_DateRange_daterange_Union_1.ps, slices_pdqsortCmpFunc_api_DateRange_daterange_Union_1.rs, slices_pdqsortCmpFunc_api_DateRange_daterange_Union_1.runc n d⟩) :: slices_pdqsortCmpFunc_api_DateRange_daterange_Union_1.ctxc n) (ctxLe_cons (ctxLe_cons (ctxLe_cons (ctxLe_cons (ctxLe_cons (ctxLe_cons (ctxLe_cons (ctxLe_cons (ctxLe_cons (ctxLe_cons ctxLe_nil (slices_partitionCmpFunc_api_DateRange_daterange_Union_1.sigc_le n)) (slices_partitionEqualCmpFunc_api_DateRange_daterange_Union_1.sigc_le n)) (daterange_Union_1.sigc_le n)) (slices_partialInsertionSortCmpFunc_api_DateRange_daterange_Union_1.sigc_le n)) (slices_reverseRangeCmpFunc_api_DateRange_daterange_Union_1.sigc_le n)) (slices_choosePivotCmpFunc_api_DateRange_daterange_Union_1.sigc_le n)) (slices_breakPatternsCmpFunc_api_DateRange_daterange_Union_1.sigc_le n)) (slices_heapSortCmpFunc_api_DateRange_daterange_Union_1.sigc_le n)) (slices_insertionSortCmpFunc_api_DateRange_daterange_Union_1.sigc_le n)) ih) h)
theorem slices_pdqsortCmpFunc_api_DateRange_daterange_Union_1.sigc_le (n : Nat) : ∀ x y, (slices_pdqsortCmpFunc_api_DateRange_daterange_Union_1.sigc n).run x = some y → slices_pdqsortCmpFunc_api_DateRange_daterange_Union_1.sig.run x = some y := slices_pdqsortCmpFunc_api_DateRange_daterange_Union_1.runc_le n n

/-! ### slices.SortFunc[[]guerdon/api.DateRange,guerdon/api.DateRange] -/
namespace slices_SortFunc_api_DateRange_api_DateRange_daterange_Union_1
abbrev ps : List PM := [.own api_DateRange, .fn 31]
abbrev rs : List RM := []
abbrev R : Type := Option (List api_DateRangeV × Unit)
noncomputable def E : Env := { tt := tt, ctx := [(39, math_bits_Len.sig), (38, slices_pdqsortCmpFunc_api_DateRange_daterange_Union_1.sig)], nt := 14, ann := [] }
noncomputable def fin : ASt → R := Kret E Try.f30.results.toList ps rs
noncomputable def Se (x_0 : List api_DateRangeV) : R :=
  Option.bind (math_bits_Len (IntKind.u64.wrap (x_0.length : Int))) fun x1 =>
  Option.bind (slices_pdqsortCmpFunc_api_DateRange_daterange_Union_1 x_0 0 (x_0.length : Int) x1.1) fun x2 =>
  some (x2.1, ())
theorem se (jmp : Tgt → ASt → R) (x : (argTy ps).den) : run E jmp fin depth (bodyOf Try.f30) .ret (entryFrom 0 ps x) =
    Se x.1 := by kernel_rfl
end slices_SortFunc_api_DateRange_api_DateRange_daterange_Union_1
noncomputable def slices_SortFunc_api_DateRange_api_DateRange_daterange_Union_1 (x_0 : List api_DateRangeV) : slices_SortFunc_api_DateRange_api_DateRange_daterange_Union_1.R :=
  slices_SortFunc_api_DateRange_api_DateRange_daterange_Union_1.Se x_0
noncomputable def slices_SortFunc_api_DateRange_api_DateRange_daterange_Union_1.sig : Sig := ⟨slices_SortFunc_api_DateRange_api_DateRange_daterange_Union_1.ps, slices_SortFunc_api_DateRange_api_DateRange_daterange_Union_1.rs, fun x => slices_SortFunc_api_DateRange_api_DateRange_daterange_Union_1 x.1⟩
theorem slices_SortFunc_api_DateRange_api_DateRange_daterange_Union_1.ok : CallOK Try.prog 30 slices_SortFunc_api_DateRange_api_DateRange_daterange_Union_1.sig :=
  callOK_of_lim (E := slices_SortFunc_api_DateRange_api_DateRange_daterange_Union_1.E) mixed tt_ok (ctxOk_cons (ctxOk_cons ctxOk_nil slices_pdqsortCmpFunc_api_DateRange_daterange_Union_1.ok Try.func38 (by kernel_rfl) (by kernel_rfl)) math_bits_Len.ok Try.func39 (by kernel_rfl) (by kernel_rfl)) Try.func30 (by kernel_rfl : Try.f30.body = some (bodyOf Try.f30)) Try.ntmps30 (of_decide_eq_true (by kernel_rfl)) (of_decide_eq_true (by kernel_rfl))
    fun x y h => ((lim_eq (.code (bodyOf Try.f30) .ret) (entryFrom 0 slices_SortFunc_api_DateRange_api_DateRange_daterange_Union_1.ps x)).trans (slices_SortFunc_api_DateRange_api_DateRange_daterange_Union_1.se (lim slices_SortFunc_api_DateRange_api_DateRange_daterange_Union_1.E slices_SortFunc_api_DateRange_api_DateRange_daterange_Union_1.fin) x)).trans h
theorem slices_SortFunc_api_DateRange_api_DateRange_daterange_Union_1.val (x : (argTy slices_SortFunc_api_DateRange_api_DateRange_daterange_Union_1.ps).den) : lim slices_SortFunc_api_DateRange_api_DateRange_daterange_Union_1.E slices_SortFunc_api_DateRange_api_DateRange_daterange_Union_1.fin (.code (bodyOf Try.f30) .ret) (entryFrom 0 slices_SortFunc_api_DateRange_api_DateRange_daterange_Union_1.ps x) = slices_SortFunc_api_DateRange_api_DateRange_daterange_Union_1.sig.run x :=
  (lim_eq (.code (bodyOf Try.f30) .ret) (entryFrom 0 slices_SortFunc_api_DateRange_api_DateRange_daterange_Union_1.ps x)).trans (slices_SortFunc_api_DateRange_api_DateRange_daterange_Union_1.se (lim slices_SortFunc_api_DateRange_api_DateRange_daterange_Union_1.E slices_SortFunc_api_DateRange_api_DateRange_daterange_Union_1.fin) x)
noncomputable def slices_SortFunc_api_DateRange_api_DateRange_daterange_Union_1.ctxc (n : Nat) : List (Nat × Sig) := [(39, math_bits_Len.sigc n), (38, slices_pdqsortCmpFunc_api_DateRange_daterange_Union_1.sigc n)]
noncomputable def slices_SortFunc_api_DateRange_api_DateRange_daterange_Union_1.sigc (n : Nat) : Sig := ⟨slices_SortFunc_api_DateRange_api_DateRange_daterange_Union_1.ps, slices_SortFunc_api_DateRange_api_DateRange_daterange_Union_1.rs, fun x => runs (withCtx slices_SortFunc_api_DateRange_api_DateRange_daterange_Union_1.E (slices_SortFunc_api_DateRange_api_DateRange_daterange_Union_1.ctxc n)) slices_SortFunc_api_DateRange_api_DateRange_daterange_Union_1.fin n (.code (bodyOf Try.f30) .ret) (entryFrom 0 slices_SortFunc_api_DateRange_api_DateRange_daterange_Union_1.ps x)⟩
theorem slices_SortFunc_api_DateRange_api_DateRange_daterange_Union_1.sigc_le (n : Nat) : ∀ x y, (slices_SortFunc_api_DateRange_api_DateRange_daterange_Union_1.sigc n).run x = some y → slices_SortFunc_api_DateRange_api_DateRange_daterange_Union_1.sig.run x = some y :=
  fun x y h => (slices_SortFunc_api_DateRange_api_DateRange_daterange_Union_1.val x).symm.trans (runs_lim (E := slices_SortFunc_api_DateRange_api_DateRange_daterange_Union_1.E) (c := slices_SortFunc_api_DateRange_api_DateRange_daterange_Union_1.ctxc n) (ctxLe_cons (ctxLe_cons ctxLe_nil (slices_pdqsortCmpFunc_api_DateRange_daterange_Union_1.sigc_le n)) (math_bits_Len.sigc_le n)) h)

/-! ### guerdon/daterange.Union -/
namespace daterange_Union
abbrev ps : List PM := [.pure (.sl api_DateRange)]
abbrev rs : List RM := [.own api_DateRange]
abbrev R : Type := Option (List api_DateRangeV × Unit)
noncomputable def E : Env := { tt := tt, ctx := [(29, daterange_proper.sig), (30, slices_SortFunc_api_DateRange_api_DateRange_daterange_Union_1.sig)], nt := 66, ann := [(1000003, [(3, .own api_DateRange), (10, .keep), (11, .keep), (12, .keep)]), (1000011, [(6, .own api_DateRange), (25, .keep), (26, .keep), (27, .keep)]), (15, [(6, .own api_DateRange), (8, .keep), (9, .keep), (25, .keep), (26, .keep), (27, .keep), (45, .keep)])] }
noncomputable def c0 : Code := sub [1, 1, 1] (bodyOf Try.f12)
noncomputable def c1 : Code := sub [1, 1, 1, 1, 1, 1] (bodyOf Try.f12)
noncomputable def c2 : Code := sub [1, 1, 1, 1, 1, 0, 1, 0, 0] (bodyOf Try.f12)
noncomputable def c3 : Code := sub [1, 1, 1, 1, 1, 0, 1, 0, 0, 1, 1, 1] (bodyOf Try.f12)
noncomputable def c4 : Code := sub [1, 1, 1, 1, 1, 0, 1, 0, 0, 1, 1, 0, 0, 1, 1] (bodyOf Try.f12)
noncomputable def c5 : Code := sub [1, 1, 0, 1, 0, 0] (bodyOf Try.f12)
noncomputable def c6 : Code := sub [1, 1, 1, 1, 1, 0, 1, 0, 0, 1, 1, 0, 0, 1, 0, 1, 1] (bodyOf Try.f12)
noncomputable def K3 : Kont := .seq c0 .ret
noncomputable def K5 : Kont := .blk 0 K3
noncomputable def K15 : Kont := .seq c1 .ret
noncomputable def K17 : Kont := .blk 2 K15
noncomputable def K18 : Kont := .loop c2 K17
noncomputable def K21 : Kont := .seq c3 K18
noncomputable def K22 : Kont := .blk 3 K21
noncomputable def K24 : Kont := .seq c4 K22
noncomputable def fin : ASt → R := Kret E Try.f12.results.toList ps rs
def tL0 (in_3 : List api_DateRangeV) (v_10 : List api_DateRangeV) (v_11 : Int) (v_12 : Int) : ASt := ⟨[(12, .one (.val (.int .i64) v_12)), (11, .one (.val (.int .i64) v_11)), (10, .one (.val (.sl api_DateRange) v_10)), (3, .one (.own 3))], [(3, some ⟨.free, api_DateRange, in_3⟩)]⟩
def tL1 (out : List api_DateRangeV) (v_25 : List api_DateRangeV) (v_26 : Int) (v_27 : Int) : ASt := ⟨[(27, .one (.val (.int .i64) v_27)), (26, .one (.val (.int .i64) v_26)), (25, .one (.own 25)), (6, .one (.own 6))], [(25, some ⟨.free, api_DateRange, v_25⟩), (6, some ⟨.free, api_DateRange, out⟩)]⟩
def tJ2 (out : List api_DateRangeV) (r_8 : api_DateRangeV) (n_9 : Int) (v_25 : List api_DateRangeV) (v_26 : Int) (v_27 : Int) (v_45 : Bool) : ASt := ⟨[(45, .one (.val .bool v_45)), (27, .one (.val (.int .i64) v_27)), (26, .one (.val (.int .i64) v_26)), (25, .one (.own 25)), (9, .one (.val (.int .i64) n_9)), (8, .one (.optr 8 0 [])), (6, .one (.own 6))], [(25, some ⟨.free, api_DateRange, v_25⟩), (8, some ⟨.free, api_DateRange, [r_8]⟩), (6, some ⟨.free, api_DateRange, out⟩)]⟩
noncomputable def SL0 (kL0 : (List api_DateRangeV) → (List api_DateRangeV) → Int → Int → R) (kL1 : (List api_DateRangeV) → (List api_DateRangeV) → Int → Int → R) (in_3 : List api_DateRangeV) (v_10 : List api_DateRangeV) (v_11 : Int) (v_12 : Int) : R :=
  cond (decide (v_12 < v_11))
    (Option.bind (idx v_10 v_12) fun x1 =>
    Option.bind (daterange_proper x1) fun x2 =>
    cond x2.1
      (cond (decide ((in_3.length + 1) * 16 ≤ room) && decide (0 < Ty.nc (.pair (.int .i64) (.pair (.int .i64) .unit))))
        (kL0 (in_3 ++ [x1]) v_10 v_11 (IntKind.i64.wrap (v_12 + 1)))
        none)
      (kL0 in_3 v_10 v_11 (IntKind.i64.wrap (v_12 + 1))))
    (Option.bind (slices_SortFunc_api_DateRange_api_DateRange_daterange_Union_1 in_3) fun x3 =>
    kL1 [] x3.1 (x3.1.length : Int) 0)
noncomputable def SL1 (kJ2 : (List api_DateRangeV) → api_DateRangeV → Int → (List api_DateRangeV) → Int → Int → Bool → R) (out : List api_DateRangeV) (v_25 : List api_DateRangeV) (v_26 : Int) (v_27 : Int) : R :=
  cond (decide (v_27 < v_26))
    (cond (decide (0 ≤ v_27) && decide (v_27 < (v_25.length : Int)))
      (cond (decide ((out.length : Int) > 0))
        (cond (decide (0 ≤ IntKind.i64.wrap ((out.length : Int) - 1)) && decide (IntKind.i64.wrap ((out.length : Int) - 1) < (out.length : Int)))
          (kJ2 out (v_25.getD v_27.toNat (0, 0, ())) (out.length : Int) v_25 v_26 v_27 (decide (((v_25.getD v_27.toNat (0, 0, ())).1) ≤ ((out.getD ((IntKind.i64.wrap ((out.length : Int) - 1)).toNat) (0, 0, ())).2.1))))
          none)
        (kJ2 out (v_25.getD v_27.toNat (0, 0, ())) (out.length : Int) v_25 v_26 v_27 false))
      none)
    (some (out, ()))
noncomputable def SJ2 (kL1 : (List api_DateRangeV) → (List api_DateRangeV) → Int → Int → R) (out : List api_DateRangeV) (r_8 : api_DateRangeV) (n_9 : Int) (v_25 : List api_DateRangeV) (v_26 : Int) (v_27 : Int) (v_45 : Bool) : R :=
  cond v_45
    (cond (decide (0 ≤ IntKind.i64.wrap (n_9 - 1)) && decide (IntKind.i64.wrap (n_9 - 1) < (out.length : Int)))
      (cond (decide (0 ≤ IntKind.i64.wrap (n_9 - 1)) && decide (IntKind.i64.wrap (n_9 - 1) < (out.length : Int)))
        (kL1 (out.set ((IntKind.i64.wrap (n_9 - 1)).toNat) ((out.getD ((IntKind.i64.wrap (n_9 - 1)).toNat) (0, 0, ())).1, (cond (decide (r_8.2.1 > ((out.getD ((IntKind.i64.wrap (n_9 - 1)).toNat) (0, 0, ())).2.1))) r_8.2.1 ((out.getD ((IntKind.i64.wrap (n_9 - 1)).toNat) (0, 0, ())).2.1)), ())) v_25 v_26 (IntKind.i64.wrap (v_27 + 1)))
        none)
      none)
    (cond (decide ((out.length + 1) * 16 ≤ room) && decide (0 < Ty.nc (.pair (.int .i64) (.pair (.int .i64) .unit))))
      (kL1 (out ++ [r_8]) v_25 v_26 (IntKind.i64.wrap (v_27 + 1)))
      none)
noncomputable def Se (kL0 : (List api_DateRangeV) → (List api_DateRangeV) → Int → Int → R) (l : List api_DateRangeV) : R :=
  kL0 [] l (l.length : Int) 0
theorem sL0 (jmp : Tgt → ASt → R) (in_3 : List api_DateRangeV) (v_10 : List api_DateRangeV) (v_11 : Int) (v_12 : Int) : run E jmp fin depth c5 (.loop c5 K5) (tL0 in_3 v_10 v_11 v_12) =
    SL0 (fun in_3 v_10 v_11 v_12 => jmp (.loop c5 K5) (tL0 in_3 v_10 v_11 v_12)) (fun out v_25 v_26 v_27 => jmp (.loop c2 K17) (tL1 out v_25 v_26 v_27)) in_3 v_10 v_11 v_12 := by kernel_rfl
theorem sL1 (jmp : Tgt → ASt → R) (out : List api_DateRangeV) (v_25 : List api_DateRangeV) (v_26 : Int) (v_27 : Int) : run E jmp fin depth c2 (.loop c2 K17) (tL1 out v_25 v_26 v_27) =
    SL1 (fun out r_8 n_9 v_25 v_26 v_27 v_45 => jmp (.code c6 K24) (tJ2 out r_8 n_9 v_25 v_26 v_27 v_45)) out v_25 v_26 v_27 := by kernel_rfl
theorem sJ2 (jmp : Tgt → ASt → R) (out : List api_DateRangeV) (r_8 : api_DateRangeV) (n_9 : Int) (v_25 : List api_DateRangeV) (v_26 : Int) (v_27 : Int) (v_45 : Bool) : run E jmp fin depth c6 K24 (tJ2 out r_8 n_9 v_25 v_26 v_27 v_45) =
    SJ2 (fun out v_25 v_26 v_27 => jmp (.loop c2 K17) (tL1 out v_25 v_26 v_27)) out r_8 n_9 v_25 v_26 v_27 v_45 := by kernel_rfl
theorem se (jmp : Tgt → ASt → R) (x : (argTy ps).den) : run E jmp fin depth (bodyOf Try.f12) .ret (entryFrom 0 ps x) =
    Se (fun in_3 v_10 v_11 v_12 => jmp (.loop c5 K5) (tL0 in_3 v_10 v_11 v_12)) x.1 := by kernel_rfl
noncomputable def L0 (in_3 : List api_DateRangeV) (v_10 : List api_DateRangeV) (v_11 : Int) (v_12 : Int) : R := lim E fin (.loop c5 K5) (tL0 in_3 v_10 v_11 v_12)
noncomputable def L1 (out : List api_DateRangeV) (v_25 : List api_DateRangeV) (v_26 : Int) (v_27 : Int) : R := lim E fin (.loop c2 K17) (tL1 out v_25 v_26 v_27)
noncomputable def J2 (out : List api_DateRangeV) (r_8 : api_DateRangeV) (n_9 : Int) (v_25 : List api_DateRangeV) (v_26 : Int) (v_27 : Int) (v_45 : Bool) : R := lim E fin (.code c6 K24) (tJ2 out r_8 n_9 v_25 v_26 v_27 v_45)
theorem L0_eq (in_3 : List api_DateRangeV) (v_10 : List api_DateRangeV) (v_11 : Int) (v_12 : Int) : L0 in_3 v_10 v_11 v_12 = SL0 L0 L1 in_3 v_10 v_11 v_12 :=
  (lim_eq (.loop c5 K5) (tL0 in_3 v_10 v_11 v_12)).trans (sL0 (lim E fin) in_3 v_10 v_11 v_12)
theorem L1_eq (out : List api_DateRangeV) (v_25 : List api_DateRangeV) (v_26 : Int) (v_27 : Int) : L1 out v_25 v_26 v_27 = SL1 J2 out v_25 v_26 v_27 :=
  (lim_eq (.loop c2 K17) (tL1 out v_25 v_26 v_27)).trans (sL1 (lim E fin) out v_25 v_26 v_27)
theorem J2_eq (out : List api_DateRangeV) (r_8 : api_DateRangeV) (n_9 : Int) (v_25 : List api_DateRangeV) (v_26 : Int) (v_27 : Int) (v_45 : Bool) : J2 out r_8 n_9 v_25 v_26 v_27 v_45 = SJ2 L1 out r_8 n_9 v_25 v_26 v_27 v_45 :=
  (lim_eq (.code c6 K24) (tJ2 out r_8 n_9 v_25 v_26 v_27 v_45)).trans (sJ2 (lim E fin) out r_8 n_9 v_25 v_26 v_27 v_45)
end daterange_Union
noncomputable def daterange_Union (l : List api_DateRangeV) : daterange_Union.R :=
  daterange_Union.Se daterange_Union.L0 l
noncomputable def daterange_Union.sig : Sig := ⟨daterange_Union.ps, daterange_Union.rs, fun x => daterange_Union x.1⟩
theorem daterange_Union.ok : CallOK Try.prog 12 daterange_Union.sig :=
  callOK_of_lim (E := daterange_Union.E) mixed tt_ok (ctxOk_cons (ctxOk_cons ctxOk_nil slices_SortFunc_api_DateRange_api_DateRange_daterange_Union_1.ok Try.func30 (by kernel_rfl) (by kernel_rfl)) daterange_proper.ok Try.func29 (by kernel_rfl) (by kernel_rfl)) Try.func12 (by kernel_rfl : Try.f12.body = some (bodyOf Try.f12)) Try.ntmps12 (of_decide_eq_true (by kernel_rfl)) (of_decide_eq_true (by kernel_rfl))
    fun x y h => ((lim_eq (.code (bodyOf Try.f12) .ret) (entryFrom 0 daterange_Union.ps x)).trans (daterange_Union.se (lim daterange_Union.E daterange_Union.fin) x)).trans h
theorem daterange_Union.val (x : (argTy daterange_Union.ps).den) : lim daterange_Union.E daterange_Union.fin (.code (bodyOf Try.f12) .ret) (entryFrom 0 daterange_Union.ps x) = daterange_Union.sig.run x :=
  (lim_eq (.code (bodyOf Try.f12) .ret) (entryFrom 0 daterange_Union.ps x)).trans (daterange_Union.se (lim daterange_Union.E daterange_Union.fin) x)
noncomputable def daterange_Union.ctxc (n : Nat) : List (Nat × Sig) := [(29, daterange_proper.sigc n), (30, slices_SortFunc_api_DateRange_api_DateRange_daterange_Union_1.sigc n)]
noncomputable def daterange_Union.sigc (n : Nat) : Sig := ⟨daterange_Union.ps, daterange_Union.rs, fun x => runs (withCtx daterange_Union.E (daterange_Union.ctxc n)) daterange_Union.fin n (.code (bodyOf Try.f12) .ret) (entryFrom 0 daterange_Union.ps x)⟩
theorem daterange_Union.sigc_le (n : Nat) : ∀ x y, (daterange_Union.sigc n).run x = some y → daterange_Union.sig.run x = some y :=
  fun x y h => (daterange_Union.val x).symm.trans (runs_lim (E := daterange_Union.E) (c := daterange_Union.ctxc n) (ctxLe_cons (ctxLe_cons ctxLe_nil (slices_SortFunc_api_DateRange_api_DateRange_daterange_Union_1.sigc_le n)) (daterange_proper.sigc_le n)) h)

/-! ### guerdon/daterange.Gaps -/
namespace daterange_Gaps
abbrev ps : List PM := [.pure (.sl api_DateRange), .pure api_DateRange]
abbrev rs : List RM := [.own api_DateRange]
abbrev R : Type := Option (List api_DateRangeV × Unit)
noncomputable def E : Env := { tt := tt, ctx := [(29, daterange_proper.sig), (12, daterange_Union.sig)], nt := 58, ann := [(1000006, [(3, .keep), (5, .own api_DateRange), (6, .keep), (15, .keep), (16, .keep), (17, .keep)]), (9, [(3, .keep), (5, .own api_DateRange), (6, .keep), (8, .keep), (15, .keep), (16, .keep), (17, .keep), (30, .keep)])] }
noncomputable def c0 : Code := sub [1, 1, 1, 1, 1] (bodyOf Try.f14)
noncomputable def c1 : Code := sub [1, 1, 1, 1, 0, 1, 0, 0] (bodyOf Try.f14)
noncomputable def c2 : Code := sub [1, 1, 1, 1, 0, 1, 0, 0, 1, 1, 1] (bodyOf Try.f14)
noncomputable def c3 : Code := sub [1, 1, 1, 1, 0, 1, 0, 0, 1, 1, 0, 0, 1, 1] (bodyOf Try.f14)
noncomputable def c4 : Code := sub [1, 1, 1, 1, 0, 1, 0, 0, 1, 1, 0, 0, 1, 0, 1] (bodyOf Try.f14)
noncomputable def K7 : Kont := .seq c0 .ret
noncomputable def K9 : Kont := .blk 0 K7
noncomputable def K10 : Kont := .loop c1 K9
noncomputable def K13 : Kont := .seq c2 K10
noncomputable def K14 : Kont := .blk 1 K13
noncomputable def K16 : Kont := .seq c3 K14
noncomputable def fin : ASt → R := Kret E Try.f14.results.toList ps rs
def tL0 (within : api_DateRangeV) (out : List api_DateRangeV) (at_6 : Int) (v_15 : List api_DateRangeV) (v_16 : Int) (v_17 : Int) : ASt := ⟨[(17, .one (.val (.int .i64) v_17)), (16, .one (.val (.int .i64) v_16)), (15, .one (.own 15)), (6, .one (.val (.int .i64) at_6)), (5, .one (.own 5)), (3, .one (.optr 3 0 []))], [(15, some ⟨.free, api_DateRange, v_15⟩), (5, some ⟨.free, api_DateRange, out⟩), (3, some ⟨.free, api_DateRange, [within]⟩)]⟩
def tJ1 (within : api_DateRangeV) (out : List api_DateRangeV) (at_6 : Int) (r_8 : api_DateRangeV) (v_15 : List api_DateRangeV) (v_16 : Int) (v_17 : Int) (v_30 : Bool) : ASt := ⟨[(30, .one (.val .bool v_30)), (17, .one (.val (.int .i64) v_17)), (16, .one (.val (.int .i64) v_16)), (15, .one (.own 15)), (8, .one (.optr 8 0 [])), (6, .one (.val (.int .i64) at_6)), (5, .one (.own 5)), (3, .one (.optr 3 0 []))], [(15, some ⟨.free, api_DateRange, v_15⟩), (8, some ⟨.free, api_DateRange, [r_8]⟩), (5, some ⟨.free, api_DateRange, out⟩), (3, some ⟨.free, api_DateRange, [within]⟩)]⟩
noncomputable def SL0 (kJ1 : api_DateRangeV → (List api_DateRangeV) → Int → api_DateRangeV → (List api_DateRangeV) → Int → Int → Bool → R) (within : api_DateRangeV) (out : List api_DateRangeV) (at_6 : Int) (v_15 : List api_DateRangeV) (v_16 : Int) (v_17 : Int) : R :=
  cond (decide (v_17 < v_16))
    (cond (decide (0 ≤ v_17) && decide (v_17 < (v_15.length : Int)))
      (cond (decide (((v_15.getD v_17.toNat (0, 0, ())).1) > at_6))
        (kJ1 within out at_6 (v_15.getD v_17.toNat (0, 0, ())) v_15 v_16 v_17 (decide (at_6 < within.2.1)))
        (kJ1 within out at_6 (v_15.getD v_17.toNat (0, 0, ())) v_15 v_16 v_17 false))
      none)
    (cond (decide (at_6 < within.2.1))
      (cond (decide ((out.length + 1) * 16 ≤ room) && decide (0 < Ty.nc (.pair (.int .i64) (.pair (.int .i64) .unit))))
        (some ((out ++ [(at_6, within.2.1, ())]), ()))
        none)
      (some (out, ())))
noncomputable def SJ1 (kL0 : api_DateRangeV → (List api_DateRangeV) → Int → (List api_DateRangeV) → Int → Int → R) (within : api_DateRangeV) (out : List api_DateRangeV) (at_6 : Int) (r_8 : api_DateRangeV) (v_15 : List api_DateRangeV) (v_16 : Int) (v_17 : Int) (v_30 : Bool) : R :=
  cond v_30
    (cond (decide ((out.length + 1) * 16 ≤ room) && decide (0 < Ty.nc (.pair (.int .i64) (.pair (.int .i64) .unit))))
      (kL0 within (out ++ [(at_6, (cond (decide (within.2.1 < r_8.1)) within.2.1 r_8.1), ())]) (cond (decide (r_8.2.1 > at_6)) r_8.2.1 at_6) v_15 v_16 (IntKind.i64.wrap (v_17 + 1)))
      none)
    (kL0 within out (cond (decide (r_8.2.1 > at_6)) r_8.2.1 at_6) v_15 v_16 (IntKind.i64.wrap (v_17 + 1)))
noncomputable def Se (kL0 : api_DateRangeV → (List api_DateRangeV) → Int → (List api_DateRangeV) → Int → Int → R) (l : List api_DateRangeV) (within : api_DateRangeV) : R :=
  Option.bind (daterange_proper within) fun x1 =>
  cond (!x1.1)
    (some ([], ()))
    (Option.bind (daterange_Union l) fun x2 =>
    kL0 within [] within.1 x2.1 (x2.1.length : Int) 0)
theorem sL0 (jmp : Tgt → ASt → R) (within : api_DateRangeV) (out : List api_DateRangeV) (at_6 : Int) (v_15 : List api_DateRangeV) (v_16 : Int) (v_17 : Int) : run E jmp fin depth c1 (.loop c1 K9) (tL0 within out at_6 v_15 v_16 v_17) =
    SL0 (fun within out at_6 r_8 v_15 v_16 v_17 v_30 => jmp (.code c4 K16) (tJ1 within out at_6 r_8 v_15 v_16 v_17 v_30)) within out at_6 v_15 v_16 v_17 := by kernel_rfl
theorem sJ1 (jmp : Tgt → ASt → R) (within : api_DateRangeV) (out : List api_DateRangeV) (at_6 : Int) (r_8 : api_DateRangeV) (v_15 : List api_DateRangeV) (v_16 : Int) (v_17 : Int) (v_30 : Bool) : run E jmp fin depth c4 K16 (tJ1 within out at_6 r_8 v_15 v_16 v_17 v_30) =
    SJ1 (fun within out at_6 v_15 v_16 v_17 => jmp (.loop c1 K9) (tL0 within out at_6 v_15 v_16 v_17)) within out at_6 r_8 v_15 v_16 v_17 v_30 := by kernel_rfl
theorem se (jmp : Tgt → ASt → R) (x : (argTy ps).den) : run E jmp fin depth (bodyOf Try.f14) .ret (entryFrom 0 ps x) =
    Se (fun within out at_6 v_15 v_16 v_17 => jmp (.loop c1 K9) (tL0 within out at_6 v_15 v_16 v_17)) x.1 x.2.1 := by kernel_rfl
noncomputable def L0 (within : api_DateRangeV) (out : List api_DateRangeV) (at_6 : Int) (v_15 : List api_DateRangeV) (v_16 : Int) (v_17 : Int) : R := lim E fin (.loop c1 K9) (tL0 within out at_6 v_15 v_16 v_17)
noncomputable def J1 (within : api_DateRangeV) (out : List api_DateRangeV) (at_6 : Int) (r_8 : api_DateRangeV) (v_15 : List api_DateRangeV) (v_16 : Int) (v_17 : Int) (v_30 : Bool) : R := lim E fin (.code c4 K16) (tJ1 within out at_6 r_8 v_15 v_16 v_17 v_30)
theorem L0_eq (within : api_DateRangeV) (out : List api_DateRangeV) (at_6 : Int) (v_15 : List api_DateRangeV) (v_16 : Int) (v_17 : Int) : L0 within out at_6 v_15 v_16 v_17 = SL0 J1 within out at_6 v_15 v_16 v_17 :=
  (lim_eq (.loop c1 K9) (tL0 within out at_6 v_15 v_16 v_17)).trans (sL0 (lim E fin) within out at_6 v_15 v_16 v_17)
theorem J1_eq (within : api_DateRangeV) (out : List api_DateRangeV) (at_6 : Int) (r_8 : api_DateRangeV) (v_15 : List api_DateRangeV) (v_16 : Int) (v_17 : Int) (v_30 : Bool) : J1 within out at_6 r_8 v_15 v_16 v_17 v_30 = SJ1 L0 within out at_6 r_8 v_15 v_16 v_17 v_30 :=
  (lim_eq (.code c4 K16) (tJ1 within out at_6 r_8 v_15 v_16 v_17 v_30)).trans (sJ1 (lim E fin) within out at_6 r_8 v_15 v_16 v_17 v_30)
end daterange_Gaps
noncomputable def daterange_Gaps (l : List api_DateRangeV) (within : api_DateRangeV) : daterange_Gaps.R :=
  daterange_Gaps.Se daterange_Gaps.L0 l within
noncomputable def daterange_Gaps.sig : Sig := ⟨daterange_Gaps.ps, daterange_Gaps.rs, fun x => daterange_Gaps x.1 x.2.1⟩
theorem daterange_Gaps.ok : CallOK Try.prog 14 daterange_Gaps.sig :=
  callOK_of_lim (E := daterange_Gaps.E) mixed tt_ok (ctxOk_cons (ctxOk_cons ctxOk_nil daterange_Union.ok Try.func12 (by kernel_rfl) (by kernel_rfl)) daterange_proper.ok Try.func29 (by kernel_rfl) (by kernel_rfl)) Try.func14 (by kernel_rfl : Try.f14.body = some (bodyOf Try.f14)) Try.ntmps14 (of_decide_eq_true (by kernel_rfl)) (of_decide_eq_true (by kernel_rfl))
    fun x y h => ((lim_eq (.code (bodyOf Try.f14) .ret) (entryFrom 0 daterange_Gaps.ps x)).trans (daterange_Gaps.se (lim daterange_Gaps.E daterange_Gaps.fin) x)).trans h
theorem daterange_Gaps.val (x : (argTy daterange_Gaps.ps).den) : lim daterange_Gaps.E daterange_Gaps.fin (.code (bodyOf Try.f14) .ret) (entryFrom 0 daterange_Gaps.ps x) = daterange_Gaps.sig.run x :=
  (lim_eq (.code (bodyOf Try.f14) .ret) (entryFrom 0 daterange_Gaps.ps x)).trans (daterange_Gaps.se (lim daterange_Gaps.E daterange_Gaps.fin) x)
noncomputable def daterange_Gaps.ctxc (n : Nat) : List (Nat × Sig) := [(29, daterange_proper.sigc n), (12, daterange_Union.sigc n)]
noncomputable def daterange_Gaps.sigc (n : Nat) : Sig := ⟨daterange_Gaps.ps, daterange_Gaps.rs, fun x => runs (withCtx daterange_Gaps.E (daterange_Gaps.ctxc n)) daterange_Gaps.fin n (.code (bodyOf Try.f14) .ret) (entryFrom 0 daterange_Gaps.ps x)⟩
theorem daterange_Gaps.sigc_le (n : Nat) : ∀ x y, (daterange_Gaps.sigc n).run x = some y → daterange_Gaps.sig.run x = some y :=
  fun x y h => (daterange_Gaps.val x).symm.trans (runs_lim (E := daterange_Gaps.E) (c := daterange_Gaps.ctxc n) (ctxLe_cons (ctxLe_cons ctxLe_nil (daterange_Union.sigc_le n)) (daterange_proper.sigc_le n)) h)

/-! ### cmp.Less[int] -/
namespace cmp_Less_int
abbrev ps : List PM := [.pure (.int .i64), .pure (.int .i64)]
abbrev rs : List RM := [.pure .bool]
abbrev R : Type := Option (Bool × Unit)
noncomputable def E : Env := { tt := tt, ctx := [(40, cmp_isNaN_int.sig)], nt := 17, ann := [] }
noncomputable def fin : ASt → R := Kret E Try.f58.results.toList ps rs
noncomputable def Se (x_0 : Int) (y : Int) : R :=
  Option.bind (cmp_isNaN_int x_0) fun x1 =>
  cond x1.1
    (Option.bind (cmp_isNaN_int y) fun x2 =>
    cond (!x2.1)
      (some (true, ()))
      (some (decide (x_0 < y), ())))
    (some (decide (x_0 < y), ()))
theorem se (jmp : Tgt → ASt → R) (x : (argTy ps).den) : run E jmp fin depth (bodyOf Try.f58) .ret (entryFrom 0 ps x) =
    Se x.1 x.2.1 := by kernel_rfl
end cmp_Less_int
noncomputable def cmp_Less_int (x_0 : Int) (y : Int) : cmp_Less_int.R :=
  cmp_Less_int.Se x_0 y
noncomputable def cmp_Less_int.sig : Sig := ⟨cmp_Less_int.ps, cmp_Less_int.rs, fun x => cmp_Less_int x.1 x.2.1⟩
theorem cmp_Less_int.ok : CallOK Try.prog 58 cmp_Less_int.sig :=
  callOK_of_lim (E := cmp_Less_int.E) mixed tt_ok (ctxOk_cons ctxOk_nil cmp_isNaN_int.ok Try.func40 (by kernel_rfl) (by kernel_rfl)) Try.func58 (by kernel_rfl : Try.f58.body = some (bodyOf Try.f58)) Try.ntmps58 (of_decide_eq_true (by kernel_rfl)) (of_decide_eq_true (by kernel_rfl))
    fun x y h => ((lim_eq (.code (bodyOf Try.f58) .ret) (entryFrom 0 cmp_Less_int.ps x)).trans (cmp_Less_int.se (lim cmp_Less_int.E cmp_Less_int.fin) x)).trans h
theorem cmp_Less_int.val (x : (argTy cmp_Less_int.ps).den) : lim cmp_Less_int.E cmp_Less_int.fin (.code (bodyOf Try.f58) .ret) (entryFrom 0 cmp_Less_int.ps x) = cmp_Less_int.sig.run x :=
  (lim_eq (.code (bodyOf Try.f58) .ret) (entryFrom 0 cmp_Less_int.ps x)).trans (cmp_Less_int.se (lim cmp_Less_int.E cmp_Less_int.fin) x)
noncomputable def cmp_Less_int.ctxc (n : Nat) : List (Nat × Sig) := [(40, cmp_isNaN_int.sigc n)]
noncomputable def cmp_Less_int.sigc (n : Nat) : Sig := ⟨cmp_Less_int.ps, cmp_Less_int.rs, fun x => runs (withCtx cmp_Less_int.E (cmp_Less_int.ctxc n)) cmp_Less_int.fin n (.code (bodyOf Try.f58) .ret) (entryFrom 0 cmp_Less_int.ps x)⟩
theorem cmp_Less_int.sigc_le (n : Nat) : ∀ x y, (cmp_Less_int.sigc n).run x = some y → cmp_Less_int.sig.run x = some y :=
  fun x y h => (cmp_Less_int.val x).symm.trans (runs_lim (E := cmp_Less_int.E) (c := cmp_Less_int.ctxc n) (ctxLe_cons ctxLe_nil (cmp_isNaN_int.sigc_le n)) h)

/-! ### slices.insertionSortOrdered[int] -/
namespace slices_insertionSortOrdered_int
abbrev ps : List PM := [.own (.int .i64), .pure (.int .i64), .pure (.int .i64)]
abbrev rs : List RM := []
abbrev R : Type := Option (List Int × Unit)
noncomputable def E : Env := { tt := tt, ctx := [(58, cmp_Less_int.sig)], nt := 49, ann := [(1000001, [(0, .keep), (1, .keep), (2, .keep), (6, .keep)]), (1000004, [(0, .keep), (1, .keep), (2, .keep), (6, .keep), (7, .keep)]), (6, [(0, .keep), (1, .keep), (2, .keep), (6, .keep), (7, .keep)])] }
noncomputable def c0 : Code := sub [1, 0, 0] (bodyOf Try.f52)
noncomputable def c1 : Code := sub [1, 0, 0, 1, 1] (bodyOf Try.f52)
noncomputable def c2 : Code := sub [1, 0, 0, 1, 0, 0, 1, 0, 0] (bodyOf Try.f52)
noncomputable def c3 : Code := sub [1, 0, 0, 1, 0, 0, 1, 0, 0, 1] (bodyOf Try.f52)
noncomputable def K2 : Kont := .blk 0 .ret
noncomputable def K3 : Kont := .loop c0 K2
noncomputable def K6 : Kont := .seq c1 K3
noncomputable def K7 : Kont := .blk 1 K6
noncomputable def K9 : Kont := .blk 2 K7
noncomputable def K10 : Kont := .loop c2 K9
noncomputable def fin : ASt → R := Kret E Try.f52.results.toList ps rs
def tL0 (a : Int) (b : Int) (i : Int) (data_P : List Int) : ASt := ⟨[(6, .one (.val (.int .i64) i)), (2, .one (.val (.int .i64) b)), (1, .one (.val (.int .i64) a)), (0, .one (.own 10000))], [(10000, some ⟨.fixed, .int .i64, data_P⟩)]⟩
def tL1 (a : Int) (b : Int) (i : Int) (j : Int) (data_P : List Int) : ASt := ⟨[(7, .one (.val (.int .i64) j)), (6, .one (.val (.int .i64) i)), (2, .one (.val (.int .i64) b)), (1, .one (.val (.int .i64) a)), (0, .one (.own 10000))], [(10000, some ⟨.fixed, .int .i64, data_P⟩)]⟩
def tJ2 (a : Int) (b : Int) (i : Int) (j : Int) (data_P : List Int) : ASt := ⟨[(7, .one (.val (.int .i64) j)), (6, .one (.val (.int .i64) i)), (2, .one (.val (.int .i64) b)), (1, .one (.val (.int .i64) a)), (0, .one (.own 10000))], [(10000, some ⟨.fixed, .int .i64, data_P⟩)]⟩
noncomputable def SL0 (kL1 : Int → Int → Int → Int → (List Int) → R) (a : Int) (b : Int) (i : Int) (data_P : List Int) : R :=
  cond (decide (i < b))
    (kL1 a b i i data_P)
    (some (data_P, ()))
noncomputable def SL1 (kJ2 : Int → Int → Int → Int → (List Int) → R) (kL0 : Int → Int → Int → (List Int) → R) (a : Int) (b : Int) (i : Int) (j : Int) (data_P : List Int) : R :=
  cond (decide (j > a))
    (cond (decide (0 ≤ j) && decide (j < (data_P.length : Int)))
      (cond (decide (0 ≤ IntKind.i64.wrap (j - 1)) && decide (IntKind.i64.wrap (j - 1) < (data_P.length : Int)))
        (Option.bind (cmp_Less_int (data_P.getD j.toNat 0) (data_P.getD ((IntKind.i64.wrap (j - 1)).toNat) 0)) fun x1 =>
        cond x1.1
          (kJ2 a b i j data_P)
          (kL0 a b (IntKind.i64.wrap (i + 1)) data_P))
        none)
      none)
    (kL0 a b (IntKind.i64.wrap (i + 1)) data_P)
noncomputable def SJ2 (kL1 : Int → Int → Int → Int → (List Int) → R) (a : Int) (b : Int) (i : Int) (j : Int) (data_P : List Int) : R :=
  cond (decide (0 ≤ IntKind.i64.wrap (j - 1)) && decide (IntKind.i64.wrap (j - 1) < (data_P.length : Int)))
    (cond (decide (0 ≤ j) && decide (j < (data_P.length : Int)))
      (cond (decide (0 ≤ j) && decide (j < (data_P.length : Int)))
        (cond (decide (0 ≤ IntKind.i64.wrap (j - 1)) && decide (IntKind.i64.wrap (j - 1) < ((data_P.set j.toNat (data_P.getD ((IntKind.i64.wrap (j - 1)).toNat) 0)).length : Int)))
          (kL1 a b i (IntKind.i64.wrap (j - 1)) ((data_P.set j.toNat (data_P.getD ((IntKind.i64.wrap (j - 1)).toNat) 0)).set ((IntKind.i64.wrap (j - 1)).toNat) (data_P.getD j.toNat 0)))
          none)
        none)
      none)
    none
noncomputable def Se (kL0 : Int → Int → Int → (List Int) → R) (data : List Int) (a : Int) (b : Int) : R :=
  kL0 a b (IntKind.i64.wrap (a + 1)) data
theorem sL0 (jmp : Tgt → ASt → R) (a : Int) (b : Int) (i : Int) (data_P : List Int) : run E jmp fin depth c0 (.loop c0 K2) (tL0 a b i data_P) =
    SL0 (fun a b i j data_P => jmp (.loop c2 K9) (tL1 a b i j data_P)) a b i data_P := by kernel_rfl
theorem sL1 (jmp : Tgt → ASt → R) (a : Int) (b : Int) (i : Int) (j : Int) (data_P : List Int) : run E jmp fin depth c2 (.loop c2 K9) (tL1 a b i j data_P) =
    SL1 (fun a b i j data_P => jmp (.code c3 K10) (tJ2 a b i j data_P)) (fun a b i data_P => jmp (.loop c0 K2) (tL0 a b i data_P)) a b i j data_P := by kernel_rfl
theorem sJ2 (jmp : Tgt → ASt → R) (a : Int) (b : Int) (i : Int) (j : Int) (data_P : List Int) : run E jmp fin depth c3 K10 (tJ2 a b i j data_P) =
    SJ2 (fun a b i j data_P => jmp (.loop c2 K9) (tL1 a b i j data_P)) a b i j data_P := by kernel_rfl
theorem se (jmp : Tgt → ASt → R) (x : (argTy ps).den) : run E jmp fin depth (bodyOf Try.f52) .ret (entryFrom 0 ps x) =
    Se (fun a b i data_P => jmp (.loop c0 K2) (tL0 a b i data_P)) x.1 x.2.1 x.2.2.1 := by kernel_rfl
noncomputable def L0 (a : Int) (b : Int) (i : Int) (data_P : List Int) : R := lim E fin (.loop c0 K2) (tL0 a b i data_P)
noncomputable def L1 (a : Int) (b : Int) (i : Int) (j : Int) (data_P : List Int) : R := lim E fin (.loop c2 K9) (tL1 a b i j data_P)
noncomputable def J2 (a : Int) (b : Int) (i : Int) (j : Int) (data_P : List Int) : R := lim E fin (.code c3 K10) (tJ2 a b i j data_P)
theorem L0_eq (a : Int) (b : Int) (i : Int) (data_P : List Int) : L0 a b i data_P = SL0 L1 a b i data_P :=
  (lim_eq (.loop c0 K2) (tL0 a b i data_P)).trans (sL0 (lim E fin) a b i data_P)
theorem L1_eq (a : Int) (b : Int) (i : Int) (j : Int) (data_P : List Int) : L1 a b i j data_P = SL1 J2 L0 a b i j data_P :=
  (lim_eq (.loop c2 K9) (tL1 a b i j data_P)).trans (sL1 (lim E fin) a b i j data_P)
theorem J2_eq (a : Int) (b : Int) (i : Int) (j : Int) (data_P : List Int) : J2 a b i j data_P = SJ2 L1 a b i j data_P :=
  (lim_eq (.code c3 K10) (tJ2 a b i j data_P)).trans (sJ2 (lim E fin) a b i j data_P)
end slices_insertionSortOrdered_int
noncomputable def slices_insertionSortOrdered_int (data : List Int) (a : Int) (b : Int) : slices_insertionSortOrdered_int.R :=
  slices_insertionSortOrdered_int.Se slices_insertionSortOrdered_int.L0 data a b
noncomputable def slices_insertionSortOrdered_int.sig : Sig := ⟨slices_insertionSortOrdered_int.ps, slices_insertionSortOrdered_int.rs, fun x => slices_insertionSortOrdered_int x.1 x.2.1 x.2.2.1⟩
theorem slices_insertionSortOrdered_int.ok : CallOK Try.prog 52 slices_insertionSortOrdered_int.sig :=
  callOK_of_lim (E := slices_insertionSortOrdered_int.E) mixed tt_ok (ctxOk_cons ctxOk_nil cmp_Less_int.ok Try.func58 (by kernel_rfl) (by kernel_rfl)) Try.func52 (by kernel_rfl : Try.f52.body = some (bodyOf Try.f52)) Try.ntmps52 (of_decide_eq_true (by kernel_rfl)) (of_decide_eq_true (by kernel_rfl))
    fun x y h => ((lim_eq (.code (bodyOf Try.f52) .ret) (entryFrom 0 slices_insertionSortOrdered_int.ps x)).trans (slices_insertionSortOrdered_int.se (lim slices_insertionSortOrdered_int.E slices_insertionSortOrdered_int.fin) x)).trans h
theorem slices_insertionSortOrdered_int.val (x : (argTy slices_insertionSortOrdered_int.ps).den) : lim slices_insertionSortOrdered_int.E slices_insertionSortOrdered_int.fin (.code (bodyOf Try.f52) .ret) (entryFrom 0 slices_insertionSortOrdered_int.ps x) = slices_insertionSortOrdered_int.sig.run x :=
  (lim_eq (.code (bodyOf Try.f52) .ret) (entryFrom 0 slices_insertionSortOrdered_int.ps x)).trans (slices_insertionSortOrdered_int.se (lim slices_insertionSortOrdered_int.E slices_insertionSortOrdered_int.fin) x)
noncomputable def slices_insertionSortOrdered_int.ctxc (n : Nat) : List (Nat × Sig) := [(58, cmp_Less_int.sigc n)]
noncomputable def slices_insertionSortOrdered_int.sigc (n : Nat) : Sig := ⟨slices_insertionSortOrdered_int.ps, slices_insertionSortOrdered_int.rs, fun x => runs (withCtx slices_insertionSortOrdered_int.E (slices_insertionSortOrdered_int.ctxc n)) slices_insertionSortOrdered_int.fin n (.code (bodyOf Try.f52) .ret) (entryFrom 0 slices_insertionSortOrdered_int.ps x)⟩
theorem slices_insertionSortOrdered_int.sigc_le (n : Nat) : ∀ x y, (slices_insertionSortOrdered_int.sigc n).run x = some y → slices_insertionSortOrdered_int.sig.run x = some y :=
  fun x y h => (slices_insertionSortOrdered_int.val x).symm.trans (runs_lim (E := slices_insertionSortOrdered_int.E) (c := slices_insertionSortOrdered_int.ctxc n) (ctxLe_cons ctxLe_nil (cmp_Less_int.sigc_le n)) h)

/-! ### slices.siftDownOrdered[int] -/
namespace slices_siftDownOrdered_int
abbrev ps : List PM := [.own (.int .i64), .pure (.int .i64), .pure (.int .i64), .pure (.int .i64)]
abbrev rs : List RM := []
abbrev R : Type := Option (List Int × Unit)
noncomputable def E : Env := { tt := tt, ctx := [(58, cmp_Less_int.sig)], nt := 76, ann := [(1000001, [(0, .keep), (2, .keep), (3, .keep), (8, .keep)]), (5, [(0, .keep), (2, .keep), (3, .keep), (8, .keep), (9, .keep)])] }
noncomputable def c0 : Code := sub [1, 0, 0] (bodyOf Try.f66)
noncomputable def c1 : Code := sub [1, 0, 0, 0, 1, 1, 1] (bodyOf Try.f66)
noncomputable def K2 : Kont := .blk 0 .ret
noncomputable def K3 : Kont := .loop c0 K2
noncomputable def K4 : Kont := .blk 1 K3
noncomputable def fin : ASt → R := Kret E Try.f66.results.toList ps rs
def tL0 (hi : Int) (first : Int) (root : Int) (data_P : List Int) : ASt := ⟨[(8, .one (.val (.int .i64) root)), (3, .one (.val (.int .i64) first)), (2, .one (.val (.int .i64) hi)), (0, .one (.own 10000))], [(10000, some ⟨.fixed, .int .i64, data_P⟩)]⟩
def tJ1 (hi : Int) (first : Int) (root : Int) (child : Int) (data_P : List Int) : ASt := ⟨[(9, .one (.val (.int .i64) child)), (8, .one (.val (.int .i64) root)), (3, .one (.val (.int .i64) first)), (2, .one (.val (.int .i64) hi)), (0, .one (.own 10000))], [(10000, some ⟨.fixed, .int .i64, data_P⟩)]⟩
noncomputable def SL0 (kJ1 : Int → Int → Int → Int → (List Int) → R) (hi : Int) (first : Int) (root : Int) (data_P : List Int) : R :=
  cond (decide ((IntKind.i64.wrap ((IntKind.i64.wrap (2 * root)) + 1)) ≥ hi))
    (some (data_P, ()))
    (cond (decide ((IntKind.i64.wrap ((IntKind.i64.wrap ((IntKind.i64.wrap (2 * root)) + 1)) + 1)) < hi))
      (cond (decide (0 ≤ IntKind.i64.wrap (first + (IntKind.i64.wrap ((IntKind.i64.wrap (2 * root)) + 1)))) && decide (IntKind.i64.wrap (first + (IntKind.i64.wrap ((IntKind.i64.wrap (2 * root)) + 1))) < (data_P.length : Int)))
        (cond (decide (0 ≤ IntKind.i64.wrap ((IntKind.i64.wrap (first + (IntKind.i64.wrap ((IntKind.i64.wrap (2 * root)) + 1)))) + 1)) && decide (IntKind.i64.wrap ((IntKind.i64.wrap (first + (IntKind.i64.wrap ((IntKind.i64.wrap (2 * root)) + 1)))) + 1) < (data_P.length : Int)))
          (Option.bind (cmp_Less_int (data_P.getD ((IntKind.i64.wrap (first + (IntKind.i64.wrap ((IntKind.i64.wrap (2 * root)) + 1)))).toNat) 0) (data_P.getD ((IntKind.i64.wrap ((IntKind.i64.wrap (first + (IntKind.i64.wrap ((IntKind.i64.wrap (2 * root)) + 1)))) + 1)).toNat) 0)) fun x1 =>
          cond x1.1
            (kJ1 hi first root (IntKind.i64.wrap ((IntKind.i64.wrap ((IntKind.i64.wrap (2 * root)) + 1)) + 1)) data_P)
            (kJ1 hi first root (IntKind.i64.wrap ((IntKind.i64.wrap (2 * root)) + 1)) data_P))
          none)
        none)
      (kJ1 hi first root (IntKind.i64.wrap ((IntKind.i64.wrap (2 * root)) + 1)) data_P))
noncomputable def SJ1 (kL0 : Int → Int → Int → (List Int) → R) (hi : Int) (first : Int) (root : Int) (child : Int) (data_P : List Int) : R :=
  cond (decide (0 ≤ IntKind.i64.wrap (first + root)) && decide (IntKind.i64.wrap (first + root) < (data_P.length : Int)))
    (cond (decide (0 ≤ IntKind.i64.wrap (first + child)) && decide (IntKind.i64.wrap (first + child) < (data_P.length : Int)))
      (Option.bind (cmp_Less_int (data_P.getD ((IntKind.i64.wrap (first + root)).toNat) 0) (data_P.getD ((IntKind.i64.wrap (first + child)).toNat) 0)) fun x1 =>
      cond (!x1.1)
        (some (data_P, ()))
        (cond (decide (0 ≤ IntKind.i64.wrap (first + child)) && decide (IntKind.i64.wrap (first + child) < (data_P.length : Int)))
          (cond (decide (0 ≤ IntKind.i64.wrap (first + root)) && decide (IntKind.i64.wrap (first + root) < (data_P.length : Int)))
            (cond (decide (0 ≤ IntKind.i64.wrap (first + root)) && decide (IntKind.i64.wrap (first + root) < (data_P.length : Int)))
              (cond (decide (0 ≤ IntKind.i64.wrap (first + child)) && decide (IntKind.i64.wrap (first + child) < ((data_P.set ((IntKind.i64.wrap (first + root)).toNat) (data_P.getD ((IntKind.i64.wrap (first + child)).toNat) 0)).length : Int)))
                (kL0 hi first child ((data_P.set ((IntKind.i64.wrap (first + root)).toNat) (data_P.getD ((IntKind.i64.wrap (first + child)).toNat) 0)).set ((IntKind.i64.wrap (first + child)).toNat) (data_P.getD ((IntKind.i64.wrap (first + root)).toNat) 0)))
                none)
              none)
            none)
          none))
      none)
    none
noncomputable def Se (kL0 : Int → Int → Int → (List Int) → R) (data : List Int) (lo : Int) (hi : Int) (first : Int) : R :=
  kL0 hi first lo data
theorem sL0 (jmp : Tgt → ASt → R) (hi : Int) (first : Int) (root : Int) (data_P : List Int) : run E jmp fin depth c0 (.loop c0 K2) (tL0 hi first root data_P) =
    SL0 (fun hi first root child data_P => jmp (.code c1 K4) (tJ1 hi first root child data_P)) hi first root data_P := by kernel_rfl
theorem sJ1 (jmp : Tgt → ASt → R) (hi : Int) (first : Int) (root : Int) (child : Int) (data_P : List Int) : run E jmp fin depth c1 K4 (tJ1 hi first root child data_P) =
    SJ1 (fun hi first root data_P => jmp (.loop c0 K2) (tL0 hi first root data_P)) hi first root child data_P := by kernel_rfl
theorem se (jmp : Tgt → ASt → R) (x : (argTy ps).den) : run E jmp fin depth (bodyOf Try.f66) .ret (entryFrom 0 ps x) =
    Se (fun hi first root data_P => jmp (.loop c0 K2) (tL0 hi first root data_P)) x.1 x.2.1 x.2.2.1 x.2.2.2.1 := by kernel_rfl
noncomputable def L0 (hi : Int) (first : Int) (root : Int) (data_P : List Int) : R := lim E fin (.loop c0 K2) (tL0 hi first root data_P)
noncomputable def J1 (hi : Int) (first : Int) (root : Int) (child : Int) (data_P : List Int) : R := lim E fin (.code c1 K4) (tJ1 hi first root child data_P)
theorem L0_eq (hi : Int) (first : Int) (root : Int) (data_P : List Int) : L0 hi first root data_P = SL0 J1 hi first root data_P :=
  (lim_eq (.loop c0 K2) (tL0 hi first root data_P)).trans (sL0 (lim E fin) hi first root data_P)
theorem J1_eq (hi : Int) (first : Int) (root : Int) (child : Int) (data_P : List Int) : J1 hi first root child data_P = SJ1 L0 hi first root child data_P :=
  (lim_eq (.code c1 K4) (tJ1 hi first root child data_P)).trans (sJ1 (lim E fin) hi first root child data_P)
end slices_siftDownOrdered_int
noncomputable def slices_siftDownOrdered_int (data : List Int) (lo : Int) (hi : Int) (first : Int) : slices_siftDownOrdered_int.R :=
  slices_siftDownOrdered_int.Se slices_siftDownOrdered_int.L0 data lo hi first
noncomputable def slices_siftDownOrdered_int.sig : Sig := ⟨slices_siftDownOrdered_int.ps, slices_siftDownOrdered_int.rs, fun x => slices_siftDownOrdered_int x.1 x.2.1 x.2.2.1 x.2.2.2.1⟩
theorem slices_siftDownOrdered_int.ok : CallOK Try.prog 66 slices_siftDownOrdered_int.sig :=
  callOK_of_lim (E := slices_siftDownOrdered_int.E) mixed tt_ok (ctxOk_cons ctxOk_nil cmp_Less_int.ok Try.func58 (by kernel_rfl) (by kernel_rfl)) Try.func66 (by kernel_rfl : Try.f66.body = some (bodyOf Try.f66)) Try.ntmps66 (of_decide_eq_true (by kernel_rfl)) (of_decide_eq_true (by kernel_rfl))
    fun x y h => ((lim_eq (.code (bodyOf Try.f66) .ret) (entryFrom 0 slices_siftDownOrdered_int.ps x)).trans (slices_siftDownOrdered_int.se (lim slices_siftDownOrdered_int.E slices_siftDownOrdered_int.fin) x)).trans h
theorem slices_siftDownOrdered_int.val (x : (argTy slices_siftDownOrdered_int.ps).den) : lim slices_siftDownOrdered_int.E slices_siftDownOrdered_int.fin (.code (bodyOf Try.f66) .ret) (entryFrom 0 slices_siftDownOrdered_int.ps x) = slices_siftDownOrdered_int.sig.run x :=
  (lim_eq (.code (bodyOf Try.f66) .ret) (entryFrom 0 slices_siftDownOrdered_int.ps x)).trans (slices_siftDownOrdered_int.se (lim slices_siftDownOrdered_int.E slices_siftDownOrdered_int.fin) x)
noncomputable def slices_siftDownOrdered_int.ctxc (n : Nat) : List (Nat × Sig) := [(58, cmp_Less_int.sigc n)]
noncomputable def slices_siftDownOrdered_int.sigc (n : Nat) : Sig := ⟨slices_siftDownOrdered_int.ps, slices_siftDownOrdered_int.rs, fun x => runs (withCtx slices_siftDownOrdered_int.E (slices_siftDownOrdered_int.ctxc n)) slices_siftDownOrdered_int.fin n (.code (bodyOf Try.f66) .ret) (entryFrom 0 slices_siftDownOrdered_int.ps x)⟩
theorem slices_siftDownOrdered_int.sigc_le (n : Nat) : ∀ x y, (slices_siftDownOrdered_int.sigc n).run x = some y → slices_siftDownOrdered_int.sig.run x = some y :=
  fun x y h => (slices_siftDownOrdered_int.val x).symm.trans (runs_lim (E := slices_siftDownOrdered_int.E) (c := slices_siftDownOrdered_int.ctxc n) (ctxLe_cons ctxLe_nil (cmp_Less_int.sigc_le n)) h)

/-! ### slices.heapSortOrdered[int] -/
namespace slices_heapSortOrdered_int
abbrev ps : List PM := [.own (.int .i64), .pure (.int .i64), .pure (.int .i64)]
abbrev rs : List RM := []
abbrev R : Type := Option (List Int × Unit)
noncomputable def E : Env := { tt := tt, ctx := [(66, slices_siftDownOrdered_int.sig)], nt := 56, ann := [(1000004, [(0, .keep), (6, .keep), (7, .keep), (8, .keep), (9, .keep)]), (1000008, [(0, .keep), (6, .keep), (7, .keep), (10, .keep)])] }
noncomputable def c0 : Code := sub [1, 1, 1, 1] (bodyOf Try.f53)
noncomputable def c1 : Code := sub [1, 1, 1, 0, 1, 0, 0] (bodyOf Try.f53)
noncomputable def c2 : Code := sub [1, 1, 1, 1, 1, 0, 0] (bodyOf Try.f53)
noncomputable def K4 : Kont := .seq c0 .ret
noncomputable def K6 : Kont := .blk 0 K4
noncomputable def K13 : Kont := .blk 2 .ret
noncomputable def fin : ASt → R := Kret E Try.f53.results.toList ps rs
def tL0 (first : Int) (lo : Int) (hi : Int) (i : Int) (data_P : List Int) : ASt := ⟨[(9, .one (.val (.int .i64) i)), (8, .one (.val (.int .i64) hi)), (7, .one (.val (.int .i64) lo)), (6, .one (.val (.int .i64) first)), (0, .one (.own 10000))], [(10000, some ⟨.fixed, .int .i64, data_P⟩)]⟩
def tL1 (first : Int) (lo : Int) (i : Int) (data_P : List Int) : ASt := ⟨[(10, .one (.val (.int .i64) i)), (7, .one (.val (.int .i64) lo)), (6, .one (.val (.int .i64) first)), (0, .one (.own 10000))], [(10000, some ⟨.fixed, .int .i64, data_P⟩)]⟩
noncomputable def SL0 (kL0 : Int → Int → Int → Int → (List Int) → R) (kL1 : Int → Int → Int → (List Int) → R) (first : Int) (lo : Int) (hi : Int) (i : Int) (data_P : List Int) : R :=
  cond (decide (i ≥ 0))
    (Option.bind (slices_siftDownOrdered_int data_P i hi first) fun x1 =>
    kL0 first lo hi (IntKind.i64.wrap (i - 1)) x1.1)
    (kL1 first lo (IntKind.i64.wrap (hi - 1)) data_P)
noncomputable def SL1 (kL1 : Int → Int → Int → (List Int) → R) (first : Int) (lo : Int) (i : Int) (data_P : List Int) : R :=
  cond (decide (i ≥ 0))
    (cond (decide (0 ≤ IntKind.i64.wrap (first + i)) && decide (IntKind.i64.wrap (first + i) < (data_P.length : Int)))
      (cond (decide (0 ≤ first) && decide (first < (data_P.length : Int)))
        (cond (decide (0 ≤ first) && decide (first < (data_P.length : Int)))
          (cond (decide (0 ≤ IntKind.i64.wrap (first + i)) && decide (IntKind.i64.wrap (first + i) < ((data_P.set first.toNat (data_P.getD ((IntKind.i64.wrap (first + i)).toNat) 0)).length : Int)))
            (Option.bind (slices_siftDownOrdered_int ((data_P.set first.toNat (data_P.getD ((IntKind.i64.wrap (first + i)).toNat) 0)).set ((IntKind.i64.wrap (first + i)).toNat) (data_P.getD first.toNat 0)) lo i first) fun x1 =>
            kL1 first lo (IntKind.i64.wrap (i - 1)) x1.1)
            none)
          none)
        none)
      none)
    (some (data_P, ()))
noncomputable def Se (kL0 : Int → Int → Int → Int → (List Int) → R) (data : List Int) (a : Int) (b : Int) : R :=
  kL0 a 0 (IntKind.i64.wrap (b - a)) (IntKind.i64.wrap (Int.tdiv (IntKind.i64.wrap ((IntKind.i64.wrap (b - a)) - 1)) 2)) data
theorem sL0 (jmp : Tgt → ASt → R) (first : Int) (lo : Int) (hi : Int) (i : Int) (data_P : List Int) : run E jmp fin depth c1 (.loop c1 K6) (tL0 first lo hi i data_P) =
    SL0 (fun first lo hi i data_P => jmp (.loop c1 K6) (tL0 first lo hi i data_P)) (fun first lo i data_P => jmp (.loop c2 K13) (tL1 first lo i data_P)) first lo hi i data_P := by kernel_rfl
theorem sL1 (jmp : Tgt → ASt → R) (first : Int) (lo : Int) (i : Int) (data_P : List Int) : run E jmp fin depth c2 (.loop c2 K13) (tL1 first lo i data_P) =
    SL1 (fun first lo i data_P => jmp (.loop c2 K13) (tL1 first lo i data_P)) first lo i data_P := by kernel_rfl
theorem se (jmp : Tgt → ASt → R) (x : (argTy ps).den) : run E jmp fin depth (bodyOf Try.f53) .ret (entryFrom 0 ps x) =
    Se (fun first lo hi i data_P => jmp (.loop c1 K6) (tL0 first lo hi i data_P)) x.1 x.2.1 x.2.2.1 := by kernel_rfl
noncomputable def L0 (first : Int) (lo : Int) (hi : Int) (i : Int) (data_P : List Int) : R := lim E fin (.loop c1 K6) (tL0 first lo hi i data_P)
noncomputable def L1 (first : Int) (lo : Int) (i : Int) (data_P : List Int) : R := lim E fin (.loop c2 K13) (tL1 first lo i data_P)
theorem L0_eq (first : Int) (lo : Int) (hi : Int) (i : Int) (data_P : List Int) : L0 first lo hi i data_P = SL0 L0 L1 first lo hi i data_P :=
  (lim_eq (.loop c1 K6) (tL0 first lo hi i data_P)).trans (sL0 (lim E fin) first lo hi i data_P)
theorem L1_eq (first : Int) (lo : Int) (i : Int) (data_P : List Int) : L1 first lo i data_P = SL1 L1 first lo i data_P :=
  (lim_eq (.loop c2 K13) (tL1 first lo i data_P)).trans (sL1 (lim E fin) first lo i data_P)
end slices_heapSortOrdered_int
noncomputable def slices_heapSortOrdered_int (data : List Int) (a : Int) (b : Int) : slices_heapSortOrdered_int.R :=
  slices_heapSortOrdered_int.Se slices_heapSortOrdered_int.L0 data a b
noncomputable def slices_heapSortOrdered_int.sig : Sig := ⟨slices_heapSortOrdered_int.ps, slices_heapSortOrdered_int.rs, fun x => slices_heapSortOrdered_int x.1 x.2.1 x.2.2.1⟩
theorem slices_heapSortOrdered_int.ok : CallOK Try.prog 53 slices_heapSortOrdered_int.sig :=
  callOK_of_lim (E := slices_heapSortOrdered_int.E) mixed tt_ok (ctxOk_cons ctxOk_nil slices_siftDownOrdered_int.ok Try.func66 (by kernel_rfl) (by kernel_rfl)) Try.func53 (by kernel_rfl : Try.f53.body = some (bodyOf Try.f53)) Try.ntmps53 (of_decide_eq_true (by kernel_rfl)) (of_decide_eq_true (by kernel_rfl))
    fun x y h => ((lim_eq (.code (bodyOf Try.f53) .ret) (entryFrom 0 slices_heapSortOrdered_int.ps x)).trans (slices_heapSortOrdered_int.se (lim slices_heapSortOrdered_int.E slices_heapSortOrdered_int.fin) x)).trans h
theorem slices_heapSortOrdered_int.val (x : (argTy slices_heapSortOrdered_int.ps).den) : lim slices_heapSortOrdered_int.E slices_heapSortOrdered_int.fin (.code (bodyOf Try.f53) .ret) (entryFrom 0 slices_heapSortOrdered_int.ps x) = slices_heapSortOrdered_int.sig.run x :=
  (lim_eq (.code (bodyOf Try.f53) .ret) (entryFrom 0 slices_heapSortOrdered_int.ps x)).trans (slices_heapSortOrdered_int.se (lim slices_heapSortOrdered_int.E slices_heapSortOrdered_int.fin) x)
noncomputable def slices_heapSortOrdered_int.ctxc (n : Nat) : List (Nat × Sig) := [(66, slices_siftDownOrdered_int.sigc n)]
noncomputable def slices_heapSortOrdered_int.sigc (n : Nat) : Sig := ⟨slices_heapSortOrdered_int.ps, slices_heapSortOrdered_int.rs, fun x => runs (withCtx slices_heapSortOrdered_int.E (slices_heapSortOrdered_int.ctxc n)) slices_heapSortOrdered_int.fin n (.code (bodyOf Try.f53) .ret) (entryFrom 0 slices_heapSortOrdered_int.ps x)⟩
theorem slices_heapSortOrdered_int.sigc_le (n : Nat) : ∀ x y, (slices_heapSortOrdered_int.sigc n).run x = some y → slices_heapSortOrdered_int.sig.run x = some y :=
  fun x y h => (slices_heapSortOrdered_int.val x).symm.trans (runs_lim (E := slices_heapSortOrdered_int.E) (c := slices_heapSortOrdered_int.ctxc n) (ctxLe_cons ctxLe_nil (slices_siftDownOrdered_int.sigc_le n)) h)

/-! ### slices.breakPatternsOrdered[int] -/
namespace slices_breakPatternsOrdered_int
abbrev ps : List PM := [.own (.int .i64), .pure (.int .i64), .pure (.int .i64)]
abbrev rs : List RM := []
abbrev R : Type := Option (List Int × Unit)
noncomputable def E : Env := { tt := tt, ctx := [(62, slices_nextPowerOfTwo.sig), (63, slices_xorshift_Next.sig)], nt := 65, ann := [(1000005, [(0, .keep), (1, .keep), (6, .keep), (7, .keep), (8, .keep), (9, .keep)]), (10, [(0, .keep), (1, .keep), (6, .keep), (7, .keep), (8, .keep), (9, .keep), (10, .keep)])] }
noncomputable def c0 : Code := sub [1, 1, 0, 1, 1, 1, 0, 0] (bodyOf Try.f54)
noncomputable def c1 : Code := sub [1, 1, 0, 1, 1, 1, 0, 0, 1, 1] (bodyOf Try.f54)
noncomputable def c2 : Code := sub [1, 1, 0, 1, 1, 1, 0, 0, 1, 0, 0, 1, 1] (bodyOf Try.f54)
noncomputable def K6 : Kont := .blk 0 .ret
noncomputable def K7 : Kont := .loop c0 K6
noncomputable def K10 : Kont := .seq c1 K7
noncomputable def K11 : Kont := .blk 1 K10
noncomputable def fin : ASt → R := Kret E Try.f54.results.toList ps rs
def tL0 (a : Int) (length_6 : Int) (random : Int) (modulus : Int) (idx_9 : Int) (data_P : List Int) : ASt := ⟨[(9, .one (.val (.int .i64) idx_9)), (8, .one (.val (.int .u64) modulus)), (7, .one (.optr 7 0 [])), (6, .one (.val (.int .i64) length_6)), (1, .one (.val (.int .i64) a)), (0, .one (.own 10000))], [(7, some ⟨.free, .int .u64, [random]⟩), (10000, some ⟨.fixed, .int .i64, data_P⟩)]⟩
def tJ1 (a : Int) (length_6 : Int) (random : Int) (modulus : Int) (idx_9 : Int) (other : Int) (data_P : List Int) : ASt := ⟨[(10, .one (.val (.int .i64) other)), (9, .one (.val (.int .i64) idx_9)), (8, .one (.val (.int .u64) modulus)), (7, .one (.optr 7 0 [])), (6, .one (.val (.int .i64) length_6)), (1, .one (.val (.int .i64) a)), (0, .one (.own 10000))], [(7, some ⟨.free, .int .u64, [random]⟩), (10000, some ⟨.fixed, .int .i64, data_P⟩)]⟩
noncomputable def SL0 (kJ1 : Int → Int → Int → Int → Int → Int → (List Int) → R) (a : Int) (length_6 : Int) (random : Int) (modulus : Int) (idx_9 : Int) (data_P : List Int) : R :=
  cond (decide (idx_9 ≤ (IntKind.i64.wrap ((IntKind.i64.wrap (a + (IntKind.i64.wrap ((IntKind.i64.wrap (Int.tdiv length_6 4)) * 2)))) + 1))))
    (Option.bind (slices_xorshift_Next random) fun x1 =>
    cond (decide ((IntKind.i64.wrap (IntKind.u64.wrap (BitVec.ofInt IntKind.u64.bits x1.1 &&& BitVec.ofInt IntKind.u64.bits (IntKind.u64.wrap (modulus - 1))).toNat)) ≥ length_6))
      (kJ1 a length_6 x1.2.1 modulus idx_9 (IntKind.i64.wrap ((IntKind.i64.wrap (IntKind.u64.wrap (BitVec.ofInt IntKind.u64.bits x1.1 &&& BitVec.ofInt IntKind.u64.bits (IntKind.u64.wrap (modulus - 1))).toNat)) - length_6)) data_P)
      (kJ1 a length_6 x1.2.1 modulus idx_9 (IntKind.i64.wrap (IntKind.u64.wrap (BitVec.ofInt IntKind.u64.bits x1.1 &&& BitVec.ofInt IntKind.u64.bits (IntKind.u64.wrap (modulus - 1))).toNat)) data_P))
    (some (data_P, ()))
noncomputable def SJ1 (kL0 : Int → Int → Int → Int → Int → (List Int) → R) (a : Int) (length_6 : Int) (random : Int) (modulus : Int) (idx_9 : Int) (other : Int) (data_P : List Int) : R :=
  cond (decide (0 ≤ IntKind.i64.wrap (a + other)) && decide (IntKind.i64.wrap (a + other) < (data_P.length : Int)))
    (cond (decide (0 ≤ idx_9) && decide (idx_9 < (data_P.length : Int)))
      (cond (decide (0 ≤ idx_9) && decide (idx_9 < (data_P.length : Int)))
        (cond (decide (0 ≤ IntKind.i64.wrap (a + other)) && decide (IntKind.i64.wrap (a + other) < ((data_P.set idx_9.toNat (data_P.getD ((IntKind.i64.wrap (a + other)).toNat) 0)).length : Int)))
          (kL0 a length_6 random modulus (IntKind.i64.wrap (idx_9 + 1)) ((data_P.set idx_9.toNat (data_P.getD ((IntKind.i64.wrap (a + other)).toNat) 0)).set ((IntKind.i64.wrap (a + other)).toNat) (data_P.getD idx_9.toNat 0)))
          none)
        none)
      none)
    none
noncomputable def Se (kL0 : Int → Int → Int → Int → Int → (List Int) → R) (data : List Int) (a : Int) (b : Int) : R :=
  cond (decide ((IntKind.i64.wrap (b - a)) ≥ 8))
    (Option.bind (slices_nextPowerOfTwo (IntKind.i64.wrap (b - a))) fun x1 =>
    kL0 a (IntKind.i64.wrap (b - a)) (IntKind.u64.wrap (IntKind.i64.wrap (b - a))) x1.1 (IntKind.i64.wrap ((IntKind.i64.wrap (a + (IntKind.i64.wrap ((IntKind.i64.wrap (Int.tdiv (IntKind.i64.wrap (b - a)) 4)) * 2)))) - 1)) data)
    (some (data, ()))
theorem sL0 (jmp : Tgt → ASt → R) (a : Int) (length_6 : Int) (random : Int) (modulus : Int) (idx_9 : Int) (data_P : List Int) : run E jmp fin depth c0 (.loop c0 K6) (tL0 a length_6 random modulus idx_9 data_P) =
    SL0 (fun a length_6 random modulus idx_9 other data_P => jmp (.code c2 K11) (tJ1 a length_6 random modulus idx_9 other data_P)) a length_6 random modulus idx_9 data_P := by kernel_rfl
theorem sJ1 (jmp : Tgt → ASt → R) (a : Int) (length_6 : Int) (random : Int) (modulus : Int) (idx_9 : Int) (other : Int) (data_P : List Int) : run E jmp fin depth c2 K11 (tJ1 a length_6 random modulus idx_9 other data_P) =
    SJ1 (fun a length_6 random modulus idx_9 data_P => jmp (.loop c0 K6) (tL0 a length_6 random modulus idx_9 data_P)) a length_6 random modulus idx_9 other data_P := by kernel_rfl
theorem se (jmp : Tgt → ASt → R) (x : (argTy ps).den) : run E jmp fin depth (bodyOf Try.f54) .ret (entryFrom 0 ps x) =
    Se (fun a length_6 random modulus idx_9 data_P => jmp (.loop c0 K6) (tL0 a length_6 random modulus idx_9 data_P)) x.1 x.2.1 x.2.2.1 := by kernel_rfl
noncomputable def L0 (a : Int) (length_6 : Int) (random : Int) (modulus : Int) (idx_9 : Int) (data_P : List Int) : R := lim E fin (.loop c0 K6) (tL0 a length_6 random modulus idx_9 data_P)
noncomputable def J1 (a : Int) (length_6 : Int) (random : Int) (modulus : Int) (idx_9 : Int) (other : Int) (data_P : List Int) : R := lim E fin (.code c2 K11) (tJ1 a length_6 random modulus idx_9 other data_P)
theorem L0_eq (a : Int) (length_6 : Int) (random : Int) (modulus : Int) (idx_9 : Int) (data_P : List Int) : L0 a length_6 random modulus idx_9 data_P = SL0 J1 a length_6 random modulus idx_9 data_P :=
  (lim_eq (.loop c0 K6) (tL0 a length_6 random modulus idx_9 data_P)).trans (sL0 (lim E fin) a length_6 random modulus idx_9 data_P)
theorem J1_eq (a : Int) (length_6 : Int) (random : Int) (modulus : Int) (idx_9 : Int) (other : Int) (data_P : List Int) : J1 a length_6 random modulus idx_9 other data_P = SJ1 L0 a length_6 random modulus idx_9 other data_P :=
  (lim_eq (.code c2 K11) (tJ1 a length_6 random modulus idx_9 other data_P)).trans (sJ1 (lim E fin) a length_6 random modulus idx_9 other data_P)
end slices_breakPatternsOrdered_int
noncomputable def slices_breakPatternsOrdered_int (data : List Int) (a : Int) (b : Int) : slices_breakPatternsOrdered_int.R :=
  slices_breakPatternsOrdered_int.Se slices_breakPatternsOrdered_int.L0 data a b
noncomputable def slices_breakPatternsOrdered_int.sig : Sig := ⟨slices_breakPatternsOrdered_int.ps, slices_breakPatternsOrdered_int.rs, fun x => slices_breakPatternsOrdered_int x.1 x.2.1 x.2.2.1⟩
theorem slices_breakPatternsOrdered_int.ok : CallOK Try.prog 54 slices_breakPatternsOrdered_int.sig :=
  callOK_of_lim (E := slices_breakPatternsOrdered_int.E) mixed tt_ok (ctxOk_cons (ctxOk_cons ctxOk_nil slices_xorshift_Next.ok Try.func63 (by kernel_rfl) (by kernel_rfl)) slices_nextPowerOfTwo.ok Try.func62 (by kernel_rfl) (by kernel_rfl)) Try.func54 (by kernel_rfl : Try.f54.body = some (bodyOf Try.f54)) Try.ntmps54 (of_decide_eq_true (by kernel_rfl)) (of_decide_eq_true (by kernel_rfl))
    fun x y h => ((lim_eq (.code (bodyOf Try.f54) .ret) (entryFrom 0 slices_breakPatternsOrdered_int.ps x)).trans (slices_breakPatternsOrdered_int.se (lim slices_breakPatternsOrdered_int.E slices_breakPatternsOrdered_int.fin) x)).trans h
theorem slices_breakPatternsOrdered_int.val (x : (argTy slices_breakPatternsOrdered_int.ps).den) : lim slices_breakPatternsOrdered_int.E slices_breakPatternsOrdered_int.fin (.code (bodyOf Try.f54) .ret) (entryFrom 0 slices_breakPatternsOrdered_int.ps x) = slices_breakPatternsOrdered_int.sig.run x :=
  (lim_eq (.code (bodyOf Try.f54) .ret) (entryFrom 0 slices_breakPatternsOrdered_int.ps x)).trans (slices_breakPatternsOrdered_int.se (lim slices_breakPatternsOrdered_int.E slices_breakPatternsOrdered_int.fin) x)
noncomputable def slices_breakPatternsOrdered_int.ctxc (n : Nat) : List (Nat × Sig) := [(62, slices_nextPowerOfTwo.sigc n), (63, slices_xorshift_Next.sigc n)]
noncomputable def slices_breakPatternsOrdered_int.sigc (n : Nat) : Sig := ⟨slices_breakPatternsOrdered_int.ps, slices_breakPatternsOrdered_int.rs, fun x => runs (withCtx slices_breakPatternsOrdered_int.E (slices_breakPatternsOrdered_int.ctxc n)) slices_breakPatternsOrdered_int.fin n (.code (bodyOf Try.f54) .ret) (entryFrom 0 slices_breakPatternsOrdered_int.ps x)⟩
theorem slices_breakPatternsOrdered_int.sigc_le (n : Nat) : ∀ x y, (slices_breakPatternsOrdered_int.sigc n).run x = some y → slices_breakPatternsOrdered_int.sig.run x = some y :=
  fun x y h => (slices_breakPatternsOrdered_int.val x).symm.trans (runs_lim (E := slices_breakPatternsOrdered_int.E) (c := slices_breakPatternsOrdered_int.ctxc n) (ctxLe_cons (ctxLe_cons ctxLe_nil (slices_xorshift_Next.sigc_le n)) (slices_nextPowerOfTwo.sigc_le n)) h)

end Go.Proofs.Ytcekbjgogdkomaa
