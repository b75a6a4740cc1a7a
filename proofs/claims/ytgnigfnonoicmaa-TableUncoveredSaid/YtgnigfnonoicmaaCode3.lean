import Derived.Test.YtgnigfnonoicmaaCode2
set_option maxRecDepth 100000
set_option linter.unusedVariables false
namespace Go.Proofs.Ytgnigfnonoicmaa
open Go Go.Lift
namespace slices_partitionCmpFunc_api_Row_table_UncoveredKeys_1
abbrev ps : List PM := [.own api_Row, .pure (.int .i64), .pure (.int .i64), .pure (.int .i64), .fn 41]
abbrev rs : List RM := [.pure (.int .i64), .pure .bool]
abbrev R : Type := Option (Int × Bool × List api_RowV × Unit)
noncomputable def E : Env := { tt := tt, ctx := [(41, table_UncoveredKeys_1.sig)], nt := 178, ann := [(5, [(0, .keep), (1, .keep), (4, .keep), (12, .keep), (13, .keep)]), (1000003, [(0, .keep), (1, .keep), (4, .keep), (12, .keep), (13, .keep)]), (7, [(0, .keep), (1, .keep), (4, .keep), (12, .keep), (13, .keep)]), (1000005, [(0, .keep), (1, .keep), (4, .keep), (12, .keep), (13, .keep)]), (1000013, [(0, .keep), (1, .keep), (4, .keep), (12, .keep), (13, .keep)]), (15, [(0, .keep), (1, .keep), (4, .keep), (12, .keep), (13, .keep)]), (1000013, [(0, .keep), (1, .keep), (4, .keep), (12, .keep), (13, .keep)]), (17, [(0, .keep), (1, .keep), (4, .keep), (12, .keep), (13, .keep)]), (1000015, [(0, .keep), (1, .keep), (4, .keep), (12, .keep), (13, .keep)])] }
noncomputable def c0 : Code := sub [1, 1, 1, 1] (bodyOf Try.f88)
noncomputable def c1 : Code := sub [1, 1, 1, 1, 1] (bodyOf Try.f88)
noncomputable def c2 : Code := sub [1, 1, 1, 1, 1, 1, 1, 1, 1, 1] (bodyOf Try.f88)
noncomputable def c3 : Code := sub [1, 1, 1, 1, 1, 1, 1, 1, 1, 0, 0, 0] (bodyOf Try.f88)
noncomputable def c4 : Code := sub [1, 1, 1, 1, 1, 1, 1, 1, 1, 0, 0, 0, 0, 1] (bodyOf Try.f88)
noncomputable def c5 : Code := sub [1, 1, 1, 1, 1, 1, 1, 1, 1, 0, 0, 0, 0, 1, 1] (bodyOf Try.f88)
noncomputable def c6 : Code := sub [1, 1, 1, 0, 0, 0] (bodyOf Try.f88)
noncomputable def c7 : Code := sub [1, 1, 1, 1, 0, 0, 0] (bodyOf Try.f88)
noncomputable def c8 : Code := sub [1, 1, 1, 1, 1, 1, 1, 1, 1, 0, 0, 0, 0, 0, 0, 0] (bodyOf Try.f88)
noncomputable def c9 : Code := sub [1, 1, 1, 1, 1, 1, 1, 1, 1, 0, 0, 0, 0, 1, 0, 0, 0] (bodyOf Try.f88)
noncomputable def K4 : Kont := .seq c0 .ret
noncomputable def K5 : Kont := .blk 0 K4
noncomputable def K10 : Kont := .seq c1 .ret
noncomputable def K11 : Kont := .blk 2 K10
noncomputable def K23 : Kont := .seq c2 .ret
noncomputable def K24 : Kont := .blk 4 K23
noncomputable def K25 : Kont := .loop c3 K24
noncomputable def K26 : Kont := .blk 5 K25
noncomputable def K27 : Kont := .seq c4 K26
noncomputable def K28 : Kont := .blk 6 K27
noncomputable def K33 : Kont := .seq c5 K26
noncomputable def K34 : Kont := .blk 8 K33
noncomputable def fin : ASt → R := Kret E Try.f88.results.toList ps rs
def tJ0 (a : Int) (i : Int) (j : Int) (data_P : List api_RowV) : ASt := ⟨[(13, .one (.val (.int .i64) j)), (12, .one (.val (.int .i64) i)), (4, .one (.fn 41 [])), (1, .one (.val (.int .i64) a)), (0, .one (.own 10000))], [(10000, some ⟨.fixed, api_Row, data_P⟩)]⟩
def tL1 (a : Int) (i : Int) (j : Int) (data_P : List api_RowV) : ASt := ⟨[(13, .one (.val (.int .i64) j)), (12, .one (.val (.int .i64) i)), (4, .one (.fn 41 [])), (1, .one (.val (.int .i64) a)), (0, .one (.own 10000))], [(10000, some ⟨.fixed, api_Row, data_P⟩)]⟩
def tJ2 (a : Int) (i : Int) (j : Int) (data_P : List api_RowV) : ASt := ⟨[(13, .one (.val (.int .i64) j)), (12, .one (.val (.int .i64) i)), (4, .one (.fn 41 [])), (1, .one (.val (.int .i64) a)), (0, .one (.own 10000))], [(10000, some ⟨.fixed, api_Row, data_P⟩)]⟩
def tL3 (a : Int) (i : Int) (j : Int) (data_P : List api_RowV) : ASt := ⟨[(13, .one (.val (.int .i64) j)), (12, .one (.val (.int .i64) i)), (4, .one (.fn 41 [])), (1, .one (.val (.int .i64) a)), (0, .one (.own 10000))], [(10000, some ⟨.fixed, api_Row, data_P⟩)]⟩
def tL4 (a : Int) (i : Int) (j : Int) (data_P : List api_RowV) : ASt := ⟨[(13, .one (.val (.int .i64) j)), (12, .one (.val (.int .i64) i)), (4, .one (.fn 41 [])), (1, .one (.val (.int .i64) a)), (0, .one (.own 10000))], [(10000, some ⟨.fixed, api_Row, data_P⟩)]⟩
def tJ5 (a : Int) (i : Int) (j : Int) (data_P : List api_RowV) : ASt := ⟨[(13, .one (.val (.int .i64) j)), (12, .one (.val (.int .i64) i)), (4, .one (.fn 41 [])), (1, .one (.val (.int .i64) a)), (0, .one (.own 10000))], [(10000, some ⟨.fixed, api_Row, data_P⟩)]⟩
def tL6 (a : Int) (i : Int) (j : Int) (data_P : List api_RowV) : ASt := ⟨[(13, .one (.val (.int .i64) j)), (12, .one (.val (.int .i64) i)), (4, .one (.fn 41 [])), (1, .one (.val (.int .i64) a)), (0, .one (.own 10000))], [(10000, some ⟨.fixed, api_Row, data_P⟩)]⟩
def tJ7 (a : Int) (i : Int) (j : Int) (data_P : List api_RowV) : ASt := ⟨[(13, .one (.val (.int .i64) j)), (12, .one (.val (.int .i64) i)), (4, .one (.fn 41 [])), (1, .one (.val (.int .i64) a)), (0, .one (.own 10000))], [(10000, some ⟨.fixed, api_Row, data_P⟩)]⟩
def tL8 (a : Int) (i : Int) (j : Int) (data_P : List api_RowV) : ASt := ⟨[(13, .one (.val (.int .i64) j)), (12, .one (.val (.int .i64) i)), (4, .one (.fn 41 [])), (1, .one (.val (.int .i64) a)), (0, .one (.own 10000))], [(10000, some ⟨.fixed, api_Row, data_P⟩)]⟩
noncomputable def SJ0 (kL3 : Int → Int → Int → (List api_RowV) → R) (a : Int) (i : Int) (j : Int) (data_P : List api_RowV) : R :=
  kL3 a i j data_P
noncomputable def SL1 (kL1 : Int → Int → Int → (List api_RowV) → R) (kJ0 : Int → Int → Int → (List api_RowV) → R) (a : Int) (i : Int) (j : Int) (data_P : List api_RowV) : R :=
  cond (decide (i ≤ j))
    (cond (decide (0 ≤ i) && decide (i < (data_P.length : Int)))
      (cond (decide (0 ≤ a) && decide (a < (data_P.length : Int)))
        (Option.bind (table_UncoveredKeys_1 (data_P.getD i.toNat ((0, 0, ()), 0, 0, 0, ())) (data_P.getD a.toNat ((0, 0, ()), 0, 0, 0, ()))) fun x1 =>
        cond (decide (x1.1 < 0))
          (kL1 a (IntKind.i64.wrap (i + 1)) j data_P)
          (kJ0 a i j data_P))
        none)
      none)
    (kJ0 a i j data_P)
noncomputable def SJ2 (kL4 : Int → Int → Int → (List api_RowV) → R) (a : Int) (i : Int) (j : Int) (data_P : List api_RowV) : R :=
  cond (decide (i > j))
    (cond (decide (0 ≤ a) && decide (a < (data_P.length : Int)))
      (cond (decide (0 ≤ j) && decide (j < (data_P.length : Int)))
        (cond (decide (0 ≤ j) && decide (j < (data_P.length : Int)))
          (cond (decide (0 ≤ a) && decide (a < ((data_P.set j.toNat (data_P.getD a.toNat ((0, 0, ()), 0, 0, 0, ()))).length : Int)))
            (some (j, true, ((data_P.set j.toNat (data_P.getD a.toNat ((0, 0, ()), 0, 0, 0, ()))).set a.toNat (data_P.getD j.toNat ((0, 0, ()), 0, 0, 0, ()))), ()))
            none)
          none)
        none)
      none)
    (cond (decide (0 ≤ j) && decide (j < (data_P.length : Int)))
      (cond (decide (0 ≤ i) && decide (i < (data_P.length : Int)))
        (cond (decide (0 ≤ i) && decide (i < (data_P.length : Int)))
          (cond (decide (0 ≤ j) && decide (j < ((data_P.set i.toNat (data_P.getD j.toNat ((0, 0, ()), 0, 0, 0, ()))).length : Int)))
            (kL4 a (IntKind.i64.wrap (i + 1)) (IntKind.i64.wrap (j - 1)) ((data_P.set i.toNat (data_P.getD j.toNat ((0, 0, ()), 0, 0, 0, ()))).set j.toNat (data_P.getD i.toNat ((0, 0, ()), 0, 0, 0, ()))))
            none)
          none)
        none)
      none)
noncomputable def SL3 (kL3 : Int → Int → Int → (List api_RowV) → R) (kJ2 : Int → Int → Int → (List api_RowV) → R) (a : Int) (i : Int) (j : Int) (data_P : List api_RowV) : R :=
  cond (decide (i ≤ j))
    (cond (decide (0 ≤ j) && decide (j < (data_P.length : Int)))
      (cond (decide (0 ≤ a) && decide (a < (data_P.length : Int)))
        (Option.bind (table_UncoveredKeys_1 (data_P.getD j.toNat ((0, 0, ()), 0, 0, 0, ())) (data_P.getD a.toNat ((0, 0, ()), 0, 0, 0, ()))) fun x1 =>
        cond (!(decide (x1.1 < 0)))
          (kL3 a i (IntKind.i64.wrap (j - 1)) data_P)
          (kJ2 a i j data_P))
        none)
      none)
    (kJ2 a i j data_P)
noncomputable def SL4 (kL6 : Int → Int → Int → (List api_RowV) → R) (a : Int) (i : Int) (j : Int) (data_P : List api_RowV) : R :=
  kL6 a i j data_P
noncomputable def SJ5 (kL8 : Int → Int → Int → (List api_RowV) → R) (a : Int) (i : Int) (j : Int) (data_P : List api_RowV) : R :=
  kL8 a i j data_P
noncomputable def SL6 (kL6 : Int → Int → Int → (List api_RowV) → R) (kJ5 : Int → Int → Int → (List api_RowV) → R) (a : Int) (i : Int) (j : Int) (data_P : List api_RowV) : R :=
  cond (decide (i ≤ j))
    (cond (decide (0 ≤ i) && decide (i < (data_P.length : Int)))
      (cond (decide (0 ≤ a) && decide (a < (data_P.length : Int)))
        (Option.bind (table_UncoveredKeys_1 (data_P.getD i.toNat ((0, 0, ()), 0, 0, 0, ())) (data_P.getD a.toNat ((0, 0, ()), 0, 0, 0, ()))) fun x1 =>
        cond (decide (x1.1 < 0))
          (kL6 a (IntKind.i64.wrap (i + 1)) j data_P)
          (kJ5 a i j data_P))
        none)
      none)
    (kJ5 a i j data_P)
noncomputable def SJ7 (kL4 : Int → Int → Int → (List api_RowV) → R) (a : Int) (i : Int) (j : Int) (data_P : List api_RowV) : R :=
  cond (decide (i > j))
    (cond (decide (0 ≤ a) && decide (a < (data_P.length : Int)))
      (cond (decide (0 ≤ j) && decide (j < (data_P.length : Int)))
        (cond (decide (0 ≤ j) && decide (j < (data_P.length : Int)))
          (cond (decide (0 ≤ a) && decide (a < ((data_P.set j.toNat (data_P.getD a.toNat ((0, 0, ()), 0, 0, 0, ()))).length : Int)))
            (some (j, false, ((data_P.set j.toNat (data_P.getD a.toNat ((0, 0, ()), 0, 0, 0, ()))).set a.toNat (data_P.getD j.toNat ((0, 0, ()), 0, 0, 0, ()))), ()))
            none)
          none)
        none)
      none)
    (cond (decide (0 ≤ j) && decide (j < (data_P.length : Int)))
      (cond (decide (0 ≤ i) && decide (i < (data_P.length : Int)))
        (cond (decide (0 ≤ i) && decide (i < (data_P.length : Int)))
          (cond (decide (0 ≤ j) && decide (j < ((data_P.set i.toNat (data_P.getD j.toNat ((0, 0, ()), 0, 0, 0, ()))).length : Int)))
            (kL4 a (IntKind.i64.wrap (i + 1)) (IntKind.i64.wrap (j - 1)) ((data_P.set i.toNat (data_P.getD j.toNat ((0, 0, ()), 0, 0, 0, ()))).set j.toNat (data_P.getD i.toNat ((0, 0, ()), 0, 0, 0, ()))))
            none)
          none)
        none)
      none)
noncomputable def SL8 (kL8 : Int → Int → Int → (List api_RowV) → R) (kJ7 : Int → Int → Int → (List api_RowV) → R) (a : Int) (i : Int) (j : Int) (data_P : List api_RowV) : R :=
  cond (decide (i ≤ j))
    (cond (decide (0 ≤ j) && decide (j < (data_P.length : Int)))
      (cond (decide (0 ≤ a) && decide (a < (data_P.length : Int)))
        (Option.bind (table_UncoveredKeys_1 (data_P.getD j.toNat ((0, 0, ()), 0, 0, 0, ())) (data_P.getD a.toNat ((0, 0, ()), 0, 0, 0, ()))) fun x1 =>
        cond (!(decide (x1.1 < 0)))
          (kL8 a i (IntKind.i64.wrap (j - 1)) data_P)
          (kJ7 a i j data_P))
        none)
      none)
    (kJ7 a i j data_P)
noncomputable def Se (kL1 : Int → Int → Int → (List api_RowV) → R) (data : List api_RowV) (a : Int) (b : Int) (pivot : Int) : R :=
  cond (decide (0 ≤ pivot) && decide (pivot < (data.length : Int)))
    (cond (decide (0 ≤ a) && decide (a < (data.length : Int)))
      (cond (decide (0 ≤ a) && decide (a < (data.length : Int)))
        (cond (decide (0 ≤ pivot) && decide (pivot < ((data.set a.toNat (data.getD pivot.toNat ((0, 0, ()), 0, 0, 0, ()))).length : Int)))
          (kL1 a (IntKind.i64.wrap (a + 1)) (IntKind.i64.wrap (b - 1)) ((data.set a.toNat (data.getD pivot.toNat ((0, 0, ()), 0, 0, 0, ()))).set pivot.toNat (data.getD a.toNat ((0, 0, ()), 0, 0, 0, ()))))
          none)
        none)
      none)
    none
theorem sJ0 (jmp : Tgt → ASt → R) (a : Int) (i : Int) (j : Int) (data_P : List api_RowV) : run E jmp fin depth c0 .ret (tJ0 a i j data_P) =
    SJ0 (fun a i j data_P => jmp (.loop c7 K11) (tL3 a i j data_P)) a i j data_P := by kernel_rfl
theorem sL1 (jmp : Tgt → ASt → R) (a : Int) (i : Int) (j : Int) (data_P : List api_RowV) : run E jmp fin depth c6 (.loop c6 K5) (tL1 a i j data_P) =
    SL1 (fun a i j data_P => jmp (.loop c6 K5) (tL1 a i j data_P)) (fun a i j data_P => jmp (.code c0 .ret) (tJ0 a i j data_P)) a i j data_P := by kernel_rfl
theorem sJ2 (jmp : Tgt → ASt → R) (a : Int) (i : Int) (j : Int) (data_P : List api_RowV) : run E jmp fin depth c1 .ret (tJ2 a i j data_P) =
    SJ2 (fun a i j data_P => jmp (.loop c3 K24) (tL4 a i j data_P)) a i j data_P := by kernel_rfl
theorem sL3 (jmp : Tgt → ASt → R) (a : Int) (i : Int) (j : Int) (data_P : List api_RowV) : run E jmp fin depth c7 (.loop c7 K11) (tL3 a i j data_P) =
    SL3 (fun a i j data_P => jmp (.loop c7 K11) (tL3 a i j data_P)) (fun a i j data_P => jmp (.code c1 .ret) (tJ2 a i j data_P)) a i j data_P := by kernel_rfl
theorem sL4 (jmp : Tgt → ASt → R) (a : Int) (i : Int) (j : Int) (data_P : List api_RowV) : run E jmp fin depth c3 (.loop c3 K24) (tL4 a i j data_P) =
    SL4 (fun a i j data_P => jmp (.loop c8 K28) (tL6 a i j data_P)) a i j data_P := by kernel_rfl
theorem sJ5 (jmp : Tgt → ASt → R) (a : Int) (i : Int) (j : Int) (data_P : List api_RowV) : run E jmp fin depth c4 K26 (tJ5 a i j data_P) =
    SJ5 (fun a i j data_P => jmp (.loop c9 K34) (tL8 a i j data_P)) a i j data_P := by kernel_rfl
theorem sL6 (jmp : Tgt → ASt → R) (a : Int) (i : Int) (j : Int) (data_P : List api_RowV) : run E jmp fin depth c8 (.loop c8 K28) (tL6 a i j data_P) =
    SL6 (fun a i j data_P => jmp (.loop c8 K28) (tL6 a i j data_P)) (fun a i j data_P => jmp (.code c4 K26) (tJ5 a i j data_P)) a i j data_P := by kernel_rfl
theorem sJ7 (jmp : Tgt → ASt → R) (a : Int) (i : Int) (j : Int) (data_P : List api_RowV) : run E jmp fin depth c5 K26 (tJ7 a i j data_P) =
    SJ7 (fun a i j data_P => jmp (.loop c3 K24) (tL4 a i j data_P)) a i j data_P := by kernel_rfl
theorem sL8 (jmp : Tgt → ASt → R) (a : Int) (i : Int) (j : Int) (data_P : List api_RowV) : run E jmp fin depth c9 (.loop c9 K34) (tL8 a i j data_P) =
    SL8 (fun a i j data_P => jmp (.loop c9 K34) (tL8 a i j data_P)) (fun a i j data_P => jmp (.code c5 K26) (tJ7 a i j data_P)) a i j data_P := by kernel_rfl
theorem se (jmp : Tgt → ASt → R) (x : (argTy ps).den) : run E jmp fin depth (bodyOf Try.f88) .ret (entryFrom 0 ps x) =
    Se (fun a i j data_P => jmp (.loop c6 K5) (tL1 a i j data_P)) x.1 x.2.1 x.2.2.1 x.2.2.2.1 := by kernel_rfl
noncomputable def J0 (a : Int) (i : Int) (j : Int) (data_P : List api_RowV) : R := lim E fin (.code c0 .ret) (tJ0 a i j data_P)
noncomputable def L1 (a : Int) (i : Int) (j : Int) (data_P : List api_RowV) : R := lim E fin (.loop c6 K5) (tL1 a i j data_P)
noncomputable def J2 (a : Int) (i : Int) (j : Int) (data_P : List api_RowV) : R := lim E fin (.code c1 .ret) (tJ2 a i j data_P)
noncomputable def L3 (a : Int) (i : Int) (j : Int) (data_P : List api_RowV) : R := lim E fin (.loop c7 K11) (tL3 a i j data_P)
noncomputable def L4 (a : Int) (i : Int) (j : Int) (data_P : List api_RowV) : R := lim E fin (.loop c3 K24) (tL4 a i j data_P)
noncomputable def J5 (a : Int) (i : Int) (j : Int) (data_P : List api_RowV) : R := lim E fin (.code c4 K26) (tJ5 a i j data_P)
noncomputable def L6 (a : Int) (i : Int) (j : Int) (data_P : List api_RowV) : R := lim E fin (.loop c8 K28) (tL6 a i j data_P)
noncomputable def J7 (a : Int) (i : Int) (j : Int) (data_P : List api_RowV) : R := lim E fin (.code c5 K26) (tJ7 a i j data_P)
noncomputable def L8 (a : Int) (i : Int) (j : Int) (data_P : List api_RowV) : R := lim E fin (.loop c9 K34) (tL8 a i j data_P)
theorem J0_eq (a : Int) (i : Int) (j : Int) (data_P : List api_RowV) : J0 a i j data_P = SJ0 L3 a i j data_P :=
  (lim_eq (.code c0 .ret) (tJ0 a i j data_P)).trans (sJ0 (lim E fin) a i j data_P)
theorem L1_eq (a : Int) (i : Int) (j : Int) (data_P : List api_RowV) : L1 a i j data_P = SL1 L1 J0 a i j data_P :=
  (lim_eq (.loop c6 K5) (tL1 a i j data_P)).trans (sL1 (lim E fin) a i j data_P)
theorem J2_eq (a : Int) (i : Int) (j : Int) (data_P : List api_RowV) : J2 a i j data_P = SJ2 L4 a i j data_P :=
  (lim_eq (.code c1 .ret) (tJ2 a i j data_P)).trans (sJ2 (lim E fin) a i j data_P)
theorem L3_eq (a : Int) (i : Int) (j : Int) (data_P : List api_RowV) : L3 a i j data_P = SL3 L3 J2 a i j data_P :=
  (lim_eq (.loop c7 K11) (tL3 a i j data_P)).trans (sL3 (lim E fin) a i j data_P)
theorem L4_eq (a : Int) (i : Int) (j : Int) (data_P : List api_RowV) : L4 a i j data_P = SL4 L6 a i j data_P :=
  (lim_eq (.loop c3 K24) (tL4 a i j data_P)).trans (sL4 (lim E fin) a i j data_P)
theorem J5_eq (a : Int) (i : Int) (j : Int) (data_P : List api_RowV) : J5 a i j data_P = SJ5 L8 a i j data_P :=
  (lim_eq (.code c4 K26) (tJ5 a i j data_P)).trans (sJ5 (lim E fin) a i j data_P)
theorem L6_eq (a : Int) (i : Int) (j : Int) (data_P : List api_RowV) : L6 a i j data_P = SL6 L6 J5 a i j data_P :=
  (lim_eq (.loop c8 K28) (tL6 a i j data_P)).trans (sL6 (lim E fin) a i j data_P)
theorem J7_eq (a : Int) (i : Int) (j : Int) (data_P : List api_RowV) : J7 a i j data_P = SJ7 L4 a i j data_P :=
  (lim_eq (.code c5 K26) (tJ7 a i j data_P)).trans (sJ7 (lim E fin) a i j data_P)
theorem L8_eq (a : Int) (i : Int) (j : Int) (data_P : List api_RowV) : L8 a i j data_P = SL8 L8 J7 a i j data_P :=
  (lim_eq (.loop c9 K34) (tL8 a i j data_P)).trans (sL8 (lim E fin) a i j data_P)
end slices_partitionCmpFunc_api_Row_table_UncoveredKeys_1
noncomputable def slices_partitionCmpFunc_api_Row_table_UncoveredKeys_1 (data : List api_RowV) (a : Int) (b : Int) (pivot : Int) : slices_partitionCmpFunc_api_Row_table_UncoveredKeys_1.R :=
  slices_partitionCmpFunc_api_Row_table_UncoveredKeys_1.Se slices_partitionCmpFunc_api_Row_table_UncoveredKeys_1.L1 data a b pivot
noncomputable def slices_partitionCmpFunc_api_Row_table_UncoveredKeys_1.sig : Sig := ⟨slices_partitionCmpFunc_api_Row_table_UncoveredKeys_1.ps, slices_partitionCmpFunc_api_Row_table_UncoveredKeys_1.rs, fun x => slices_partitionCmpFunc_api_Row_table_UncoveredKeys_1 x.1 x.2.1 x.2.2.1 x.2.2.2.1⟩
theorem slices_partitionCmpFunc_api_Row_table_UncoveredKeys_1.ok : CallOK Try.prog 88 slices_partitionCmpFunc_api_Row_table_UncoveredKeys_1.sig :=
  callOK_of_lim (E := slices_partitionCmpFunc_api_Row_table_UncoveredKeys_1.E) mixed tt_ok (ctxOk_cons ctxOk_nil table_UncoveredKeys_1.ok Try.func41 (by kernel_rfl) (by kernel_rfl)) Try.func88 (by kernel_rfl : Try.f88.body = some (bodyOf Try.f88)) Try.ntmps88 (of_decide_eq_true (by kernel_rfl)) (of_decide_eq_true (by kernel_rfl))
    fun x y h => ((lim_eq (.code (bodyOf Try.f88) .ret) (entryFrom 0 slices_partitionCmpFunc_api_Row_table_UncoveredKeys_1.ps x)).trans (slices_partitionCmpFunc_api_Row_table_UncoveredKeys_1.se (lim slices_partitionCmpFunc_api_Row_table_UncoveredKeys_1.E slices_partitionCmpFunc_api_Row_table_UncoveredKeys_1.fin) x)).trans h
theorem slices_partitionCmpFunc_api_Row_table_UncoveredKeys_1.val (x : (argTy slices_partitionCmpFunc_api_Row_table_UncoveredKeys_1.ps).den) : lim slices_partitionCmpFunc_api_Row_table_UncoveredKeys_1.E slices_partitionCmpFunc_api_Row_table_UncoveredKeys_1.fin (.code (bodyOf Try.f88) .ret) (entryFrom 0 slices_partitionCmpFunc_api_Row_table_UncoveredKeys_1.ps x) = slices_partitionCmpFunc_api_Row_table_UncoveredKeys_1.sig.run x :=
  (lim_eq (.code (bodyOf Try.f88) .ret) (entryFrom 0 slices_partitionCmpFunc_api_Row_table_UncoveredKeys_1.ps x)).trans (slices_partitionCmpFunc_api_Row_table_UncoveredKeys_1.se (lim slices_partitionCmpFunc_api_Row_table_UncoveredKeys_1.E slices_partitionCmpFunc_api_Row_table_UncoveredKeys_1.fin) x)
noncomputable def slices_partitionCmpFunc_api_Row_table_UncoveredKeys_1.ctxc (n : Nat) : List (Nat × Sig) := [(41, table_UncoveredKeys_1.sigc n)]
noncomputable def slices_partitionCmpFunc_api_Row_table_UncoveredKeys_1.sigc (n : Nat) : Sig := ⟨slices_partitionCmpFunc_api_Row_table_UncoveredKeys_1.ps, slices_partitionCmpFunc_api_Row_table_UncoveredKeys_1.rs, fun x => runs (withCtx slices_partitionCmpFunc_api_Row_table_UncoveredKeys_1.E (slices_partitionCmpFunc_api_Row_table_UncoveredKeys_1.ctxc n)) slices_partitionCmpFunc_api_Row_table_UncoveredKeys_1.fin n (.code (bodyOf Try.f88) .ret) (entryFrom 0 slices_partitionCmpFunc_api_Row_table_UncoveredKeys_1.ps x)⟩
theorem slices_partitionCmpFunc_api_Row_table_UncoveredKeys_1.sigc_le (n : Nat) : ∀ x y, (slices_partitionCmpFunc_api_Row_table_UncoveredKeys_1.sigc n).run x = some y → slices_partitionCmpFunc_api_Row_table_UncoveredKeys_1.sig.run x = some y :=
  fun x y h => (slices_partitionCmpFunc_api_Row_table_UncoveredKeys_1.val x).symm.trans (runs_lim (E := slices_partitionCmpFunc_api_Row_table_UncoveredKeys_1.E) (c := slices_partitionCmpFunc_api_Row_table_UncoveredKeys_1.ctxc n) (ctxLe_cons ctxLe_nil (table_UncoveredKeys_1.sigc_le n)) h)
namespace slices_pdqsortCmpFunc_api_Row_table_UncoveredKeys_1
abbrev ps : List PM := [.own api_Row, .pure (.int .i64), .pure (.int .i64), .pure (.int .i64), .fn 41]
abbrev rs : List RM := []
abbrev R : Type := Option (List api_RowV × Unit)
noncomputable def E0 : Env := { tt := tt, ctx := [], nt := 148, ann := [(1000002, [(0, .keep), (1, .keep), (2, .keep), (3, .keep), (4, .keep), (10, .keep), (11, .keep)]), (10, [(0, .keep), (1, .keep), (2, .keep), (3, .keep), (4, .keep), (10, .keep), (11, .keep), (12, .keep)]), (15, [(0, .keep), (1, .keep), (2, .keep), (3, .keep), (4, .keep), (10, .keep), (11, .keep), (12, .keep), (13, .keep), (14, .keep)]), (17, [(0, .keep), (1, .keep), (2, .keep), (3, .keep), (4, .keep), (10, .keep), (11, .keep), (12, .keep), (13, .keep)]), (18, [(0, .keep), (1, .keep), (2, .keep), (3, .keep), (4, .keep), (10, .keep), (11, .keep), (12, .keep), (13, .keep), (97, .keep)])] }
noncomputable def ctx0 : List (Nat × Sig) := [(81, slices_insertionSortCmpFunc_api_Row_table_UncoveredKeys_1.sig), (82, slices_heapSortCmpFunc_api_Row_table_UncoveredKeys_1.sig), (83, slices_breakPatternsCmpFunc_api_Row_table_UncoveredKeys_1.sig), (84, slices_choosePivotCmpFunc_api_Row_table_UncoveredKeys_1.sig), (85, slices_reverseRangeCmpFunc_api_Row_table_UncoveredKeys_1.sig), (86, slices_partialInsertionSortCmpFunc_api_Row_table_UncoveredKeys_1.sig), (41, table_UncoveredKeys_1.sig), (87, slices_partitionEqualCmpFunc_api_Row_table_UncoveredKeys_1.sig), (88, slices_partitionCmpFunc_api_Row_table_UncoveredKeys_1.sig)]
noncomputable def E (self : (List api_RowV) → Int → Int → Int → R) : Env := withCtx E0 ((68, ⟨ps, rs, fun x => self x.1 x.2.1 x.2.2.1 x.2.2.2.1⟩) :: ctx0)
noncomputable def c0 : Code := sub [1, 1, 0, 0] (bodyOf Try.f68)
noncomputable def c1 : Code := sub [1, 1, 0, 0, 0, 1, 1, 1, 1, 1, 1, 1, 1] (bodyOf Try.f68)
noncomputable def c2 : Code := sub [1, 1, 0, 0, 0, 1, 1, 1, 1] (bodyOf Try.f68)
noncomputable def c3 : Code := sub [1, 1, 0, 0, 0, 1, 1, 1, 1, 1, 1] (bodyOf Try.f68)
noncomputable def c4 : Code := sub [1, 1, 0, 0, 0, 1, 1, 1, 1, 1, 1, 1] (bodyOf Try.f68)
noncomputable def c5 : Code := sub [1, 1, 0, 0, 0, 1, 1, 1, 1, 1, 1, 1, 0, 1] (bodyOf Try.f68)
noncomputable def K3 : Kont := .blk 0 .ret
noncomputable def K4 : Kont := .loop c0 K3
noncomputable def K5 : Kont := .blk 1 K4
noncomputable def K24 : Kont := .seq c1 K5
noncomputable def fin : ASt → R := Kret E0 Try.f68.results.toList ps rs
def tL0 (a : Int) (b : Int) (limit : Int) (wasBalanced : Bool) (wasPartitioned : Bool) (data_P : List api_RowV) : ASt := ⟨[(11, .one (.val .bool wasPartitioned)), (10, .one (.val .bool wasBalanced)), (4, .one (.fn 41 [])), (3, .one (.val (.int .i64) limit)), (2, .one (.val (.int .i64) b)), (1, .one (.val (.int .i64) a)), (0, .one (.own 10000))], [(10000, some ⟨.fixed, api_Row, data_P⟩)]⟩
def tJ1 (a : Int) (b : Int) (limit : Int) (wasBalanced : Bool) (wasPartitioned : Bool) (length_12 : Int) (data_P : List api_RowV) : ASt := ⟨[(12, .one (.val (.int .i64) length_12)), (11, .one (.val .bool wasPartitioned)), (10, .one (.val .bool wasBalanced)), (4, .one (.fn 41 [])), (3, .one (.val (.int .i64) limit)), (2, .one (.val (.int .i64) b)), (1, .one (.val (.int .i64) a)), (0, .one (.own 10000))], [(10000, some ⟨.fixed, api_Row, data_P⟩)]⟩
def tJ2 (a : Int) (b : Int) (limit : Int) (wasBalanced : Bool) (wasPartitioned : Bool) (length_12 : Int) (pivot : Int) (hint : Int) (data_P : List api_RowV) : ASt := ⟨[(14, .one (.val (.int .i64) hint)), (13, .one (.val (.int .i64) pivot)), (12, .one (.val (.int .i64) length_12)), (11, .one (.val .bool wasPartitioned)), (10, .one (.val .bool wasBalanced)), (4, .one (.fn 41 [])), (3, .one (.val (.int .i64) limit)), (2, .one (.val (.int .i64) b)), (1, .one (.val (.int .i64) a)), (0, .one (.own 10000))], [(10000, some ⟨.fixed, api_Row, data_P⟩)]⟩
def tJ3 (a : Int) (b : Int) (limit : Int) (wasBalanced : Bool) (wasPartitioned : Bool) (length_12 : Int) (pivot : Int) (data_P : List api_RowV) : ASt := ⟨[(13, .one (.val (.int .i64) pivot)), (12, .one (.val (.int .i64) length_12)), (11, .one (.val .bool wasPartitioned)), (10, .one (.val .bool wasBalanced)), (4, .one (.fn 41 [])), (3, .one (.val (.int .i64) limit)), (2, .one (.val (.int .i64) b)), (1, .one (.val (.int .i64) a)), (0, .one (.own 10000))], [(10000, some ⟨.fixed, api_Row, data_P⟩)]⟩
def tJ4 (a : Int) (b : Int) (limit : Int) (wasBalanced : Bool) (wasPartitioned : Bool) (length_12 : Int) (pivot : Int) (v_97 : Bool) (data_P : List api_RowV) : ASt := ⟨[(97, .one (.val .bool v_97)), (13, .one (.val (.int .i64) pivot)), (12, .one (.val (.int .i64) length_12)), (11, .one (.val .bool wasPartitioned)), (10, .one (.val .bool wasBalanced)), (4, .one (.fn 41 [])), (3, .one (.val (.int .i64) limit)), (2, .one (.val (.int .i64) b)), (1, .one (.val (.int .i64) a)), (0, .one (.own 10000))], [(10000, some ⟨.fixed, api_Row, data_P⟩)]⟩
noncomputable def SL0 (self : (List api_RowV) → Int → Int → Int → R) (kJ1 : Int → Int → Int → Bool → Bool → Int → (List api_RowV) → R) (a : Int) (b : Int) (limit : Int) (wasBalanced : Bool) (wasPartitioned : Bool) (data_P : List api_RowV) : R :=
  cond (decide ((IntKind.i64.wrap (b - a)) ≤ 12))
    (Option.bind (slices_insertionSortCmpFunc_api_Row_table_UncoveredKeys_1 data_P a b) fun x1 =>
    some (x1.1, ()))
    (cond (limit == 0)
      (Option.bind (slices_heapSortCmpFunc_api_Row_table_UncoveredKeys_1 data_P a b) fun x2 =>
      some (x2.1, ()))
      (cond (!wasBalanced)
        (Option.bind (slices_breakPatternsCmpFunc_api_Row_table_UncoveredKeys_1 data_P a b) fun x3 =>
        kJ1 a b (IntKind.i64.wrap (limit - 1)) wasBalanced wasPartitioned (IntKind.i64.wrap (b - a)) x3.1)
        (kJ1 a b limit wasBalanced wasPartitioned (IntKind.i64.wrap (b - a)) data_P)))
noncomputable def SJ1 (self : (List api_RowV) → Int → Int → Int → R) (kJ2 : Int → Int → Int → Bool → Bool → Int → Int → Int → (List api_RowV) → R) (a : Int) (b : Int) (limit : Int) (wasBalanced : Bool) (wasPartitioned : Bool) (length_12 : Int) (data_P : List api_RowV) : R :=
  Option.bind (slices_choosePivotCmpFunc_api_Row_table_UncoveredKeys_1 data_P a b) fun x1 =>
  cond (x1.2.1 == 2)
    (Option.bind (slices_reverseRangeCmpFunc_api_Row_table_UncoveredKeys_1 data_P a b) fun x2 =>
    kJ2 a b limit wasBalanced wasPartitioned length_12 (IntKind.i64.wrap ((IntKind.i64.wrap (b - 1)) - (IntKind.i64.wrap (x1.1 - a)))) 1 x2.1)
    (kJ2 a b limit wasBalanced wasPartitioned length_12 x1.1 x1.2.1 data_P)
noncomputable def SJ2 (self : (List api_RowV) → Int → Int → Int → R) (kJ3 : Int → Int → Int → Bool → Bool → Int → Int → (List api_RowV) → R) (a : Int) (b : Int) (limit : Int) (wasBalanced : Bool) (wasPartitioned : Bool) (length_12 : Int) (pivot : Int) (hint : Int) (data_P : List api_RowV) : R :=
  cond wasBalanced
    (cond wasPartitioned
      (cond (hint == 1)
        (Option.bind (slices_partialInsertionSortCmpFunc_api_Row_table_UncoveredKeys_1 data_P a b) fun x1 =>
        cond x1.1
          (some (x1.2.1, ()))
          (kJ3 a b limit wasBalanced wasPartitioned length_12 pivot x1.2.1))
        (kJ3 a b limit wasBalanced wasPartitioned length_12 pivot data_P))
      (kJ3 a b limit wasBalanced wasPartitioned length_12 pivot data_P))
    (kJ3 a b limit wasBalanced wasPartitioned length_12 pivot data_P)
noncomputable def SJ3 (self : (List api_RowV) → Int → Int → Int → R) (kJ4 : Int → Int → Int → Bool → Bool → Int → Int → Bool → (List api_RowV) → R) (a : Int) (b : Int) (limit : Int) (wasBalanced : Bool) (wasPartitioned : Bool) (length_12 : Int) (pivot : Int) (data_P : List api_RowV) : R :=
  cond (decide (a > 0))
    (cond (decide (0 ≤ IntKind.i64.wrap (a - 1)) && decide (IntKind.i64.wrap (a - 1) < (data_P.length : Int)))
      (cond (decide (0 ≤ pivot) && decide (pivot < (data_P.length : Int)))
        (Option.bind (table_UncoveredKeys_1 (data_P.getD ((IntKind.i64.wrap (a - 1)).toNat) ((0, 0, ()), 0, 0, 0, ())) (data_P.getD pivot.toNat ((0, 0, ()), 0, 0, 0, ()))) fun x1 =>
        kJ4 a b limit wasBalanced wasPartitioned length_12 pivot (!(decide (x1.1 < 0))) data_P)
        none)
      none)
    (kJ4 a b limit wasBalanced wasPartitioned length_12 pivot false data_P)
noncomputable def SJ4 (self : (List api_RowV) → Int → Int → Int → R) (kL0 : Int → Int → Int → Bool → Bool → (List api_RowV) → R) (a : Int) (b : Int) (limit : Int) (wasBalanced : Bool) (wasPartitioned : Bool) (length_12 : Int) (pivot : Int) (v_97 : Bool) (data_P : List api_RowV) : R :=
  cond v_97
    (Option.bind (slices_partitionEqualCmpFunc_api_Row_table_UncoveredKeys_1 data_P a b pivot) fun x1 =>
    kL0 x1.1 b limit wasBalanced wasPartitioned x1.2.1)
    (Option.bind (slices_partitionCmpFunc_api_Row_table_UncoveredKeys_1 data_P a b pivot) fun x2 =>
    cond (decide ((IntKind.i64.wrap (x2.1 - a)) < (IntKind.i64.wrap (b - x2.1))))
      (Option.bind (self x2.2.2.1 a x2.1 limit) fun x3 =>
      kL0 (IntKind.i64.wrap (x2.1 + 1)) b limit (decide ((IntKind.i64.wrap (x2.1 - a)) ≥ (IntKind.i64.wrap (Int.tdiv length_12 8)))) x2.2.1 x3.1)
      (Option.bind (self x2.2.2.1 (IntKind.i64.wrap (x2.1 + 1)) b limit) fun x4 =>
      kL0 a x2.1 limit (decide ((IntKind.i64.wrap (b - x2.1)) ≥ (IntKind.i64.wrap (Int.tdiv length_12 8)))) x2.2.1 x4.1))
noncomputable def Se (self : (List api_RowV) → Int → Int → Int → R) (kL0 : Int → Int → Int → Bool → Bool → (List api_RowV) → R) (data : List api_RowV) (a : Int) (b : Int) (limit : Int) : R :=
  kL0 a b limit true true data
theorem sL0 (self : (List api_RowV) → Int → Int → Int → R) (jmp : Tgt → ASt → R) (a : Int) (b : Int) (limit : Int) (wasBalanced : Bool) (wasPartitioned : Bool) (data_P : List api_RowV) : run (E self) jmp fin depth c0 (.loop c0 K3) (tL0 a b limit wasBalanced wasPartitioned data_P) =
    SL0 self (fun a b limit wasBalanced wasPartitioned length_12 data_P => jmp (.code c2 K5) (tJ1 a b limit wasBalanced wasPartitioned length_12 data_P)) a b limit wasBalanced wasPartitioned data_P := by kernel_rfl
theorem sJ1 (self : (List api_RowV) → Int → Int → Int → R) (jmp : Tgt → ASt → R) (a : Int) (b : Int) (limit : Int) (wasBalanced : Bool) (wasPartitioned : Bool) (length_12 : Int) (data_P : List api_RowV) : run (E self) jmp fin depth c2 K5 (tJ1 a b limit wasBalanced wasPartitioned length_12 data_P) =
    SJ1 self (fun a b limit wasBalanced wasPartitioned length_12 pivot hint data_P => jmp (.code c3 K5) (tJ2 a b limit wasBalanced wasPartitioned length_12 pivot hint data_P)) a b limit wasBalanced wasPartitioned length_12 data_P := by kernel_rfl
theorem sJ2 (self : (List api_RowV) → Int → Int → Int → R) (jmp : Tgt → ASt → R) (a : Int) (b : Int) (limit : Int) (wasBalanced : Bool) (wasPartitioned : Bool) (length_12 : Int) (pivot : Int) (hint : Int) (data_P : List api_RowV) : run (E self) jmp fin depth c3 K5 (tJ2 a b limit wasBalanced wasPartitioned length_12 pivot hint data_P) =
    SJ2 self (fun a b limit wasBalanced wasPartitioned length_12 pivot data_P => jmp (.code c4 K5) (tJ3 a b limit wasBalanced wasPartitioned length_12 pivot data_P)) a b limit wasBalanced wasPartitioned length_12 pivot hint data_P := by kernel_rfl
theorem sJ3 (self : (List api_RowV) → Int → Int → Int → R) (jmp : Tgt → ASt → R) (a : Int) (b : Int) (limit : Int) (wasBalanced : Bool) (wasPartitioned : Bool) (length_12 : Int) (pivot : Int) (data_P : List api_RowV) : run (E self) jmp fin depth c4 K5 (tJ3 a b limit wasBalanced wasPartitioned length_12 pivot data_P) =
    SJ3 self (fun a b limit wasBalanced wasPartitioned length_12 pivot v_97 data_P => jmp (.code c5 K24) (tJ4 a b limit wasBalanced wasPartitioned length_12 pivot v_97 data_P)) a b limit wasBalanced wasPartitioned length_12 pivot data_P := by kernel_rfl
theorem sJ4 (self : (List api_RowV) → Int → Int → Int → R) (jmp : Tgt → ASt → R) (a : Int) (b : Int) (limit : Int) (wasBalanced : Bool) (wasPartitioned : Bool) (length_12 : Int) (pivot : Int) (v_97 : Bool) (data_P : List api_RowV) : run (E self) jmp fin depth c5 K24 (tJ4 a b limit wasBalanced wasPartitioned length_12 pivot v_97 data_P) =
    SJ4 self (fun a b limit wasBalanced wasPartitioned data_P => jmp (.loop c0 K3) (tL0 a b limit wasBalanced wasPartitioned data_P)) a b limit wasBalanced wasPartitioned length_12 pivot v_97 data_P := by kernel_rfl
theorem se (self : (List api_RowV) → Int → Int → Int → R) (jmp : Tgt → ASt → R) (x : (argTy ps).den) : run (E self) jmp fin depth (bodyOf Try.f68) .ret (entryFrom 0 ps x) =
    Se self (fun a b limit wasBalanced wasPartitioned data_P => jmp (.loop c0 K3) (tL0 a b limit wasBalanced wasPartitioned data_P)) x.1 x.2.1 x.2.2.1 x.2.2.2.1 := by kernel_rfl
end slices_pdqsortCmpFunc_api_Row_table_UncoveredKeys_1
noncomputable def slices_pdqsortCmpFunc_api_Row_table_UncoveredKeys_1 (data : List api_RowV) (a : Int) (b : Int) (limit : Int) : slices_pdqsortCmpFunc_api_Row_table_UncoveredKeys_1.R :=
  recF slices_pdqsortCmpFunc_api_Row_table_UncoveredKeys_1.E0 slices_pdqsortCmpFunc_api_Row_table_UncoveredKeys_1.ctx0 68 slices_pdqsortCmpFunc_api_Row_table_UncoveredKeys_1.ps slices_pdqsortCmpFunc_api_Row_table_UncoveredKeys_1.rs slices_pdqsortCmpFunc_api_Row_table_UncoveredKeys_1.fin (bodyOf Try.f68) (data, a, b, limit, (), ())
namespace slices_pdqsortCmpFunc_api_Row_table_UncoveredKeys_1
noncomputable def L0 (a : Int) (b : Int) (limit : Int) (wasBalanced : Bool) (wasPartitioned : Bool) (data_P : List api_RowV) : R := lim (E slices_pdqsortCmpFunc_api_Row_table_UncoveredKeys_1) fin (.loop c0 K3) (tL0 a b limit wasBalanced wasPartitioned data_P)
noncomputable def J1 (a : Int) (b : Int) (limit : Int) (wasBalanced : Bool) (wasPartitioned : Bool) (length_12 : Int) (data_P : List api_RowV) : R := lim (E slices_pdqsortCmpFunc_api_Row_table_UncoveredKeys_1) fin (.code c2 K5) (tJ1 a b limit wasBalanced wasPartitioned length_12 data_P)
noncomputable def J2 (a : Int) (b : Int) (limit : Int) (wasBalanced : Bool) (wasPartitioned : Bool) (length_12 : Int) (pivot : Int) (hint : Int) (data_P : List api_RowV) : R := lim (E slices_pdqsortCmpFunc_api_Row_table_UncoveredKeys_1) fin (.code c3 K5) (tJ2 a b limit wasBalanced wasPartitioned length_12 pivot hint data_P)
noncomputable def J3 (a : Int) (b : Int) (limit : Int) (wasBalanced : Bool) (wasPartitioned : Bool) (length_12 : Int) (pivot : Int) (data_P : List api_RowV) : R := lim (E slices_pdqsortCmpFunc_api_Row_table_UncoveredKeys_1) fin (.code c4 K5) (tJ3 a b limit wasBalanced wasPartitioned length_12 pivot data_P)
noncomputable def J4 (a : Int) (b : Int) (limit : Int) (wasBalanced : Bool) (wasPartitioned : Bool) (length_12 : Int) (pivot : Int) (v_97 : Bool) (data_P : List api_RowV) : R := lim (E slices_pdqsortCmpFunc_api_Row_table_UncoveredKeys_1) fin (.code c5 K24) (tJ4 a b limit wasBalanced wasPartitioned length_12 pivot v_97 data_P)
theorem L0_eq (a : Int) (b : Int) (limit : Int) (wasBalanced : Bool) (wasPartitioned : Bool) (data_P : List api_RowV) : L0 a b limit wasBalanced wasPartitioned data_P = SL0 slices_pdqsortCmpFunc_api_Row_table_UncoveredKeys_1 J1 a b limit wasBalanced wasPartitioned data_P :=
  (lim_eq (.loop c0 K3) (tL0 a b limit wasBalanced wasPartitioned data_P)).trans (sL0 slices_pdqsortCmpFunc_api_Row_table_UncoveredKeys_1 (lim (E slices_pdqsortCmpFunc_api_Row_table_UncoveredKeys_1) fin) a b limit wasBalanced wasPartitioned data_P)
theorem J1_eq (a : Int) (b : Int) (limit : Int) (wasBalanced : Bool) (wasPartitioned : Bool) (length_12 : Int) (data_P : List api_RowV) : J1 a b limit wasBalanced wasPartitioned length_12 data_P = SJ1 slices_pdqsortCmpFunc_api_Row_table_UncoveredKeys_1 J2 a b limit wasBalanced wasPartitioned length_12 data_P :=
  (lim_eq (.code c2 K5) (tJ1 a b limit wasBalanced wasPartitioned length_12 data_P)).trans (sJ1 slices_pdqsortCmpFunc_api_Row_table_UncoveredKeys_1 (lim (E slices_pdqsortCmpFunc_api_Row_table_UncoveredKeys_1) fin) a b limit wasBalanced wasPartitioned length_12 data_P)
theorem J2_eq (a : Int) (b : Int) (limit : Int) (wasBalanced : Bool) (wasPartitioned : Bool) (length_12 : Int) (pivot : Int) (hint : Int) (data_P : List api_RowV) : J2 a b limit wasBalanced wasPartitioned length_12 pivot hint data_P = SJ2 slices_pdqsortCmpFunc_api_Row_table_UncoveredKeys_1 J3 a b limit wasBalanced wasPartitioned length_12 pivot hint data_P :=
  (lim_eq (.code c3 K5) (tJ2 a b limit wasBalanced wasPartitioned length_12 pivot hint data_P)).trans (sJ2 slices_pdqsortCmpFunc_api_Row_table_UncoveredKeys_1 (lim (E slices_pdqsortCmpFunc_api_Row_table_UncoveredKeys_1) fin) a b limit wasBalanced wasPartitioned length_12 pivot hint data_P)
theorem J3_eq (a : Int) (b : Int) (limit : Int) (wasBalanced : Bool) (wasPartitioned : Bool) (length_12 : Int) (pivot : Int) (data_P : List api_RowV) : J3 a b limit wasBalanced wasPartitioned length_12 pivot data_P = SJ3 slices_pdqsortCmpFunc_api_Row_table_UncoveredKeys_1 J4 a b limit wasBalanced wasPartitioned length_12 pivot data_P :=
  (lim_eq (.code c4 K5) (tJ3 a b limit wasBalanced wasPartitioned length_12 pivot data_P)).trans (sJ3 slices_pdqsortCmpFunc_api_Row_table_UncoveredKeys_1 (lim (E slices_pdqsortCmpFunc_api_Row_table_UncoveredKeys_1) fin) a b limit wasBalanced wasPartitioned length_12 pivot data_P)
theorem J4_eq (a : Int) (b : Int) (limit : Int) (wasBalanced : Bool) (wasPartitioned : Bool) (length_12 : Int) (pivot : Int) (v_97 : Bool) (data_P : List api_RowV) : J4 a b limit wasBalanced wasPartitioned length_12 pivot v_97 data_P = SJ4 slices_pdqsortCmpFunc_api_Row_table_UncoveredKeys_1 L0 a b limit wasBalanced wasPartitioned length_12 pivot v_97 data_P :=
  (lim_eq (.code c5 K24) (tJ4 a b limit wasBalanced wasPartitioned length_12 pivot v_97 data_P)).trans (sJ4 slices_pdqsortCmpFunc_api_Row_table_UncoveredKeys_1 (lim (E slices_pdqsortCmpFunc_api_Row_table_UncoveredKeys_1) fin) a b limit wasBalanced wasPartitioned length_12 pivot v_97 data_P)
theorem selfrun : (fun x : (argTy ps).den => slices_pdqsortCmpFunc_api_Row_table_UncoveredKeys_1 x.1 x.2.1 x.2.2.1 x.2.2.2.1) = recF E0 ctx0 68 ps rs fin (bodyOf Try.f68) := by kernel_rfl
end slices_pdqsortCmpFunc_api_Row_table_UncoveredKeys_1
noncomputable def slices_pdqsortCmpFunc_api_Row_table_UncoveredKeys_1.sig : Sig := ⟨slices_pdqsortCmpFunc_api_Row_table_UncoveredKeys_1.ps, slices_pdqsortCmpFunc_api_Row_table_UncoveredKeys_1.rs, fun x => slices_pdqsortCmpFunc_api_Row_table_UncoveredKeys_1 x.1 x.2.1 x.2.2.1 x.2.2.2.1⟩
theorem slices_pdqsortCmpFunc_api_Row_table_UncoveredKeys_1.val (x : (argTy slices_pdqsortCmpFunc_api_Row_table_UncoveredKeys_1.ps).den) : lim (slices_pdqsortCmpFunc_api_Row_table_UncoveredKeys_1.E slices_pdqsortCmpFunc_api_Row_table_UncoveredKeys_1) slices_pdqsortCmpFunc_api_Row_table_UncoveredKeys_1.fin (.code (bodyOf Try.f68) .ret) (entryFrom 0 slices_pdqsortCmpFunc_api_Row_table_UncoveredKeys_1.ps x) = slices_pdqsortCmpFunc_api_Row_table_UncoveredKeys_1.sig.run x := by
  have h := recF_eq (E := slices_pdqsortCmpFunc_api_Row_table_UncoveredKeys_1.E0) (ctx := slices_pdqsortCmpFunc_api_Row_table_UncoveredKeys_1.ctx0) (f := 68) (ps := slices_pdqsortCmpFunc_api_Row_table_UncoveredKeys_1.ps) (rs := slices_pdqsortCmpFunc_api_Row_table_UncoveredKeys_1.rs) (fin := slices_pdqsortCmpFunc_api_Row_table_UncoveredKeys_1.fin) (body := bodyOf Try.f68) x
  rw [← slices_pdqsortCmpFunc_api_Row_table_UncoveredKeys_1.selfrun] at h
  exact h.symm
theorem slices_pdqsortCmpFunc_api_Row_table_UncoveredKeys_1_eq (data : List api_RowV) (a : Int) (b : Int) (limit : Int) : slices_pdqsortCmpFunc_api_Row_table_UncoveredKeys_1 data a b limit = slices_pdqsortCmpFunc_api_Row_table_UncoveredKeys_1.Se slices_pdqsortCmpFunc_api_Row_table_UncoveredKeys_1 slices_pdqsortCmpFunc_api_Row_table_UncoveredKeys_1.L0 data a b limit :=
  (slices_pdqsortCmpFunc_api_Row_table_UncoveredKeys_1.val (data, a, b, limit, (), ())).symm.trans ((lim_eq (.code (bodyOf Try.f68) .ret) (entryFrom 0 slices_pdqsortCmpFunc_api_Row_table_UncoveredKeys_1.ps (data, a, b, limit, (), ()))).trans (slices_pdqsortCmpFunc_api_Row_table_UncoveredKeys_1.se slices_pdqsortCmpFunc_api_Row_table_UncoveredKeys_1 (lim (slices_pdqsortCmpFunc_api_Row_table_UncoveredKeys_1.E slices_pdqsortCmpFunc_api_Row_table_UncoveredKeys_1) slices_pdqsortCmpFunc_api_Row_table_UncoveredKeys_1.fin) (data, a, b, limit, (), ())))
theorem slices_pdqsortCmpFunc_api_Row_table_UncoveredKeys_1.ok : CallOK Try.prog 68 slices_pdqsortCmpFunc_api_Row_table_UncoveredKeys_1.sig := by
  have h := callOK_rec (E := slices_pdqsortCmpFunc_api_Row_table_UncoveredKeys_1.E0) (ctx := slices_pdqsortCmpFunc_api_Row_table_UncoveredKeys_1.ctx0) (f := 68) (ps := slices_pdqsortCmpFunc_api_Row_table_UncoveredKeys_1.ps) (rs := slices_pdqsortCmpFunc_api_Row_table_UncoveredKeys_1.rs) (fin := slices_pdqsortCmpFunc_api_Row_table_UncoveredKeys_1.fin) (body := bodyOf Try.f68) mixed tt_ok (ctxOk_cons (ctxOk_cons (ctxOk_cons (ctxOk_cons (ctxOk_cons (ctxOk_cons (ctxOk_cons (ctxOk_cons (ctxOk_cons ctxOk_nil slices_partitionCmpFunc_api_Row_table_UncoveredKeys_1.ok Try.func88 (by kernel_rfl) (by kernel_rfl)) slices_partitionEqualCmpFunc_api_Row_table_UncoveredKeys_1.ok Try.func87 (by kernel_rfl) (by kernel_rfl)) table_UncoveredKeys_1.ok Try.func41 (by kernel_rfl) (by kernel_rfl)) slices_partialInsertionSortCmpFunc_api_Row_table_UncoveredKeys_1.ok Try.func86 (by kernel_rfl) (by kernel_rfl)) slices_reverseRangeCmpFunc_api_Row_table_UncoveredKeys_1.ok Try.func85 (by kernel_rfl) (by kernel_rfl)) slices_choosePivotCmpFunc_api_Row_table_UncoveredKeys_1.ok Try.func84 (by kernel_rfl) (by kernel_rfl)) slices_breakPatternsCmpFunc_api_Row_table_UncoveredKeys_1.ok Try.func83 (by kernel_rfl) (by kernel_rfl)) slices_heapSortCmpFunc_api_Row_table_UncoveredKeys_1.ok Try.func82 (by kernel_rfl) (by kernel_rfl)) slices_insertionSortCmpFunc_api_Row_table_UncoveredKeys_1.ok Try.func81 (by kernel_rfl) (by kernel_rfl)) Try.func68 (by kernel_rfl : Try.f68.body = some (bodyOf Try.f68)) (by kernel_rfl) (by kernel_rfl) Try.ntmps68 (of_decide_eq_true (by kernel_rfl)) (of_decide_eq_true (by kernel_rfl)) rfl
  rw [← slices_pdqsortCmpFunc_api_Row_table_UncoveredKeys_1.selfrun] at h
  exact h
noncomputable def slices_pdqsortCmpFunc_api_Row_table_UncoveredKeys_1.ctxc (n : Nat) : List (Nat × Sig) := [(81, slices_insertionSortCmpFunc_api_Row_table_UncoveredKeys_1.sigc n), (82, slices_heapSortCmpFunc_api_Row_table_UncoveredKeys_1.sigc n), (83, slices_breakPatternsCmpFunc_api_Row_table_UncoveredKeys_1.sigc n), (84, slices_choosePivotCmpFunc_api_Row_table_UncoveredKeys_1.sigc n), (85, slices_reverseRangeCmpFunc_api_Row_table_UncoveredKeys_1.sigc n), (86, slices_partialInsertionSortCmpFunc_api_Row_table_UncoveredKeys_1.sigc n), (41, table_UncoveredKeys_1.sigc n), (87, slices_partitionEqualCmpFunc_api_Row_table_UncoveredKeys_1.sigc n), (88, slices_partitionCmpFunc_api_Row_table_UncoveredKeys_1.sigc n)]
noncomputable def slices_pdqsortCmpFunc_api_Row_table_UncoveredKeys_1.runc (n : Nat) : Nat → (argTy slices_pdqsortCmpFunc_api_Row_table_UncoveredKeys_1.ps).den → slices_pdqsortCmpFunc_api_Row_table_UncoveredKeys_1.R
  | 0, _ => none
  | d + 1, x => runs (withCtx slices_pdqsortCmpFunc_api_Row_table_UncoveredKeys_1.E0 ((68, ⟨slices_pdqsortCmpFunc_api_Row_table_UncoveredKeys_1.ps, slices_pdqsortCmpFunc_api_Row_table_UncoveredKeys_1.rs, slices_pdqsortCmpFunc_api_Row_table_UncoveredKeys_1.runc n d⟩) :: slices_pdqsortCmpFunc_api_Row_table_UncoveredKeys_1.ctxc n)) slices_pdqsortCmpFunc_api_Row_table_UncoveredKeys_1.fin n (.code (bodyOf Try.f68) .ret) (entryFrom 0 slices_pdqsortCmpFunc_api_Row_table_UncoveredKeys_1.ps x)
noncomputable def slices_pdqsortCmpFunc_api_Row_table_UncoveredKeys_1.sigc (n : Nat) : Sig := ⟨slices_pdqsortCmpFunc_api_Row_table_UncoveredKeys_1.ps, slices_pdqsortCmpFunc_api_Row_table_UncoveredKeys_1.rs, slices_pdqsortCmpFunc_api_Row_table_UncoveredKeys_1.runc n n⟩
theorem slices_pdqsortCmpFunc_api_Row_table_UncoveredKeys_1.runc_le (n : Nat) : ∀ d x y, slices_pdqsortCmpFunc_api_Row_table_UncoveredKeys_1.runc n d x = some y → slices_pdqsortCmpFunc_api_Row_table_UncoveredKeys_1.sig.run x = some y := by
  intro d
  induction d with
  | zero => intro x y h; cases h
  | succ d ih => exact fun x y h => (slices_pdqsortCmpFunc_api_Row_table_UncoveredKeys_1.val x).symm.trans (runs_lim (E := slices_pdqsortCmpFunc_api_Row_table_UncoveredKeys_1.E slices_pdqsortCmpFunc_api_Row_table_UncoveredKeys_1) (c := (68, ⟨slices_pdqsortCmpFunc_api_Row_table_UncoveredKeys_1.ps, slices_pdqsortCmpFunc_api_Row_table_UncoveredKeys_1.rs, slices_pdqsortCmpFunc_api_Row_table_UncoveredKeys_1.runc n d⟩) :: slices_pdqsortCmpFunc_api_Row_table_UncoveredKeys_1.ctxc n) (ctxLe_cons (ctxLe_cons (ctxLe_cons (ctxLe_cons (ctxLe_cons (ctxLe_cons (ctxLe_cons (ctxLe_cons (ctxLe_cons (ctxLe_cons ctxLe_nil (slices_partitionCmpFunc_api_Row_table_UncoveredKeys_1.sigc_le n)) (slices_partitionEqualCmpFunc_api_Row_table_UncoveredKeys_1.sigc_le n)) (table_UncoveredKeys_1.sigc_le n)) (slices_partialInsertionSortCmpFunc_api_Row_table_UncoveredKeys_1.sigc_le n)) (slices_reverseRangeCmpFunc_api_Row_table_UncoveredKeys_1.sigc_le n)) (slices_choosePivotCmpFunc_api_Row_table_UncoveredKeys_1.sigc_le n)) (slices_breakPatternsCmpFunc_api_Row_table_UncoveredKeys_1.sigc_le n)) (slices_heapSortCmpFunc_api_Row_table_UncoveredKeys_1.sigc_le n)) (slices_insertionSortCmpFunc_api_Row_table_UncoveredKeys_1.sigc_le n)) ih) h)
theorem slices_pdqsortCmpFunc_api_Row_table_UncoveredKeys_1.sigc_le (n : Nat) : ∀ x y, (slices_pdqsortCmpFunc_api_Row_table_UncoveredKeys_1.sigc n).run x = some y → slices_pdqsortCmpFunc_api_Row_table_UncoveredKeys_1.sig.run x = some y := slices_pdqsortCmpFunc_api_Row_table_UncoveredKeys_1.runc_le n n
namespace slices_SortFunc_api_Row_api_Row_table_UncoveredKeys_1
abbrev ps : List PM := [.own api_Row, .fn 41]
abbrev rs : List RM := []
abbrev R : Type := Option (List api_RowV × Unit)
noncomputable def E : Env := { tt := tt, ctx := [(69, math_bits_Len.sig), (68, slices_pdqsortCmpFunc_api_Row_table_UncoveredKeys_1.sig)], nt := 14, ann := [] }
noncomputable def fin : ASt → R := Kret E Try.f40.results.toList ps rs
noncomputable def Se (x_0 : List api_RowV) : R :=
  Option.bind (math_bits_Len (IntKind.u64.wrap (x_0.length : Int))) fun x1 =>
  Option.bind (slices_pdqsortCmpFunc_api_Row_table_UncoveredKeys_1 x_0 0 (x_0.length : Int) x1.1) fun x2 =>
  some (x2.1, ())
theorem se (jmp : Tgt → ASt → R) (x : (argTy ps).den) : run E jmp fin depth (bodyOf Try.f40) .ret (entryFrom 0 ps x) =
    Se x.1 := by kernel_rfl
end slices_SortFunc_api_Row_api_Row_table_UncoveredKeys_1
noncomputable def slices_SortFunc_api_Row_api_Row_table_UncoveredKeys_1 (x_0 : List api_RowV) : slices_SortFunc_api_Row_api_Row_table_UncoveredKeys_1.R :=
  slices_SortFunc_api_Row_api_Row_table_UncoveredKeys_1.Se x_0
noncomputable def slices_SortFunc_api_Row_api_Row_table_UncoveredKeys_1.sig : Sig := ⟨slices_SortFunc_api_Row_api_Row_table_UncoveredKeys_1.ps, slices_SortFunc_api_Row_api_Row_table_UncoveredKeys_1.rs, fun x => slices_SortFunc_api_Row_api_Row_table_UncoveredKeys_1 x.1⟩
theorem slices_SortFunc_api_Row_api_Row_table_UncoveredKeys_1.ok : CallOK Try.prog 40 slices_SortFunc_api_Row_api_Row_table_UncoveredKeys_1.sig :=
  callOK_of_lim (E := slices_SortFunc_api_Row_api_Row_table_UncoveredKeys_1.E) mixed tt_ok (ctxOk_cons (ctxOk_cons ctxOk_nil slices_pdqsortCmpFunc_api_Row_table_UncoveredKeys_1.ok Try.func68 (by kernel_rfl) (by kernel_rfl)) math_bits_Len.ok Try.func69 (by kernel_rfl) (by kernel_rfl)) Try.func40 (by kernel_rfl : Try.f40.body = some (bodyOf Try.f40)) Try.ntmps40 (of_decide_eq_true (by kernel_rfl)) (of_decide_eq_true (by kernel_rfl))
    fun x y h => ((lim_eq (.code (bodyOf Try.f40) .ret) (entryFrom 0 slices_SortFunc_api_Row_api_Row_table_UncoveredKeys_1.ps x)).trans (slices_SortFunc_api_Row_api_Row_table_UncoveredKeys_1.se (lim slices_SortFunc_api_Row_api_Row_table_UncoveredKeys_1.E slices_SortFunc_api_Row_api_Row_table_UncoveredKeys_1.fin) x)).trans h
theorem slices_SortFunc_api_Row_api_Row_table_UncoveredKeys_1.val (x : (argTy slices_SortFunc_api_Row_api_Row_table_UncoveredKeys_1.ps).den) : lim slices_SortFunc_api_Row_api_Row_table_UncoveredKeys_1.E slices_SortFunc_api_Row_api_Row_table_UncoveredKeys_1.fin (.code (bodyOf Try.f40) .ret) (entryFrom 0 slices_SortFunc_api_Row_api_Row_table_UncoveredKeys_1.ps x) = slices_SortFunc_api_Row_api_Row_table_UncoveredKeys_1.sig.run x :=
  (lim_eq (.code (bodyOf Try.f40) .ret) (entryFrom 0 slices_SortFunc_api_Row_api_Row_table_UncoveredKeys_1.ps x)).trans (slices_SortFunc_api_Row_api_Row_table_UncoveredKeys_1.se (lim slices_SortFunc_api_Row_api_Row_table_UncoveredKeys_1.E slices_SortFunc_api_Row_api_Row_table_UncoveredKeys_1.fin) x)
noncomputable def slices_SortFunc_api_Row_api_Row_table_UncoveredKeys_1.ctxc (n : Nat) : List (Nat × Sig) := [(69, math_bits_Len.sigc n), (68, slices_pdqsortCmpFunc_api_Row_table_UncoveredKeys_1.sigc n)]
noncomputable def slices_SortFunc_api_Row_api_Row_table_UncoveredKeys_1.sigc (n : Nat) : Sig := ⟨slices_SortFunc_api_Row_api_Row_table_UncoveredKeys_1.ps, slices_SortFunc_api_Row_api_Row_table_UncoveredKeys_1.rs, fun x => runs (withCtx slices_SortFunc_api_Row_api_Row_table_UncoveredKeys_1.E (slices_SortFunc_api_Row_api_Row_table_UncoveredKeys_1.ctxc n)) slices_SortFunc_api_Row_api_Row_table_UncoveredKeys_1.fin n (.code (bodyOf Try.f40) .ret) (entryFrom 0 slices_SortFunc_api_Row_api_Row_table_UncoveredKeys_1.ps x)⟩
theorem slices_SortFunc_api_Row_api_Row_table_UncoveredKeys_1.sigc_le (n : Nat) : ∀ x y, (slices_SortFunc_api_Row_api_Row_table_UncoveredKeys_1.sigc n).run x = some y → slices_SortFunc_api_Row_api_Row_table_UncoveredKeys_1.sig.run x = some y :=
  fun x y h => (slices_SortFunc_api_Row_api_Row_table_UncoveredKeys_1.val x).symm.trans (runs_lim (E := slices_SortFunc_api_Row_api_Row_table_UncoveredKeys_1.E) (c := slices_SortFunc_api_Row_api_Row_table_UncoveredKeys_1.ctxc n) (ctxLe_cons (ctxLe_cons ctxLe_nil (slices_pdqsortCmpFunc_api_Row_table_UncoveredKeys_1.sigc_le n)) (math_bits_Len.sigc_le n)) h)
namespace table_UncoveredKeys
abbrev ps : List PM := [.pure api_Table, .pure (.int .i64), .pure (.int .i64), .pure (.int .i64)]
abbrev rs : List RM := [.own api_Type]
abbrev R : Type := Option (List api_TypeV × Unit)
noncomputable def E : Env := { tt := tt, ctx := [(39, daterange_Contains.sig), (40, slices_SortFunc_api_Row_api_Row_table_UncoveredKeys_1.sig)], nt := 79, ann := [(1000003, [(1, .keep), (2, .keep), (3, .keep), (9, .own api_Row), (16, .keep), (17, .keep), (18, .keep)]), (1000011, [(2, .keep), (3, .keep), (12, .own api_Type), (40, .keep), (41, .keep), (42, .keep)]), (14, [(2, .keep), (3, .keep), (12, .own api_Type), (14, .keep), (40, .keep), (41, .keep), (42, .keep), (54, .keep)])] }
noncomputable def c0 : Code := sub [1, 1, 1] (bodyOf Try.f17)
noncomputable def c1 : Code := sub [1, 1, 1, 1, 1, 1] (bodyOf Try.f17)
noncomputable def c2 : Code := sub [1, 1, 1, 1, 1, 0, 1, 0, 0] (bodyOf Try.f17)
noncomputable def c3 : Code := sub [1, 1, 1, 1, 1, 0, 1, 0, 0, 1, 1, 1] (bodyOf Try.f17)
noncomputable def c4 : Code := sub [1, 1, 1, 1, 1, 0, 1, 0, 0, 1, 1, 0, 0, 1, 1] (bodyOf Try.f17)
noncomputable def c5 : Code := sub [1, 1, 0, 1, 0, 0] (bodyOf Try.f17)
noncomputable def c6 : Code := sub [1, 1, 1, 1, 1, 0, 1, 0, 0, 1, 1, 0, 0, 1, 0, 1] (bodyOf Try.f17)
noncomputable def K3 : Kont := .seq c0 .ret
noncomputable def K5 : Kont := .blk 0 K3
noncomputable def K15 : Kont := .seq c1 .ret
noncomputable def K17 : Kont := .blk 2 K15
noncomputable def K18 : Kont := .loop c2 K17
noncomputable def K21 : Kont := .seq c3 K18
noncomputable def K22 : Kont := .blk 3 K21
noncomputable def K24 : Kont := .seq c4 K22
noncomputable def fin : ASt → R := Kret E Try.f17.results.toList ps rs
def tL0 (date : Int) (lo : Int) (hi : Int) (rows : List api_RowV) (v_16 : List api_RowV) (v_17 : Int) (v_18 : Int) : ASt := ⟨[(18, .one (.val (.int .i64) v_18)), (17, .one (.val (.int .i64) v_17)), (16, .one (.val (.sl api_Row) v_16)), (9, .one (.own 9)), (3, .one (.val (.int .i64) hi)), (2, .one (.val (.int .i64) lo)), (1, .one (.val (.int .i64) date))], [(9, some ⟨.free, api_Row, rows⟩)]⟩
def tL1 (lo : Int) (hi : Int) (out : List api_TypeV) (v_40 : List api_RowV) (v_41 : Int) (v_42 : Int) : ASt := ⟨[(42, .one (.val (.int .i64) v_42)), (41, .one (.val (.int .i64) v_41)), (40, .one (.own 40)), (12, .one (.own 12)), (3, .one (.val (.int .i64) hi)), (2, .one (.val (.int .i64) lo))], [(40, some ⟨.free, api_Row, v_40⟩), (12, some ⟨.free, api_Type, out⟩)]⟩
def tJ2 (lo : Int) (hi : Int) (out : List api_TypeV) (r_14 : api_RowV) (v_40 : List api_RowV) (v_41 : Int) (v_42 : Int) (v_54 : Bool) : ASt := ⟨[(54, .one (.val .bool v_54)), (42, .one (.val (.int .i64) v_42)), (41, .one (.val (.int .i64) v_41)), (40, .one (.own 40)), (14, .one (.optr 14 0 [])), (12, .one (.own 12)), (3, .one (.val (.int .i64) hi)), (2, .one (.val (.int .i64) lo))], [(40, some ⟨.free, api_Row, v_40⟩), (14, some ⟨.free, api_Row, [r_14]⟩), (12, some ⟨.free, api_Type, out⟩)]⟩
noncomputable def SL0 (kL0 : Int → Int → Int → (List api_RowV) → (List api_RowV) → Int → Int → R) (kL1 : Int → Int → (List api_TypeV) → (List api_RowV) → Int → Int → R) (date : Int) (lo : Int) (hi : Int) (rows : List api_RowV) (v_16 : List api_RowV) (v_17 : Int) (v_18 : Int) : R :=
  cond (decide (v_18 < v_17))
    (Option.bind (idx v_16 v_18) fun x1 =>
    Option.bind (daterange_Contains x1.1 date) fun x2 =>
    cond x2.1
      (cond (decide (x1.2.1 < x1.2.2.1))
        (cond (decide ((rows.length + 1) * 40 ≤ room) && decide (0 < Ty.nc (.pair (.pair (.int .i64) (.pair (.int .i64) .unit)) (.pair (.int .i64) (.pair (.int .i64) (.pair (.int .i64) .unit))))))
          (kL0 date lo hi (rows ++ [x1]) v_16 v_17 (IntKind.i64.wrap (v_18 + 1)))
          none)
        (kL0 date lo hi rows v_16 v_17 (IntKind.i64.wrap (v_18 + 1))))
      (kL0 date lo hi rows v_16 v_17 (IntKind.i64.wrap (v_18 + 1))))
    (Option.bind (slices_SortFunc_api_Row_api_Row_table_UncoveredKeys_1 rows) fun x3 =>
    kL1 lo hi [] x3.1 (x3.1.length : Int) 0)
noncomputable def SL1 (kJ2 : Int → Int → (List api_TypeV) → api_RowV → (List api_RowV) → Int → Int → Bool → R) (lo : Int) (hi : Int) (out : List api_TypeV) (v_40 : List api_RowV) (v_41 : Int) (v_42 : Int) : R :=
  cond (decide (v_42 < v_41))
    (cond (decide (0 ≤ v_42) && decide (v_42 < (v_40.length : Int)))
      (cond (decide (lo < hi))
        (kJ2 lo hi out (v_40.getD v_42.toNat ((0, 0, ()), 0, 0, 0, ())) v_40 v_41 v_42 (decide (((v_40.getD v_42.toNat ((0, 0, ()), 0, 0, 0, ())).2.1) > lo)))
        (kJ2 lo hi out (v_40.getD v_42.toNat ((0, 0, ()), 0, 0, 0, ())) v_40 v_41 v_42 false))
      none)
    (cond (decide (lo < hi))
      (cond (decide ((out.length + 1) * 16 ≤ room) && decide (0 < Ty.nc (.pair (.int .i64) (.pair (.int .i64) .unit))))
        (some ((out ++ [(lo, hi, ())]), ()))
        none)
      (some (out, ())))
noncomputable def SJ2 (kL1 : Int → Int → (List api_TypeV) → (List api_RowV) → Int → Int → R) (lo : Int) (hi : Int) (out : List api_TypeV) (r_14 : api_RowV) (v_40 : List api_RowV) (v_41 : Int) (v_42 : Int) (v_54 : Bool) : R :=
  cond v_54
    (cond (decide ((out.length + 1) * 16 ≤ room) && decide (0 < Ty.nc (.pair (.int .i64) (.pair (.int .i64) .unit))))
      (kL1 (cond (decide (r_14.2.2.1 > lo)) r_14.2.2.1 lo) hi (out ++ [(lo, (cond (decide (hi < r_14.2.1)) hi r_14.2.1), ())]) v_40 v_41 (IntKind.i64.wrap (v_42 + 1)))
      none)
    (kL1 (cond (decide (r_14.2.2.1 > lo)) r_14.2.2.1 lo) hi out v_40 v_41 (IntKind.i64.wrap (v_42 + 1)))
noncomputable def Se (kL0 : Int → Int → Int → (List api_RowV) → (List api_RowV) → Int → Int → R) (t : api_TableV) (date : Int) (lo : Int) (hi : Int) : R :=
  kL0 date lo hi [] t.2.2.2.1 (t.2.2.2.1.length : Int) 0
theorem sL0 (jmp : Tgt → ASt → R) (date : Int) (lo : Int) (hi : Int) (rows : List api_RowV) (v_16 : List api_RowV) (v_17 : Int) (v_18 : Int) : run E jmp fin depth c5 (.loop c5 K5) (tL0 date lo hi rows v_16 v_17 v_18) =
    SL0 (fun date lo hi rows v_16 v_17 v_18 => jmp (.loop c5 K5) (tL0 date lo hi rows v_16 v_17 v_18)) (fun lo hi out v_40 v_41 v_42 => jmp (.loop c2 K17) (tL1 lo hi out v_40 v_41 v_42)) date lo hi rows v_16 v_17 v_18 := by kernel_rfl
theorem sL1 (jmp : Tgt → ASt → R) (lo : Int) (hi : Int) (out : List api_TypeV) (v_40 : List api_RowV) (v_41 : Int) (v_42 : Int) : run E jmp fin depth c2 (.loop c2 K17) (tL1 lo hi out v_40 v_41 v_42) =
    SL1 (fun lo hi out r_14 v_40 v_41 v_42 v_54 => jmp (.code c6 K24) (tJ2 lo hi out r_14 v_40 v_41 v_42 v_54)) lo hi out v_40 v_41 v_42 := by kernel_rfl
theorem sJ2 (jmp : Tgt → ASt → R) (lo : Int) (hi : Int) (out : List api_TypeV) (r_14 : api_RowV) (v_40 : List api_RowV) (v_41 : Int) (v_42 : Int) (v_54 : Bool) : run E jmp fin depth c6 K24 (tJ2 lo hi out r_14 v_40 v_41 v_42 v_54) =
    SJ2 (fun lo hi out v_40 v_41 v_42 => jmp (.loop c2 K17) (tL1 lo hi out v_40 v_41 v_42)) lo hi out r_14 v_40 v_41 v_42 v_54 := by kernel_rfl
theorem se (jmp : Tgt → ASt → R) (x : (argTy ps).den) : run E jmp fin depth (bodyOf Try.f17) .ret (entryFrom 0 ps x) =
    Se (fun date lo hi rows v_16 v_17 v_18 => jmp (.loop c5 K5) (tL0 date lo hi rows v_16 v_17 v_18)) x.1 x.2.1 x.2.2.1 x.2.2.2.1 := by kernel_rfl
noncomputable def L0 (date : Int) (lo : Int) (hi : Int) (rows : List api_RowV) (v_16 : List api_RowV) (v_17 : Int) (v_18 : Int) : R := lim E fin (.loop c5 K5) (tL0 date lo hi rows v_16 v_17 v_18)
noncomputable def L1 (lo : Int) (hi : Int) (out : List api_TypeV) (v_40 : List api_RowV) (v_41 : Int) (v_42 : Int) : R := lim E fin (.loop c2 K17) (tL1 lo hi out v_40 v_41 v_42)
noncomputable def J2 (lo : Int) (hi : Int) (out : List api_TypeV) (r_14 : api_RowV) (v_40 : List api_RowV) (v_41 : Int) (v_42 : Int) (v_54 : Bool) : R := lim E fin (.code c6 K24) (tJ2 lo hi out r_14 v_40 v_41 v_42 v_54)
theorem L0_eq (date : Int) (lo : Int) (hi : Int) (rows : List api_RowV) (v_16 : List api_RowV) (v_17 : Int) (v_18 : Int) : L0 date lo hi rows v_16 v_17 v_18 = SL0 L0 L1 date lo hi rows v_16 v_17 v_18 :=
  (lim_eq (.loop c5 K5) (tL0 date lo hi rows v_16 v_17 v_18)).trans (sL0 (lim E fin) date lo hi rows v_16 v_17 v_18)
theorem L1_eq (lo : Int) (hi : Int) (out : List api_TypeV) (v_40 : List api_RowV) (v_41 : Int) (v_42 : Int) : L1 lo hi out v_40 v_41 v_42 = SL1 J2 lo hi out v_40 v_41 v_42 :=
  (lim_eq (.loop c2 K17) (tL1 lo hi out v_40 v_41 v_42)).trans (sL1 (lim E fin) lo hi out v_40 v_41 v_42)
theorem J2_eq (lo : Int) (hi : Int) (out : List api_TypeV) (r_14 : api_RowV) (v_40 : List api_RowV) (v_41 : Int) (v_42 : Int) (v_54 : Bool) : J2 lo hi out r_14 v_40 v_41 v_42 v_54 = SJ2 L1 lo hi out r_14 v_40 v_41 v_42 v_54 :=
  (lim_eq (.code c6 K24) (tJ2 lo hi out r_14 v_40 v_41 v_42 v_54)).trans (sJ2 (lim E fin) lo hi out r_14 v_40 v_41 v_42 v_54)
end table_UncoveredKeys
noncomputable def table_UncoveredKeys (t : api_TableV) (date : Int) (lo : Int) (hi : Int) : table_UncoveredKeys.R :=
  table_UncoveredKeys.Se table_UncoveredKeys.L0 t date lo hi
noncomputable def table_UncoveredKeys.sig : Sig := ⟨table_UncoveredKeys.ps, table_UncoveredKeys.rs, fun x => table_UncoveredKeys x.1 x.2.1 x.2.2.1 x.2.2.2.1⟩
theorem table_UncoveredKeys.ok : CallOK Try.prog 17 table_UncoveredKeys.sig :=
  callOK_of_lim (E := table_UncoveredKeys.E) mixed tt_ok (ctxOk_cons (ctxOk_cons ctxOk_nil slices_SortFunc_api_Row_api_Row_table_UncoveredKeys_1.ok Try.func40 (by kernel_rfl) (by kernel_rfl)) daterange_Contains.ok Try.func39 (by kernel_rfl) (by kernel_rfl)) Try.func17 (by kernel_rfl : Try.f17.body = some (bodyOf Try.f17)) Try.ntmps17 (of_decide_eq_true (by kernel_rfl)) (of_decide_eq_true (by kernel_rfl))
    fun x y h => ((lim_eq (.code (bodyOf Try.f17) .ret) (entryFrom 0 table_UncoveredKeys.ps x)).trans (table_UncoveredKeys.se (lim table_UncoveredKeys.E table_UncoveredKeys.fin) x)).trans h
theorem table_UncoveredKeys.val (x : (argTy table_UncoveredKeys.ps).den) : lim table_UncoveredKeys.E table_UncoveredKeys.fin (.code (bodyOf Try.f17) .ret) (entryFrom 0 table_UncoveredKeys.ps x) = table_UncoveredKeys.sig.run x :=
  (lim_eq (.code (bodyOf Try.f17) .ret) (entryFrom 0 table_UncoveredKeys.ps x)).trans (table_UncoveredKeys.se (lim table_UncoveredKeys.E table_UncoveredKeys.fin) x)
noncomputable def table_UncoveredKeys.ctxc (n : Nat) : List (Nat × Sig) := [(39, daterange_Contains.sigc n), (40, slices_SortFunc_api_Row_api_Row_table_UncoveredKeys_1.sigc n)]
noncomputable def table_UncoveredKeys.sigc (n : Nat) : Sig := ⟨table_UncoveredKeys.ps, table_UncoveredKeys.rs, fun x => runs (withCtx table_UncoveredKeys.E (table_UncoveredKeys.ctxc n)) table_UncoveredKeys.fin n (.code (bodyOf Try.f17) .ret) (entryFrom 0 table_UncoveredKeys.ps x)⟩
theorem table_UncoveredKeys.sigc_le (n : Nat) : ∀ x y, (table_UncoveredKeys.sigc n).run x = some y → table_UncoveredKeys.sig.run x = some y :=
  fun x y h => (table_UncoveredKeys.val x).symm.trans (runs_lim (E := table_UncoveredKeys.E) (c := table_UncoveredKeys.ctxc n) (ctxLe_cons (ctxLe_cons ctxLe_nil (slices_SortFunc_api_Row_api_Row_table_UncoveredKeys_1.sigc_le n)) (daterange_Contains.sigc_le n)) h)
namespace table_FirstConflict_1
abbrev ps : List PM := [.pure api_Row, .ptr api_Row]
abbrev rs : List RM := [.pure .bool]
abbrev R : Type := Option (Bool × api_RowV × Unit)
noncomputable def E : Env := { tt := tt, ctx := [(33, table_conflict.sig)], nt := 7, ann := [] }
noncomputable def fin : ASt → R := Kret E Try.f38.results.toList ps rs
noncomputable def Se (x_0 : api_RowV) (p1 : api_RowV) : R :=
  Option.bind (table_conflict x_0 p1) fun x1 =>
  some (x1.1, p1, ())
theorem se (jmp : Tgt → ASt → R) (x : (argTy ps).den) : run E jmp fin depth (bodyOf Try.f38) .ret (entryFrom 0 ps x) =
    Se x.1 x.2.1 := by kernel_rfl
end table_FirstConflict_1
noncomputable def table_FirstConflict_1 (x_0 : api_RowV) (p1 : api_RowV) : table_FirstConflict_1.R :=
  table_FirstConflict_1.Se x_0 p1
noncomputable def table_FirstConflict_1.sig : Sig := ⟨table_FirstConflict_1.ps, table_FirstConflict_1.rs, fun x => table_FirstConflict_1 x.1 x.2.1⟩
theorem table_FirstConflict_1.ok : CallOK Try.prog 38 table_FirstConflict_1.sig :=
  callOK_of_lim (E := table_FirstConflict_1.E) mixed tt_ok (ctxOk_cons ctxOk_nil table_conflict.ok Try.func33 (by kernel_rfl) (by kernel_rfl)) Try.func38 (by kernel_rfl : Try.f38.body = some (bodyOf Try.f38)) Try.ntmps38 (of_decide_eq_true (by kernel_rfl)) (of_decide_eq_true (by kernel_rfl))
    fun x y h => ((lim_eq (.code (bodyOf Try.f38) .ret) (entryFrom 0 table_FirstConflict_1.ps x)).trans (table_FirstConflict_1.se (lim table_FirstConflict_1.E table_FirstConflict_1.fin) x)).trans h
theorem table_FirstConflict_1.val (x : (argTy table_FirstConflict_1.ps).den) : lim table_FirstConflict_1.E table_FirstConflict_1.fin (.code (bodyOf Try.f38) .ret) (entryFrom 0 table_FirstConflict_1.ps x) = table_FirstConflict_1.sig.run x :=
  (lim_eq (.code (bodyOf Try.f38) .ret) (entryFrom 0 table_FirstConflict_1.ps x)).trans (table_FirstConflict_1.se (lim table_FirstConflict_1.E table_FirstConflict_1.fin) x)
noncomputable def table_FirstConflict_1.ctxc (n : Nat) : List (Nat × Sig) := [(33, table_conflict.sigc n)]
noncomputable def table_FirstConflict_1.sigc (n : Nat) : Sig := ⟨table_FirstConflict_1.ps, table_FirstConflict_1.rs, fun x => runs (withCtx table_FirstConflict_1.E (table_FirstConflict_1.ctxc n)) table_FirstConflict_1.fin n (.code (bodyOf Try.f38) .ret) (entryFrom 0 table_FirstConflict_1.ps x)⟩
theorem table_FirstConflict_1.sigc_le (n : Nat) : ∀ x y, (table_FirstConflict_1.sigc n).run x = some y → table_FirstConflict_1.sig.run x = some y :=
  fun x y h => (table_FirstConflict_1.val x).symm.trans (runs_lim (E := table_FirstConflict_1.E) (c := table_FirstConflict_1.ctxc n) (ctxLe_cons ctxLe_nil (table_conflict.sigc_le n)) h)
namespace table_find_api_Row_table_FirstConflict_1
abbrev ps : List PM := [.pure (.sl api_Row), .ptr api_Row (some 38)]
abbrev rs : List RM := [.pure (.int .i64), .pure .bool]
abbrev R : Type := Option (Int × Bool × api_RowV × Unit)
noncomputable def E : Env := { tt := tt, ctx := [(38, table_FirstConflict_1.sig)], nt := 20, ann := [(1000002, [(1, .keep), (8, .keep), (9, .keep), (10, .keep)])] }
noncomputable def c0 : Code := sub [1, 1] (bodyOf Try.f37)
noncomputable def c1 : Code := sub [1, 0, 1, 0, 0] (bodyOf Try.f37)
noncomputable def K2 : Kont := .seq c0 .ret
noncomputable def K4 : Kont := .blk 0 K2
noncomputable def fin : ASt → R := Kret E Try.f37.results.toList ps rs
def tL0 (v_8 : List api_RowV) (v_9 : Int) (v_10 : Int) (ok_P : api_RowV) : ASt := ⟨[(10, .one (.val (.int .i64) v_10)), (9, .one (.val (.int .i64) v_9)), (8, .one (.val (.sl api_Row) v_8)), (1, .one (.fn 38 [10001]))], [(10001, some ⟨.fixed, api_Row, [ok_P]⟩)]⟩
noncomputable def SL0 (kL0 : (List api_RowV) → Int → Int → api_RowV → R) (v_8 : List api_RowV) (v_9 : Int) (v_10 : Int) (ok_P : api_RowV) : R :=
  cond (decide (v_10 < v_9))
    (Option.bind (idx v_8 v_10) fun x1 =>
    Option.bind (table_FirstConflict_1 x1 ok_P) fun x2 =>
    cond x2.1
      (some (v_10, true, x2.2.1, ()))
      (kL0 v_8 v_9 (IntKind.i64.wrap (v_10 + 1)) x2.2.1))
    (some (0, false, ok_P, ()))
noncomputable def Se (kL0 : (List api_RowV) → Int → Int → api_RowV → R) (l : List api_RowV) (ok : api_RowV) : R :=
  kL0 l (l.length : Int) 0 ok
theorem sL0 (jmp : Tgt → ASt → R) (v_8 : List api_RowV) (v_9 : Int) (v_10 : Int) (ok_P : api_RowV) : run E jmp fin depth c1 (.loop c1 K4) (tL0 v_8 v_9 v_10 ok_P) =
    SL0 (fun v_8 v_9 v_10 ok_P => jmp (.loop c1 K4) (tL0 v_8 v_9 v_10 ok_P)) v_8 v_9 v_10 ok_P := by kernel_rfl
theorem se (jmp : Tgt → ASt → R) (x : (argTy ps).den) : run E jmp fin depth (bodyOf Try.f37) .ret (entryFrom 0 ps x) =
    Se (fun v_8 v_9 v_10 ok_P => jmp (.loop c1 K4) (tL0 v_8 v_9 v_10 ok_P)) x.1 x.2.1 := by kernel_rfl
noncomputable def L0 (v_8 : List api_RowV) (v_9 : Int) (v_10 : Int) (ok_P : api_RowV) : R := lim E fin (.loop c1 K4) (tL0 v_8 v_9 v_10 ok_P)
theorem L0_eq (v_8 : List api_RowV) (v_9 : Int) (v_10 : Int) (ok_P : api_RowV) : L0 v_8 v_9 v_10 ok_P = SL0 L0 v_8 v_9 v_10 ok_P :=
  (lim_eq (.loop c1 K4) (tL0 v_8 v_9 v_10 ok_P)).trans (sL0 (lim E fin) v_8 v_9 v_10 ok_P)
end table_find_api_Row_table_FirstConflict_1
noncomputable def table_find_api_Row_table_FirstConflict_1 (l : List api_RowV) (ok : api_RowV) : table_find_api_Row_table_FirstConflict_1.R :=
  table_find_api_Row_table_FirstConflict_1.Se table_find_api_Row_table_FirstConflict_1.L0 l ok
noncomputable def table_find_api_Row_table_FirstConflict_1.sig : Sig := ⟨table_find_api_Row_table_FirstConflict_1.ps, table_find_api_Row_table_FirstConflict_1.rs, fun x => table_find_api_Row_table_FirstConflict_1 x.1 x.2.1⟩
theorem table_find_api_Row_table_FirstConflict_1.ok : CallOK Try.prog 37 table_find_api_Row_table_FirstConflict_1.sig :=
  callOK_of_lim (E := table_find_api_Row_table_FirstConflict_1.E) mixed tt_ok (ctxOk_cons ctxOk_nil table_FirstConflict_1.ok Try.func38 (by kernel_rfl) (by kernel_rfl)) Try.func37 (by kernel_rfl : Try.f37.body = some (bodyOf Try.f37)) Try.ntmps37 (of_decide_eq_true (by kernel_rfl)) (of_decide_eq_true (by kernel_rfl))
    fun x y h => ((lim_eq (.code (bodyOf Try.f37) .ret) (entryFrom 0 table_find_api_Row_table_FirstConflict_1.ps x)).trans (table_find_api_Row_table_FirstConflict_1.se (lim table_find_api_Row_table_FirstConflict_1.E table_find_api_Row_table_FirstConflict_1.fin) x)).trans h
theorem table_find_api_Row_table_FirstConflict_1.val (x : (argTy table_find_api_Row_table_FirstConflict_1.ps).den) : lim table_find_api_Row_table_FirstConflict_1.E table_find_api_Row_table_FirstConflict_1.fin (.code (bodyOf Try.f37) .ret) (entryFrom 0 table_find_api_Row_table_FirstConflict_1.ps x) = table_find_api_Row_table_FirstConflict_1.sig.run x :=
  (lim_eq (.code (bodyOf Try.f37) .ret) (entryFrom 0 table_find_api_Row_table_FirstConflict_1.ps x)).trans (table_find_api_Row_table_FirstConflict_1.se (lim table_find_api_Row_table_FirstConflict_1.E table_find_api_Row_table_FirstConflict_1.fin) x)
noncomputable def table_find_api_Row_table_FirstConflict_1.ctxc (n : Nat) : List (Nat × Sig) := [(38, table_FirstConflict_1.sigc n)]
noncomputable def table_find_api_Row_table_FirstConflict_1.sigc (n : Nat) : Sig := ⟨table_find_api_Row_table_FirstConflict_1.ps, table_find_api_Row_table_FirstConflict_1.rs, fun x => runs (withCtx table_find_api_Row_table_FirstConflict_1.E (table_find_api_Row_table_FirstConflict_1.ctxc n)) table_find_api_Row_table_FirstConflict_1.fin n (.code (bodyOf Try.f37) .ret) (entryFrom 0 table_find_api_Row_table_FirstConflict_1.ps x)⟩
theorem table_find_api_Row_table_FirstConflict_1.sigc_le (n : Nat) : ∀ x y, (table_find_api_Row_table_FirstConflict_1.sigc n).run x = some y → table_find_api_Row_table_FirstConflict_1.sig.run x = some y :=
  fun x y h => (table_find_api_Row_table_FirstConflict_1.val x).symm.trans (runs_lim (E := table_find_api_Row_table_FirstConflict_1.E) (c := table_find_api_Row_table_FirstConflict_1.ctxc n) (ctxLe_cons ctxLe_nil (table_FirstConflict_1.sigc_le n)) h)
namespace table_FirstConflict
abbrev ps : List PM := [.pure api_Table]
abbrev rs : List RM := [.pure (.int .i64), .pure (.int .i64), .pure .bool]
abbrev R : Type := Option (Int × Int × Bool × Unit)
noncomputable def E : Env := { tt := tt, ctx := [(37, table_find_api_Row_table_FirstConflict_1.sig)], nt := 30, ann := [(1000002, [(1, .keep), (10, .keep), (11, .keep), (12, .keep)])] }
noncomputable def c0 : Code := sub [1, 1] (bodyOf Try.f15)
noncomputable def c1 : Code := sub [1, 0, 1, 0, 0] (bodyOf Try.f15)
noncomputable def K2 : Kont := .seq c0 .ret
noncomputable def K4 : Kont := .blk 0 K2
noncomputable def fin : ASt → R := Kret E Try.f15.results.toList ps rs
def tL0 (t : api_TableV) (v_10 : List api_RowV) (v_11 : Int) (v_12 : Int) : ASt := ⟨[(12, .one (.val (.int .i64) v_12)), (11, .one (.val (.int .i64) v_11)), (10, .one (.val (.sl api_Row) v_10)), (1, .one (.optr 1 0 []))], [(1, some ⟨.free, api_Table, [t]⟩)]⟩
noncomputable def SL0 (kL0 : api_TableV → (List api_RowV) → Int → Int → R) (t : api_TableV) (v_10 : List api_RowV) (v_11 : Int) (v_12 : Int) : R :=
  cond (decide (v_12 < v_11))
    (Option.bind (idx v_10 v_12) fun x1 =>
    cond (decide ((0 : Int) ≤ 0) && (decide ((0 : Int) ≤ v_12) && decide (v_12 ≤ (t.2.2.2.1.length : Int))))
      (Option.bind (table_find_api_Row_table_FirstConflict_1 (t.2.2.2.1.take v_12.toNat) x1) fun x2 =>
      cond x2.2.1
        (some (x2.1, v_12, true, ()))
        (kL0 t v_10 v_11 (IntKind.i64.wrap (v_12 + 1))))
      none)
    (some (0, 0, false, ()))
noncomputable def Se (kL0 : api_TableV → (List api_RowV) → Int → Int → R) (t : api_TableV) : R :=
  kL0 t t.2.2.2.1 (t.2.2.2.1.length : Int) 0
theorem sL0 (jmp : Tgt → ASt → R) (t : api_TableV) (v_10 : List api_RowV) (v_11 : Int) (v_12 : Int) : run E jmp fin depth c1 (.loop c1 K4) (tL0 t v_10 v_11 v_12) =
    SL0 (fun t v_10 v_11 v_12 => jmp (.loop c1 K4) (tL0 t v_10 v_11 v_12)) t v_10 v_11 v_12 := by kernel_rfl
theorem se (jmp : Tgt → ASt → R) (x : (argTy ps).den) : run E jmp fin depth (bodyOf Try.f15) .ret (entryFrom 0 ps x) =
    Se (fun t v_10 v_11 v_12 => jmp (.loop c1 K4) (tL0 t v_10 v_11 v_12)) x.1 := by kernel_rfl
noncomputable def L0 (t : api_TableV) (v_10 : List api_RowV) (v_11 : Int) (v_12 : Int) : R := lim E fin (.loop c1 K4) (tL0 t v_10 v_11 v_12)
theorem L0_eq (t : api_TableV) (v_10 : List api_RowV) (v_11 : Int) (v_12 : Int) : L0 t v_10 v_11 v_12 = SL0 L0 t v_10 v_11 v_12 :=
  (lim_eq (.loop c1 K4) (tL0 t v_10 v_11 v_12)).trans (sL0 (lim E fin) t v_10 v_11 v_12)
end table_FirstConflict
noncomputable def table_FirstConflict (t : api_TableV) : table_FirstConflict.R :=
  table_FirstConflict.Se table_FirstConflict.L0 t
noncomputable def table_FirstConflict.sig : Sig := ⟨table_FirstConflict.ps, table_FirstConflict.rs, fun x => table_FirstConflict x.1⟩
theorem table_FirstConflict.ok : CallOK Try.prog 15 table_FirstConflict.sig :=
  callOK_of_lim (E := table_FirstConflict.E) mixed tt_ok (ctxOk_cons ctxOk_nil table_find_api_Row_table_FirstConflict_1.ok Try.func37 (by kernel_rfl) (by kernel_rfl)) Try.func15 (by kernel_rfl : Try.f15.body = some (bodyOf Try.f15)) Try.ntmps15 (of_decide_eq_true (by kernel_rfl)) (of_decide_eq_true (by kernel_rfl))
    fun x y h => ((lim_eq (.code (bodyOf Try.f15) .ret) (entryFrom 0 table_FirstConflict.ps x)).trans (table_FirstConflict.se (lim table_FirstConflict.E table_FirstConflict.fin) x)).trans h
theorem table_FirstConflict.val (x : (argTy table_FirstConflict.ps).den) : lim table_FirstConflict.E table_FirstConflict.fin (.code (bodyOf Try.f15) .ret) (entryFrom 0 table_FirstConflict.ps x) = table_FirstConflict.sig.run x :=
  (lim_eq (.code (bodyOf Try.f15) .ret) (entryFrom 0 table_FirstConflict.ps x)).trans (table_FirstConflict.se (lim table_FirstConflict.E table_FirstConflict.fin) x)
noncomputable def table_FirstConflict.ctxc (n : Nat) : List (Nat × Sig) := [(37, table_find_api_Row_table_FirstConflict_1.sigc n)]
noncomputable def table_FirstConflict.sigc (n : Nat) : Sig := ⟨table_FirstConflict.ps, table_FirstConflict.rs, fun x => runs (withCtx table_FirstConflict.E (table_FirstConflict.ctxc n)) table_FirstConflict.fin n (.code (bodyOf Try.f15) .ret) (entryFrom 0 table_FirstConflict.ps x)⟩
theorem table_FirstConflict.sigc_le (n : Nat) : ∀ x y, (table_FirstConflict.sigc n).run x = some y → table_FirstConflict.sig.run x = some y :=
  fun x y h => (table_FirstConflict.val x).symm.trans (runs_lim (E := table_FirstConflict.E) (c := table_FirstConflict.ctxc n) (ctxLe_cons ctxLe_nil (table_find_api_Row_table_FirstConflict_1.sigc_le n)) h)
namespace same_KeyRanges
abbrev ps : List PM := [.pure (.sl api_Type), .pure (.sl api_Type)]
abbrev rs : List RM := [.pure .bool]
abbrev R : Type := Option (Bool × Unit)
noncomputable def E : Env := { tt := tt, ctx := [], nt := 32, ann := [(1000004, [(0, .keep), (1, .keep), (5, .keep)]), (6, [(0, .keep), (1, .keep), (5, .keep)])] }
noncomputable def c0 : Code := sub [1, 1, 1] (bodyOf Try.f19)
noncomputable def c1 : Code := sub [1, 1, 0, 1, 0, 0] (bodyOf Try.f19)
noncomputable def c2 : Code := sub [1, 1, 0, 1, 0, 0, 1] (bodyOf Try.f19)
noncomputable def K5 : Kont := .seq c0 .ret
noncomputable def K7 : Kont := .blk 0 K5
noncomputable def K8 : Kont := .loop c1 K7
noncomputable def fin : ASt → R := Kret E Try.f19.results.toList ps rs
def tL0 (a : List api_TypeV) (b : List api_TypeV) (i : Int) : ASt := ⟨[(5, .one (.val (.int .i64) i)), (1, .one (.val (.sl api_Type) b)), (0, .one (.val (.sl api_Type) a))], []⟩
def tJ1 (a : List api_TypeV) (b : List api_TypeV) (i : Int) : ASt := ⟨[(5, .one (.val (.int .i64) i)), (1, .one (.val (.sl api_Type) b)), (0, .one (.val (.sl api_Type) a))], []⟩
noncomputable def SL0 (kJ1 : (List api_TypeV) → (List api_TypeV) → Int → R) (a : List api_TypeV) (b : List api_TypeV) (i : Int) : R :=
  cond (decide (i < (a.length : Int)))
    (cond (decide (i < (b.length : Int)))
      (kJ1 a b i)
      (some (true, ())))
    (some (true, ()))
noncomputable def SJ1 (kL0 : (List api_TypeV) → (List api_TypeV) → Int → R) (a : List api_TypeV) (b : List api_TypeV) (i : Int) : R :=
  Option.bind (idx a i) fun x1 =>
  Option.bind (idx b i) fun x2 =>
  cond (!eqTy (.pair (.int .i64) (.pair (.int .i64) .unit)) x1 x2)
    (some (false, ()))
    (kL0 a b (IntKind.i64.wrap (i + 1)))
noncomputable def Se (kL0 : (List api_TypeV) → (List api_TypeV) → Int → R) (a : List api_TypeV) (b : List api_TypeV) : R :=
  cond ((a.length : Int) != (b.length : Int))
    (some (false, ()))
    (kL0 a b 0)
theorem sL0 (jmp : Tgt → ASt → R) (a : List api_TypeV) (b : List api_TypeV) (i : Int) : run E jmp fin depth c1 (.loop c1 K7) (tL0 a b i) =
    SL0 (fun a b i => jmp (.code c2 K8) (tJ1 a b i)) a b i := by kernel_rfl
theorem sJ1 (jmp : Tgt → ASt → R) (a : List api_TypeV) (b : List api_TypeV) (i : Int) : run E jmp fin depth c2 K8 (tJ1 a b i) =
    SJ1 (fun a b i => jmp (.loop c1 K7) (tL0 a b i)) a b i := by kernel_rfl
theorem se (jmp : Tgt → ASt → R) (x : (argTy ps).den) : run E jmp fin depth (bodyOf Try.f19) .ret (entryFrom 0 ps x) =
    Se (fun a b i => jmp (.loop c1 K7) (tL0 a b i)) x.1 x.2.1 := by kernel_rfl
noncomputable def L0 (a : List api_TypeV) (b : List api_TypeV) (i : Int) : R := lim E fin (.loop c1 K7) (tL0 a b i)
noncomputable def J1 (a : List api_TypeV) (b : List api_TypeV) (i : Int) : R := lim E fin (.code c2 K8) (tJ1 a b i)
theorem L0_eq (a : List api_TypeV) (b : List api_TypeV) (i : Int) : L0 a b i = SL0 J1 a b i :=
  (lim_eq (.loop c1 K7) (tL0 a b i)).trans (sL0 (lim E fin) a b i)
theorem J1_eq (a : List api_TypeV) (b : List api_TypeV) (i : Int) : J1 a b i = SJ1 L0 a b i :=
  (lim_eq (.code c2 K8) (tJ1 a b i)).trans (sJ1 (lim E fin) a b i)
end same_KeyRanges
noncomputable def same_KeyRanges (a : List api_TypeV) (b : List api_TypeV) : same_KeyRanges.R :=
  same_KeyRanges.Se same_KeyRanges.L0 a b
noncomputable def same_KeyRanges.sig : Sig := ⟨same_KeyRanges.ps, same_KeyRanges.rs, fun x => same_KeyRanges x.1 x.2.1⟩
theorem same_KeyRanges.ok : CallOK Try.prog 19 same_KeyRanges.sig :=
  callOK_of_lim (E := same_KeyRanges.E) mixed tt_ok ctxOk_nil Try.func19 (by kernel_rfl : Try.f19.body = some (bodyOf Try.f19)) Try.ntmps19 (of_decide_eq_true (by kernel_rfl)) (of_decide_eq_true (by kernel_rfl))
    fun x y h => ((lim_eq (.code (bodyOf Try.f19) .ret) (entryFrom 0 same_KeyRanges.ps x)).trans (same_KeyRanges.se (lim same_KeyRanges.E same_KeyRanges.fin) x)).trans h
theorem same_KeyRanges.val (x : (argTy same_KeyRanges.ps).den) : lim same_KeyRanges.E same_KeyRanges.fin (.code (bodyOf Try.f19) .ret) (entryFrom 0 same_KeyRanges.ps x) = same_KeyRanges.sig.run x :=
  (lim_eq (.code (bodyOf Try.f19) .ret) (entryFrom 0 same_KeyRanges.ps x)).trans (same_KeyRanges.se (lim same_KeyRanges.E same_KeyRanges.fin) x)
noncomputable def same_KeyRanges.ctxc (n : Nat) : List (Nat × Sig) := []
noncomputable def same_KeyRanges.sigc (n : Nat) : Sig := ⟨same_KeyRanges.ps, same_KeyRanges.rs, fun x => runs (withCtx same_KeyRanges.E (same_KeyRanges.ctxc n)) same_KeyRanges.fin n (.code (bodyOf Try.f19) .ret) (entryFrom 0 same_KeyRanges.ps x)⟩
theorem same_KeyRanges.sigc_le (n : Nat) : ∀ x y, (same_KeyRanges.sigc n).run x = some y → same_KeyRanges.sig.run x = some y :=
  fun x y h => (same_KeyRanges.val x).symm.trans (runs_lim (E := same_KeyRanges.E) (c := same_KeyRanges.ctxc n) ctxLe_nil h)
namespace law12_awake
abbrev ps : List PM := []
abbrev rs : List RM := [.pure .bool]
abbrev R : Type := Option (Bool × Unit)
noncomputable def E : Env := { tt := tt, ctx := [(25, law12_schedule.sig), (21, table_Brackets.sig), (18, table_Lookup.sig), (13, table_Validate.sig), (17, table_UncoveredKeys.sig), (15, table_FirstConflict.sig), (19, same_KeyRanges.sig)], nt := 79, ann := [] }
noncomputable def fin : ASt → R := Kret E Try.f12.results.toList ps rs
noncomputable def Se : R :=
  Option.bind (law12_schedule [((0, 0, ()), 0, 10000, 100000, ()), ((0, 0, ()), 10000, 1000000000000001, 200000, ())]) fun x1 =>
  Option.bind (table_Brackets x1.1 45000 15000 4) fun x2 =>
  Option.bind (table_Lookup x1.1 45000 10000) fun x3 =>
  Option.bind (table_Validate x1.1 []) fun x4 =>
  Option.bind (law12_schedule [((0, 0, ()), 0, 10, 0, ()), ((0, 0, ()), 20, 30, 0, ())]) fun x5 =>
  Option.bind (table_UncoveredKeys x5.1 45000 5 25) fun x6 =>
  Option.bind (law12_schedule [((0, 0, ()), 0, 10, 0, ()), ((0, 0, ()), 5, 7, 0, ())]) fun x7 =>
  Option.bind (table_FirstConflict x7.1) fun x8 =>
  cond (x2.1 == 2000)
    (cond (x2.2.1 == 0)
      (cond (x3.1 == 1)
        (cond x3.2.1
          (cond (x4.2.1 == 0)
            (Option.bind (same_KeyRanges x6.1 [(10, 20, ())]) fun x9 =>
            cond x9.1
              (cond (x8.1 == 0)
                (cond (x8.2.1 == 1)
                  (some (x8.2.2.1, ()))
                  (some (false, ())))
                (some (false, ())))
              (some (false, ())))
            (some (false, ())))
          (some (false, ())))
        (some (false, ())))
      (some (false, ())))
    (some (false, ()))
theorem se (jmp : Tgt → ASt → R) (x : (argTy ps).den) : run E jmp fin depth (bodyOf Try.f12) .ret (entryFrom 0 ps x) =
    Se := by kernel_rfl
end law12_awake
noncomputable def law12_awake : law12_awake.R :=
  law12_awake.Se 
noncomputable def law12_awake.sig : Sig := ⟨law12_awake.ps, law12_awake.rs, fun x => law12_awake⟩
theorem law12_awake.ok : CallOK Try.prog 12 law12_awake.sig :=
  callOK_of_lim (E := law12_awake.E) mixed tt_ok (ctxOk_cons (ctxOk_cons (ctxOk_cons (ctxOk_cons (ctxOk_cons (ctxOk_cons (ctxOk_cons ctxOk_nil same_KeyRanges.ok Try.func19 (by kernel_rfl) (by kernel_rfl)) table_FirstConflict.ok Try.func15 (by kernel_rfl) (by kernel_rfl)) table_UncoveredKeys.ok Try.func17 (by kernel_rfl) (by kernel_rfl)) table_Validate.ok Try.func13 (by kernel_rfl) (by kernel_rfl)) table_Lookup.ok Try.func18 (by kernel_rfl) (by kernel_rfl)) table_Brackets.ok Try.func21 (by kernel_rfl) (by kernel_rfl)) law12_schedule.ok Try.func25 (by kernel_rfl) (by kernel_rfl)) Try.func12 (by kernel_rfl : Try.f12.body = some (bodyOf Try.f12)) Try.ntmps12 (of_decide_eq_true (by kernel_rfl)) (of_decide_eq_true (by kernel_rfl))
    fun x y h => ((lim_eq (.code (bodyOf Try.f12) .ret) (entryFrom 0 law12_awake.ps x)).trans (law12_awake.se (lim law12_awake.E law12_awake.fin) x)).trans h
theorem law12_awake.val (x : (argTy law12_awake.ps).den) : lim law12_awake.E law12_awake.fin (.code (bodyOf Try.f12) .ret) (entryFrom 0 law12_awake.ps x) = law12_awake.sig.run x :=
  (lim_eq (.code (bodyOf Try.f12) .ret) (entryFrom 0 law12_awake.ps x)).trans (law12_awake.se (lim law12_awake.E law12_awake.fin) x)
noncomputable def law12_awake.ctxc (n : Nat) : List (Nat × Sig) := [(25, law12_schedule.sigc n), (21, table_Brackets.sigc n), (18, table_Lookup.sigc n), (13, table_Validate.sigc n), (17, table_UncoveredKeys.sigc n), (15, table_FirstConflict.sigc n), (19, same_KeyRanges.sigc n)]
noncomputable def law12_awake.sigc (n : Nat) : Sig := ⟨law12_awake.ps, law12_awake.rs, fun x => runs (withCtx law12_awake.E (law12_awake.ctxc n)) law12_awake.fin n (.code (bodyOf Try.f12) .ret) (entryFrom 0 law12_awake.ps x)⟩
theorem law12_awake.sigc_le (n : Nat) : ∀ x y, (law12_awake.sigc n).run x = some y → law12_awake.sig.run x = some y :=
  fun x y h => (law12_awake.val x).symm.trans (runs_lim (E := law12_awake.E) (c := law12_awake.ctxc n) (ctxLe_cons (ctxLe_cons (ctxLe_cons (ctxLe_cons (ctxLe_cons (ctxLe_cons (ctxLe_cons ctxLe_nil (same_KeyRanges.sigc_le n)) (table_FirstConflict.sigc_le n)) (table_UncoveredKeys.sigc_le n)) (table_Validate.sigc_le n)) (table_Lookup.sigc_le n)) (table_Brackets.sigc_le n)) (law12_schedule.sigc_le n)) h)
namespace ref05_Valid
abbrev ps : List PM := [.pure api_Type]
abbrev rs : List RM := [.pure .bool]
abbrev R : Type := Option (Bool × Unit)
noncomputable def E : Env := { tt := tt, ctx := [], nt := 18, ann := [] }
noncomputable def fin : ASt → R := Kret E Try.f65.results.toList ps rs
noncomputable def Se (r_0 : api_TypeV) : R :=
  cond (decide (r_0.1 ≥ 0))
    (cond (decide (r_0.1 ≤ r_0.2.1))
      (some (decide (r_0.2.1 ≤ 109573), ()))
      (some (false, ())))
    (some (false, ()))
theorem se (jmp : Tgt → ASt → R) (x : (argTy ps).den) : run E jmp fin depth (bodyOf Try.f65) .ret (entryFrom 0 ps x) =
    Se x.1 := by kernel_rfl
end ref05_Valid
noncomputable def ref05_Valid (r_0 : api_TypeV) : ref05_Valid.R :=
  ref05_Valid.Se r_0
noncomputable def ref05_Valid.sig : Sig := ⟨ref05_Valid.ps, ref05_Valid.rs, fun x => ref05_Valid x.1⟩
theorem ref05_Valid.ok : CallOK Try.prog 65 ref05_Valid.sig :=
  callOK_of_lim (E := ref05_Valid.E) mixed tt_ok ctxOk_nil Try.func65 (by kernel_rfl : Try.f65.body = some (bodyOf Try.f65)) Try.ntmps65 (of_decide_eq_true (by kernel_rfl)) (of_decide_eq_true (by kernel_rfl))
    fun x y h => ((lim_eq (.code (bodyOf Try.f65) .ret) (entryFrom 0 ref05_Valid.ps x)).trans (ref05_Valid.se (lim ref05_Valid.E ref05_Valid.fin) x)).trans h
theorem ref05_Valid.val (x : (argTy ref05_Valid.ps).den) : lim ref05_Valid.E ref05_Valid.fin (.code (bodyOf Try.f65) .ret) (entryFrom 0 ref05_Valid.ps x) = ref05_Valid.sig.run x :=
  (lim_eq (.code (bodyOf Try.f65) .ret) (entryFrom 0 ref05_Valid.ps x)).trans (ref05_Valid.se (lim ref05_Valid.E ref05_Valid.fin) x)
noncomputable def ref05_Valid.ctxc (n : Nat) : List (Nat × Sig) := []
noncomputable def ref05_Valid.sigc (n : Nat) : Sig := ⟨ref05_Valid.ps, ref05_Valid.rs, fun x => runs (withCtx ref05_Valid.E (ref05_Valid.ctxc n)) ref05_Valid.fin n (.code (bodyOf Try.f65) .ret) (entryFrom 0 ref05_Valid.ps x)⟩
theorem ref05_Valid.sigc_le (n : Nat) : ∀ x y, (ref05_Valid.sigc n).run x = some y → ref05_Valid.sig.run x = some y :=
  fun x y h => (ref05_Valid.val x).symm.trans (runs_lim (E := ref05_Valid.E) (c := ref05_Valid.ctxc n) ctxLe_nil h)
end Go.Proofs.Ytgnigfnonoicmaa
