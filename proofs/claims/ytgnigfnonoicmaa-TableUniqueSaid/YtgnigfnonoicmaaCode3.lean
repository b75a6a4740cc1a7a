import Derived.Test.YtgnigfnonoicmaaCode2
set_option maxRecDepth 100000
set_option linter.unusedVariables false
namespace Go.Proofs.Ytgnigfnonoicmaa
open Go Go.Lift
namespace slices_partitionCmpFunc_api_Row_table_UncoveredKeys_1
abbrev ps : List PM := [.own api_Row, .pure (.int .i64), .pure (.int .i64), .pure (.int .i64), .fn 41]
abbrev rs : List RM := [.pure (.int .i64), .pure .bool]
abbrev R : Type := Option (Int × Bool × List api_RowV × Unit)
noncomputable def E : Env := { tt := tt, ctx := [(41, table_UncoveredKeys_1.sig)], nt := 178, ann := [(5, [(0, .keep), (1, .keep), (4, .keep), (12, .keep), (13, .keep)]), (1000003, [(0, .keep), (1, .keep), (4, .keep), (12, .keep), (13, .keep)]), (7, [(0, .keep), (1, .keep), (4, .keep), (12, .keep), (13, .keep)]), (1000005, [(0, .keep), (1, .keep), (4, .keep), (12, .keep), (13, .keep)]), (1000013, [(0, .keep), (1, .keep), (4, .keep), (12, .keep), (13, .keep)]), (15, [(0, .keep), (1, .keep), (4, .keep), (12, .keep), (13, .keep)]), (1000013, [(0, .keep), (1, .keep), (4, .keep), (12, .keep), (13, .keep)]), (17, [(0, .keep), (1, .keep), (4, .keep), (12, .keep), (13, .keep)]), (1000015, [(0, .keep), (1, .keep), (4, .keep), (12, .keep), (13, .keep)])] }
noncomputable def c0 : Code := sub [1, 1, 1, 1] (bodyOf Try.f88)
noncomputable def c1 : Code := sub [1, 1, 1, 1, 1] (bodyOf Try.f88)
noncomputable def c2 : Code := sub [1, 1, 1, 1, 1, 1, 1, 1, 1, 1] (bodyOf Try.f88)
noncomputable def c3 : Code := sub [1, 1, 1, 1, 1, 1, 1, 1, 1, 0, 0, 0] (bodyOf Try.f88)
noncomputable def c4 : Code := sub [1, 1, 1, 1, 1, 1, 1, 1, 1, 0, 0, 0, 0, 1] (bodyOf Try.f88)
noncomputable def c5 : Code := sub [1, 1, 1, 1, 1, 1, 1, 1, 1, 0, 0, 0, 0, 1, 1] (bodyOf Try.f88)
noncomputable def c6 : Code := sub [1, 1, 1, 0, 0, 0] (bodyOf Try.f88)
noncomputable def c7 : Code := sub [1, 1, 1, 1, 0, 0, 0] (bodyOf Try.f88)
noncomputable def c8 : Code := sub [1, 1, 1, 1, 1, 1, 1, 1, 1, 0, 0, 0, 0, 0, 0, 0] (bodyOf Try.f88)
noncomputable def c9 : Code := sub [1, 1, 1, 1, 1, 1, 1, 1, 1, 0, 0, 0, 0, 1, 0, 0, 0] (bodyOf Try.f88)
noncomputable def K4 : Kont := .seq c0 .ret
noncomputable def K5 : Kont := .blk 0 K4
noncomputable def K10 : Kont := .seq c1 .ret
noncomputable def K11 : Kont := .blk 2 K10
noncomputable def K23 : Kont := .seq c2 .ret
noncomputable def K24 : Kont := .blk 4 K23
noncomputable def K25 : Kont := .loop c3 K24
noncomputable def K26 : Kont := .blk 5 K25
noncomputable def K27 : Kont := .seq c4 K26
noncomputable def K28 : Kont := .blk 6 K27
noncomputable def K33 : Kont := .seq c5 K26
noncomputable def K34 : Kont := .blk 8 K33
noncomputable def fin : ASt → R := Kret E Try.f88.results.toList ps rs
def tJ0 (a : Int) (i : Int) (j : Int) (data_P : List api_RowV) : ASt := ⟨[(13, .one (.val (.int .i64) j)), (12, .one (.val (.int .i64) i)), (4, .one (.fn 41 [])), (1, .one (.val (.int .i64) a)), (0, .one (.own 10000))], [(10000, some ⟨.fixed, api_Row, data_P⟩)]⟩
def tL1 (a : Int) (i : Int) (j : Int) (data_P : List api_RowV) : ASt := ⟨[(13, .one (.val (.int .i64) j)), (12, .one (.val (.int .i64) i)), (4, .one (.fn 41 [])), (1, .one (.val (.int .i64) a)), (0, .one (.own 10000))], [(10000, some ⟨.fixed, api_Row, data_P⟩)]⟩
def tJ2 (a : Int) (i : Int) (j : Int) (data_P : List api_RowV) : ASt := ⟨[(13, .one (.val (.int .i64) j)), (12, .one (.val (.int .i64) i)), (4, .one (.fn 41 [])), (1, .one (.val (.int .i64) a)), (0, .one (.own 10000))], [(10000, some ⟨.fixed, api_Row, data_P⟩)]⟩
def tL3 (a : Int) (i : Int) (j : Int) (data_P : List api_RowV) : ASt := ⟨[(13, .one (.val (.int .i64) j)), (12, .one (.val (.int .i64) i)), (4, .one (.fn 41 [])), (1, .one (.val (.int .i64) a)), (0, .one (.own 10000))], [(10000, some ⟨.fixed, api_Row, data_P⟩)]⟩
def tL4 (a : Int) (i : Int) (j : Int) (data_P : List api_RowV) : ASt := ⟨[(13, .one (.val (.int .i64) j)), (12, .one (.val (.int .i64) i)), (4, .one (.fn 41 [])), (1, .one (.val (.int .i64) a)), (0, .one (.own 10000))], [(10000, some ⟨.fixed, api_Row, data_P⟩)]⟩
def tJ5 (a : Int) (i : Int) (j : Int) (data_P : List api_RowV) : ASt := ⟨[(13, .one (.val (.int .i64) j)), (12, .one (.val (.int .i64) i)), (4, .one (.fn 41 [])), (1, .one (.val (.int .i64) a)), (0, .one (.own 10000))], [(10000, some ⟨.fixed, api_Row, data_P⟩)]⟩
def tL6 (a : Int) (i : Int) (j : Int) (data_P : List api_RowV) : ASt := ⟨[(13, .one (.val (.int .i64) j)), (12, .one (.val (.int .i64) i)), (4, .one (.fn 41 [])), (1, .one (.val (.int .i64) a)), (0, .one (.own 10000))], [(10000, some ⟨.fixed, api_Row, data_P⟩)]⟩
def tJ7 (a : Int) (i : Int) (j : Int) (data_P : List api_RowV) : ASt := ⟨[(13, .one (.val (.int .i64) j)), (12, .one (.val (.int .i64) i)), (4, .one (.fn 41 [])), (1, .one (.val (.int .i64) a)), (0, .one (.own 10000))], [(10000, some ⟨.fixed, api_Row, data_P⟩)]⟩
def tL8 (a : Int) (i : Int) (j : Int) (data_P : List api_RowV) : ASt := ⟨[(13, .one (.val (.int .i64) j)), (12, .one (.val (.int .i64) i)), (4, .one (.fn 41 [])), (1, .one (.val (.int .i64) a)), (0, .one (.own 10000))], [(10000, some ⟨.fixed, api_Row, data_P⟩)]⟩
noncomputable def SJ0 (kL3 : Int → Int → Int → (List api_RowV) → R) (a : Int) (i : Int) (j : Int) (data_P : List api_RowV) : R :=
  kL3 a i j data_P
noncomputable def SL1 (kL1 : Int → Int → Int → (List api_RowV) → R) (kJ0 : Int → Int → Int → (List api_RowV) → R) (a : Int) (i : Int) (j : Int) (data_P : List api_RowV) : R :=
  cond (decide (i ≤ j))
    (cond (decide (0 ≤ i) && decide (i < (data_P.length : Int)))
      (cond (decide (0 ≤ a) && decide (a < (data_P.length : Int)))
        (Option.bind (table_UncoveredKeys_1 (data_P.getD i.toNat ((0, 0, ()), 0, 0, 0, ())) (data_P.getD a.toNat ((0, 0, ()), 0, 0, 0, ()))) fun x1 =>
        cond (decide (x1.1 < 0))
          (kL1 a (IntKind.i64.wrap (i + 1)) j data_P)
          (kJ0 a i j data_P))
        none)
      none)
    (kJ0 a i j data_P)
noncomputable def SJ2 (kL4 : Int → Int → Int → (List api_RowV) → R) (a : Int) (i : Int) (j : Int) (data_P : List api_RowV) : R :=
  cond (decide (i > j))
    (cond (decide (0 ≤ a) && decide (a < (data_P.length : Int)))
      (cond (decide (0 ≤ j) && decide (j < (data_P.length : Int)))
        (cond (decide (0 ≤ j) && decide (j < (data_P.length : Int)))
          (cond (decide (0 ≤ a) && decide (a < ((data_P.set j.toNat (data_P.getD a.toNat ((0, 0, ()), 0, 0, 0, ()))).length : Int)))
            (some (j, true, ((data_P.set j.toNat (data_P.getD a.toNat ((0, 0, ()), 0, 0, 0, ()))).set a.toNat (data_P.getD j.toNat ((0, 0, ()), 0, 0, 0, ()))), ()))
            none)
          none)
        none)
      none)
    (cond (decide (0 ≤ j) && decide (j < (data_P.length : Int)))
      (cond (decide (0 ≤ i) && decide (i < (data_P.length : Int)))
        (cond (decide (0 ≤ i) && decide (i < (data_P.length : Int)))
          (cond (decide (0 ≤ j) && decide (j < ((data_P.set i.toNat (data_P.getD j.toNat ((0, 0, ()), 0, 0, 0, ()))).length : Int)))
            (kL4 a (IntKind.i64.wrap (i + 1)) (IntKind.i64.wrap (j - 1)) ((data_P.set i.toNat (data_P.getD j.toNat ((0, 0, ()), 0, 0, 0, ()))).set j.toNat (data_P.getD i.toNat ((0, 0, ()), 0, 0, 0, ()))))
            none)
          none)
        none)
      none)
noncomputable def SL3 (kL3 : Int → Int → Int → (List api_RowV) → R) (kJ2 : Int → Int → Int → (List api_RowV) → R) (a : Int) (i : Int) (j : Int) (data_P : List api_RowV) : R :=
  cond (decide (i ≤ j))
    (cond (decide (0 ≤ j) && decide (j < (data_P.length : Int)))
      (cond (decide (0 ≤ a) && decide (a < (data_P.length : Int)))
        (Option.bind (table_UncoveredKeys_1 (data_P.getD j.toNat ((0, 0, ()), 0, 0, 0, ())) (data_P.getD a.toNat ((0, 0, ()), 0, 0, 0, ()))) fun x1 =>
        cond (!(decide (x1.1 < 0)))
          (kL3 a i (IntKind.i64.wrap (j - 1)) data_P)
          (kJ2 a i j data_P))
        none)
      none)
    (kJ2 a i j data_P)
noncomputable def SL4 (kL6 : Int → Int → Int → (List api_RowV) → R) (a : Int) (i : Int) (j : Int) (data_P : List api_RowV) : R :=
  kL6 a i j data_P
noncomputable def SJ5 (kL8 : Int → Int → Int → (List api_RowV) → R) (a : Int) (i : Int) (j : Int) (data_P : List api_RowV) : R :=
  kL8 a i j data_P
noncomputable def SL6 (kL6 : Int → Int → Int → (List api_RowV) → R) (kJ5 : Int → Int → Int → (List api_RowV) → R) (a : Int) (i : Int) (j : Int) (data_P : List api_RowV) : R :=
  cond (decide (i ≤ j))
    (cond (decide (0 ≤ i) && decide (i < (data_P.length : Int)))
      (cond (decide (0 ≤ a) && decide (a < (data_P.length : Int)))
        (Option.bind (table_UncoveredKeys_1 (data_P.getD i.toNat ((0, 0, ()), 0, 0, 0, ())) (data_P.getD a.toNat ((0, 0, ()), 0, 0, 0, ()))) fun x1 =>
        cond (decide (x1.1 < 0))
          (kL6 a (IntKind.i64.wrap (i + 1)) j data_P)
          (kJ5 a i j data_P))
        none)
      none)
    (kJ5 a i j data_P)
noncomputable def SJ7 (kL4 : Int → Int → Int → (List api_RowV) → R) (a : Int) (i : Int) (j : Int) (data_P : List api_RowV) : R :=
  cond (decide (i > j))
    (cond (decide (0 ≤ a) && decide (a < (data_P.length : Int)))
      (cond (decide (0 ≤ j) && decide (j < (data_P.length : Int)))
        (cond (decide (0 ≤ j) && decide (j < (data_P.length : Int)))
          (cond (decide (0 ≤ a) && decide (a < ((data_P.set j.toNat (data_P.getD a.toNat ((0, 0, ()), 0, 0, 0, ()))).length : Int)))
            (some (j, false, ((data_P.set j.toNat (data_P.getD a.toNat ((0, 0, ()), 0, 0, 0, ()))).set a.toNat (data_P.getD j.toNat ((0, 0, ()), 0, 0, 0, ()))), ()))
            none)
          none)
        none)
      none)
    (cond (decide (0 ≤ j) && decide (j < (data_P.length : Int)))
      (cond (decide (0 ≤ i) && decide (i < (data_P.length : Int)))
        (cond (decide (0 ≤ i) && decide (i < (data_P.length : Int)))
          (cond (decide (0 ≤ j) && decide (j < ((data_P.set i.toNat (data_P.getD j.toNat ((0, 0, ()), 0, 0, 0, ()))).length : Int)))
            (kL4 a (IntKind.i64.wrap (i + 1)) (IntKind.i64.wrap (j - 1)) ((data_P.set i.toNat (data_P.getD j.toNat ((0, 0, ()), 0, 0, 0, ()))).set j.toNat (data_P.getD i.toNat ((0, 0, ()), 0, 0, 0, ()))))
            none)
          none)
        none)
      none)
noncomputable def SL8 (kL8 : Int → Int → Int → (List api_RowV) → R) (kJ7 : Int → Int → Int → (List api_RowV) → R) (a : Int) (i : Int) (j : Int) (data_P : List api_RowV) : R :=
  cond (decide (i ≤ j))
    (cond (decide (0 ≤ j) && decide (j < (data_P.length : Int)))
      (cond (decide (0 ≤ a) && decide (a < (data_P.length : Int)))
        (Option.bind (table_UncoveredKeys_1 (data_P.getD j.toNat ((0, 0, ()), 0, 0, 0, ())) (data_P.getD a.toNat ((0, 0, ()), 0, 0, 0, ()))) fun x1 =>
        cond (!(decide (x1.1 < 0)))
          (kL8 a i (IntKind.i64.wrap (j - 1)) data_P)
          (kJ7 a i j data_P))
        none)
      none)
    (kJ7 a i j data_P)
noncomputable def Se (kL1 : Int → Int → Int → (List api_RowV) → R) (data : List api_RowV) (a : Int) (b : Int) (pivot : Int) : R :=
  cond (decide (0 ≤ pivot) && decide (pivot < (data.length : Int)))
    (cond (decide (0 ≤ a) && decide (a < (data.length : Int)))
      (cond (decide (0 ≤ a) && decide (a < (data.length : Int)))
        (cond (decide (0 ≤ pivot) && decide (pivot < ((data.set a.toNat (data.getD pivot.toNat ((0, 0, ()), 0, 0, 0, ()))).length : Int)))
          (kL1 a (IntKind.i64.wrap (a + 1)) (IntKind.i64.wrap (b - 1)) ((data.set a.toNat (data.getD pivot.toNat ((0, 0, ()), 0, 0, 0, ()))).set pivot.toNat (data.getD a.toNat ((0, 0, ()), 0, 0, 0, ()))))
          none)
        none)
      none)
    none
theorem sJ0 (jmp : Tgt → ASt → R) (a : Int) (i : Int) (j : Int) (data_P : List api_RowV) : run E jmp fin depth c0 .ret (tJ0 a i j data_P) =
    SJ0 (fun a i j data_P => jmp (.loop c7 K11) (tL3 a i j data_P)) a i j data_P := by kernel_rfl
theorem sL1 (jmp : Tgt → ASt → R) (a : Int) (i : Int) (j : Int) (data_P : List api_RowV) : run E jmp fin depth c6 (.loop c6 K5) (tL1 a i j data_P) =
    SL1 (fun a i j data_P => jmp (.loop c6 K5) (tL1 a i j data_P)) (fun a i j data_P => jmp (.code c0 .ret) (tJ0 a i j data_P)) a i j data_P := by kernel_rfl
theorem sJ2 (jmp : Tgt → ASt → R) (a : Int) (i : Int) (j : Int) (data_P : List api_RowV) : run E jmp fin depth c1 .ret (tJ2 a i j data_P) =
    SJ2 (fun a i j data_P => jmp (.loop c3 K24) (tL4 a i j data_P)) a i j data_P := by kernel_rfl
theorem sL3 (jmp : Tgt → ASt → R) (a : Int) (i : Int) (j : Int) (data_P : List api_RowV) : run E jmp fin depth c7 (.loop c7 K11) (tL3 a i j data_P) =
    SL3 (fun a i j data_P => jmp (.loop c7 K11) (tL3 a i j data_P)) (fun a i j data_P => jmp (.code c1 .ret) (tJ2 a i j data_P)) a i j data_P := by kernel_rfl
theorem sL4 (jmp : Tgt → ASt → R) (a : Int) (i : Int) (j : Int) (data_P : List api_RowV) : run E jmp fin depth c3 (.loop c3 K24) (tL4 a i j data_P) =
    SL4 (fun a i j data_P => jmp (.loop c8 K28) (tL6 a i j data_P)) a i j data_P := by kernel_rfl
theorem sJ5 (jmp : Tgt → ASt → R) (a : Int) (i : Int) (j : Int) (data_P : List api_RowV) : run E jmp fin depth c4 K26 (tJ5 a i j data_P) =
    SJ5 (fun a i j data_P => jmp (.loop c9 K34) (tL8 a i j data_P)) a i j data_P := by kernel_rfl
theorem sL6 (jmp : Tgt → ASt → R) (a : Int) (i : Int) (j : Int) (data_P : List api_RowV) : run E jmp fin depth c8 (.loop c8 K28) (tL6 a i j data_P) =
    SL6 (fun a i j data_P => jmp (.loop c8 K28) (tL6 a i j data_P)) (fun a i j data_P => jmp (.code c4 K26) (tJ5 a i j data_P)) a i j data_P := by kernel_rfl
theorem sJ7 (jmp : Tgt → ASt → R) (a : Int) (i : Int) (j : Int) (data_P : List api_RowV) : run E jmp fin depth c5 K26 (tJ7 a i j data_P) =
    SJ7 (fun a i j data_P => jmp (.loop c3 K24) (tL4 a i j data_P)) a i j data_P := by kernel_rfl
theorem sL8 (jmp : Tgt → ASt → R) (a : Int) (i : Int) (j : Int) (data_P : List api_RowV) : run E jmp fin depth c9 (.loop c9 K34) (tL8 a i j data_P) =
    SL8 (fun a i j data_P => jmp (.loop c9 K34) (tL8 a i j data_P)) (fun a i j data_P => jmp (.code c5 K26) (tJ7 a i j data_P)) a i j data_P := by kernel_rfl
theorem se (jmp : Tgt → ASt → R) (x : (argTy ps).den) : run E jmp fin depth (bodyOf Try.f88) .ret (entryFrom 0 ps x) =
    Se (fun a i j data_P => jmp (.loop c6 K5) (tL1 a i j data_P)) x.1 x.2.1 x.2.2.1 x.2.2.2.1 := by kernel_rfl
noncomputable def J0 (a : Int) (i : Int) (j : Int) (data_P : List api_RowV) : R := lim E fin (.code c0 .ret) (tJ0 a i j data_P)
noncomputable def L1 (a : Int) (i : Int) (j : Int) (data_P : List api_RowV) : R := lim E fin (.loop c6 K5) (tL1 a i j data_P)
noncomputable def J2 (a : Int) (i : Int) (j : Int) (data_P : List api_RowV) : R := lim E fin (.code c1 .ret) (tJ2 a i j data_P)
noncomputable def L3 (a : Int) (i : Int) (j : Int) (data_P : List api_RowV) : R := lim E fin (.loop c7 K11) (tL3 a i j data_P)
noncomputable def L4 (a : Int) (i : Int) (j : Int) (data_P : List api_RowV) : R := lim E fin (.loop c3 K24) (tL4 a i j data_P)
noncomputable def J5 (a : Int) (i : Int) (j : Int) (data_P : List api_RowV) : R := lim E fin (.code c4 K26) (tJ5 a i j data_P)
noncomputable def L6 (a : Int) (i : Int) (j : Int) (data_P : List api_RowV) : R := lim E fin (.loop c8 K28) (tL6 a i j data_P)
noncomputable def J7 (a : Int) (i : Int) (j : Int) (data_P : List api_RowV) : R := lim E fin (.code c5 K26) (tJ7 a i j data_P)
noncomputable def L8 (a : Int) (i : Int) (j : Int) (data_P : List api_RowV) : R := lim E fin (.loop c9 K34) (tL8 a i j data_P)
theorem J0_eq (a : Int) (i : Int) (j : Int) (data_P : List api_RowV) : J0 a i j data_P = SJ0 L3 a i j data_P :=
  (lim_eq (.code c0 .ret) (tJ0 a i j data_P)).trans (sJ0 (lim E fin) a i j data_P)
theorem L1_eq (a : Int) (i : Int) (j : Int) (data_P : List api_RowV) : L1 a i j data_P = SL1 L1 J0 a i j data_P :=
  (lim_eq (.loop c6 K5) (tL1 a i j data_P)).trans (sL1 (lim E fin) a i j data_P)
theorem J2_eq (a : Int) (i : Int) (j : Int) (data_P : List api_RowV) : J2 a i j data_P = SJ2 L4 a i j data_P :=
  (lim_eq (.code c1 .ret) (tJ2 a i j data_P)).trans (sJ2 (lim E fin) a i j data_P)
theorem L3_eq (a : Int) (i : Int) (j : Int) (data_P : List api_RowV) : L3 a i j data_P = SL3 L3 J2 a i j data_P :=
  (lim_eq (.loop c7 K11) (tL3 a i j data_P)).trans (sL3 (lim E fin) a i j data_P)
theorem L4_eq (a : Int) (i : Int) (j : Int) (data_P : List api_RowV) : L4 a i j data_P = SL4 L6 a i j data_P :=
  (lim_eq (.loop c3 K24) (tL4 a i j data_P)).trans (sL4 (lim E fin) a i j data_P)
theorem J5_eq (a : Int) (i : Int) (j : Int) (data_P : List api_RowV) : J5 a i j data_P = SJ5 L8 a i j data_P :=
  (lim_eq (.code c4 K26) (tJ5 a i j data_P)).trans (sJ5 (lim E fin) a i j data_P)
theorem L6_eq (a : Int) (i : Int) (j : Int) (data_P : List api_RowV) : L6 a i j data_P = SL6 L6 J5 a i j data_P :=
  (lim_eq (.loop c8 K28) (tL6 a i j data_P)).trans (sL6 (lim E fin) a i j data_P)
theorem J7_eq (a : Int) (i : Int) (j : Int) (data_P : List api_RowV) : J7 a i j data_P = SJ7 L4 a i j data_P :=
  (lim_eq (.code c5 K26) (tJ7 a i j data_P)).trans (sJ7 (lim E fin) a i j data_P)
theorem L8_eq (a : Int) (i : Int) (j : Int) (data_P : List api_RowV) : L8 a i j data_P = SL8 L8 J7 a i j data_P :=
  (lim_eq (.loop c9 K34) (tL8 a i j data_P)).trans (sL8 (lim E fin) a i j data_P)
end slices_partitionCmpFunc_api_Row_table_UncoveredKeys_1
noncomputable def slices_partitionCmpFunc_api_Row_table_UncoveredKeys_1 (data : List api_RowV) (a : Int) (b : Int) (pivot : Int) : slices_partitionCmpFunc_api_Row_table_UncoveredKeys_1.R :=
  slices_partitionCmpFunc_api_Row_table_UncoveredKeys_1.Se slices_partitionCmpFunc_api_Row_table_UncoveredKeys_1.L1 data a b pivot
noncomputable def slices_partitionCmpFunc_api_Row_table_UncoveredKeys_1.sig : Sig := ⟨slices_partitionCmpFunc_api_Row_table_UncoveredKeys_1.ps, slices_partitionCmpFunc_api_Row_table_UncoveredKeys_1.rs, fun x => slices_partitionCmpFunc_api_Row_table_UncoveredKeys_1 x.1 x.2.1 x.2.2.1 x.2.2.2.1⟩
theorem slices_partitionCmpFunc_api_Row_table_UncoveredKeys_1.ok : CallOK Try.prog 88 slices_partitionCmpFunc_api_Row_table_UncoveredKeys_1.sig :=
  callOK_of_lim (E := slices_partitionCmpFunc_api_Row_table_UncoveredKeys_1.E) mixed tt_ok (ctxOk_cons ctxOk_nil table_UncoveredKeys_1.ok Try.func41 (by kernel_rfl) (by kernel_rfl)) Try.func88 (by kernel_rfl : Try.f88.body = some (bodyOf Try.f88)) Try.ntmps88 (of_decide_eq_true (by kernel_rfl)) (of_decide_eq_true (by kernel_rfl))
    fun x y h => ((lim_eq (.code (bodyOf Try.f88) .ret) (entryFrom 0 slices_partitionCmpFunc_api_Row_table_UncoveredKeys_1.ps x)).trans (slices_partitionCmpFunc_api_Row_table_UncoveredKeys_1.se (lim slices_partitionCmpFunc_api_Row_table_UncoveredKeys_1.E slices_partitionCmpFunc_api_Row_table_UncoveredKeys_1.fin) x)).trans h
theorem slices_partitionCmpFunc_api_Row_table_UncoveredKeys_1.val (x : (argTy slices_partitionCmpFunc_api_Row_table_UncoveredKeys_1.ps).den) : lim slices_partitionCmpFunc_api_Row_table_UncoveredKeys_1.E slices_partitionCmpFunc_api_Row_table_UncoveredKeys_1.fin (.code (bodyOf Try.f88) .ret) (entryFrom 0 slices_partitionCmpFunc_api_Row_table_UncoveredKeys_1.ps x) = slices_partitionCmpFunc_api_Row_table_UncoveredKeys_1.sig.run x :=
  (lim_eq (.code (bodyOf Try.f88) .ret) (entryFrom 0 slices_partitionCmpFunc_api_Row_table_UncoveredKeys_1.ps x)).trans (slices_partitionCmpFunc_api_Row_table_UncoveredKeys_1.se (lim slices_partitionCmpFunc_api_Row_table_UncoveredKeys_1.E slices_partitionCmpFunc_api_Row_table_UncoveredKeys_1.fin) x)
noncomputable def slices_partitionCmpFunc_api_Row_table_UncoveredKeys_1.ctxc (n : Nat) : List (Nat × Sig) := [(41, table_UncoveredKeys_1.sigc n)]
noncomputable def slices_partitionCmpFunc_api_Row_table_UncoveredKeys_1.sigc (n : Nat) : Sig := ⟨slices_partitionCmpFunc_api_Row_table_UncoveredKeys_1.ps, slices_partitionCmpFunc_api_Row_table_UncoveredKeys_1.rs, fun x => runs (withCtx slices_partitionCmpFunc_api_Row_table_UncoveredKeys_1.E (slices_partitionCmpFunc_api_Row_table_UncoveredKeys_1.ctxc n)) slices_partitionCmpFunc_api_Row_table_UncoveredKeys_1.fin n (.code (bodyOf Try.f88) .ret) (entryFrom 0 slices_partitionCmpFunc_api_Row_table_UncoveredKeys_1.ps x)⟩
theorem slices_partitionCmpFunc_api_Row_table_UncoveredKeys_1.sigc_le (n : Nat) : ∀ x y, (slices_partitionCmpFunc_api_Row_table_UncoveredKeys_1.sigc n).run x = some y → slices_partitionCmpFunc_api_Row_table_UncoveredKeys_1.sig.run x = some y :=
  fun x y h => (slices_partitionCmpFunc_api_Row_table_UncoveredKeys_1.val x).symm.trans (runs_lim (E := slices_partitionCmpFunc_api_Row_table_UncoveredKeys_1.E) (c := slices_partitionCmpFunc_api_Row_table_UncoveredKeys_1.ctxc n) (ctxLe_cons ctxLe_nil (table_UncoveredKeys_1.sigc_le n)) h)
namespace slices_pdqsortCmpFunc_api_Row_table_UncoveredKeys_1
abbrev ps : List PM := [.own api_Row, .pure (.int .i64), .pure (.int .i64), .pure (.int .i64), .fn 41]
abbrev rs : List RM := []
abbrev R : Type := Option (List api_RowV × Unit)
noncomputable def E0 : Env := { tt := tt, ctx := [], nt := 148, ann := [(1000002, [(0, .keep), (1, .keep), (2, .keep), (3, .keep), (4, .keep), (10, .keep), (11, .keep)]), (10, [(0, .keep), (1, .keep), (2, .keep), (3, .keep), (4, .keep), (10, .keep), (11, .keep), (12, .keep)]), (15, [(0, .keep), (1, .keep), (2, .keep), (3, .keep), (4, .keep), (10, .keep), (11, .keep), (12, .keep), (13, .keep), (14, .keep)]), (17, [(0, .keep), (1, .keep), (2, .keep), (3, .keep), (4, .keep), (10, .keep), (11, .keep), (12, .keep), (13, .keep)]), (18, [(0, .keep), (1, .keep), (2, .keep), (3, .keep), (4, .keep), (10, .keep), (11, .keep), (12, .keep), (13, .keep), (97, .keep)])] }
noncomputable def ctx0 : List (Nat × Sig) := [(81, slices_insertionSortCmpFunc_api_Row_table_UncoveredKeys_1.sig), (82, slices_heapSortCmpFunc_api_Row_table_UncoveredKeys_1.sig), (83, slices_breakPatternsCmpFunc_api_Row_table_UncoveredKeys_1.sig), (84, slices_choosePivotCmpFunc_api_Row_table_UncoveredKeys_1.sig), (85, slices_reverseRangeCmpFunc_api_Row_table_UncoveredKeys_1.sig), (86, slices_partialInsertionSortCmpFunc_api_Row_table_UncoveredKeys_1.sig), (41, table_UncoveredKeys_1.sig), (87, slices_partitionEqualCmpFunc_api_Row_table_UncoveredKeys_1.sig), (88, slices_partitionCmpFunc_api_Row_table_UncoveredKeys_1.sig)]
noncomputable def E (self : (List api_RowV) → Int → Int → Int → R) : Env := withCtx E0 ((68, ⟨ps, rs, fun x => self x.1 x.2.1 x.2.2.1 x.2.2.2.1⟩) :: ctx0)
noncomputable def c0 : Code := sub [1, 1, 0, 0] (bodyOf Try.f68)
noncomputable def c1 : Code := sub [1, 1, 0, 0, 0, 1, 1, 1, 1, 1, 1, 1, 1] (bodyOf Try.f68)
noncomputable def c2 : Code := sub [1, 1, 0, 0, 0, 1, 1, 1, 1] (bodyOf Try.f68)
noncomputable def c3 : Code := sub [1, 1, 0, 0, 0, 1, 1, 1, 1, 1, 1] (bodyOf Try.f68)
noncomputable def c4 : Code := sub [1, 1, 0, 0, 0, 1, 1, 1, 1, 1, 1, 1] (bodyOf Try.f68)
noncomputable def c5 : Code := sub [1, 1, 0, 0, 0, 1, 1, 1, 1, 1, 1, 1, 0, 1] (bodyOf Try.f68)
noncomputable def K3 : Kont := .blk 0 .ret
noncomputable def K4 : Kont := .loop c0 K3
noncomputable def K5 : Kont := .blk 1 K4
noncomputable def K24 : Kont := .seq c1 K5
noncomputable def fin : ASt → R := Kret E0 Try.f68.results.toList ps rs
def tL0 (a : Int) (b : Int) (limit : Int) (wasBalanced : Bool) (wasPartitioned : Bool) (data_P : List api_RowV) : ASt := ⟨[(11, .one (.val .bool wasPartitioned)), (10, .one (.val .bool wasBalanced)), (4, .one (.fn 41 [])), (3, .one (.val (.int .i64) limit)), (2, .one (.val (.int .i64) b)), (1, .one (.val (.int .i64) a)), (0, .one (.own 10000))], [(10000, some ⟨.fixed, api_Row, data_P⟩)]⟩
def tJ1 (a : Int) (b : Int) (limit : Int) (wasBalanced : Bool) (wasPartitioned : Bool) (length_12 : Int) (data_P : List api_RowV) : ASt := ⟨[(12, .one (.val (.int .i64) length_12)), (11, .one (.val .bool wasPartitioned)), (10, .one (.val .bool wasBalanced)), (4, .one (.fn 41 [])), (3, .one (.val (.int .i64) limit)), (2, .one (.val (.int .i64) b)), (1, .one (.val (.int .i64) a)), (0, .one (.own 10000))], [(10000, some ⟨.fixed, api_Row, data_P⟩)]⟩
def tJ2 (a : Int) (b : Int) (limit : Int) (wasBalanced : Bool) (wasPartitioned : Bool) (length_12 : Int) (pivot : Int) (hint : Int) (data_P : List api_RowV) : ASt := ⟨[(14, .one (.val (.int .i64) hint)), (13, .one (.val (.int .i64) pivot)), (12, .one (.val (.int .i64) length_12)), (11, .one (.val .bool wasPartitioned)), (10, .one (.val .bool wasBalanced)), (4, .one (.fn 41 [])), (3, .one (.val (.int .i64) limit)), (2, .one (.val (.int .i64) b)), (1, .one (.val (.int .i64) a)), (0, .one (.own 10000))], [(10000, some ⟨.fixed, api_Row, data_P⟩)]⟩
def tJ3 (a : Int) (b : Int) (limit : Int) (wasBalanced : Bool) (wasPartitioned : Bool) (length_12 : Int) (pivot : Int) (data_P : List api_RowV) : ASt := ⟨[(13, .one (.val (.int .i64) pivot)), (12, .one (.val (.int .i64) length_12)), (11, .one (.val .bool wasPartitioned)), (10, .one (.val .bool wasBalanced)), (4, .one (.fn 41 [])), (3, .one (.val (.int .i64) limit)), (2, .one (.val (.int .i64) b)), (1, .one (.val (.int .i64) a)), (0, .one (.own 10000))], [(10000, some ⟨.fixed, api_Row, data_P⟩)]⟩
def tJ4 (a : Int) (b : Int) (limit : Int) (wasBalanced : Bool) (wasPartitioned : Bool) (length_12 : Int) (pivot : Int) (v_97 : Bool) (data_P : List api_RowV) : ASt := ⟨[(97, .one (.val .bool v_97)), (13, .one (.val (.int .i64) pivot)), (12, .one (.val (.int .i64) length_12)), (11, .one (.val .bool wasPartitioned)), (10, .one (.val .bool wasBalanced)), (4, .one (.fn 41 [])), (3, .one (.val (.int .i64) limit)), (2, .one (.val (.int .i64) b)), (1, .one (.val (.int .i64) a)), (0, .one (.own 10000))], [(10000, some ⟨.fixed, api_Row, data_P⟩)]⟩
noncomputable def SL0 (self : (List api_RowV) → Int → Int → Int → R) (kJ1 : Int → Int → Int → Bool → Bool → Int → (List api_RowV) → R) (a : Int) (b : Int) (limit : Int) (wasBalanced : Bool) (wasPartitioned : Bool) (data_P : List api_RowV) : R :=
  cond (decide ((IntKind.i64.wrap (b - a)) ≤ 12))
    (Option.bind (slices_insertionSortCmpFunc_api_Row_table_UncoveredKeys_1 data_P a b) fun x1 =>
    some (x1.1, ()))
    (cond (limit == 0)
      (Option.bind (slices_heapSortCmpFunc_api_Row_table_UncoveredKeys_1 data_P a b) fun x2 =>
      some (x2.1, ()))
      (cond (!wasBalanced)
        (Option.bind (slices_breakPatternsCmpFunc_api_Row_table_UncoveredKeys_1 data_P a b) fun x3 =>
        kJ1 a b (IntKind.i64.wrap (limit - 1)) wasBalanced wasPartitioned (IntKind.i64.wrap (b - a)) x3.1)
        (kJ1 a b limit wasBalanced wasPartitioned (IntKind.i64.wrap (b - a)) data_P)))
noncomputable def SJ1 (self : (List api_RowV) → Int → Int → Int → R) (kJ2 : Int → Int → Int → Bool → Bool → Int → Int → Int → (List api_RowV) → R) (a : Int) (b : Int) (limit : Int) (wasBalanced : Bool) (wasPartitioned : Bool) (length_12 : Int) (data_P : List api_RowV) : R :=
  Option.bind (slices_choosePivotCmpFunc_api_Row_table_UncoveredKeys_1 data_P a b) fun x1 =>
  cond (x1.2.1 == 2)
    (Option.bind (slices_reverseRangeCmpFunc_api_Row_table_UncoveredKeys_1 data_P a b) fun x2 =>
    kJ2 a b limit wasBalanced wasPartitioned length_12 (IntKind.i64.wrap ((IntKind.i64.wrap (b - 1)) - (IntKind.i64.wrap (x1.1 - a)))) 1 x2.1)
    (kJ2 a b limit wasBalanced wasPartitioned length_12 x1.1 x1.2.1 data_P)
noncomputable def SJ2 (self : (List api_RowV) → Int → Int → Int → R) (kJ3 : Int → Int → Int → Bool → Bool → Int → Int → (List api_RowV) → R) (a : Int) (b : Int) (limit : Int) (wasBalanced : Bool) (wasPartitioned : Bool) (length_12 : Int) (pivot : Int) (hint : Int) (data_P : List api_RowV) : R :=
  cond wasBalanced
    (cond wasPartitioned
      (cond (hint == 1)
        (Option.bind (slices_partialInsertionSortCmpFunc_api_Row_table_UncoveredKeys_1 data_P a b) fun x1 =>
        cond x1.1
          (some (x1.2.1, ()))
          (kJ3 a b limit wasBalanced wasPartitioned length_12 pivot x1.2.1))
        (kJ3 a b limit wasBalanced wasPartitioned length_12 pivot data_P))
      (kJ3 a b limit wasBalanced wasPartitioned length_12 pivot data_P))
    (kJ3 a b limit wasBalanced wasPartitioned length_12 pivot data_P)
noncomputable def SJ3 (self : (List api_RowV) → Int → Int → Int → R) (kJ4 : Int → Int → Int → Bool → Bool → Int → Int → Bool → (List api_RowV) → R) (a : Int) (b : Int) (limit : Int) (wasBalanced : Bool) (wasPartitioned : Bool) (length_12 : Int) (pivot : Int) (data_P : List api_RowV) : R :=
  cond (decide (a > 0))
    (cond (decide (0 ≤ IntKind.i64.wrap (a - 1)) && decide (IntKind.i64.wrap (a - 1) < (data_P.length : Int)))
      (cond (decide (0 ≤ pivot) && decide (pivot < (data_P.length : Int)))
        (Option.bind (table_UncoveredKeys_1 (data_P.getD ((IntKind.i64.wrap (a - 1)).toNat) ((0, 0, ()), 0, 0, 0, ())) (data_P.getD pivot.toNat ((0, 0, ()), 0, 0, 0, ()))) fun x1 =>
        kJ4 a b limit wasBalanced wasPartitioned length_12 pivot (!(decide (x1.1 < 0))) data_P)
        none)
      none)
    (kJ4 a b limit wasBalanced wasPartitioned length_12 pivot false data_P)
noncomputable def SJ4 (self : (List api_RowV) → Int → Int → Int → R) (kL0 : Int → Int → Int → Bool → Bool → (List api_RowV) → R) (a : Int) (b : Int) (limit : Int) (wasBalanced : Bool) (wasPartitioned : Bool) (length_12 : Int) (pivot : Int) (v_97 : Bool) (data_P : List api_RowV) : R :=
  cond v_97
    (Option.bind (slices_partitionEqualCmpFunc_api_Row_table_UncoveredKeys_1 data_P a b pivot) fun x1 =>
    kL0 x1.1 b limit wasBalanced wasPartitioned x1.2.1)
    (Option.bind (slices_partitionCmpFunc_api_Row_table_UncoveredKeys_1 data_P a b pivot) fun x2 =>
    cond (decide ((IntKind.i64.wrap (x2.1 - a)) < (IntKind.i64.wrap (b - x2.1))))
      (Option.bind (self x2.2.2.1 a x2.1 limit) fun x3 =>
      kL0 (IntKind.i64.wrap (x2.1 + 1)) b limit (decide ((IntKind.i64.wrap (x2.1 - a)) ≥ (IntKind.i64.wrap (Int.tdiv length_12 8)))) x2.2.1 x3.1)
      (Option.bind (self x2.2.2.1 (IntKind.i64.wrap (x2.1 + 1)) b limit) fun x4 =>
      kL0 a x2.1 limit (decide ((IntKind.i64.wrap (b - x2.1)) ≥ (IntKind.i64.wrap (Int.tdiv length_12 8)))) x2.2.1 x4.1))
noncomputable def Se (self : (List api_RowV) → Int → Int → Int → R) (kL0 : Int → Int → Int → Bool → Bool → (List api_RowV) → R) (data : List api_RowV) (a : Int) (b : Int) (limit : Int) : R :=
  kL0 a b limit true true data
theorem sL0 (self : (List api_RowV) → Int → Int → Int → R) (jmp : Tgt → ASt → R) (a : Int) (b : Int) (limit : Int) (wasBalanced : Bool) (wasPartitioned : Bool) (data_P : List api_RowV) : run (E self) jmp fin depth c0 (.loop c0 K3) (tL0 a b limit wasBalanced wasPartitioned data_P) =
    SL0 self (fun a b limit wasBalanced wasPartitioned length_12 data_P => jmp (.code c2 K5) (tJ1 a b limit wasBalanced wasPartitioned length_12 data_P)) a b limit wasBalanced wasPartitioned data_P := by kernel_rfl
theorem sJ1 (self : (List api_RowV) → Int → Int → Int → R) (jmp : Tgt → ASt → R) (a : Int) (b : Int) (limit : Int) (wasBalanced : Bool) (wasPartitioned : Bool) (length_12 : Int) (data_P : List api_RowV) : run (E self) jmp fin depth c2 K5 (tJ1 a b limit wasBalanced wasPartitioned length_12 data_P) =
    SJ1 self (fun a b limit wasBalanced wasPartitioned length_12 pivot hint data_P => jmp (.code c3 K5) (tJ2 a b limit wasBalanced wasPartitioned length_12 pivot hint data_P)) a b limit wasBalanced wasPartitioned length_12 data_P := by kernel_rfl
theorem sJ2 (self : (List api_RowV) → Int → Int → Int → R) (jmp : Tgt → ASt → R) (a : Int) (b : Int) (limit : Int) (wasBalanced : Bool) (wasPartitioned : Bool) (length_12 : Int) (pivot : Int) (hint : Int) (data_P : List api_RowV) : run (E self) jmp fin depth c3 K5 (tJ2 a b limit wasBalanced wasPartitioned length_12 pivot hint data_P) =
    SJ2 self (fun a b limit wasBalanced wasPartitioned length_12 pivot data_P => jmp (.code c4 K5) (tJ3 a b limit wasBalanced wasPartitioned length_12 pivot data_P)) a b limit wasBalanced wasPartitioned length_12 pivot hint data_P := by kernel_rfl
theorem sJ3 (self : (List api_RowV) → Int → Int → Int → R) (jmp : Tgt → ASt → R) (a : Int) (b : Int) (limit : Int) (wasBalanced : Bool) (wasPartitioned : Bool) (length_12 : Int) (pivot : Int) (data_P : List api_RowV) : run (E self) jmp fin depth c4 K5 (tJ3 a b limit wasBalanced wasPartitioned length_12 pivot data_P) =
    SJ3 self (fun a b limit wasBalanced wasPartitioned length_12 pivot v_97 data_P => jmp (.code c5 K24) (tJ4 a b limit wasBalanced wasPartitioned length_12 pivot v_97 data_P)) a b limit wasBalanced wasPartitioned length_12 pivot data_P := by kernel_rfl
theorem sJ4 (self : (List api_RowV) → Int → Int → Int → R) (jmp : Tgt → ASt → R) (a : Int) (b : Int) (limit : Int) (wasBalanced : Bool) (wasPartitioned : Bool) (length_12 : Int) (pivot : Int) (v_97 : Bool) (data_P : List api_RowV) : run (E self) jmp fin depth c5 K24 (tJ4 a b limit wasBalanced wasPartitioned length_12 pivot v_97 data_P) =
    SJ4 self (fun a b limit wasBalanced wasPartitioned data_P => jmp (.loop c0 K3) (tL0 a b limit wasBalanced wasPartitioned data_P)) a b limit wasBalanced wasPartitioned length_12 pivot v_97 data_P := by kernel_rfl
theorem se (self : (List api_RowV) → Int → Int → Int → R) (jmp : Tgt → ASt → R) (x : (argTy ps).den) : run (E self) jmp fin depth (bodyOf Try.f68) .ret (entryFrom 0 ps x) =
    Se self (fun a b limit wasBalanced wasPartitioned data_P => jmp (.loop c0 K3) (tL0 a b limit wasBalanced wasPartitioned data_P)) x.1 x.2.1 x.2.2.1 x.2.2.2.1 := by kernel_rfl
end slices_pdqsortCmpFunc_api_Row_table_UncoveredKeys_1
noncomputable def slices_pdqsortCmpFunc_api_Row_table_UncoveredKeys_1 (data : List api_RowV) (a : Int) (b : Int) (limit : Int) : slices_pdqsortCmpFunc_api_Row_table_UncoveredKeys_1.R :=
  recF slices_pdqsortCmpFunc_api_Row_table_UncoveredKeys_1.E0 slices_pdqsortCmpFunc_api_Row_table_UncoveredKeys_1.ctx0 68 slices_pdqsortCmpFunc_api_Row_table_UncoveredKeys_1.ps slices_pdqsortCmpFunc_api_Row_table_UncoveredKeys_1.rs slices_pdqsortCmpFunc_api_Row_table_UncoveredKeys_1.fin (bodyOf Try.f68) (data, a, b, limit, (), ())
namespace slices_pdqsortCmpFunc_api_Row_table_UncoveredKeys_1
noncomputable def L0 (a : Int) (b : Int) (limit : Int) (wasBalanced : Bool) (wasPartitioned : Bool) (data_P : List api_RowV) : R := lim (E slices_pdqsortCmpFunc_api_Row_table_UncoveredKeys_1) fin (.loop c0 K3) (tL0 a b limit wasBalanced wasPartitioned data_P)
noncomputable def J1 (a : Int) (b : Int) (limit : Int) (wasBalanced : Bool) (wasPartitioned : Bool) (length_12 : Int) (data_P : List api_RowV) : R := lim (E slices_pdqsortCmpFunc_api_Row_table_UncoveredKeys_1) fin (.code c2 K5) (tJ1 a b limit wasBalanced wasPartitioned length_12 data_P)
noncomputable def J2 (a : Int) (b : Int) (limit : Int) (wasBalanced : Bool) (wasPartitioned : Bool) (length_12 : Int) (pivot : Int) (hint : Int) (data_P : List api_RowV) : R := lim (E slices_pdqsortCmpFunc_api_Row_table_UncoveredKeys_1) fin (.code c3 K5) (tJ2 a b limit wasBalanced wasPartitioned length_12 pivot hint data_P)
noncomputable def J3 (a : Int) (b : Int) (limit : Int) (wasBalanced : Bool) (wasPartitioned : Bool) (length_12 : Int) (pivot : Int) (data_P : List api_RowV) : R := lim (E slices_pdqsortCmpFunc_api_Row_table_UncoveredKeys_1) fin (.code c4 K5) (tJ3 a b limit wasBalanced wasPartitioned length_12 pivot data_P)
noncomputable def J4 (a : Int) (b : Int) (limit : Int) (wasBalanced : Bool) (wasPartitioned : Bool) (length_12 : Int) (pivot : Int) (v_97 : Bool) (data_P : List api_RowV) : R := lim (E slices_pdqsortCmpFunc_api_Row_table_UncoveredKeys_1) fin (.code c5 K24) (tJ4 a b limit wasBalanced wasPartitioned length_12 pivot v_97 data_P)
theorem L0_eq (a : Int) (b : Int) (limit : Int) (wasBalanced : Bool) (wasPartitioned : Bool) (data_P : List api_RowV) : L0 a b limit wasBalanced wasPartitioned data_P = SL0 slices_pdqsortCmpFunc_api_Row_table_UncoveredKeys_1 J1 a b limit wasBalanced wasPartitioned data_P :=
  (lim_eq (.loop c0 K3) (tL0 a b limit wasBalanced wasPartitioned data_P)).trans (sL0 slices_pdqsortCmpFunc_api_Row_table_UncoveredKeys_1 (lim (E slices_pdqsortCmpFunc_api_Row_table_UncoveredKeys_1) fin) a b limit wasBalanced wasPartitioned data_P)
theorem J1_eq (a : Int) (b : Int) (limit : Int) (wasBalanced : Bool) (wasPartitioned : Bool) (length_12 : Int) (data_P : List api_RowV) : J1 a b limit wasBalanced wasPartitioned length_12 data_P = SJ1 slices_pdqsortCmpFunc_api_Row_table_UncoveredKeys_1 J2 a b limit wasBalanced wasPartitioned length_12 data_P :=
  (lim_eq (.code c2 K5) (tJ1 a b limit wasBalanced wasPartitioned length_12 data_P)).trans (sJ1 slices_pdqsortCmpFunc_api_Row_table_UncoveredKeys_1 (lim (E slices_pdqsortCmpFunc_api_Row_table_UncoveredKeys_1) fin) a b limit wasBalanced wasPartitioned length_12 data_P)
theorem J2_eq (a : Int) (b : Int) (limit : Int) (wasBalanced : Bool) (wasPartitioned : Bool) (length_12 : Int) (pivot : Int) (hint : Int) (data_P : List api_RowV) : J2 a b limit wasBalanced wasPartitioned length_12 pivot hint data_P = SJ2 slices_pdqsortCmpFunc_api_Row_table_UncoveredKeys_1 J3 a b limit wasBalanced wasPartitioned length_12 pivot hint data_P :=
  (lim_eq (.code c3 K5) (tJ2 a b limit wasBalanced wasPartitioned length_12 pivot hint data_P)).trans (sJ2 slices_pdqsortCmpFunc_api_Row_table_UncoveredKeys_1 (lim (E slices_pdqsortCmpFunc_api_Row_table_UncoveredKeys_1) fin) a b limit wasBalanced wasPartitioned length_12 pivot hint data_P)
theorem J3_eq (a : Int) (b : Int) (limit : Int) (wasBalanced : Bool) (wasPartitioned : Bool) (length_12 : Int) (pivot : Int) (data_P : List api_RowV) : J3 a b limit wasBalanced wasPartitioned length_12 pivot data_P = SJ3 slices_pdqsortCmpFunc_api_Row_table_UncoveredKeys_1 J4 a b limit wasBalanced wasPartitioned length_12 pivot data_P :=
  (lim_eq (.code c4 K5) (tJ3 a b limit wasBalanced wasPartitioned length_12 pivot data_P)).trans (sJ3 slices_pdqsortCmpFunc_api_Row_table_UncoveredKeys_1 (lim (E slices_pdqsortCmpFunc_api_Row_table_UncoveredKeys_1) fin) a b limit wasBalanced wasPartitioned length_12 pivot data_P)
theorem J4_eq (a : Int) (b : Int) (limit : Int) (wasBalanced : Bool) (wasPartitioned : Bool) (length_12 : Int) (pivot : Int) (v_97 : Bool) (data_P : List api_RowV) : J4 a b limit wasBalanced wasPartitioned length_12 pivot v_97 data_P = SJ4 slices_pdqsortCmpFunc_api_Row_table_UncoveredKeys_1 L0 a b limit wasBalanced wasPartitioned length_12 pivot v_97 data_P :=
  (lim_eq (.code c5 K24) (tJ4 a b limit wasBalanced wasPartitioned length_12 pivot v_97 data_P)).trans (sJ4 slices_pdqsortCmpFunc_api_Row_table_UncoveredKeys_1 (lim (E slices_pdqsortCmpFunc_api_Row_table_UncoveredKeys_1) fin) a b limit wasBalanced wasPartitioned length_12 pivot v_97 data_P)
theorem selfrun : (fun x : (argTy ps).den => slices_pdqsortCmpFunc_api_Row_table_UncoveredKeys_1 x.1 x.2.1 x.2.2.1 x.2.2.2.1) = recF E0 ctx0 68 ps rs fin (bodyOf Try.f68) := by kernel_rfl
end slices_pdqsortCmpFunc_api_Row_table_UncoveredKeys_1
noncomputable def slices_pdqsortCmpFunc_api_Row_table_UncoveredKeys_1.sig : Sig := ⟨slices_pdqsortCmpFunc_api_Row_table_UncoveredKeys_1.ps, slices_pdqsortCmpFunc_api_Row_table_UncoveredKeys_1.rs, fun x => slices_pdqsortCmpFunc_api_Row_table_UncoveredKeys_1 x.1 x.2.1 x.2.2.1 x.2.2.2.1⟩
theorem slices_pdqsortCmpFunc_api_Row_table_UncoveredKeys_1.val (x : (argTy slices_pdqsortCmpFunc_api_Row_table_UncoveredKeys_1.ps).den) : lim (slices_pdqsortCmpFunc_api_Row_table_UncoveredKeys_1.E slices_pdqsortCmpFunc_api_Row_table_UncoveredKeys_1) slices_pdqsortCmpFunc_api_Row_table_UncoveredKeys_1.fin (.code (bodyOf Try.f68) .ret) (entryFrom 0 slices_pdqsortCmpFunc_api_Row_table_UncoveredKeys_1.ps x) = slices_pdqsortCmpFunc_api_Row_table_UncoveredKeys_1.sig.run x := by
  have h := recF_eq (E := slices_pdqsortCmpFunc_api_Row_table_UncoveredKeys_1.E0) (ctx := slices_pdqsortCmpFunc_api_Row_table_UncoveredKeys_1.ctx0) (f := 68) (ps := slices_pdqsortCmpFunc_api_Row_table_UncoveredKeys_1.ps) (rs := slices_pdqsortCmpFunc_api_Row_table_UncoveredKeys_1.rs) (fin := slices_pdqsortCmpFunc_api_Row_table_UncoveredKeys_1.fin) (body := bodyOf Try.f68) x
  rw [← slices_pdqsortCmpFunc_api_Row_table_UncoveredKeys_1.selfrun] at h
  exact h.symm
theorem slices_pdqsortCmpFunc_api_Row_table_UncoveredKeys_1.ok : CallOK Try.prog 68 slices_pdqsortCmpFunc_api_Row_table_UncoveredKeys_1.sig := by
  have h := callOK_rec (E := slices_pdqsortCmpFunc_api_Row_table_UncoveredKeys_1.E0) (ctx := slices_pdqsortCmpFunc_api_Row_table_UncoveredKeys_1.ctx0) (f := 68) (ps := slices_pdqsortCmpFunc_api_Row_table_UncoveredKeys_1.ps) (rs := slices_pdqsortCmpFunc_api_Row_table_UncoveredKeys_1.rs) (fin := slices_pdqsortCmpFunc_api_Row_table_UncoveredKeys_1.fin) (body := bodyOf Try.f68) mixed tt_ok (ctxOk_cons (ctxOk_cons (ctxOk_cons (ctxOk_cons (ctxOk_cons (ctxOk_cons (ctxOk_cons (ctxOk_cons (ctxOk_cons ctxOk_nil slices_partitionCmpFunc_api_Row_table_UncoveredKeys_1.ok Try.func88 (by kernel_rfl) (by kernel_rfl)) slices_partitionEqualCmpFunc_api_Row_table_UncoveredKeys_1.ok Try.func87 (by kernel_rfl) (by kernel_rfl)) table_UncoveredKeys_1.ok Try.func41 (by kernel_rfl) (by kernel_rfl)) slices_partialInsertionSortCmpFunc_api_Row_table_UncoveredKeys_1.ok Try.func86 (by kernel_rfl) (by kernel_rfl)) slices_reverseRangeCmpFunc_api_Row_table_UncoveredKeys_1.ok Try.func85 (by kernel_rfl) (by kernel_rfl)) slices_choosePivotCmpFunc_api_Row_table_UncoveredKeys_1.ok Try.func84 (by kernel_rfl) (by kernel_rfl)) slices_breakPatternsCmpFunc_api_Row_table_UncoveredKeys_1.ok Try.func83 (by kernel_rfl) (by kernel_rfl)) slices_heapSortCmpFunc_api_Row_table_UncoveredKeys_1.ok Try.func82 (by kernel_rfl) (by kernel_rfl)) slices_insertionSortCmpFunc_api_Row_table_UncoveredKeys_1.ok Try.func81 (by kernel_rfl) (by kernel_rfl)) Try.func68 (by kernel_rfl : Try.f68.body = some (bodyOf Try.f68)) (by kernel_rfl) (by kernel_rfl) Try.ntmps68 (of_decide_eq_true (by kernel_rfl)) (of_decide_eq_true (by kernel_rfl)) rfl
  rw [← slices_pdqsortCmpFunc_api_Row_table_UncoveredKeys_1.selfrun] at h
  exact h
noncomputable def slices_pdqsortCmpFunc_api_Row_table_UncoveredKeys_1.ctxc (n : Nat) : List (Nat × Sig) := [(81, slices_insertionSortCmpFunc_api_Row_table_UncoveredKeys_1.sigc n), (82, slices_heapSortCmpFunc_api_Row_table_UncoveredKeys_1.sigc n), (83, slices_breakPatternsCmpFunc_api_Row_table_UncoveredKeys_1.sigc n), (84, slices_choosePivotCmpFunc_api_Row_table_UncoveredKeys_1.sigc n), (85, slices_reverseRangeCmpFunc_api_Row_table_UncoveredKeys_1.sigc n), (86, slices_partialInsertionSortCmpFunc_api_Row_table_UncoveredKeys_1.sigc n), (41, table_UncoveredKeys_1.sigc n), (87, slices_partitionEqualCmpFunc_api_Row_table_UncoveredKeys_1.sigc n), (88, slices_partitionCmpFunc_api_Row_table_UncoveredKeys_1.sigc n)]
noncomputable def slices_pdqsortCmpFunc_api_Row_table_UncoveredKeys_1.runc (n : Nat) : Nat → (argTy slices_pdqsortCmpFunc_api_Row_table_UncoveredKeys_1.ps).den → slices_pdqsortCmpFunc_api_Row_table_UncoveredKeys_1.R
  | 0, _ => none
  | d + 1, x => runs (withCtx slices_pdqsortCmpFunc_api_Row_table_UncoveredKeys_1.E0 ((68, ⟨slices_pdqsortCmpFunc_api_Row_table_UncoveredKeys_1.ps, slices_pdqsortCmpFunc_api_Row_table_UncoveredKeys_1.rs, slices_pdqsortCmpFunc_api_Row_table_UncoveredKeys_1.runc n d⟩) :: slices_pdqsortCmpFunc_api_Row_table_UncoveredKeys_1.ctxc n)) slices_pdqsortCmpFunc_api_Row_table_UncoveredKeys_1.fin n (.code (bodyOf Try.f68) .ret) (entryFrom 0 slices_pdqsortCmpFunc_api_Row_table_UncoveredKeys_1.ps x)
noncomputable def slices_pdqsortCmpFunc_api_Row_table_UncoveredKeys_1.sigc (n : Nat) : Sig := ⟨slices_pdqsortCmpFunc_api_Row_table_UncoveredKeys_1.ps, slices_pdqsortCmpFunc_api_Row_table_UncoveredKeys_1.rs, slices_pdqsortCmpFunc_api_Row_table_UncoveredKeys_1.runc n n⟩
theorem slices_pdqsortCmpFunc_api_Row_table_UncoveredKeys_1.runc_le (n : Nat) : ∀ d x y, slices_pdqsortCmpFunc_api_Row_table_UncoveredKeys_1.runc n d x = some y → slices_pdqsortCmpFunc_api_Row_table_UncoveredKeys_1.sig.run x = some y := by
  intro d
  induction d with
  | zero => intro x y h; cases h
  | succ d ih => exact fun x y h => (slices_pdqsortCmpFunc_api_Row_table_UncoveredKeys_1.val x).symm.trans (runs_lim (E := slices_pdqsortCmpFunc_api_Row_table_UncoveredKeys_1.E slices_pdqsortCmpFunc_api_Row_table_UncoveredKeys_1) (c := (68, ⟨slices_pdqsortCmpFunc_api_Row_table_UncoveredKeys_1.ps, slices_pdqsortCmpFunc_api_Row_table_UncoveredKeys_1.rs, slices_pdqsortCmpFunc_api_Row_table_UncoveredKeys_1.runc n d⟩) :: slices_pdqsortCmpFunc_api_Row_table_UncoveredKeys_1.ctxc n) (ctxLe_cons (ctxLe_cons (ctxLe_cons (ctxLe_cons (ctxLe_cons (ctxLe_cons (ctxLe_cons (ctxLe_cons (ctxLe_cons (ctxLe_cons ctxLe_nil (slices_partitionCmpFunc_api_Row_table_UncoveredKeys_1.sigc_le n)) (slices_partitionEqualCmpFunc_api_Row_table_UncoveredKeys_1.sigc_le n)) (table_UncoveredKeys_1.sigc_le n)) (slices_partialInsertionSortCmpFunc_api_Row_table_UncoveredKeys_1.sigc_le n)) (slices_reverseRangeCmpFunc_api_Row_table_UncoveredKeys_1.sigc_le n)) (slices_choosePivotCmpFunc_api_Row_table_UncoveredKeys_1.sigc_le n)) (slices_breakPatternsCmpFunc_api_Row_table_UncoveredKeys_1.sigc_le n)) (slices_heapSortCmpFunc_api_Row_table_UncoveredKeys_1.sigc_le n)) (slices_insertionSortCmpFunc_api_Row_table_UncoveredKeys_1.sigc_le n)) ih) h)
theorem slices_pdqsortCmpFunc_api_Row_table_UncoveredKeys_1.sigc_le (n : Nat) : ∀ x y, (slices_pdqsortCmpFunc_api_Row_table_UncoveredKeys_1.sigc n).run x = some y → slices_pdqsortCmpFunc_api_Row_table_UncoveredKeys_1.sig.run x = some y := slices_pdqsortCmpFunc_api_Row_table_UncoveredKeys_1.runc_le n n
namespace slices_SortFunc_api_Row_api_Row_table_UncoveredKeys_1
abbrev ps : List PM := [.own api_Row, .fn 41]
abbrev rs : List RM := []
abbrev R : Type := Option (List api_RowV × Unit)
noncomputable def E : Env := { tt := tt, ctx := [(69, math_bits_Len.sig), (68, slices_pdqsortCmpFunc_api_Row_table_UncoveredKeys_1.sig)], nt := 14, ann := [] }
noncomputable def fin : ASt → R := Kret E Try.f40.results.toList ps rs
noncomputable def Se (x_0 : List api_RowV) : R :=
  Option.bind (math_bits_Len (IntKind.u64.wrap (x_0.length : Int))) fun x1 =>
  Option.bind (slices_pdqsortCmpFunc_api_Row_table_UncoveredKeys_1 x_0 0 (x_0.length : Int) x1.1) fun x2 =>
  some (x2.1, ())
theorem se (jmp : Tgt → ASt → R) (x : (argTy ps).den) : run E jmp fin depth (bodyOf Try.f40) .ret (entryFrom 0 ps x) =
    Se x.1 := by kernel_rfl
end slices_SortFunc_api_Row_api_Row_table_UncoveredKeys_1
noncomputable def slices_SortFunc_api_Row_api_Row_table_UncoveredKeys_1 (x_0 : List api_RowV) : slices_SortFunc_api_Row_api_Row_table_UncoveredKeys_1.R :=
  slices_SortFunc_api_Row_api_Row_table_UncoveredKeys_1.Se x_0
noncomputable def slices_SortFunc_api_Row_api_Row_table_UncoveredKeys_1.sig : Sig := ⟨slices_SortFunc_api_Row_api_Row_table_UncoveredKeys_1.ps, slices_SortFunc_api_Row_api_Row_table_UncoveredKeys_1.rs, fun x => slices_SortFunc_api_Row_api_Row_table_UncoveredKeys_1 x.1⟩
theorem slices_SortFunc_api_Row_api_Row_table_UncoveredKeys_1.ok : CallOK Try.prog 40 slices_SortFunc_api_Row_api_Row_table_UncoveredKeys_1.sig :=
  callOK_of_lim (E := slices_SortFunc_api_Row_api_Row_table_UncoveredKeys_1.E) mixed tt_ok (ctxOk_cons (ctxOk_cons ctxOk_nil slices_pdqsortCmpFunc_api_Row_table_UncoveredKeys_1.ok Try.func68 (by kernel_rfl) (by kernel_rfl)) math_bits_Len.ok Try.func69 (by kernel_rfl) (by kernel_rfl)) Try.func40 (by kernel_rfl : Try.f40.body = some (bodyOf Try.f40)) Try.ntmps40 (of_decide_eq_true (by kernel_rfl)) (of_decide_eq_true (by kernel_rfl))
    fun x y h => ((lim_eq (.code (bodyOf Try.f40) .ret) (entryFrom 0 slices_SortFunc_api_Row_api_Row_table_UncoveredKeys_1.ps x)).trans (slices_SortFunc_api_Row_api_Row_table_UncoveredKeys_1.se (lim slices_SortFunc_api_Row_api_Row_table_UncoveredKeys_1.E slices_SortFunc_api_Row_api_Row_table_UncoveredKeys_1.fin) x)).trans h
theorem slices_SortFunc_api_Row_api_Row_table_UncoveredKeys_1.val (x : (argTy slices_SortFunc_api_Row_api_Row_table_UncoveredKeys_1.ps).den) : lim slices_SortFunc_api_Row_api_Row_table_UncoveredKeys_1.E slices_SortFunc_api_Row_api_Row_table_UncoveredKeys_1.fin (.code (bodyOf Try.f40) .ret) (entryFrom 0 slices_SortFunc_api_Row_api_Row_table_UncoveredKeys_1.ps x) = slices_SortFunc_api_Row_api_Row_table_UncoveredKeys_1.sig.run x :=
  (lim_eq (.code (bodyOf Try.f40) .ret) (entryFrom 0 slices_SortFunc_api_Row_api_Row_table_UncoveredKeys_1.ps x)).trans (slices_SortFunc_api_Row_api_Row_table_UncoveredKeys_1.se (lim slices_SortFunc_api_Row_api_Row_table_UncoveredKeys_1.E slices_SortFunc_api_Row_api_Row_table_UncoveredKeys_1.fin) x)
noncomputable def slices_SortFunc_api_Row_api_Row_table_UncoveredKeys_1.ctxc (n : Nat) : List (Nat × Sig) := [(69, math_bits_Len.sigc n), (68, slices_pdqsortCmpFunc_api_Row_table_UncoveredKeys_1.sigc n)]
noncomputable def slices_SortFunc_api_Row_api_Row_table_UncoveredKeys_1.sigc (n : Nat) : Sig := ⟨slices_SortFunc_api_Row_api_Row_table_UncoveredKeys_1.ps, slices_SortFunc_api_Row_api_Row_table_UncoveredKeys_1.rs, fun x => runs (withCtx slices_SortFunc_api_Row_api_Row_table_UncoveredKeys_1.E (slices_SortFunc_api_Row_api_Row_table_UncoveredKeys_1.ctxc n)) slices_SortFunc_api_Row_api_Row_table_UncoveredKeys_1.fin n (.code (bodyOf Try.f40) .ret) (entryFrom 0 slices_SortFunc_api_Row_api_Row_table_UncoveredKeys_1.ps x)⟩
theorem slices_SortFunc_api_Row_api_Row_table_UncoveredKeys_1.sigc_le (n : Nat) : ∀ x y, (slices_SortFunc_api_Row_api_Row_table_UncoveredKeys_1.sigc n).run x = some y → slices_SortFunc_api_Row_api_Row_table_UncoveredKeys_1.sig.run x = some y :=
  fun x y h => (slices_SortFunc_api_Row_api_Row_table_UncoveredKeys_1.val x).symm.trans (runs_lim (E := slices_SortFunc_api_Row_api_Row_table_UncoveredKeys_1.E) (c := slices_SortFunc_api_Row_api_Row_table_UncoveredKeys_1.ctxc n) (ctxLe_cons (ctxLe_cons ctxLe_nil (slices_pdqsortCmpFunc_api_Row_table_UncoveredKeys_1.sigc_le n)) (math_bits_Len.sigc_le n)) h)
namespace table_UncoveredKeys
abbrev ps : List PM := [.pure api_Table, .pure (.int .i64), .pure (.int .i64), .pure (.int .i64)]
abbrev rs : List RM := [.own api_Type]
abbrev R : Type := Option (List api_TypeV × Unit)
noncomputable def E : Env := { tt := tt, ctx := [(39, daterange_Contains.sig), (40, slices_SortFunc_api_Row_api_Row_table_UncoveredKeys_1.sig)], nt := 79, ann := [(1000003, [(1, .keep), (2, .keep), (3, .keep), (9, .own api_Row), (16, .keep), (17, .keep), (18, .keep)]), (1000011, [(2, .keep), (3, .keep), (12, .own api_Type), (40, .keep), (41, .keep), (42, .keep)]), (14, [(2, .keep), (3, .keep), (12, .own api_Type), (14, .keep), (40, .keep), (41, .keep), (42, .keep), (54, .keep)])] }
noncomputable def c0 : Code := sub [1, 1, 1] (bodyOf Try.f17)
noncomputable def c1 : Code := sub [1, 1, 1, 1, 1, 1] (bodyOf Try.f17)
noncomputable def c2 : Code := sub [1, 1, 1, 1, 1, 0, 1, 0, 0] (bodyOf Try.f17)
noncomputable def c3 : Code := sub [1, 1, 1, 1, 1, 0, 1, 0, 0, 1, 1, 1] (bodyOf Try.f17)
noncomputable def c4 : Code := sub [1, 1, 1, 1, 1, 0, 1, 0, 0, 1, 1, 0, 0, 1, 1] (bodyOf Try.f17)
noncomputable def c5 : Code := sub [1, 1, 0, 1, 0, 0] (bodyOf Try.f17)
noncomputable def c6 : Code := sub [1, 1, 1, 1, 1, 0, 1, 0, 0, 1, 1, 0, 0, 1, 0, 1] (bodyOf Try.f17)
noncomputable def K3 : Kont := .seq c0 .ret
noncomputable def K5 : Kont := .blk 0 K3
noncomputable def K15 : Kont := .seq c1 .ret
noncomputable def K17 : Kont := .blk 2 K15
noncomputable def K18 : Kont := .loop c2 K17
noncomputable def K21 : Kont := .seq c3 K18
noncomputable def K22 : Kont := .blk 3 K21
noncomputable def K24 : Kont := .seq c4 K22
noncomputable def fin : ASt → R := Kret E Try.f17.results.toList ps rs
def tL0 (date : Int) (lo : Int) (hi : Int) (rows : List api_RowV) (v_16 : List api_RowV) (v_17 : Int) (v_18 : Int) : ASt := ⟨[(18, .one (.val (.int .i64) v_18)), (17, .one (.val (.int .i64) v_17)), (16, .one (.val (.sl api_Row) v_16)), (9, .one (.own 9)), (3, .one (.val (.int .i64) hi)), (2, .one (.val (.int .i64) lo)), (1, .one (.val (.int .i64) date))], [(9, some ⟨.free, api_Row, rows⟩)]⟩
def tL1 (lo : Int) (hi : Int) (out : List api_TypeV) (v_40 : List api_RowV) (v_41 : Int) (v_42 : Int) : ASt := ⟨[(42, .one (.val (.int .i64) v_42)), (41, .one (.val (.int .i64) v_41)), (40, .one (.own 40)), (12, .one (.own 12)), (3, .one (.val (.int .i64) hi)), (2, .one (.val (.int .i64) lo))], [(40, some ⟨.free, api_Row, v_40⟩), (12, some ⟨.free, api_Type, out⟩)]⟩
def tJ2 (lo : Int) (hi : Int) (out : List api_TypeV) (r_14 : api_RowV) (v_40 : List api_RowV) (v_41 : Int) (v_42 : Int) (v_54 : Bool) : ASt := ⟨[(54, .one (.val .bool v_54)), (42, .one (.val (.int .i64) v_42)), (41, .one (.val (.int .i64) v_41)), (40, .one (.own 40)), (14, .one (.optr 14 0 [])), (12, .one (.own 12)), (3, .one (.val (.int .i64) hi)), (2, .one (.val (.int .i64) lo))], [(40, some ⟨.free, api_Row, v_40⟩), (14, some ⟨.free, api_Row, [r_14]⟩), (12, some ⟨.free, api_Type, out⟩)]⟩
noncomputable def SL0 (kL0 : Int → Int → Int → (List api_RowV) → (List api_RowV) → Int → Int → R) (kL1 : Int → Int → (List api_TypeV) → (List api_RowV) → Int → Int → R) (date : Int) (lo : Int) (hi : Int) (rows : List api_RowV) (v_16 : List api_RowV) (v_17 : Int) (v_18 : Int) : R :=
  cond (decide (v_18 < v_17))
    (Option.bind (idx v_16 v_18) fun x1 =>
    Option.bind (daterange_Contains x1.1 date) fun x2 =>
    cond x2.1
      (cond (decide (x1.2.1 < x1.2.2.1))
        (cond (decide ((rows.length + 1) * 40 ≤ room) && decide (0 < Ty.nc (.pair (.pair (.int .i64) (.pair (.int .i64) .unit)) (.pair (.int .i64) (.pair (.int .i64) (.pair (.int .i64) .unit))))))
          (kL0 date lo hi (rows ++ [x1]) v_16 v_17 (IntKind.i64.wrap (v_18 + 1)))
          none)
        (kL0 date lo hi rows v_16 v_17 (IntKind.i64.wrap (v_18 + 1))))
      (kL0 date lo hi rows v_16 v_17 (IntKind.i64.wrap (v_18 + 1))))
    (Option.bind (slices_SortFunc_api_Row_api_Row_table_UncoveredKeys_1 rows) fun x3 =>
    kL1 lo hi [] x3.1 (x3.1.length : Int) 0)
noncomputable def SL1 (kJ2 : Int → Int → (List api_TypeV) → api_RowV → (List api_RowV) → Int → Int → Bool → R) (lo : Int) (hi : Int) (out : List api_TypeV) (v_40 : List api_RowV) (v_41 : Int) (v_42 : Int) : R :=
  cond (decide (v_42 < v_41))
    (cond (decide (0 ≤ v_42) && decide (v_42 < (v_40.length : Int)))
      (cond (decide (lo < hi))
        (kJ2 lo hi out (v_40.getD v_42.toNat ((0, 0, ()), 0, 0, 0, ())) v_40 v_41 v_42 (decide (((v_40.getD v_42.toNat ((0, 0, ()), 0, 0, 0, ())).2.1) > lo)))
        (kJ2 lo hi out (v_40.getD v_42.toNat ((0, 0, ()), 0, 0, 0, ())) v_40 v_41 v_42 false))
      none)
    (cond (decide (lo < hi))
      (cond (decide ((out.length + 1) * 16 ≤ room) && decide (0 < Ty.nc (.pair (.int .i64) (.pair (.int .i64) .unit))))
        (some ((out ++ [(lo, hi, ())]), ()))
        none)
      (some (out, ())))
noncomputable def SJ2 (kL1 : Int → Int → (List api_TypeV) → (List api_RowV) → Int → Int → R) (lo : Int) (hi : Int) (out : List api_TypeV) (r_14 : api_RowV) (v_40 : List api_RowV) (v_41 : Int) (v_42 : Int) (v_54 : Bool) : R :=
  cond v_54
    (cond (decide ((out.length + 1) * 16 ≤ room) && decide (0 < Ty.nc (.pair (.int .i64) (.pair (.int .i64) .unit))))
      (kL1 (cond (decide (r_14.2.2.1 > lo)) r_14.2.2.1 lo) hi (out ++ [(lo, (cond (decide (hi < r_14.2.1)) hi r_14.2.1), ())]) v_40 v_41 (IntKind.i64.wrap (v_42 + 1)))
      none)
    (kL1 (cond (decide (r_14.2.2.1 > lo)) r_14.2.2.1 lo) hi out v_40 v_41 (IntKind.i64.wrap (v_42 + 1)))
noncomputable def Se (kL0 : Int → Int → Int → (List api_RowV) → (List api_RowV) → Int → Int → R) (t : api_TableV) (date : Int) (lo : Int) (hi : Int) : R :=
  kL0 date lo hi [] t.2.2.2.1 (t.2.2.2.1.length : Int) 0
theorem sL0 (jmp : Tgt → ASt → R) (date : Int) (lo : Int) (hi : Int) (rows : List api_RowV) (v_16 : List api_RowV) (v_17 : Int) (v_18 : Int) : run E jmp fin depth c5 (.loop c5 K5) (tL0 date lo hi rows v_16 v_17 v_18) =
    SL0 (fun date lo hi rows v_16 v_17 v_18 => jmp (.loop c5 K5) (tL0 date lo hi rows v_16 v_17 v_18)) (fun lo hi out v_40 v_41 v_42 => jmp (.loop c2 K17) (tL1 lo hi out v_40 v_41 v_42)) date lo hi rows v_16 v_17 v_18 := by kernel_rfl
theorem sL1 (jmp : Tgt → ASt → R) (lo : Int) (hi : Int) (out : List api_TypeV) (v_40 : List api_RowV) (v_41 : Int) (v_42 : Int) : run E jmp fin depth c2 (.loop c2 K17) (tL1 lo hi out v_40 v_41 v_42) =
    SL1 (fun lo hi out r_14 v_40 v_41 v_42 v_54 => jmp (.code c6 K24) (tJ2 lo hi out r_14 v_40 v_41 v_42 v_54)) lo hi out v_40 v_41 v_42 := by kernel_rfl
theorem sJ2 (jmp : Tgt → ASt → R) (lo : Int) (hi : Int) (out : List api_TypeV) (r_14 : api_RowV) (v_40 : List api_RowV) (v_41 : Int) (v_42 : Int) (v_54 : Bool) : run E jmp fin depth c6 K24 (tJ2 lo hi out r_14 v_40 v_41 v_42 v_54) =
    SJ2 (fun lo hi out v_40 v_41 v_42 => jmp (.loop c2 K17) (tL1 lo hi out v_40 v_41 v_42)) lo hi out r_14 v_40 v_41 v_42 v_54 := by kernel_rfl
theorem se (jmp : Tgt → ASt → R) (x : (argTy ps).den) : run E jmp fin depth (bodyOf Try.f17) .ret (entryFrom 0 ps x) =
    Se (fun date lo hi rows v_16 v_17 v_18 => jmp (.loop c5 K5) (tL0 date lo hi rows v_16 v_17 v_18)) x.1 x.2.1 x.2.2.1 x.2.2.2.1 := by kernel_rfl
noncomputable def L0 (date : Int) (lo : Int) (hi : Int) (rows : List api_RowV) (v_16 : List api_RowV) (v_17 : Int) (v_18 : Int) : R := lim E fin (.loop c5 K5) (tL0 date lo hi rows v_16 v_17 v_18)
noncomputable def L1 (lo : Int) (hi : Int) (out : List api_TypeV) (v_40 : List api_RowV) (v_41 : Int) (v_42 : Int) : R := lim E fin (.loop c2 K17) (tL1 lo hi out v_40 v_41 v_42)
noncomputable def J2 (lo : Int) (hi : Int) (out : List api_TypeV) (r_14 : api_RowV) (v_40 : List api_RowV) (v_41 : Int) (v_42 : Int) (v_54 : Bool) : R := lim E fin (.code c6 K24) (tJ2 lo hi out r_14 v_40 v_41 v_42 v_54)
theorem L0_eq (date : Int) (lo : Int) (hi : Int) (rows : List api_RowV) (v_16 : List api_RowV) (v_17 : Int) (v_18 : Int) : L0 date lo hi rows v_16 v_17 v_18 = SL0 L0 L1 date lo hi rows v_16 v_17 v_18 :=
  (lim_eq (.loop c5 K5) (tL0 date lo hi rows v_16 v_17 v_18)).trans (sL0 (lim E fin) date lo hi rows v_16 v_17 v_18)
theorem L1_eq (lo : Int) (hi : Int) (out : List api_TypeV) (v_40 : List api_RowV) (v_41 : Int) (v_42 : Int) : L1 lo hi out v_40 v_41 v_42 = SL1 J2 lo hi out v_40 v_41 v_42 :=
  (lim_eq (.loop c2 K17) (tL1 lo hi out v_40 v_41 v_42)).trans (sL1 (lim E fin) lo hi out v_40 v_41 v_42)
theorem J2_eq (lo : Int) (hi : Int) (out : List api_TypeV) (r_14 : api_RowV) (v_40 : List api_RowV) (v_41 : Int) (v_42 : Int) (v_54 : Bool) : J2 lo hi out r_14 v_40 v_41 v_42 v_54 = SJ2 L1 lo hi out r_14 v_40 v_41 v_42 v_54 :=
  (lim_eq (.code c6 K24) (tJ2 lo hi out r_14 v_40 v_41 v_42 v_54)).trans (sJ2 (lim E fin) lo hi out r_14 v_40 v_41 v_42 v_54)
end table_UncoveredKeys
noncomputable def table_UncoveredKeys (t : api_TableV) (date : Int) (lo : Int) (hi : Int) : table_UncoveredKeys.R :=
  table_UncoveredKeys.Se table_UncoveredKeys.L0 t date lo hi
noncomputable def table_UncoveredKeys.sig : Sig := ⟨table_UncoveredKeys.ps, table_UncoveredKeys.rs, fun x => table_UncoveredKeys x.1 x.2.1 x.2.2.1 x.2.2.2.1⟩
theorem table_UncoveredKeys.ok : CallOK Try.prog 17 table_UncoveredKeys.sig :=
  callOK_of_lim (E := table_UncoveredKeys.E) mixed tt_ok (ctxOk_cons (ctxOk_cons ctxOk_nil slices_SortFunc_api_Row_api_Row_table_UncoveredKeys_1.ok Try.func40 (by kernel_rfl) (by kernel_rfl)) daterange_Contains.ok Try.func39 (by kernel_rfl) (by kernel_rfl)) Try.func17 (by kernel_rfl : Try.f17.body = some (bodyOf Try.f17)) Try.ntmps17 (of_decide_eq_true (by kernel_rfl)) (of_decide_eq_true (by kernel_rfl))
    fun x y h => ((lim_eq (.code (bodyOf Try.f17) .ret) (entryFrom 0 table_UncoveredKeys.ps x)).trans (table_UncoveredKeys.se (lim table_UncoveredKeys.E table_UncoveredKeys.fin) x)).trans h
theorem table_UncoveredKeys.val (x : (argTy table_UncoveredKeys.ps).den) : lim table_UncoveredKeys.E table_UncoveredKeys.fin (.code (bodyOf Try.f17) .ret) (entryFrom 0 table_UncoveredKeys.ps x) = table_UncoveredKeys.sig.run x :=
  (lim_eq (.code (bodyOf Try.f17) .ret) (entryFrom 0 table_UncoveredKeys.ps x)).trans (table_UncoveredKeys.se (lim table_UncoveredKeys.E table_UncoveredKeys.fin) x)
noncomputable def table_UncoveredKeys.ctxc (n : Nat) : List (Nat × Sig) := [(39, daterange_Contains.sigc n), (40, slices_SortFunc_api_Row_api_Row_table_UncoveredKeys_1.sigc n)]
noncomputable def table_UncoveredKeys.sigc (n : Nat) : Sig := ⟨table_UncoveredKeys.ps, table_UncoveredKeys.rs, fun x => runs (withCtx table_UncoveredKeys.E (table_UncoveredKeys.ctxc n)) table_UncoveredKeys.fin n (.code (bodyOf Try.f17) .ret) (entryFrom 0 table_UncoveredKeys.ps x)⟩
theorem table_UncoveredKeys.sigc_le (n : Nat) : ∀ x y, (table_UncoveredKeys.sigc n).run x = some y → table_UncoveredKeys.sig.run x = some y :=
  fun x y h => (table_UncoveredKeys.val x).symm.trans (runs_lim (E := table_UncoveredKeys.E) (c := table_UncoveredKeys.ctxc n) (ctxLe_cons (ctxLe_cons ctxLe_nil (slices_SortFunc_api_Row_api_Row_table_UncoveredKeys_1.sigc_le n)) (daterange_Contains.sigc_le n)) h)
namespace table_FirstConflict_1
abbrev ps : List PM := [.pure api_Row, .ptr api_Row]
abbrev rs : List RM := [.pure .bool]
abbrev R : Type := Option (Bool × api_RowV × Unit)
noncomputable def E : Env := { tt := tt, ctx := [(33, table_conflict.sig)], nt := 7, ann := [] }
noncomputable def fin : ASt → R := Kret E Try.f38.results.toList ps rs
noncomputable def Se (x_0 : api_RowV) (p1 : api_RowV) : R :=
  Option.bind (table_conflict x_0 p1) fun x1 =>
  some (x1.1, p1, ())
theorem se (jmp : Tgt → ASt → R) (x : (argTy ps).den) : run E jmp fin depth (bodyOf Try.f38) .ret (entryFrom 0 ps x) =
    Se x.1 x.2.1 := by kernel_rfl
end table_FirstConflict_1
noncomputable def table_FirstConflict_1 (x_0 : api_RowV) (p1 : api_RowV) : table_FirstConflict_1.R :=
  table_FirstConflict_1.Se x_0 p1
noncomputable def table_FirstConflict_1.sig : Sig := ⟨table_FirstConflict_1.ps, table_FirstConflict_1.rs, fun x => table_FirstConflict_1 x.1 x.2.1⟩
theorem table_FirstConflict_1.ok : CallOK Try.prog 38 table_FirstConflict_1.sig :=
  callOK_of_lim (E := table_FirstConflict_1.E) mixed tt_ok (ctxOk_cons ctxOk_nil table_conflict.ok Try.func33 (by kernel_rfl) (by kernel_rfl)) Try.func38 (by kernel_rfl : Try.f38.body = some (bodyOf Try.f38)) Try.ntmps38 (of_decide_eq_true (by kernel_rfl)) (of_decide_eq_true (by kernel_rfl))
    fun x y h => ((lim_eq (.code (bodyOf Try.f38) .ret) (entryFrom 0 table_FirstConflict_1.ps x)).trans (table_FirstConflict_1.se (lim table_FirstConflict_1.E table_FirstConflict_1.fin) x)).trans h
theorem table_FirstConflict_1.val (x : (argTy table_FirstConflict_1.ps).den) : lim table_FirstConflict_1.E table_FirstConflict_1.fin (.code (bodyOf Try.f38) .ret) (entryFrom 0 table_FirstConflict_1.ps x) = table_FirstConflict_1.sig.run x :=
  (lim_eq (.code (bodyOf Try.f38) .ret) (entryFrom 0 table_FirstConflict_1.ps x)).trans (table_FirstConflict_1.se (lim table_FirstConflict_1.E table_FirstConflict_1.fin) x)
noncomputable def table_FirstConflict_1.ctxc (n : Nat) : List (Nat × Sig) := [(33, table_conflict.sigc n)]
noncomputable def table_FirstConflict_1.sigc (n : Nat) : Sig := ⟨table_FirstConflict_1.ps, table_FirstConflict_1.rs, fun x => runs (withCtx table_FirstConflict_1.E (table_FirstConflict_1.ctxc n)) table_FirstConflict_1.fin n (.code (bodyOf Try.f38) .ret) (entryFrom 0 table_FirstConflict_1.ps x)⟩
theorem table_FirstConflict_1.sigc_le (n : Nat) : ∀ x y, (table_FirstConflict_1.sigc n).run x = some y → table_FirstConflict_1.sig.run x = some y :=
  fun x y h => (table_FirstConflict_1.val x).symm.trans (runs_lim (E := table_FirstConflict_1.E) (c := table_FirstConflict_1.ctxc n) (ctxLe_cons ctxLe_nil (table_conflict.sigc_le n)) h)
namespace table_find_api_Row_table_FirstConflict_1
abbrev ps : List PM := [.pure (.sl api_Row), .ptr api_Row (some 38)]
abbrev rs : List RM := [.pure (.int .i64), .pure .bool]
abbrev R : Type := Option (Int × Bool × api_RowV × Unit)
noncomputable def E : Env := { tt := tt, ctx := [(38, table_FirstConflict_1.sig)], nt := 20, ann := [(1000002, [(1, .keep), (8, .keep), (9, .keep), (10, .keep)])] }
noncomputable def c0 : Code := sub [1, 1] (bodyOf Try.f37)
noncomputable def c1 : Code := sub [1, 0, 1, 0, 0] (bodyOf Try.f37)
noncomputable def K2 : Kont := .seq c0 .ret
noncomputable def K4 : Kont := .blk 0 K2
noncomputable def fin : ASt → R := Kret E Try.f37.results.toList ps rs
def tL0 (v_8 : List api_RowV) (v_9 : Int) (v_10 : Int) (ok_P : api_RowV) : ASt := ⟨[(10, .one (.val (.int .i64) v_10)), (9, .one (.val (.int .i64) v_9)), (8, .one (.val (.sl api_Row) v_8)), (1, .one (.fn 38 [10001]))], [(10001, some ⟨.fixed, api_Row, [ok_P]⟩)]⟩
noncomputable def SL0 (kL0 : (List api_RowV) → Int → Int → api_RowV → R) (v_8 : List api_RowV) (v_9 : Int) (v_10 : Int) (ok_P : api_RowV) : R :=
  cond (decide (v_10 < v_9))
    (Option.bind (idx v_8 v_10) fun x1 =>
    Option.bind (table_FirstConflict_1 x1 ok_P) fun x2 =>
    cond x2.1
      (some (v_10, true, x2.2.1, ()))
      (kL0 v_8 v_9 (IntKind.i64.wrap (v_10 + 1)) x2.2.1))
    (some (0, false, ok_P, ()))
noncomputable def Se (kL0 : (List api_RowV) → Int → Int → api_RowV → R) (l : List api_RowV) (ok : api_RowV) : R :=
  kL0 l (l.length : Int) 0 ok
theorem sL0 (jmp : Tgt → ASt → R) (v_8 : List api_RowV) (v_9 : Int) (v_10 : Int) (ok_P : api_RowV) : run E jmp fin depth c1 (.loop c1 K4) (tL0 v_8 v_9 v_10 ok_P) =
    SL0 (fun v_8 v_9 v_10 ok_P => jmp (.loop c1 K4) (tL0 v_8 v_9 v_10 ok_P)) v_8 v_9 v_10 ok_P := by kernel_rfl
theorem se (jmp : Tgt → ASt → R) (x : (argTy ps).den) : run E jmp fin depth (bodyOf Try.f37) .ret (entryFrom 0 ps x) =
    Se (fun v_8 v_9 v_10 ok_P => jmp (.loop c1 K4) (tL0 v_8 v_9 v_10 ok_P)) x.1 x.2.1 := by kernel_rfl
noncomputable def L0 (v_8 : List api_RowV) (v_9 : Int) (v_10 : Int) (ok_P : api_RowV) : R := lim E fin (.loop c1 K4) (tL0 v_8 v_9 v_10 ok_P)
theorem L0_eq (v_8 : List api_RowV) (v_9 : Int) (v_10 : Int) (ok_P : api_RowV) : L0 v_8 v_9 v_10 ok_P = SL0 L0 v_8 v_9 v_10 ok_P :=
  (lim_eq (.loop c1 K4) (tL0 v_8 v_9 v_10 ok_P)).trans (sL0 (lim E fin) v_8 v_9 v_10 ok_P)
end table_find_api_Row_table_FirstConflict_1
noncomputable def table_find_api_Row_table_FirstConflict_1 (l : List api_RowV) (ok : api_RowV) : table_find_api_Row_table_FirstConflict_1.R :=
  table_find_api_Row_table_FirstConflict_1.Se table_find_api_Row_table_FirstConflict_1.L0 l ok
noncomputable def table_find_api_Row_table_FirstConflict_1.sig : Sig := ⟨table_find_api_Row_table_FirstConflict_1.ps, table_find_api_Row_table_FirstConflict_1.rs, fun x => table_find_api_Row_table_FirstConflict_1 x.1 x.2.1⟩
theorem table_find_api_Row_table_FirstConflict_1.ok : CallOK Try.prog 37 table_find_api_Row_table_FirstConflict_1.sig :=
  callOK_of_lim (E := table_find_api_Row_table_FirstConflict_1.E) mixed tt_ok (ctxOk_cons ctxOk_nil table_FirstConflict_1.ok Try.func38 (by kernel_rfl) (by kernel_rfl)) Try.func37 (by kernel_rfl : Try.f37.body = some (bodyOf Try.f37)) Try.ntmps37 (of_decide_eq_true (by kernel_rfl)) (of_decide_eq_true (by kernel_rfl))
    fun x y h => ((lim_eq (.code (bodyOf Try.f37) .ret) (entryFrom 0 table_find_api_Row_table_FirstConflict_1.ps x)).trans (table_find_api_Row_table_FirstConflict_1.se (lim table_find_api_Row_table_FirstConflict_1.E table_find_api_Row_table_FirstConflict_1.fin) x)).trans h
theorem table_find_api_Row_table_FirstConflict_1.val (x : (argTy table_find_api_Row_table_FirstConflict_1.ps).den) : lim table_find_api_Row_table_FirstConflict_1.E table_find_api_Row_table_FirstConflict_1.fin (.code (bodyOf Try.f37) .ret) (entryFrom 0 table_find_api_Row_table_FirstConflict_1.ps x) = table_find_api_Row_table_FirstConflict_1.sig.run x :=
  (lim_eq (.code (bodyOf Try.f37) .ret) (entryFrom 0 table_find_api_Row_table_FirstConflict_1.ps x)).trans (table_find_api_Row_table_FirstConflict_1.se (lim table_find_api_Row_table_FirstConflict_1.E table_find_api_Row_table_FirstConflict_1.fin) x)
noncomputable def table_find_api_Row_table_FirstConflict_1.ctxc (n : Nat) : List (Nat × Sig) := [(38, table_FirstConflict_1.sigc n)]
noncomputable def table_find_api_Row_table_FirstConflict_1.sigc (n : Nat) : Sig := ⟨table_find_api_Row_table_FirstConflict_1.ps, table_find_api_Row_table_FirstConflict_1.rs, fun x => runs (withCtx table_find_api_Row_table_FirstConflict_1.E (table_find_api_Row_table_FirstConflict_1.ctxc n)) table_find_api_Row_table_FirstConflict_1.fin n (.code (bodyOf Try.f37) .ret) (entryFrom 0 table_find_api_Row_table_FirstConflict_1.ps x)⟩
theorem table_find_api_Row_table_FirstConflict_1.sigc_le (n : Nat) : ∀ x y, (table_find_api_Row_table_FirstConflict_1.sigc n).run x = some y → table_find_api_Row_table_FirstConflict_1.sig.run x = some y :=
  fun x y h => (table_find_api_Row_table_FirstConflict_1.val x).symm.trans (runs_lim (E := table_find_api_Row_table_FirstConflict_1.E) (c := table_find_api_Row_table_FirstConflict_1.ctxc n) (ctxLe_cons ctxLe_nil (table_FirstConflict_1.sigc_le n)) h)
namespace table_FirstConflict
abbrev ps : List PM := [.pure api_Table]
abbrev rs : List RM := [.pure (.int .i64), .pure (.int .i64), .pure .bool]
abbrev R : Type := Option (Int × Int × Bool × Unit)
noncomputable def E : Env := { tt := tt, ctx := [(37, table_find_api_Row_table_FirstConflict_1.sig)], nt := 30, ann := [(1000002, [(1, .keep), (10, .keep), (11, .keep), (12, .keep)])] }
noncomputable def c0 : Code := sub [1, 1] (bodyOf Try.f15)
noncomputable def c1 : Code := sub [1, 0, 1, 0, 0] (bodyOf Try.f15)
noncomputable def K2 : Kont := .seq c0 .ret
noncomputable def K4 : Kont := .blk 0 K2
noncomputable def fin : ASt → R := Kret E Try.f15.results.toList ps rs
def tL0 (t : api_TableV) (v_10 : List api_RowV) (v_11 : Int) (v_12 : Int) : ASt := ⟨[(12, .one (.val (.int .i64) v_12)), (11, .one (.val (.int .i64) v_11)), (10, .one (.val (.sl api_Row) v_10)), (1, .one (.optr 1 0 []))], [(1, some ⟨.free, api_Table, [t]⟩)]⟩
noncomputable def SL0 (kL0 : api_TableV → (List api_RowV) → Int → Int → R) (t : api_TableV) (v_10 : List api_RowV) (v_11 : Int) (v_12 : Int) : R :=
  cond (decide (v_12 < v_11))
    (Option.bind (idx v_10 v_12) fun x1 =>
    cond (decide ((0 : Int) ≤ 0) && (decide ((0 : Int) ≤ v_12) && decide (v_12 ≤ (t.2.2.2.1.length : Int))))
      (Option.bind (table_find_api_Row_table_FirstConflict_1 (t.2.2.2.1.take v_12.toNat) x1) fun x2 =>
      cond x2.2.1
        (some (x2.1, v_12, true, ()))
        (kL0 t v_10 v_11 (IntKind.i64.wrap (v_12 + 1))))
      none)
    (some (0, 0, false, ()))
noncomputable def Se (kL0 : api_TableV → (List api_RowV) → Int → Int → R) (t : api_TableV) : R :=
  kL0 t t.2.2.2.1 (t.2.2.2.1.length : Int) 0
theorem sL0 (jmp : Tgt → ASt → R) (t : api_TableV) (v_10 : List api_RowV) (v_11 : Int) (v_12 : Int) : run E jmp fin depth c1 (.loop c1 K4) (tL0 t v_10 v_11 v_12) =
    SL0 (fun t v_10 v_11 v_12 => jmp (.loop c1 K4) (tL0 t v_10 v_11 v_12)) t v_10 v_11 v_12 := by kernel_rfl
theorem se (jmp : Tgt → ASt → R) (x : (argTy ps).den) : run E jmp fin depth (bodyOf Try.f15) .ret (entryFrom 0 ps x) =
    Se (fun t v_10 v_11 v_12 => jmp (.loop c1 K4) (tL0 t v_10 v_11 v_12)) x.1 := by kernel_rfl
noncomputable def L0 (t : api_TableV) (v_10 : List api_RowV) (v_11 : Int) (v_12 : Int) : R := lim E fin (.loop c1 K4) (tL0 t v_10 v_11 v_12)
theorem L0_eq (t : api_TableV) (v_10 : List api_RowV) (v_11 : Int) (v_12 : Int) : L0 t v_10 v_11 v_12 = SL0 L0 t v_10 v_11 v_12 :=
  (lim_eq (.loop c1 K4) (tL0 t v_10 v_11 v_12)).trans (sL0 (lim E fin) t v_10 v_11 v_12)
end table_FirstConflict
noncomputable def table_FirstConflict (t : api_TableV) : table_FirstConflict.R :=
  table_FirstConflict.Se table_FirstConflict.L0 t
noncomputable def table_FirstConflict.sig : Sig := ⟨table_FirstConflict.ps, table_FirstConflict.rs, fun x => table_FirstConflict x.1⟩
theorem table_FirstConflict.ok : CallOK Try.prog 15 table_FirstConflict.sig :=
  callOK_of_lim (E := table_FirstConflict.E) mixed tt_ok (ctxOk_cons ctxOk_nil table_find_api_Row_table_FirstConflict_1.ok Try.func37 (by kernel_rfl) (by kernel_rfl)) Try.func15 (by kernel_rfl : Try.f15.body = some (bodyOf Try.f15)) Try.ntmps15 (of_decide_eq_true (by kernel_rfl)) (of_decide_eq_true (by kernel_rfl))
    fun x y h => ((lim_eq (.code (bodyOf Try.f15) .ret) (entryFrom 0 table_FirstConflict.ps x)).trans (table_FirstConflict.se (lim table_FirstConflict.E table_FirstConflict.fin) x)).trans h
theorem table_FirstConflict.val (x : (argTy table_FirstConflict.ps).den) : lim table_FirstConflict.E table_FirstConflict.fin (.code (bodyOf Try.f15) .ret) (entryFrom 0 table_FirstConflict.ps x) = table_FirstConflict.sig.run x :=
  (lim_eq (.code (bodyOf Try.f15) .ret) (entryFrom 0 table_FirstConflict.ps x)).trans (table_FirstConflict.se (lim table_FirstConflict.E table_FirstConflict.fin) x)
noncomputable def table_FirstConflict.ctxc (n : Nat) : List (Nat × Sig) := [(37, table_find_api_Row_table_FirstConflict_1.sigc n)]
noncomputable def table_FirstConflict.sigc (n : Nat) : Sig := ⟨table_FirstConflict.ps, table_FirstConflict.rs, fun x => runs (withCtx table_FirstConflict.E (table_FirstConflict.ctxc n)) table_FirstConflict.fin n (.code (bodyOf Try.f15) .ret) (entryFrom 0 table_FirstConflict.ps x)⟩
theorem table_FirstConflict.sigc_le (n : Nat) : ∀ x y, (table_FirstConflict.sigc n).run x = some y → table_FirstConflict.sig.run x = some y :=
  fun x y h => (table_FirstConflict.val x).symm.trans (runs_lim (E := table_FirstConflict.E) (c := table_FirstConflict.ctxc n) (ctxLe_cons ctxLe_nil (table_find_api_Row_table_FirstConflict_1.sigc_le n)) h)
namespace same_KeyRanges
abbrev ps : List PM := [.pure (.sl api_Type), .pure (.sl api_Type)]
abbrev rs : List RM := [.pure .bool]
abbrev R : Type := Option (Bool × Unit)
noncomputable def E : Env := { tt := tt, ctx := [], nt := 32, ann := [(1000004, [(0, .keep), (1, .keep), (5, .keep)]), (6, [(0, .keep), (1, .keep), (5, .keep)])] }
noncomputable def c0 : Code := sub [1, 1, 1] (bodyOf Try.f19)
noncomputable def c1 : Code := sub [1, 1, 0, 1, 0, 0] (bodyOf Try.f19)
noncomputable def c2 : Code := sub [1, 1, 0, 1, 0, 0, 1] (bodyOf Try.f19)
noncomputable def K5 : Kont := .seq c0 .ret
noncomputable def K7 : Kont := .blk 0 K5
noncomputable def K8 : Kont := .loop c1 K7
noncomputable def fin : ASt → R := Kret E Try.f19.results.toList ps rs
def tL0 (a : List api_TypeV) (b : List api_TypeV) (i : Int) : ASt := ⟨[(5, .one (.val (.int .i64) i)), (1, .one (.val (.sl api_Type) b)), (0, .one (.val (.sl api_Type) a))], []⟩
def tJ1 (a : List api_TypeV) (b : List api_TypeV) (i : Int) : ASt := ⟨[(5, .one (.val (.int .i64) i)), (1, .one (.val (.sl api_Type) b)), (0, .one (.val (.sl api_Type) a))], []⟩
noncomputable def SL0 (kJ1 : (List api_TypeV) → (List api_TypeV) → Int → R) (a : List api_TypeV) (b : List api_TypeV) (i : Int) : R :=
  cond (decide (i < (a.length : Int)))
    (cond (decide (i < (b.length : Int)))
      (kJ1 a b i)
      (some (true, ())))
    (some (true, ()))
noncomputable def SJ1 (kL0 : (List api_TypeV) → (List api_TypeV) → Int → R) (a : List api_TypeV) (b : List api_TypeV) (i : Int) : R :=
  Option.bind (idx a i) fun x1 =>
  Option.bind (idx b i) fun x2 =>
  cond (!eqTy (.pair (.int .i64) (.pair (.int .i64) .unit)) x1 x2)
    (some (false, ()))
    (kL0 a b (IntKind.i64.wrap (i + 1)))
noncomputable def Se (kL0 : (List api_TypeV) → (List api_TypeV) → Int → R) (a : List api_TypeV) (b : List api_TypeV) : R :=
  cond ((a.length : Int) != (b.length : Int))
    (some (false, ()))
    (kL0 a b 0)
theorem sL0 (jmp : Tgt → ASt → R) (a : List api_TypeV) (b : List api_TypeV) (i : Int) : run E jmp fin depth c1 (.loop c1 K7) (tL0 a b i) =
    SL0 (fun a b i => jmp (.code c2 K8) (tJ1 a b i)) a b i := by kernel_rfl
theorem sJ1 (jmp : Tgt → ASt → R) (a : List api_TypeV) (b : List api_TypeV) (i : Int) : run E jmp fin depth c2 K8 (tJ1 a b i) =
    SJ1 (fun a b i => jmp (.loop c1 K7) (tL0 a b i)) a b i := by kernel_rfl
theorem se (jmp : Tgt → ASt → R) (x : (argTy ps).den) : run E jmp fin depth (bodyOf Try.f19) .ret (entryFrom 0 ps x) =
    Se (fun a b i => jmp (.loop c1 K7) (tL0 a b i)) x.1 x.2.1 := by kernel_rfl
noncomputable def L0 (a : List api_TypeV) (b : List api_TypeV) (i : Int) : R := lim E fin (.loop c1 K7) (tL0 a b i)
noncomputable def J1 (a : List api_TypeV) (b : List api_TypeV) (i : Int) : R := lim E fin (.code c2 K8) (tJ1 a b i)
theorem L0_eq (a : List api_TypeV) (b : List api_TypeV) (i : Int) : L0 a b i = SL0 J1 a b i :=
  (lim_eq (.loop c1 K7) (tL0 a b i)).trans (sL0 (lim E fin) a b i)
theorem J1_eq (a : List api_TypeV) (b : List api_TypeV) (i : Int) : J1 a b i = SJ1 L0 a b i :=
  (lim_eq (.code c2 K8) (tJ1 a b i)).trans (sJ1 (lim E fin) a b i)
end same_KeyRanges
noncomputable def same_KeyRanges (a : List api_TypeV) (b : List api_TypeV) : same_KeyRanges.R :=
  same_KeyRanges.Se same_KeyRanges.L0 a b
noncomputable def same_KeyRanges.sig : Sig := ⟨same_KeyRanges.ps, same_KeyRanges.rs, fun x => same_KeyRanges x.1 x.2.1⟩
theorem same_KeyRanges.ok : CallOK Try.prog 19 same_KeyRanges.sig :=
  callOK_of_lim (E := same_KeyRanges.E) mixed tt_ok ctxOk_nil Try.func19 (by kernel_rfl : Try.f19.body = some (bodyOf Try.f19)) Try.ntmps19 (of_decide_eq_true (by kernel_rfl)) (of_decide_eq_true (by kernel_rfl))
    fun x y h => ((lim_eq (.code (bodyOf Try.f19) .ret) (entryFrom 0 same_KeyRanges.ps x)).trans (same_KeyRanges.se (lim same_KeyRanges.E same_KeyRanges.fin) x)).trans h
theorem same_KeyRanges.val (x : (argTy same_KeyRanges.ps).den) : lim same_KeyRanges.E same_KeyRanges.fin (.code (bodyOf Try.f19) .ret) (entryFrom 0 same_KeyRanges.ps x) = same_KeyRanges.sig.run x :=
  (lim_eq (.code (bodyOf Try.f19) .ret) (entryFrom 0 same_KeyRanges.ps x)).trans (same_KeyRanges.se (lim same_KeyRanges.E same_KeyRanges.fin) x)
noncomputable def same_KeyRanges.ctxc (n : Nat) : List (Nat × Sig) := []
noncomputable def same_KeyRanges.sigc (n : Nat) : Sig := ⟨same_KeyRanges.ps, same_KeyRanges.rs, fun x => runs (withCtx same_KeyRanges.E (same_KeyRanges.ctxc n)) same_KeyRanges.fin n (.code (bodyOf Try.f19) .ret) (entryFrom 0 same_KeyRanges.ps x)⟩
theorem same_KeyRanges.sigc_le (n : Nat) : ∀ x y, (same_KeyRanges.sigc n).run x = some y → same_KeyRanges.sig.run x = some y :=
  fun x y h => (same_KeyRanges.val x).symm.trans (runs_lim (E := same_KeyRanges.E) (c := same_KeyRanges.ctxc n) ctxLe_nil h)
namespace law12_awake
abbrev ps : List PM := []
abbrev rs : List RM := [.pure .bool]
abbrev R : Type := Option (Bool × Unit)
noncomputable def E : Env := { tt := tt, ctx := [(25, law12_schedule.sig), (21, table_Brackets.sig), (18, table_Lookup.sig), (13, table_Validate.sig), (17, table_UncoveredKeys.sig), (15, table_FirstConflict.sig), (19, same_KeyRanges.sig)], nt := 79, ann := [] }
noncomputable def fin : ASt → R := Kret E Try.f12.results.toList ps rs
noncomputable def Se : R :=
  Option.bind (law12_schedule [((0, 0, ()), 0, 10000, 100000, ()), ((0, 0, ()), 10000, 1000000000000001, 200000, ())]) fun x1 =>
  Option.bind (table_Brackets x1.1 45000 15000 4) fun x2 =>
  Option.bind (table_Lookup x1.1 45000 10000) fun x3 =>
  Option.bind (table_Validate x1.1 []) fun x4 =>
  Option.bind (law12_schedule [((0, 0, ()), 0, 10, 0, ()), ((0, 0, ()), 20, 30, 0, ())]) fun x5 =>
  Option.bind (table_UncoveredKeys x5.1 45000 5 25) fun x6 =>
  Option.bind (law12_schedule [((0, 0, ()), 0, 10, 0, ()), ((0, 0, ()), 5, 7, 0, ())]) fun x7 =>
  Option.bind (table_FirstConflict x7.1) fun x8 =>
  cond (x2.1 == 2000)
    (cond (x2.2.1 == 0)
      (cond (x3.1 == 1)
        (cond x3.2.1
          (cond (x4.2.1 == 0)
            (Option.bind (same_KeyRanges x6.1 [(10, 20, ())]) fun x9 =>
            cond x9.1
              (cond (x8.1 == 0)
                (cond (x8.2.1 == 1)
                  (some (x8.2.2.1, ()))
                  (some (false, ())))
                (some (false, ())))
              (some (false, ())))
            (some (false, ())))
          (some (false, ())))
        (some (false, ())))
      (some (false, ())))
    (some (false, ()))
theorem se (jmp : Tgt → ASt → R) (x : (argTy ps).den) : run E jmp fin depth (bodyOf Try.f12) .ret (entryFrom 0 ps x) =
    Se := by kernel_rfl
end law12_awake
noncomputable def law12_awake : law12_awake.R :=
  law12_awake.Se 
noncomputable def law12_awake.sig : Sig := ⟨law12_awake.ps, law12_awake.rs, fun x => law12_awake⟩
theorem law12_awake.ok : CallOK Try.prog 12 law12_awake.sig :=
  callOK_of_lim (E := law12_awake.E) mixed tt_ok (ctxOk_cons (ctxOk_cons (ctxOk_cons (ctxOk_cons (ctxOk_cons (ctxOk_cons (ctxOk_cons ctxOk_nil same_KeyRanges.ok Try.func19 (by kernel_rfl) (by kernel_rfl)) table_FirstConflict.ok Try.func15 (by kernel_rfl) (by kernel_rfl)) table_UncoveredKeys.ok Try.func17 (by kernel_rfl) (by kernel_rfl)) table_Validate.ok Try.func13 (by kernel_rfl) (by kernel_rfl)) table_Lookup.ok Try.func18 (by kernel_rfl) (by kernel_rfl)) table_Brackets.ok Try.func21 (by kernel_rfl) (by kernel_rfl)) law12_schedule.ok Try.func25 (by kernel_rfl) (by kernel_rfl)) Try.func12 (by kernel_rfl : Try.f12.body = some (bodyOf Try.f12)) Try.ntmps12 (of_decide_eq_true (by kernel_rfl)) (of_decide_eq_true (by kernel_rfl))
    fun x y h => ((lim_eq (.code (bodyOf Try.f12) .ret) (entryFrom 0 law12_awake.ps x)).trans (law12_awake.se (lim law12_awake.E law12_awake.fin) x)).trans h
theorem law12_awake.val (x : (argTy law12_awake.ps).den) : lim law12_awake.E law12_awake.fin (.code (bodyOf Try.f12) .ret) (entryFrom 0 law12_awake.ps x) = law12_awake.sig.run x :=
  (lim_eq (.code (bodyOf Try.f12) .ret) (entryFrom 0 law12_awake.ps x)).trans (law12_awake.se (lim law12_awake.E law12_awake.fin) x)
noncomputable def law12_awake.ctxc (n : Nat) : List (Nat × Sig) := [(25, law12_schedule.sigc n), (21, table_Brackets.sigc n), (18, table_Lookup.sigc n), (13, table_Validate.sigc n), (17, table_UncoveredKeys.sigc n), (15, table_FirstConflict.sigc n), (19, same_KeyRanges.sigc n)]
noncomputable def law12_awake.sigc (n : Nat) : Sig := ⟨law12_awake.ps, law12_awake.rs, fun x => runs (withCtx law12_awake.E (law12_awake.ctxc n)) law12_awake.fin n (.code (bodyOf Try.f12) .ret) (entryFrom 0 law12_awake.ps x)⟩
theorem law12_awake.sigc_le (n : Nat) : ∀ x y, (law12_awake.sigc n).run x = some y → law12_awake.sig.run x = some y :=
  fun x y h => (law12_awake.val x).symm.trans (runs_lim (E := law12_awake.E) (c := law12_awake.ctxc n) (ctxLe_cons (ctxLe_cons (ctxLe_cons (ctxLe_cons (ctxLe_cons (ctxLe_cons (ctxLe_cons ctxLe_nil (same_KeyRanges.sigc_le n)) (table_FirstConflict.sigc_le n)) (table_UncoveredKeys.sigc_le n)) (table_Validate.sigc_le n)) (table_Lookup.sigc_le n)) (table_Brackets.sigc_le n)) (law12_schedule.sigc_le n)) h)
namespace law12_enumsFew
abbrev ps : List PM := [.pure (.sl api_Enum)]
abbrev rs : List RM := [.pure .bool]
abbrev R : Type := Option (Bool × Unit)
noncomputable def E : Env := { tt := tt, ctx := [], nt := 6, ann := [] }
noncomputable def fin : ASt → R := Kret E Try.f11.results.toList ps rs
noncomputable def Se (enums : List api_EnumV) : R :=
  some (decide ((enums.length : Int) ≤ 20), ())
theorem se (jmp : Tgt → ASt → R) (x : (argTy ps).den) : run E jmp fin depth (bodyOf Try.f11) .ret (entryFrom 0 ps x) =
    Se x.1 := by kernel_rfl
end law12_enumsFew
noncomputable def law12_enumsFew (enums : List api_EnumV) : law12_enumsFew.R :=
  law12_enumsFew.Se enums
noncomputable def law12_enumsFew.sig : Sig := ⟨law12_enumsFew.ps, law12_enumsFew.rs, fun x => law12_enumsFew x.1⟩
theorem law12_enumsFew.ok : CallOK Try.prog 11 law12_enumsFew.sig :=
  callOK_of_lim (E := law12_enumsFew.E) mixed tt_ok ctxOk_nil Try.func11 (by kernel_rfl : Try.f11.body = some (bodyOf Try.f11)) Try.ntmps11 (of_decide_eq_true (by kernel_rfl)) (of_decide_eq_true (by kernel_rfl))
    fun x y h => ((lim_eq (.code (bodyOf Try.f11) .ret) (entryFrom 0 law12_enumsFew.ps x)).trans (law12_enumsFew.se (lim law12_enumsFew.E law12_enumsFew.fin) x)).trans h
theorem law12_enumsFew.val (x : (argTy law12_enumsFew.ps).den) : lim law12_enumsFew.E law12_enumsFew.fin (.code (bodyOf Try.f11) .ret) (entryFrom 0 law12_enumsFew.ps x) = law12_enumsFew.sig.run x :=
  (lim_eq (.code (bodyOf Try.f11) .ret) (entryFrom 0 law12_enumsFew.ps x)).trans (law12_enumsFew.se (lim law12_enumsFew.E law12_enumsFew.fin) x)
noncomputable def law12_enumsFew.ctxc (n : Nat) : List (Nat × Sig) := []
noncomputable def law12_enumsFew.sigc (n : Nat) : Sig := ⟨law12_enumsFew.ps, law12_enumsFew.rs, fun x => runs (withCtx law12_enumsFew.E (law12_enumsFew.ctxc n)) law12_enumsFew.fin n (.code (bodyOf Try.f11) .ret) (entryFrom 0 law12_enumsFew.ps x)⟩
theorem law12_enumsFew.sigc_le (n : Nat) : ∀ x y, (law12_enumsFew.sigc n).run x = some y → law12_enumsFew.sig.run x = some y :=
  fun x y h => (law12_enumsFew.val x).symm.trans (runs_lim (E := law12_enumsFew.E) (c := law12_enumsFew.ctxc n) ctxLe_nil h)
namespace ref09_ValidType
abbrev ps : List PM := [.pure api_Type, .pure (.sl api_Enum)]
abbrev rs : List RM := [.pure .bool]
abbrev R : Type := Option (Bool × Unit)
noncomputable def E : Env := { tt := tt, ctx := [], nt := 31, ann := [] }
noncomputable def fin : ASt → R := Kret E Try.f34.results.toList ps rs
noncomputable def Se (t : api_TypeV) (enums : List api_EnumV) : R :=
  cond (t.1 == 6)
    (cond (decide (t.2.1 ≥ 0))
      (some (decide (t.2.1 < (enums.length : Int)), ()))
      (some (false, ())))
    (cond (decide (t.1 ≥ 1))
      (cond (decide (t.1 ≤ 5))
        (some ((t.2.1 == 0), ()))
        (some (false, ())))
      (some (false, ())))
theorem se (jmp : Tgt → ASt → R) (x : (argTy ps).den) : run E jmp fin depth (bodyOf Try.f34) .ret (entryFrom 0 ps x) =
    Se x.1 x.2.1 := by kernel_rfl
end ref09_ValidType
noncomputable def ref09_ValidType (t : api_TypeV) (enums : List api_EnumV) : ref09_ValidType.R :=
  ref09_ValidType.Se t enums
noncomputable def ref09_ValidType.sig : Sig := ⟨ref09_ValidType.ps, ref09_ValidType.rs, fun x => ref09_ValidType x.1 x.2.1⟩
theorem ref09_ValidType.ok : CallOK Try.prog 34 ref09_ValidType.sig :=
  callOK_of_lim (E := ref09_ValidType.E) mixed tt_ok ctxOk_nil Try.func34 (by kernel_rfl : Try.f34.body = some (bodyOf Try.f34)) Try.ntmps34 (of_decide_eq_true (by kernel_rfl)) (of_decide_eq_true (by kernel_rfl))
    fun x y h => ((lim_eq (.code (bodyOf Try.f34) .ret) (entryFrom 0 ref09_ValidType.ps x)).trans (ref09_ValidType.se (lim ref09_ValidType.E ref09_ValidType.fin) x)).trans h
theorem ref09_ValidType.val (x : (argTy ref09_ValidType.ps).den) : lim ref09_ValidType.E ref09_ValidType.fin (.code (bodyOf Try.f34) .ret) (entryFrom 0 ref09_ValidType.ps x) = ref09_ValidType.sig.run x :=
  (lim_eq (.code (bodyOf Try.f34) .ret) (entryFrom 0 ref09_ValidType.ps x)).trans (ref09_ValidType.se (lim ref09_ValidType.E ref09_ValidType.fin) x)
noncomputable def ref09_ValidType.ctxc (n : Nat) : List (Nat × Sig) := []
noncomputable def ref09_ValidType.sigc (n : Nat) : Sig := ⟨ref09_ValidType.ps, ref09_ValidType.rs, fun x => runs (withCtx ref09_ValidType.E (ref09_ValidType.ctxc n)) ref09_ValidType.fin n (.code (bodyOf Try.f34) .ret) (entryFrom 0 ref09_ValidType.ps x)⟩
theorem ref09_ValidType.sigc_le (n : Nat) : ∀ x y, (ref09_ValidType.sigc n).run x = some y → ref09_ValidType.sig.run x = some y :=
  fun x y h => (ref09_ValidType.val x).symm.trans (runs_lim (E := ref09_ValidType.E) (c := ref09_ValidType.ctxc n) ctxLe_nil h)
namespace ref05_Valid
abbrev ps : List PM := [.pure api_Type]
abbrev rs : List RM := [.pure .bool]
abbrev R : Type := Option (Bool × Unit)
noncomputable def E : Env := { tt := tt, ctx := [], nt := 18, ann := [] }
noncomputable def fin : ASt → R := Kret E Try.f65.results.toList ps rs
noncomputable def Se (r_0 : api_TypeV) : R :=
  cond (decide (r_0.1 ≥ 0))
    (cond (decide (r_0.1 ≤ r_0.2.1))
      (some (decide (r_0.2.1 ≤ 109573), ()))
      (some (false, ())))
    (some (false, ()))
theorem se (jmp : Tgt → ASt → R) (x : (argTy ps).den) : run E jmp fin depth (bodyOf Try.f65) .ret (entryFrom 0 ps x) =
    Se x.1 := by kernel_rfl
end ref05_Valid
noncomputable def ref05_Valid (r_0 : api_TypeV) : ref05_Valid.R :=
  ref05_Valid.Se r_0
noncomputable def ref05_Valid.sig : Sig := ⟨ref05_Valid.ps, ref05_Valid.rs, fun x => ref05_Valid x.1⟩
theorem ref05_Valid.ok : CallOK Try.prog 65 ref05_Valid.sig :=
  callOK_of_lim (E := ref05_Valid.E) mixed tt_ok ctxOk_nil Try.func65 (by kernel_rfl : Try.f65.body = some (bodyOf Try.f65)) Try.ntmps65 (of_decide_eq_true (by kernel_rfl)) (of_decide_eq_true (by kernel_rfl))
    fun x y h => ((lim_eq (.code (bodyOf Try.f65) .ret) (entryFrom 0 ref05_Valid.ps x)).trans (ref05_Valid.se (lim ref05_Valid.E ref05_Valid.fin) x)).trans h
theorem ref05_Valid.val (x : (argTy ref05_Valid.ps).den) : lim ref05_Valid.E ref05_Valid.fin (.code (bodyOf Try.f65) .ret) (entryFrom 0 ref05_Valid.ps x) = ref05_Valid.sig.run x :=
  (lim_eq (.code (bodyOf Try.f65) .ret) (entryFrom 0 ref05_Valid.ps x)).trans (ref05_Valid.se (lim ref05_Valid.E ref05_Valid.fin) x)
noncomputable def ref05_Valid.ctxc (n : Nat) : List (Nat × Sig) := []
noncomputable def ref05_Valid.sigc (n : Nat) : Sig := ⟨ref05_Valid.ps, ref05_Valid.rs, fun x => runs (withCtx ref05_Valid.E (ref05_Valid.ctxc n)) ref05_Valid.fin n (.code (bodyOf Try.f65) .ret) (entryFrom 0 ref05_Valid.ps x)⟩
theorem ref05_Valid.sigc_le (n : Nat) : ∀ x y, (ref05_Valid.sigc n).run x = some y → ref05_Valid.sig.run x = some y :=
  fun x y h => (ref05_Valid.val x).symm.trans (runs_lim (E := ref05_Valid.E) (c := ref05_Valid.ctxc n) ctxLe_nil h)
namespace ref09_Bounds
abbrev ps : List PM := [.pure api_Type, .pure (.sl api_Enum)]
abbrev rs : List RM := [.pure (.int .i64), .pure (.int .i64)]
abbrev R : Type := Option (Int × Int × Unit)
noncomputable def E : Env := { tt := tt, ctx := [(34, ref09_ValidType.sig)], nt := 30, ann := [] }
noncomputable def fin : ASt → R := Kret E Try.f80.results.toList ps rs
noncomputable def Se (t : api_TypeV) (enums : List api_EnumV) : R :=
  Option.bind (ref09_ValidType t enums) fun x1 =>
  cond (!x1.1)
    (some (0, (-1), ()))
    (cond (t.1 == 1)
      (some (0, 1, ()))
      (cond (t.1 == 2)
        (some ((-1000000000000), 1000000000000, ()))
        (cond (t.1 == 3)
          (some ((-1000000000000000), 1000000000000000, ()))
          (cond (t.1 == 4)
            (some ((-1000000000), 1000000000, ()))
            (cond (t.1 == 5)
              (some (0, 109572, ()))
              (Option.bind (idx enums t.2.1) fun x2 =>
              some (0, IntKind.i64.wrap ((x2.2.1.length : Int) - 1), ())))))))
theorem se (jmp : Tgt → ASt → R) (x : (argTy ps).den) : run E jmp fin depth (bodyOf Try.f80) .ret (entryFrom 0 ps x) =
    Se x.1 x.2.1 := by kernel_rfl
end ref09_Bounds
noncomputable def ref09_Bounds (t : api_TypeV) (enums : List api_EnumV) : ref09_Bounds.R :=
  ref09_Bounds.Se t enums
noncomputable def ref09_Bounds.sig : Sig := ⟨ref09_Bounds.ps, ref09_Bounds.rs, fun x => ref09_Bounds x.1 x.2.1⟩
theorem ref09_Bounds.ok : CallOK Try.prog 80 ref09_Bounds.sig :=
  callOK_of_lim (E := ref09_Bounds.E) mixed tt_ok (ctxOk_cons ctxOk_nil ref09_ValidType.ok Try.func34 (by kernel_rfl) (by kernel_rfl)) Try.func80 (by kernel_rfl : Try.f80.body = some (bodyOf Try.f80)) Try.ntmps80 (of_decide_eq_true (by kernel_rfl)) (of_decide_eq_true (by kernel_rfl))
    fun x y h => ((lim_eq (.code (bodyOf Try.f80) .ret) (entryFrom 0 ref09_Bounds.ps x)).trans (ref09_Bounds.se (lim ref09_Bounds.E ref09_Bounds.fin) x)).trans h
theorem ref09_Bounds.val (x : (argTy ref09_Bounds.ps).den) : lim ref09_Bounds.E ref09_Bounds.fin (.code (bodyOf Try.f80) .ret) (entryFrom 0 ref09_Bounds.ps x) = ref09_Bounds.sig.run x :=
  (lim_eq (.code (bodyOf Try.f80) .ret) (entryFrom 0 ref09_Bounds.ps x)).trans (ref09_Bounds.se (lim ref09_Bounds.E ref09_Bounds.fin) x)
noncomputable def ref09_Bounds.ctxc (n : Nat) : List (Nat × Sig) := [(34, ref09_ValidType.sigc n)]
noncomputable def ref09_Bounds.sigc (n : Nat) : Sig := ⟨ref09_Bounds.ps, ref09_Bounds.rs, fun x => runs (withCtx ref09_Bounds.E (ref09_Bounds.ctxc n)) ref09_Bounds.fin n (.code (bodyOf Try.f80) .ret) (entryFrom 0 ref09_Bounds.ps x)⟩
theorem ref09_Bounds.sigc_le (n : Nat) : ∀ x y, (ref09_Bounds.sigc n).run x = some y → ref09_Bounds.sig.run x = some y :=
  fun x y h => (ref09_Bounds.val x).symm.trans (runs_lim (E := ref09_Bounds.E) (c := ref09_Bounds.ctxc n) (ctxLe_cons ctxLe_nil (ref09_ValidType.sigc_le n)) h)
namespace ref09_In
abbrev ps : List PM := [.pure (.int .i64), .pure api_Type, .pure (.sl api_Enum)]
abbrev rs : List RM := [.pure .bool]
abbrev R : Type := Option (Bool × Unit)
noncomputable def E : Env := { tt := tt, ctx := [(80, ref09_Bounds.sig)], nt := 23, ann := [] }
noncomputable def fin : ASt → R := Kret E Try.f66.results.toList ps rs
noncomputable def Se (n_0 : Int) (t : api_TypeV) (enums : List api_EnumV) : R :=
  Option.bind (ref09_Bounds t enums) fun x1 =>
  cond (decide (x1.1 ≤ n_0))
    (some (decide (n_0 ≤ x1.2.1), ()))
    (some (false, ()))
theorem se (jmp : Tgt → ASt → R) (x : (argTy ps).den) : run E jmp fin depth (bodyOf Try.f66) .ret (entryFrom 0 ps x) =
    Se x.1 x.2.1 x.2.2.1 := by kernel_rfl
end ref09_In
noncomputable def ref09_In (n_0 : Int) (t : api_TypeV) (enums : List api_EnumV) : ref09_In.R :=
  ref09_In.Se n_0 t enums
noncomputable def ref09_In.sig : Sig := ⟨ref09_In.ps, ref09_In.rs, fun x => ref09_In x.1 x.2.1 x.2.2.1⟩
theorem ref09_In.ok : CallOK Try.prog 66 ref09_In.sig :=
  callOK_of_lim (E := ref09_In.E) mixed tt_ok (ctxOk_cons ctxOk_nil ref09_Bounds.ok Try.func80 (by kernel_rfl) (by kernel_rfl)) Try.func66 (by kernel_rfl : Try.f66.body = some (bodyOf Try.f66)) Try.ntmps66 (of_decide_eq_true (by kernel_rfl)) (of_decide_eq_true (by kernel_rfl))
    fun x y h => ((lim_eq (.code (bodyOf Try.f66) .ret) (entryFrom 0 ref09_In.ps x)).trans (ref09_In.se (lim ref09_In.E ref09_In.fin) x)).trans h
theorem ref09_In.val (x : (argTy ref09_In.ps).den) : lim ref09_In.E ref09_In.fin (.code (bodyOf Try.f66) .ret) (entryFrom 0 ref09_In.ps x) = ref09_In.sig.run x :=
  (lim_eq (.code (bodyOf Try.f66) .ret) (entryFrom 0 ref09_In.ps x)).trans (ref09_In.se (lim ref09_In.E ref09_In.fin) x)
noncomputable def ref09_In.ctxc (n : Nat) : List (Nat × Sig) := [(80, ref09_Bounds.sigc n)]
noncomputable def ref09_In.sigc (n : Nat) : Sig := ⟨ref09_In.ps, ref09_In.rs, fun x => runs (withCtx ref09_In.E (ref09_In.ctxc n)) ref09_In.fin n (.code (bodyOf Try.f66) .ret) (entryFrom 0 ref09_In.ps x)⟩
theorem ref09_In.sigc_le (n : Nat) : ∀ x y, (ref09_In.sigc n).run x = some y → ref09_In.sig.run x = some y :=
  fun x y h => (ref09_In.val x).symm.trans (runs_lim (E := ref09_In.E) (c := ref09_In.ctxc n) (ctxLe_cons ctxLe_nil (ref09_Bounds.sigc_le n)) h)
namespace ref12_wrong
abbrev ps : List PM := [.pure api_Row, .pure api_Table, .pure (.sl api_Enum)]
abbrev rs : List RM := [.pure .bool]
abbrev R : Type := Option (Bool × Unit)
noncomputable def E : Env := { tt := tt, ctx := [(65, ref05_Valid.sig), (66, ref09_In.sig)], nt := 53, ann := [(3, [(2, .keep), (3, .keep), (4, .keep)])] }
noncomputable def c0 : Code := sub [1, 1] (bodyOf Try.f35)
noncomputable def fin : ASt → R := Kret E Try.f35.results.toList ps rs
def tJ0 (enums : List api_EnumV) (x_3 : api_RowV) (t : api_TableV) : ASt := ⟨[(4, .one (.optr 4 0 [])), (3, .one (.optr 3 0 [])), (2, .one (.val (.sl api_Enum) enums))], [(4, some ⟨.free, api_Table, [t]⟩), (3, some ⟨.free, api_Row, [x_3]⟩)]⟩
noncomputable def SJ0 (enums : List api_EnumV) (x_3 : api_RowV) (t : api_TableV) : R :=
  Option.bind (ref09_In x_3.2.1 t.2.1 enums) fun x1 =>
  cond (!x1.1)
    (some (true, ()))
    (Option.bind (ref09_In (IntKind.i64.wrap (x_3.2.2.1 - 1)) t.2.1 enums) fun x2 =>
    cond (!x2.1)
      (some (true, ()))
      (Option.bind (ref09_In x_3.2.2.2.1 t.2.2.1 enums) fun x3 =>
      some ((!x3.1), ())))
noncomputable def Se (kJ0 : (List api_EnumV) → api_RowV → api_TableV → R) (x_0 : api_RowV) (t : api_TableV) (enums : List api_EnumV) : R :=
  Option.bind (ref05_Valid x_0.1) fun x1 =>
  cond (!x1.1)
    (some (true, ()))
    (cond (x_0.1.1 == x_0.1.2.1)
      (some (true, ()))
      (cond (decide (x_0.2.1 ≥ x_0.2.2.1))
        (some (true, ()))
        (kJ0 enums x_0 t)))
theorem sJ0 (jmp : Tgt → ASt → R) (enums : List api_EnumV) (x_3 : api_RowV) (t : api_TableV) : run E jmp fin depth c0 .ret (tJ0 enums x_3 t) =
    SJ0 enums x_3 t := by kernel_rfl
theorem se (jmp : Tgt → ASt → R) (x : (argTy ps).den) : run E jmp fin depth (bodyOf Try.f35) .ret (entryFrom 0 ps x) =
    Se (fun enums x_3 t => jmp (.code c0 .ret) (tJ0 enums x_3 t)) x.1 x.2.1 x.2.2.1 := by kernel_rfl
noncomputable def J0 (enums : List api_EnumV) (x_3 : api_RowV) (t : api_TableV) : R := lim E fin (.code c0 .ret) (tJ0 enums x_3 t)
theorem J0_eq (enums : List api_EnumV) (x_3 : api_RowV) (t : api_TableV) : J0 enums x_3 t = SJ0 enums x_3 t :=
  (lim_eq (.code c0 .ret) (tJ0 enums x_3 t)).trans (sJ0 (lim E fin) enums x_3 t)
end ref12_wrong
noncomputable def ref12_wrong (x_0 : api_RowV) (t : api_TableV) (enums : List api_EnumV) : ref12_wrong.R :=
  ref12_wrong.Se ref12_wrong.J0 x_0 t enums
noncomputable def ref12_wrong.sig : Sig := ⟨ref12_wrong.ps, ref12_wrong.rs, fun x => ref12_wrong x.1 x.2.1 x.2.2.1⟩
theorem ref12_wrong.ok : CallOK Try.prog 35 ref12_wrong.sig :=
  callOK_of_lim (E := ref12_wrong.E) mixed tt_ok (ctxOk_cons (ctxOk_cons ctxOk_nil ref09_In.ok Try.func66 (by kernel_rfl) (by kernel_rfl)) ref05_Valid.ok Try.func65 (by kernel_rfl) (by kernel_rfl)) Try.func35 (by kernel_rfl : Try.f35.body = some (bodyOf Try.f35)) Try.ntmps35 (of_decide_eq_true (by kernel_rfl)) (of_decide_eq_true (by kernel_rfl))
    fun x y h => ((lim_eq (.code (bodyOf Try.f35) .ret) (entryFrom 0 ref12_wrong.ps x)).trans (ref12_wrong.se (lim ref12_wrong.E ref12_wrong.fin) x)).trans h
theorem ref12_wrong.val (x : (argTy ref12_wrong.ps).den) : lim ref12_wrong.E ref12_wrong.fin (.code (bodyOf Try.f35) .ret) (entryFrom 0 ref12_wrong.ps x) = ref12_wrong.sig.run x :=
  (lim_eq (.code (bodyOf Try.f35) .ret) (entryFrom 0 ref12_wrong.ps x)).trans (ref12_wrong.se (lim ref12_wrong.E ref12_wrong.fin) x)
noncomputable def ref12_wrong.ctxc (n : Nat) : List (Nat × Sig) := [(65, ref05_Valid.sigc n), (66, ref09_In.sigc n)]
noncomputable def ref12_wrong.sigc (n : Nat) : Sig := ⟨ref12_wrong.ps, ref12_wrong.rs, fun x => runs (withCtx ref12_wrong.E (ref12_wrong.ctxc n)) ref12_wrong.fin n (.code (bodyOf Try.f35) .ret) (entryFrom 0 ref12_wrong.ps x)⟩
theorem ref12_wrong.sigc_le (n : Nat) : ∀ x y, (ref12_wrong.sigc n).run x = some y → ref12_wrong.sig.run x = some y :=
  fun x y h => (ref12_wrong.val x).symm.trans (runs_lim (E := ref12_wrong.E) (c := ref12_wrong.ctxc n) (ctxLe_cons (ctxLe_cons ctxLe_nil (ref09_In.sigc_le n)) (ref05_Valid.sigc_le n)) h)
namespace ref05_Intersect
abbrev ps : List PM := [.pure api_Type, .pure api_Type]
abbrev rs : List RM := [.pure api_Type, .pure .bool]
abbrev R : Type := Option (api_TypeV × Bool × Unit)
noncomputable def E : Env := { tt := tt, ctx := [(65, ref05_Valid.sig)], nt := 34, ann := [(3, [(2, .keep), (3, .keep), (4, .keep)])] }
noncomputable def c0 : Code := sub [1, 1] (bodyOf Try.f67)
noncomputable def fin : ASt → R := Kret E Try.f67.results.toList ps rs
def tJ0 (a : api_TypeV) (b : api_TypeV) (v_4 : api_TypeV) : ASt := ⟨[(4, .one (.optr 4 0 [])), (3, .one (.optr 3 0 [])), (2, .one (.optr 2 0 []))], [(4, some ⟨.free, api_Type, [v_4]⟩), (3, some ⟨.free, api_Type, [b]⟩), (2, some ⟨.free, api_Type, [a]⟩)]⟩
noncomputable def SJ0 (a : api_TypeV) (b : api_TypeV) (v_4 : api_TypeV) : R :=
  cond (decide ((cond (decide (b.1 > a.1)) b.1 a.1) ≥ (cond (decide (b.2.1 < a.2.1)) b.2.1 a.2.1)))
    (some ((0, 0, ()), false, ()))
    (some (((cond (decide (b.1 > a.1)) b.1 a.1), (cond (decide (b.2.1 < a.2.1)) b.2.1 a.2.1), ()), true, ()))
noncomputable def Se (kJ0 : api_TypeV → api_TypeV → api_TypeV → R) (a : api_TypeV) (b : api_TypeV) : R :=
  Option.bind (ref05_Valid a) fun x1 =>
  cond (!x1.1)
    (some ((0, 0, ()), false, ()))
    (Option.bind (ref05_Valid b) fun x2 =>
    cond (!x2.1)
      (some ((0, 0, ()), false, ()))
      (kJ0 a b (0, 0, ())))
theorem sJ0 (jmp : Tgt → ASt → R) (a : api_TypeV) (b : api_TypeV) (v_4 : api_TypeV) : run E jmp fin depth c0 .ret (tJ0 a b v_4) =
    SJ0 a b v_4 := by kernel_rfl
theorem se (jmp : Tgt → ASt → R) (x : (argTy ps).den) : run E jmp fin depth (bodyOf Try.f67) .ret (entryFrom 0 ps x) =
    Se (fun a b v_4 => jmp (.code c0 .ret) (tJ0 a b v_4)) x.1 x.2.1 := by kernel_rfl
noncomputable def J0 (a : api_TypeV) (b : api_TypeV) (v_4 : api_TypeV) : R := lim E fin (.code c0 .ret) (tJ0 a b v_4)
theorem J0_eq (a : api_TypeV) (b : api_TypeV) (v_4 : api_TypeV) : J0 a b v_4 = SJ0 a b v_4 :=
  (lim_eq (.code c0 .ret) (tJ0 a b v_4)).trans (sJ0 (lim E fin) a b v_4)
end ref05_Intersect
noncomputable def ref05_Intersect (a : api_TypeV) (b : api_TypeV) : ref05_Intersect.R :=
  ref05_Intersect.Se ref05_Intersect.J0 a b
noncomputable def ref05_Intersect.sig : Sig := ⟨ref05_Intersect.ps, ref05_Intersect.rs, fun x => ref05_Intersect x.1 x.2.1⟩
theorem ref05_Intersect.ok : CallOK Try.prog 67 ref05_Intersect.sig :=
  callOK_of_lim (E := ref05_Intersect.E) mixed tt_ok (ctxOk_cons ctxOk_nil ref05_Valid.ok Try.func65 (by kernel_rfl) (by kernel_rfl)) Try.func67 (by kernel_rfl : Try.f67.body = some (bodyOf Try.f67)) Try.ntmps67 (of_decide_eq_true (by kernel_rfl)) (of_decide_eq_true (by kernel_rfl))
    fun x y h => ((lim_eq (.code (bodyOf Try.f67) .ret) (entryFrom 0 ref05_Intersect.ps x)).trans (ref05_Intersect.se (lim ref05_Intersect.E ref05_Intersect.fin) x)).trans h
theorem ref05_Intersect.val (x : (argTy ref05_Intersect.ps).den) : lim ref05_Intersect.E ref05_Intersect.fin (.code (bodyOf Try.f67) .ret) (entryFrom 0 ref05_Intersect.ps x) = ref05_Intersect.sig.run x :=
  (lim_eq (.code (bodyOf Try.f67) .ret) (entryFrom 0 ref05_Intersect.ps x)).trans (ref05_Intersect.se (lim ref05_Intersect.E ref05_Intersect.fin) x)
noncomputable def ref05_Intersect.ctxc (n : Nat) : List (Nat × Sig) := [(65, ref05_Valid.sigc n)]
noncomputable def ref05_Intersect.sigc (n : Nat) : Sig := ⟨ref05_Intersect.ps, ref05_Intersect.rs, fun x => runs (withCtx ref05_Intersect.E (ref05_Intersect.ctxc n)) ref05_Intersect.fin n (.code (bodyOf Try.f67) .ret) (entryFrom 0 ref05_Intersect.ps x)⟩
theorem ref05_Intersect.sigc_le (n : Nat) : ∀ x y, (ref05_Intersect.sigc n).run x = some y → ref05_Intersect.sig.run x = some y :=
  fun x y h => (ref05_Intersect.val x).symm.trans (runs_lim (E := ref05_Intersect.E) (c := ref05_Intersect.ctxc n) (ctxLe_cons ctxLe_nil (ref05_Valid.sigc_le n)) h)
namespace ref12_conflict
abbrev ps : List PM := [.pure api_Row, .pure api_Row]
abbrev rs : List RM := [.pure .bool]
abbrev R : Type := Option (Bool × Unit)
noncomputable def E : Env := { tt := tt, ctx := [(67, ref05_Intersect.sig)], nt := 29, ann := [] }
noncomputable def fin : ASt → R := Kret E Try.f36.results.toList ps rs
noncomputable def Se (a : api_RowV) (b : api_RowV) : R :=
  Option.bind (ref05_Intersect a.1 b.1) fun x1 =>
  cond x1.2.1
    (some (decide ((cond (decide (b.2.1 > a.2.1)) b.2.1 a.2.1) < (cond (decide (b.2.2.1 < a.2.2.1)) b.2.2.1 a.2.2.1)), ()))
    (some (false, ()))
theorem se (jmp : Tgt → ASt → R) (x : (argTy ps).den) : run E jmp fin depth (bodyOf Try.f36) .ret (entryFrom 0 ps x) =
    Se x.1 x.2.1 := by kernel_rfl
end ref12_conflict
noncomputable def ref12_conflict (a : api_RowV) (b : api_RowV) : ref12_conflict.R :=
  ref12_conflict.Se a b
noncomputable def ref12_conflict.sig : Sig := ⟨ref12_conflict.ps, ref12_conflict.rs, fun x => ref12_conflict x.1 x.2.1⟩
theorem ref12_conflict.ok : CallOK Try.prog 36 ref12_conflict.sig :=
  callOK_of_lim (E := ref12_conflict.E) mixed tt_ok (ctxOk_cons ctxOk_nil ref05_Intersect.ok Try.func67 (by kernel_rfl) (by kernel_rfl)) Try.func36 (by kernel_rfl : Try.f36.body = some (bodyOf Try.f36)) Try.ntmps36 (of_decide_eq_true (by kernel_rfl)) (of_decide_eq_true (by kernel_rfl))
    fun x y h => ((lim_eq (.code (bodyOf Try.f36) .ret) (entryFrom 0 ref12_conflict.ps x)).trans (ref12_conflict.se (lim ref12_conflict.E ref12_conflict.fin) x)).trans h
theorem ref12_conflict.val (x : (argTy ref12_conflict.ps).den) : lim ref12_conflict.E ref12_conflict.fin (.code (bodyOf Try.f36) .ret) (entryFrom 0 ref12_conflict.ps x) = ref12_conflict.sig.run x :=
  (lim_eq (.code (bodyOf Try.f36) .ret) (entryFrom 0 ref12_conflict.ps x)).trans (ref12_conflict.se (lim ref12_conflict.E ref12_conflict.fin) x)
noncomputable def ref12_conflict.ctxc (n : Nat) : List (Nat × Sig) := [(67, ref05_Intersect.sigc n)]
noncomputable def ref12_conflict.sigc (n : Nat) : Sig := ⟨ref12_conflict.ps, ref12_conflict.rs, fun x => runs (withCtx ref12_conflict.E (ref12_conflict.ctxc n)) ref12_conflict.fin n (.code (bodyOf Try.f36) .ret) (entryFrom 0 ref12_conflict.ps x)⟩
theorem ref12_conflict.sigc_le (n : Nat) : ∀ x y, (ref12_conflict.sigc n).run x = some y → ref12_conflict.sig.run x = some y :=
  fun x y h => (ref12_conflict.val x).symm.trans (runs_lim (E := ref12_conflict.E) (c := ref12_conflict.ctxc n) (ctxLe_cons ctxLe_nil (ref05_Intersect.sigc_le n)) h)
namespace ref12_Validate
abbrev ps : List PM := [.pure api_Table, .pure (.sl api_Enum)]
abbrev rs : List RM := [.pure (.int .i64), .pure (.int .i64)]
abbrev R : Type := Option (Int × Int × Unit)
noncomputable def E : Env := { tt := tt, ctx := [(34, ref09_ValidType.sig), (35, ref12_wrong.sig), (36, ref12_conflict.sig)], nt := 57, ann := [(5, [(1, .keep), (2, .keep)]), (1000006, [(1, .keep), (2, .keep), (6, .keep)]), (1000011, [(1, .keep), (2, .keep), (6, .keep), (7, .keep)])] }
noncomputable def c0 : Code := sub [1, 1, 1, 1] (bodyOf Try.f14)
noncomputable def c1 : Code := sub [1, 1, 1, 0, 1, 0, 0] (bodyOf Try.f14)
noncomputable def c2 : Code := sub [1, 1, 1, 0, 1, 0, 0, 1, 1] (bodyOf Try.f14)
noncomputable def c3 : Code := sub [1, 1, 1] (bodyOf Try.f14)
noncomputable def c4 : Code := sub [1, 1, 1, 0, 1, 0, 0, 1, 0, 0, 1, 1, 0, 0] (bodyOf Try.f14)
noncomputable def K8 : Kont := .seq c0 .ret
noncomputable def K10 : Kont := .blk 0 K8
noncomputable def K11 : Kont := .loop c1 K10
noncomputable def K14 : Kont := .seq c2 K11
noncomputable def K15 : Kont := .blk 1 K14
noncomputable def K20 : Kont := .blk 2 K15
noncomputable def fin : ASt → R := Kret E Try.f14.results.toList ps rs
def tJ0 (enums : List api_EnumV) (t : api_TableV) : ASt := ⟨[(2, .one (.optr 2 0 [])), (1, .one (.val (.sl api_Enum) enums))], [(2, some ⟨.free, api_Table, [t]⟩)]⟩
def tL1 (enums : List api_EnumV) (t : api_TableV) (i : Int) : ASt := ⟨[(6, .one (.val (.int .i64) i)), (2, .one (.optr 2 0 [])), (1, .one (.val (.sl api_Enum) enums))], [(2, some ⟨.free, api_Table, [t]⟩)]⟩
def tL2 (enums : List api_EnumV) (t : api_TableV) (i : Int) (k : Int) : ASt := ⟨[(7, .one (.val (.int .i64) k)), (6, .one (.val (.int .i64) i)), (2, .one (.optr 2 0 [])), (1, .one (.val (.sl api_Enum) enums))], [(2, some ⟨.free, api_Table, [t]⟩)]⟩
noncomputable def SJ0 (kL1 : (List api_EnumV) → api_TableV → Int → R) (enums : List api_EnumV) (t : api_TableV) : R :=
  kL1 enums t 0
noncomputable def SL1 (kL2 : (List api_EnumV) → api_TableV → Int → Int → R) (enums : List api_EnumV) (t : api_TableV) (i : Int) : R :=
  cond (decide (i < (t.2.2.2.1.length : Int)))
    (Option.bind (idx t.2.2.2.1 i) fun x1 =>
    Option.bind (ref12_wrong x1 t enums) fun x2 =>
    cond x2.1
      (some (i, 3, ()))
      (kL2 enums t i 0))
    (some (0, 0, ()))
noncomputable def SL2 (kL2 : (List api_EnumV) → api_TableV → Int → Int → R) (kL1 : (List api_EnumV) → api_TableV → Int → R) (enums : List api_EnumV) (t : api_TableV) (i : Int) (k : Int) : R :=
  cond (decide (k < i))
    (Option.bind (idx t.2.2.2.1 k) fun x1 =>
    Option.bind (idx t.2.2.2.1 i) fun x2 =>
    Option.bind (ref12_conflict x1 x2) fun x3 =>
    cond x3.1
      (some (i, 11, ()))
      (kL2 enums t i (IntKind.i64.wrap (k + 1))))
    (kL1 enums t (IntKind.i64.wrap (i + 1)))
noncomputable def Se (kJ0 : (List api_EnumV) → api_TableV → R) (t : api_TableV) (enums : List api_EnumV) : R :=
  cond (decide ((t.2.2.2.1.length : Int) > 64))
    (some (64, 4, ()))
    (Option.bind (ref09_ValidType t.2.1 enums) fun x1 =>
    cond (!x1.1)
      (some ((-1), 8, ()))
      (Option.bind (ref09_ValidType t.2.2.1 enums) fun x2 =>
      cond (!x2.1)
        (some ((-1), 8, ()))
        (kJ0 enums t)))
theorem sJ0 (jmp : Tgt → ASt → R) (enums : List api_EnumV) (t : api_TableV) : run E jmp fin depth c3 .ret (tJ0 enums t) =
    SJ0 (fun enums t i => jmp (.loop c1 K10) (tL1 enums t i)) enums t := by kernel_rfl
theorem sL1 (jmp : Tgt → ASt → R) (enums : List api_EnumV) (t : api_TableV) (i : Int) : run E jmp fin depth c1 (.loop c1 K10) (tL1 enums t i) =
    SL1 (fun enums t i k => jmp (.loop c4 K20) (tL2 enums t i k)) enums t i := by kernel_rfl
theorem sL2 (jmp : Tgt → ASt → R) (enums : List api_EnumV) (t : api_TableV) (i : Int) (k : Int) : run E jmp fin depth c4 (.loop c4 K20) (tL2 enums t i k) =
    SL2 (fun enums t i k => jmp (.loop c4 K20) (tL2 enums t i k)) (fun enums t i => jmp (.loop c1 K10) (tL1 enums t i)) enums t i k := by kernel_rfl
theorem se (jmp : Tgt → ASt → R) (x : (argTy ps).den) : run E jmp fin depth (bodyOf Try.f14) .ret (entryFrom 0 ps x) =
    Se (fun enums t => jmp (.code c3 .ret) (tJ0 enums t)) x.1 x.2.1 := by kernel_rfl
noncomputable def J0 (enums : List api_EnumV) (t : api_TableV) : R := lim E fin (.code c3 .ret) (tJ0 enums t)
noncomputable def L1 (enums : List api_EnumV) (t : api_TableV) (i : Int) : R := lim E fin (.loop c1 K10) (tL1 enums t i)
noncomputable def L2 (enums : List api_EnumV) (t : api_TableV) (i : Int) (k : Int) : R := lim E fin (.loop c4 K20) (tL2 enums t i k)
theorem J0_eq (enums : List api_EnumV) (t : api_TableV) : J0 enums t = SJ0 L1 enums t :=
  (lim_eq (.code c3 .ret) (tJ0 enums t)).trans (sJ0 (lim E fin) enums t)
theorem L1_eq (enums : List api_EnumV) (t : api_TableV) (i : Int) : L1 enums t i = SL1 L2 enums t i :=
  (lim_eq (.loop c1 K10) (tL1 enums t i)).trans (sL1 (lim E fin) enums t i)
theorem L2_eq (enums : List api_EnumV) (t : api_TableV) (i : Int) (k : Int) : L2 enums t i k = SL2 L2 L1 enums t i k :=
  (lim_eq (.loop c4 K20) (tL2 enums t i k)).trans (sL2 (lim E fin) enums t i k)
end ref12_Validate
noncomputable def ref12_Validate (t : api_TableV) (enums : List api_EnumV) : ref12_Validate.R :=
  ref12_Validate.Se ref12_Validate.J0 t enums
noncomputable def ref12_Validate.sig : Sig := ⟨ref12_Validate.ps, ref12_Validate.rs, fun x => ref12_Validate x.1 x.2.1⟩
theorem ref12_Validate.ok : CallOK Try.prog 14 ref12_Validate.sig :=
  callOK_of_lim (E := ref12_Validate.E) mixed tt_ok (ctxOk_cons (ctxOk_cons (ctxOk_cons ctxOk_nil ref12_conflict.ok Try.func36 (by kernel_rfl) (by kernel_rfl)) ref12_wrong.ok Try.func35 (by kernel_rfl) (by kernel_rfl)) ref09_ValidType.ok Try.func34 (by kernel_rfl) (by kernel_rfl)) Try.func14 (by kernel_rfl : Try.f14.body = some (bodyOf Try.f14)) Try.ntmps14 (of_decide_eq_true (by kernel_rfl)) (of_decide_eq_true (by kernel_rfl))
    fun x y h => ((lim_eq (.code (bodyOf Try.f14) .ret) (entryFrom 0 ref12_Validate.ps x)).trans (ref12_Validate.se (lim ref12_Validate.E ref12_Validate.fin) x)).trans h
theorem ref12_Validate.val (x : (argTy ref12_Validate.ps).den) : lim ref12_Validate.E ref12_Validate.fin (.code (bodyOf Try.f14) .ret) (entryFrom 0 ref12_Validate.ps x) = ref12_Validate.sig.run x :=
  (lim_eq (.code (bodyOf Try.f14) .ret) (entryFrom 0 ref12_Validate.ps x)).trans (ref12_Validate.se (lim ref12_Validate.E ref12_Validate.fin) x)
noncomputable def ref12_Validate.ctxc (n : Nat) : List (Nat × Sig) := [(34, ref09_ValidType.sigc n), (35, ref12_wrong.sigc n), (36, ref12_conflict.sigc n)]
noncomputable def ref12_Validate.sigc (n : Nat) : Sig := ⟨ref12_Validate.ps, ref12_Validate.rs, fun x => runs (withCtx ref12_Validate.E (ref12_Validate.ctxc n)) ref12_Validate.fin n (.code (bodyOf Try.f14) .ret) (entryFrom 0 ref12_Validate.ps x)⟩
theorem ref12_Validate.sigc_le (n : Nat) : ∀ x y, (ref12_Validate.sigc n).run x = some y → ref12_Validate.sig.run x = some y :=
  fun x y h => (ref12_Validate.val x).symm.trans (runs_lim (E := ref12_Validate.E) (c := ref12_Validate.ctxc n) (ctxLe_cons (ctxLe_cons (ctxLe_cons ctxLe_nil (ref12_conflict.sigc_le n)) (ref12_wrong.sigc_le n)) (ref09_ValidType.sigc_le n)) h)
end Go.Proofs.Ytgnigfnonoicmaa
