/- The functions of the program as typed Lean functions, with the proof that they are what the code computes. -/
import Derived.Test.YtmkkdjnojcmihaaCode1
set_option maxRecDepth 100000
set_option linter.unusedVariables false
namespace Go.Proofs.Ytmkkdjnojcmihaa
open Go Go.Lift

/-! ### slices.partitionOrdered[int] -/
namespace slices_partitionOrdered_int
abbrev ps : List PM := [.own (.int .i64), .pure (.int .i64), .pure (.int .i64), .pure (.int .i64)]
abbrev rs : List RM := [.pure (.int .i64), .pure .bool]
abbrev R : Type := Option (Int × Bool × List Int × Unit)
noncomputable def E : Env := { tt := tt, ctx := [(64, cmp_Less_int.sig)], nt := 168, ann := [(5, [(0, .keep), (1, .keep), (10, .keep), (11, .keep)]), (1000003, [(0, .keep), (1, .keep), (10, .keep), (11, .keep)]), (7, [(0, .keep), (1, .keep), (10, .keep), (11, .keep)]), (1000005, [(0, .keep), (1, .keep), (10, .keep), (11, .keep)]), (1000013, [(0, .keep), (1, .keep), (10, .keep), (11, .keep)]), (15, [(0, .keep), (1, .keep), (10, .keep), (11, .keep)]), (1000013, [(0, .keep), (1, .keep), (10, .keep), (11, .keep)]), (17, [(0, .keep), (1, .keep), (10, .keep), (11, .keep)]), (1000015, [(0, .keep), (1, .keep), (10, .keep), (11, .keep)])] }
noncomputable def c0 : Code := sub [1, 1, 1, 1] (bodyOf Try.f66)
noncomputable def c1 : Code := sub [1, 1, 1, 1, 1] (bodyOf Try.f66)
noncomputable def c2 : Code := sub [1, 1, 1, 1, 1, 1, 1, 1, 1, 1] (bodyOf Try.f66)
noncomputable def c3 : Code := sub [1, 1, 1, 1, 1, 1, 1, 1, 1, 0, 0, 0] (bodyOf Try.f66)
noncomputable def c4 : Code := sub [1, 1, 1, 1, 1, 1, 1, 1, 1, 0, 0, 0, 0, 1] (bodyOf Try.f66)
noncomputable def c5 : Code := sub [1, 1, 1, 1, 1, 1, 1, 1, 1, 0, 0, 0, 0, 1, 1] (bodyOf Try.f66)
noncomputable def c6 : Code := sub [1, 1, 1, 0, 0, 0] (bodyOf Try.f66)
noncomputable def c7 : Code := sub [1, 1, 1, 1, 0, 0, 0] (bodyOf Try.f66)
noncomputable def c8 : Code := sub [1, 1, 1, 1, 1, 1, 1, 1, 1, 0, 0, 0, 0, 0, 0, 0] (bodyOf Try.f66)
noncomputable def c9 : Code := sub [1, 1, 1, 1, 1, 1, 1, 1, 1, 0, 0, 0, 0, 1, 0, 0, 0] (bodyOf Try.f66)
noncomputable def K4 : Kont := .seq c0 .ret
noncomputable def K5 : Kont := .blk 0 K4
noncomputable def K10 : Kont := .seq c1 .ret
noncomputable def K11 : Kont := .blk 2 K10
noncomputable def K23 : Kont := .seq c2 .ret
noncomputable def K24 : Kont := .blk 4 K23
noncomputable def K25 : Kont := .loop c3 K24
noncomputable def K26 : Kont := .blk 5 K25
noncomputable def K27 : Kont := .seq c4 K26
noncomputable def K28 : Kont := .blk 6 K27
noncomputable def K33 : Kont := .seq c5 K26
noncomputable def K34 : Kont := .blk 8 K33
noncomputable def fin : ASt → R := Kret E Try.f66.results.toList ps rs
def tJ0 (a : Int) (i : Int) (j : Int) (data_P : List Int) : ASt := ⟨[(11, .one (.val (.int .i64) j)), (10, .one (.val (.int .i64) i)), (1, .one (.val (.int .i64) a)), (0, .one (.own 10000))], [(10000, some ⟨.fixed, .int .i64, data_P⟩)]⟩
def tL1 (a : Int) (i : Int) (j : Int) (data_P : List Int) : ASt := ⟨[(11, .one (.val (.int .i64) j)), (10, .one (.val (.int .i64) i)), (1, .one (.val (.int .i64) a)), (0, .one (.own 10000))], [(10000, some ⟨.fixed, .int .i64, data_P⟩)]⟩
def tJ2 (a : Int) (i : Int) (j : Int) (data_P : List Int) : ASt := ⟨[(11, .one (.val (.int .i64) j)), (10, .one (.val (.int .i64) i)), (1, .one (.val (.int .i64) a)), (0, .one (.own 10000))], [(10000, some ⟨.fixed, .int .i64, data_P⟩)]⟩
def tL3 (a : Int) (i : Int) (j : Int) (data_P : List Int) : ASt := ⟨[(11, .one (.val (.int .i64) j)), (10, .one (.val (.int .i64) i)), (1, .one (.val (.int .i64) a)), (0, .one (.own 10000))], [(10000, some ⟨.fixed, .int .i64, data_P⟩)]⟩
def tL4 (a : Int) (i : Int) (j : Int) (data_P : List Int) : ASt := ⟨[(11, .one (.val (.int .i64) j)), (10, .one (.val (.int .i64) i)), (1, .one (.val (.int .i64) a)), (0, .one (.own 10000))], [(10000, some ⟨.fixed, .int .i64, data_P⟩)]⟩
def tJ5 (a : Int) (i : Int) (j : Int) (data_P : List Int) : ASt := ⟨[(11, .one (.val (.int .i64) j)), (10, .one (.val (.int .i64) i)), (1, .one (.val (.int .i64) a)), (0, .one (.own 10000))], [(10000, some ⟨.fixed, .int .i64, data_P⟩)]⟩
def tL6 (a : Int) (i : Int) (j : Int) (data_P : List Int) : ASt := ⟨[(11, .one (.val (.int .i64) j)), (10, .one (.val (.int .i64) i)), (1, .one (.val (.int .i64) a)), (0, .one (.own 10000))], [(10000, some ⟨.fixed, .int .i64, data_P⟩)]⟩
def tJ7 (a : Int) (i : Int) (j : Int) (data_P : List Int) : ASt := ⟨[(11, .one (.val (.int .i64) j)), (10, .one (.val (.int .i64) i)), (1, .one (.val (.int .i64) a)), (0, .one (.own 10000))], [(10000, some ⟨.fixed, .int .i64, data_P⟩)]⟩
def tL8 (a : Int) (i : Int) (j : Int) (data_P : List Int) : ASt := ⟨[(11, .one (.val (.int .i64) j)), (10, .one (.val (.int .i64) i)), (1, .one (.val (.int .i64) a)), (0, .one (.own 10000))], [(10000, some ⟨.fixed, .int .i64, data_P⟩)]⟩
noncomputable def SJ0 (kL3 : Int → Int → Int → (List Int) → R) (a : Int) (i : Int) (j : Int) (data_P : List Int) : R :=
  kL3 a i j data_P
noncomputable def SL1 (kL1 : Int → Int → Int → (List Int) → R) (kJ0 : Int → Int → Int → (List Int) → R) (a : Int) (i : Int) (j : Int) (data_P : List Int) : R :=
  cond (decide (i ≤ j))
    (cond (decide (0 ≤ i) && decide (i < (data_P.length : Int)))
      (cond (decide (0 ≤ a) && decide (a < (data_P.length : Int)))
        (Option.bind (cmp_Less_int (data_P.getD i.toNat 0) (data_P.getD a.toNat 0)) fun x1 =>
        cond x1.1
          (kL1 a (IntKind.i64.wrap (i + 1)) j data_P)
          (kJ0 a i j data_P))
        none)
      none)
    (kJ0 a i j data_P)
noncomputable def SJ2 (kL4 : Int → Int → Int → (List Int) → R) (a : Int) (i : Int) (j : Int) (data_P : List Int) : R :=
  cond (decide (i > j))
    (cond (decide (0 ≤ a) && decide (a < (data_P.length : Int)))
      (cond (decide (0 ≤ j) && decide (j < (data_P.length : Int)))
        (cond (decide (0 ≤ j) && decide (j < (data_P.length : Int)))
          (cond (decide (0 ≤ a) && decide (a < ((data_P.set j.toNat (data_P.getD a.toNat 0)).length : Int)))
            (some (j, true, ((data_P.set j.toNat (data_P.getD a.toNat 0)).set a.toNat (data_P.getD j.toNat 0)), ()))
            none)
          none)
        none)
      none)
    (cond (decide (0 ≤ j) && decide (j < (data_P.length : Int)))
      (cond (decide (0 ≤ i) && decide (i < (data_P.length : Int)))
        (cond (decide (0 ≤ i) && decide (i < (data_P.length : Int)))
          (cond (decide (0 ≤ j) && decide (j < ((data_P.set i.toNat (data_P.getD j.toNat 0)).length : Int)))
            (kL4 a (IntKind.i64.wrap (i + 1)) (IntKind.i64.wrap (j - 1)) ((data_P.set i.toNat (data_P.getD j.toNat 0)).set j.toNat (data_P.getD i.toNat 0)))
            none)
          none)
        none)
      none)
noncomputable def SL3 (kL3 : Int → Int → Int → (List Int) → R) (kJ2 : Int → Int → Int → (List Int) → R) (a : Int) (i : Int) (j : Int) (data_P : List Int) : R :=
  cond (decide (i ≤ j))
    (cond (decide (0 ≤ j) && decide (j < (data_P.length : Int)))
      (cond (decide (0 ≤ a) && decide (a < (data_P.length : Int)))
        (Option.bind (cmp_Less_int (data_P.getD j.toNat 0) (data_P.getD a.toNat 0)) fun x1 =>
        cond (!x1.1)
          (kL3 a i (IntKind.i64.wrap (j - 1)) data_P)
          (kJ2 a i j data_P))
        none)
      none)
    (kJ2 a i j data_P)
noncomputable def SL4 (kL6 : Int → Int → Int → (List Int) → R) (a : Int) (i : Int) (j : Int) (data_P : List Int) : R :=
  kL6 a i j data_P
noncomputable def SJ5 (kL8 : Int → Int → Int → (List Int) → R) (a : Int) (i : Int) (j : Int) (data_P : List Int) : R :=
  kL8 a i j data_P
noncomputable def SL6 (kL6 : Int → Int → Int → (List Int) → R) (kJ5 : Int → Int → Int → (List Int) → R) (a : Int) (i : Int) (j : Int) (data_P : List Int) : R :=
  cond (decide (i ≤ j))
    (cond (decide (0 ≤ i) && decide (i < (data_P.length : Int)))
      (cond (decide (0 ≤ a) && decide (a < (data_P.length : Int)))
        (Option.bind (cmp_Less_int (data_P.getD i.toNat 0) (data_P.getD a.toNat 0)) fun x1 =>
        cond x1.1
          (kL6 a (IntKind.i64.wrap (i + 1)) j data_P)
          (kJ5 a i j data_P))
        none)
      none)
    (kJ5 a i j data_P)
noncomputable def SJ7 (kL4 : Int → Int → Int → (List Int) → R) (a : Int) (i : Int) (j : Int) (data_P : List Int) : R :=
  cond (decide (i > j))
    (cond (decide (0 ≤ a) && decide (a < (data_P.length : Int)))
      (cond (decide (0 ≤ j) && decide (j < (data_P.length : Int)))
        (cond (decide (0 ≤ j) && decide (j < (data_P.length : Int)))
          (cond (decide (0 ≤ a) && decide (a < ((data_P.set j.toNat (data_P.getD a.toNat 0)).length : Int)))
            (some (j, false, ((data_P.set j.toNat (data_P.getD a.toNat 0)).set a.toNat (data_P.getD j.toNat 0)), ()))
            none)
          none)
        none)
      none)
    (cond (decide (0 ≤ j) && decide (j < (data_P.length : Int)))
      (cond (decide (0 ≤ i) && decide (i < (data_P.length : Int)))
        (cond (decide (0 ≤ i) && decide (i < (data_P.length : Int)))
          (cond (decide (0 ≤ j) && decide (j < ((data_P.set i.toNat (data_P.getD j.toNat 0)).length : Int)))
            (kL4 a (IntKind.i64.wrap (i + 1)) (IntKind.i64.wrap (j - 1)) ((data_P.set i.toNat (data_P.getD j.toNat 0)).set j.toNat (data_P.getD i.toNat 0)))
            none)
          none)
        none)
      none)
noncomputable def SL8 (kL8 : Int → Int → Int → (List Int) → R) (kJ7 : Int → Int → Int → (List Int) → R) (a : Int) (i : Int) (j : Int) (data_P : List Int) : R :=
  cond (decide (i ≤ j))
    (cond (decide (0 ≤ j) && decide (j < (data_P.length : Int)))
      (cond (decide (0 ≤ a) && decide (a < (data_P.length : Int)))
        (Option.bind (cmp_Less_int (data_P.getD j.toNat 0) (data_P.getD a.toNat 0)) fun x1 =>
        cond (!x1.1)
          (kL8 a i (IntKind.i64.wrap (j - 1)) data_P)
          (kJ7 a i j data_P))
        none)
      none)
    (kJ7 a i j data_P)
noncomputable def Se (kL1 : Int → Int → Int → (List Int) → R) (data : List Int) (a : Int) (b : Int) (pivot : Int) : R :=
  cond (decide (0 ≤ pivot) && decide (pivot < (data.length : Int)))
    (cond (decide (0 ≤ a) && decide (a < (data.length : Int)))
      (cond (decide (0 ≤ a) && decide (a < (data.length : Int)))
        (cond (decide (0 ≤ pivot) && decide (pivot < ((data.set a.toNat (data.getD pivot.toNat 0)).length : Int)))
          (kL1 a (IntKind.i64.wrap (a + 1)) (IntKind.i64.wrap (b - 1)) ((data.set a.toNat (data.getD pivot.toNat 0)).set pivot.toNat (data.getD a.toNat 0)))
          none)
        none)
      none)
    none
theorem sJ0 (jmp : Tgt → ASt → R) (a : Int) (i : Int) (j : Int) (data_P : List Int) : run E jmp fin depth c0 .ret (tJ0 a i j data_P) =
    SJ0 (fun a i j data_P => jmp (.loop c7 K11) (tL3 a i j data_P)) a i j data_P := by kernel_rfl
theorem sL1 (jmp : Tgt → ASt → R) (a : Int) (i : Int) (j : Int) (data_P : List Int) : run E jmp fin depth c6 (.loop c6 K5) (tL1 a i j data_P) =
    SL1 (fun a i j data_P => jmp (.loop c6 K5) (tL1 a i j data_P)) (fun a i j data_P => jmp (.code c0 .ret) (tJ0 a i j data_P)) a i j data_P := by kernel_rfl
theorem sJ2 (jmp : Tgt → ASt → R) (a : Int) (i : Int) (j : Int) (data_P : List Int) : run E jmp fin depth c1 .ret (tJ2 a i j data_P) =
    SJ2 (fun a i j data_P => jmp (.loop c3 K24) (tL4 a i j data_P)) a i j data_P := by kernel_rfl
theorem sL3 (jmp : Tgt → ASt → R) (a : Int) (i : Int) (j : Int) (data_P : List Int) : run E jmp fin depth c7 (.loop c7 K11) (tL3 a i j data_P) =
    SL3 (fun a i j data_P => jmp (.loop c7 K11) (tL3 a i j data_P)) (fun a i j data_P => jmp (.code c1 .ret) (tJ2 a i j data_P)) a i j data_P := by kernel_rfl
theorem sL4 (jmp : Tgt → ASt → R) (a : Int) (i : Int) (j : Int) (data_P : List Int) : run E jmp fin depth c3 (.loop c3 K24) (tL4 a i j data_P) =
    SL4 (fun a i j data_P => jmp (.loop c8 K28) (tL6 a i j data_P)) a i j data_P := by kernel_rfl
theorem sJ5 (jmp : Tgt → ASt → R) (a : Int) (i : Int) (j : Int) (data_P : List Int) : run E jmp fin depth c4 K26 (tJ5 a i j data_P) =
    SJ5 (fun a i j data_P => jmp (.loop c9 K34) (tL8 a i j data_P)) a i j data_P := by kernel_rfl
theorem sL6 (jmp : Tgt → ASt → R) (a : Int) (i : Int) (j : Int) (data_P : List Int) : run E jmp fin depth c8 (.loop c8 K28) (tL6 a i j data_P) =
    SL6 (fun a i j data_P => jmp (.loop c8 K28) (tL6 a i j data_P)) (fun a i j data_P => jmp (.code c4 K26) (tJ5 a i j data_P)) a i j data_P := by kernel_rfl
theorem sJ7 (jmp : Tgt → ASt → R) (a : Int) (i : Int) (j : Int) (data_P : List Int) : run E jmp fin depth c5 K26 (tJ7 a i j data_P) =
    SJ7 (fun a i j data_P => jmp (.loop c3 K24) (tL4 a i j data_P)) a i j data_P := by kernel_rfl
theorem sL8 (jmp : Tgt → ASt → R) (a : Int) (i : Int) (j : Int) (data_P : List Int) : run E jmp fin depth c9 (.loop c9 K34) (tL8 a i j data_P) =
    SL8 (fun a i j data_P => jmp (.loop c9 K34) (tL8 a i j data_P)) (fun a i j data_P => jmp (.code c5 K26) (tJ7 a i j data_P)) a i j data_P := by kernel_rfl
theorem se (jmp : Tgt → ASt → R) (x : (argTy ps).den) : run E jmp fin depth (bodyOf Try.f66) .ret (entryFrom 0 ps x) =
    Se (fun a i j data_P => jmp (.loop c6 K5) (tL1 a i j data_P)) x.1 x.2.1 x.2.2.1 x.2.2.2.1 := by kernel_rfl
noncomputable def J0 (a : Int) (i : Int) (j : Int) (data_P : List Int) : R := lim E fin (.code c0 .ret) (tJ0 a i j data_P)
noncomputable def L1 (a : Int) (i : Int) (j : Int) (data_P : List Int) : R := lim E fin (.loop c6 K5) (tL1 a i j data_P)
noncomputable def J2 (a : Int) (i : Int) (j : Int) (data_P : List Int) : R := lim E fin (.code c1 .ret) (tJ2 a i j data_P)
noncomputable def L3 (a : Int) (i : Int) (j : Int) (data_P : List Int) : R := lim E fin (.loop c7 K11) (tL3 a i j data_P)
noncomputable def L4 (a : Int) (i : Int) (j : Int) (data_P : List Int) : R := lim E fin (.loop c3 K24) (tL4 a i j data_P)
noncomputable def J5 (a : Int) (i : Int) (j : Int) (data_P : List Int) : R := lim E fin (.code c4 K26) (tJ5 a i j data_P)
noncomputable def L6 (a : Int) (i : Int) (j : Int) (data_P : List Int) : R := lim E fin (.loop c8 K28) (tL6 a i j data_P)
noncomputable def J7 (a : Int) (i : Int) (j : Int) (data_P : List Int) : R := lim E fin (.code c5 K26) (tJ7 a i j data_P)
noncomputable def L8 (a : Int) (i : Int) (j : Int) (data_P : List Int) : R := lim E fin (.loop c9 K34) (tL8 a i j data_P)
theorem J0_eq (a : Int) (i : Int) (j : Int) (data_P : List Int) : J0 a i j data_P = SJ0 L3 a i j data_P :=
  (lim_eq (.code c0 .ret) (tJ0 a i j data_P)).trans (sJ0 (lim E fin) a i j data_P)
theorem L1_eq (a : Int) (i : Int) (j : Int) (data_P : List Int) : L1 a i j data_P = SL1 L1 J0 a i j data_P :=
  (lim_eq (.loop c6 K5) (tL1 a i j data_P)).trans (sL1 (lim E fin) a i j data_P)
theorem J2_eq (a : Int) (i : Int) (j : Int) (data_P : List Int) : J2 a i j data_P = SJ2 L4 a i j data_P :=
  (lim_eq (.code c1 .ret) (tJ2 a i j data_P)).trans (sJ2 (lim E fin) a i j data_P)
theorem L3_eq (a : Int) (i : Int) (j : Int) (data_P : List Int) : L3 a i j data_P = SL3 L3 J2 a i j data_P :=
  (lim_eq (.loop c7 K11) (tL3 a i j data_P)).trans (sL3 (lim E fin) a i j data_P)
theorem L4_eq (a : Int) (i : Int) (j : Int) (data_P : List Int) : L4 a i j data_P = SL4 L6 a i j data_P :=
  (lim_eq (.loop c3 K24) (tL4 a i j data_P)).trans (sL4 (lim E fin) a i j data_P)
theorem J5_eq (a : Int) (i : Int) (j : Int) (data_P : List Int) : J5 a i j data_P = SJ5 L8 a i j data_P :=
  (lim_eq (.code c4 K26) (tJ5 a i j data_P)).trans (sJ5 (lim E fin) a i j data_P)
theorem L6_eq (a : Int) (i : Int) (j : Int) (data_P : List Int) : L6 a i j data_P = SL6 L6 J5 a i j data_P :=
  (lim_eq (.loop c8 K28) (tL6 a i j data_P)).trans (sL6 (lim E fin) a i j data_P)
theorem J7_eq (a : Int) (i : Int) (j : Int) (data_P : List Int) : J7 a i j data_P = SJ7 L4 a i j data_P :=
  (lim_eq (.code c5 K26) (tJ7 a i j data_P)).trans (sJ7 (lim E fin) a i j data_P)
theorem L8_eq (a : Int) (i : Int) (j : Int) (data_P : List Int) : L8 a i j data_P = SL8 L8 J7 a i j data_P :=
  (lim_eq (.loop c9 K34) (tL8 a i j data_P)).trans (sL8 (lim E fin) a i j data_P)
end slices_partitionOrdered_int
noncomputable def slices_partitionOrdered_int (data : List Int) (a : Int) (b : Int) (pivot : Int) : slices_partitionOrdered_int.R :=
  slices_partitionOrdered_int.Se slices_partitionOrdered_int.L1 data a b pivot
noncomputable def slices_partitionOrdered_int.sig : Sig := ⟨slices_partitionOrdered_int.ps, slices_partitionOrdered_int.rs, fun x => slices_partitionOrdered_int x.1 x.2.1 x.2.2.1 x.2.2.2.1⟩
theorem slices_partitionOrdered_int.ok : CallOK Try.prog 66 slices_partitionOrdered_int.sig :=
  callOK_of_lim (E := slices_partitionOrdered_int.E) mixed tt_ok (ctxOk_cons ctxOk_nil cmp_Less_int.ok Try.func64 (by kernel_rfl) (by kernel_rfl)) Try.func66 (by kernel_rfl : Try.f66.body = some (bodyOf Try.f66)) Try.ntmps66 (of_decide_eq_true (by kernel_rfl)) (of_decide_eq_true (by kernel_rfl))
    fun x y h => ((lim_eq (.code (bodyOf Try.f66) .ret) (entryFrom 0 slices_partitionOrdered_int.ps x)).trans (slices_partitionOrdered_int.se (lim slices_partitionOrdered_int.E slices_partitionOrdered_int.fin) x)).trans h
theorem slices_partitionOrdered_int.val (x : (argTy slices_partitionOrdered_int.ps).den) : lim slices_partitionOrdered_int.E slices_partitionOrdered_int.fin (.code (bodyOf Try.f66) .ret) (entryFrom 0 slices_partitionOrdered_int.ps x) = slices_partitionOrdered_int.sig.run x :=
  (lim_eq (.code (bodyOf Try.f66) .ret) (entryFrom 0 slices_partitionOrdered_int.ps x)).trans (slices_partitionOrdered_int.se (lim slices_partitionOrdered_int.E slices_partitionOrdered_int.fin) x)
noncomputable def slices_partitionOrdered_int.ctxc (n : Nat) : List (Nat × Sig) := [(64, cmp_Less_int.sigc n)]
noncomputable def slices_partitionOrdered_int.sigc (n : Nat) : Sig := ⟨slices_partitionOrdered_int.ps, slices_partitionOrdered_int.rs, fun x => runs (withCtx slices_partitionOrdered_int.E (slices_partitionOrdered_int.ctxc n)) slices_partitionOrdered_int.fin n (.code (bodyOf Try.f66) .ret) (entryFrom 0 slices_partitionOrdered_int.ps x)⟩
theorem slices_partitionOrdered_int.sigc_le (n : Nat) : ∀ x y, (slices_partitionOrdered_int.sigc n).run x = some y → slices_partitionOrdered_int.sig.run x = some y :=
  fun x y h => (slices_partitionOrdered_int.val x).symm.trans (runs_lim (E := slices_partitionOrdered_int.E) (c := slices_partitionOrdered_int.ctxc n) (ctxLe_cons ctxLe_nil (cmp_Less_int.sigc_le n)) h)

/-! ### slices.pdqsortOrdered[int] -/
namespace slices_pdqsortOrdered_int
abbrev ps : List PM := [.own (.int .i64), .pure (.int .i64), .pure (.int .i64), .pure (.int .i64)]
abbrev rs : List RM := []
abbrev R : Type := Option (List Int × Unit)
noncomputable def E0 : Env := { tt := tt, ctx := [], nt := 134, ann := [(1000002, [(0, .keep), (1, .keep), (2, .keep), (3, .keep), (8, .keep), (9, .keep)]), (10, [(0, .keep), (1, .keep), (2, .keep), (3, .keep), (8, .keep), (9, .keep), (10, .keep)]), (15, [(0, .keep), (1, .keep), (2, .keep), (3, .keep), (8, .keep), (9, .keep), (10, .keep), (11, .keep), (12, .keep)]), (17, [(0, .keep), (1, .keep), (2, .keep), (3, .keep), (8, .keep), (9, .keep), (10, .keep), (11, .keep)]), (18, [(0, .keep), (1, .keep), (2, .keep), (3, .keep), (8, .keep), (9, .keep), (10, .keep), (11, .keep), (87, .keep)])] }
noncomputable def ctx0 : List (Nat × Sig) := [(58, slices_insertionSortOrdered_int.sig), (59, slices_heapSortOrdered_int.sig), (60, slices_breakPatternsOrdered_int.sig), (61, slices_choosePivotOrdered_int.sig), (62, slices_reverseRangeOrdered_int.sig), (63, slices_partialInsertionSortOrdered_int.sig), (64, cmp_Less_int.sig), (65, slices_partitionEqualOrdered_int.sig), (66, slices_partitionOrdered_int.sig)]
noncomputable def E (self : (List Int) → Int → Int → Int → R) : Env := withCtx E0 ((44, ⟨ps, rs, fun x => self x.1 x.2.1 x.2.2.1 x.2.2.2.1⟩) :: ctx0)
noncomputable def c0 : Code := sub [1, 1, 0, 0] (bodyOf Try.f44)
noncomputable def c1 : Code := sub [1, 1, 0, 0, 0, 1, 1, 1, 1, 1, 1, 1, 1] (bodyOf Try.f44)
noncomputable def c2 : Code := sub [1, 1, 0, 0, 0, 1, 1, 1, 1] (bodyOf Try.f44)
noncomputable def c3 : Code := sub [1, 1, 0, 0, 0, 1, 1, 1, 1, 1, 1] (bodyOf Try.f44)
noncomputable def c4 : Code := sub [1, 1, 0, 0, 0, 1, 1, 1, 1, 1, 1, 1] (bodyOf Try.f44)
noncomputable def c5 : Code := sub [1, 1, 0, 0, 0, 1, 1, 1, 1, 1, 1, 1, 0, 1] (bodyOf Try.f44)
noncomputable def K3 : Kont := .blk 0 .ret
noncomputable def K4 : Kont := .loop c0 K3
noncomputable def K5 : Kont := .blk 1 K4
noncomputable def K24 : Kont := .seq c1 K5
noncomputable def fin : ASt → R := Kret E0 Try.f44.results.toList ps rs
def tL0 (a : Int) (b : Int) (limit : Int) (wasBalanced : Bool) (wasPartitioned : Bool) (data_P : List Int) : ASt := ⟨[(9, .one (.val .bool wasPartitioned)), (8, .one (.val .bool wasBalanced)), (3, .one (.val (.int .i64) limit)), (2, .one (.val (.int .i64) b)), (1, .one (.val (.int .i64) a)), (0, .one (.own 10000))], [(10000, some ⟨.fixed, .int .i64, data_P⟩)]⟩
def tJ1 (a : Int) (b : Int) (limit : Int) (wasBalanced : Bool) (wasPartitioned : Bool) (length_10 : Int) (data_P : List Int) : ASt := ⟨[(10, .one (.val (.int .i64) length_10)), (9, .one (.val .bool wasPartitioned)), (8, .one (.val .bool wasBalanced)), (3, .one (.val (.int .i64) limit)), (2, .one (.val (.int .i64) b)), (1, .one (.val (.int .i64) a)), (0, .one (.own 10000))], [(10000, some ⟨.fixed, .int .i64, data_P⟩)]⟩
def tJ2 (a : Int) (b : Int) (limit : Int) (wasBalanced : Bool) (wasPartitioned : Bool) (length_10 : Int) (pivot : Int) (hint : Int) (data_P : List Int) : ASt := ⟨[(12, .one (.val (.int .i64) hint)), (11, .one (.val (.int .i64) pivot)), (10, .one (.val (.int .i64) length_10)), (9, .one (.val .bool wasPartitioned)), (8, .one (.val .bool wasBalanced)), (3, .one (.val (.int .i64) limit)), (2, .one (.val (.int .i64) b)), (1, .one (.val (.int .i64) a)), (0, .one (.own 10000))], [(10000, some ⟨.fixed, .int .i64, data_P⟩)]⟩
def tJ3 (a : Int) (b : Int) (limit : Int) (wasBalanced : Bool) (wasPartitioned : Bool) (length_10 : Int) (pivot : Int) (data_P : List Int) : ASt := ⟨[(11, .one (.val (.int .i64) pivot)), (10, .one (.val (.int .i64) length_10)), (9, .one (.val .bool wasPartitioned)), (8, .one (.val .bool wasBalanced)), (3, .one (.val (.int .i64) limit)), (2, .one (.val (.int .i64) b)), (1, .one (.val (.int .i64) a)), (0, .one (.own 10000))], [(10000, some ⟨.fixed, .int .i64, data_P⟩)]⟩
def tJ4 (a : Int) (b : Int) (limit : Int) (wasBalanced : Bool) (wasPartitioned : Bool) (length_10 : Int) (pivot : Int) (v_87 : Bool) (data_P : List Int) : ASt := ⟨[(87, .one (.val .bool v_87)), (11, .one (.val (.int .i64) pivot)), (10, .one (.val (.int .i64) length_10)), (9, .one (.val .bool wasPartitioned)), (8, .one (.val .bool wasBalanced)), (3, .one (.val (.int .i64) limit)), (2, .one (.val (.int .i64) b)), (1, .one (.val (.int .i64) a)), (0, .one (.own 10000))], [(10000, some ⟨.fixed, .int .i64, data_P⟩)]⟩
noncomputable def SL0 (self : (List Int) → Int → Int → Int → R) (kJ1 : Int → Int → Int → Bool → Bool → Int → (List Int) → R) (a : Int) (b : Int) (limit : Int) (wasBalanced : Bool) (wasPartitioned : Bool) (data_P : List Int) : R :=
  cond (decide ((IntKind.i64.wrap (b - a)) ≤ 12))
    (Option.bind (slices_insertionSortOrdered_int data_P a b) fun x1 =>
    some (x1.1, ()))
    (cond (limit == 0)
      (Option.bind (slices_heapSortOrdered_int data_P a b) fun x2 =>
      some (x2.1, ()))
      (cond (!wasBalanced)
        (Option.bind (slices_breakPatternsOrdered_int data_P a b) fun x3 =>
        kJ1 a b (IntKind.i64.wrap (limit - 1)) wasBalanced wasPartitioned (IntKind.i64.wrap (b - a)) x3.1)
        (kJ1 a b limit wasBalanced wasPartitioned (IntKind.i64.wrap (b - a)) data_P)))
noncomputable def SJ1 (self : (List Int) → Int → Int → Int → R) (kJ2 : Int → Int → Int → Bool → Bool → Int → Int → Int → (List Int) → R) (a : Int) (b : Int) (limit : Int) (wasBalanced : Bool) (wasPartitioned : Bool) (length_10 : Int) (data_P : List Int) : R :=
  Option.bind (slices_choosePivotOrdered_int data_P a b) fun x1 =>
  cond (x1.2.1 == 2)
    (Option.bind (slices_reverseRangeOrdered_int data_P a b) fun x2 =>
    kJ2 a b limit wasBalanced wasPartitioned length_10 (IntKind.i64.wrap ((IntKind.i64.wrap (b - 1)) - (IntKind.i64.wrap (x1.1 - a)))) 1 x2.1)
    (kJ2 a b limit wasBalanced wasPartitioned length_10 x1.1 x1.2.1 data_P)
noncomputable def SJ2 (self : (List Int) → Int → Int → Int → R) (kJ3 : Int → Int → Int → Bool → Bool → Int → Int → (List Int) → R) (a : Int) (b : Int) (limit : Int) (wasBalanced : Bool) (wasPartitioned : Bool) (length_10 : Int) (pivot : Int) (hint : Int) (data_P : List Int) : R :=
  cond wasBalanced
    (cond wasPartitioned
      (cond (hint == 1)
        (Option.bind (slices_partialInsertionSortOrdered_int data_P a b) fun x1 =>
        cond x1.1
          (some (x1.2.1, ()))
          (kJ3 a b limit wasBalanced wasPartitioned length_10 pivot x1.2.1))
        (kJ3 a b limit wasBalanced wasPartitioned length_10 pivot data_P))
      (kJ3 a b limit wasBalanced wasPartitioned length_10 pivot data_P))
    (kJ3 a b limit wasBalanced wasPartitioned length_10 pivot data_P)
noncomputable def SJ3 (self : (List Int) → Int → Int → Int → R) (kJ4 : Int → Int → Int → Bool → Bool → Int → Int → Bool → (List Int) → R) (a : Int) (b : Int) (limit : Int) (wasBalanced : Bool) (wasPartitioned : Bool) (length_10 : Int) (pivot : Int) (data_P : List Int) : R :=
  cond (decide (a > 0))
    (cond (decide (0 ≤ IntKind.i64.wrap (a - 1)) && decide (IntKind.i64.wrap (a - 1) < (data_P.length : Int)))
      (cond (decide (0 ≤ pivot) && decide (pivot < (data_P.length : Int)))
        (Option.bind (cmp_Less_int (data_P.getD ((IntKind.i64.wrap (a - 1)).toNat) 0) (data_P.getD pivot.toNat 0)) fun x1 =>
        kJ4 a b limit wasBalanced wasPartitioned length_10 pivot (!x1.1) data_P)
        none)
      none)
    (kJ4 a b limit wasBalanced wasPartitioned length_10 pivot false data_P)
noncomputable def SJ4 (self : (List Int) → Int → Int → Int → R) (kL0 : Int → Int → Int → Bool → Bool → (List Int) → R) (a : Int) (b : Int) (limit : Int) (wasBalanced : Bool) (wasPartitioned : Bool) (length_10 : Int) (pivot : Int) (v_87 : Bool) (data_P : List Int) : R :=
  cond v_87
    (Option.bind (slices_partitionEqualOrdered_int data_P a b pivot) fun x1 =>
    kL0 x1.1 b limit wasBalanced wasPartitioned x1.2.1)
    (Option.bind (slices_partitionOrdered_int data_P a b pivot) fun x2 =>
    cond (decide ((IntKind.i64.wrap (x2.1 - a)) < (IntKind.i64.wrap (b - x2.1))))
      (Option.bind (self x2.2.2.1 a x2.1 limit) fun x3 =>
      kL0 (IntKind.i64.wrap (x2.1 + 1)) b limit (decide ((IntKind.i64.wrap (x2.1 - a)) ≥ (IntKind.i64.wrap (Int.tdiv length_10 8)))) x2.2.1 x3.1)
      (Option.bind (self x2.2.2.1 (IntKind.i64.wrap (x2.1 + 1)) b limit) fun x4 =>
      kL0 a x2.1 limit (decide ((IntKind.i64.wrap (b - x2.1)) ≥ (IntKind.i64.wrap (Int.tdiv length_10 8)))) x2.2.1 x4.1))
noncomputable def Se (self : (List Int) → Int → Int → Int → R) (kL0 : Int → Int → Int → Bool → Bool → (List Int) → R) (data : List Int) (a : Int) (b : Int) (limit : Int) : R :=
  kL0 a b limit true true data
theorem sL0 (self : (List Int) → Int → Int → Int → R) (jmp : Tgt → ASt → R) (a : Int) (b : Int) (limit : Int) (wasBalanced : Bool) (wasPartitioned : Bool) (data_P : List Int) : run (E self) jmp fin depth c0 (.loop c0 K3) (tL0 a b limit wasBalanced wasPartitioned data_P) =
    SL0 self (fun a b limit wasBalanced wasPartitioned length_10 data_P => jmp (.code c2 K5) (tJ1 a b limit wasBalanced wasPartitioned length_10 data_P)) a b limit wasBalanced wasPartitioned data_P := by kernel_rfl
theorem sJ1 (self : (List Int) → Int → Int → Int → R) (jmp : Tgt → ASt → R) (a : Int) (b : Int) (limit : Int) (wasBalanced : Bool) (wasPartitioned : Bool) (length_10 : Int) (data_P : List Int) : run (E self) jmp fin depth c2 K5 (tJ1 a b limit wasBalanced wasPartitioned length_10 data_P) =
    SJ1 self (fun a b limit wasBalanced wasPartitioned length_10 pivot hint data_P => jmp (.code c3 K5) (tJ2 a b limit wasBalanced wasPartitioned length_10 pivot hint data_P)) a b limit wasBalanced wasPartitioned length_10 data_P := by kernel_rfl
theorem sJ2 (self : (List Int) → Int → Int → Int → R) (jmp : Tgt → ASt → R) (a : Int) (b : Int) (limit : Int) (wasBalanced : Bool) (wasPartitioned : Bool) (length_10 : Int) (pivot : Int) (hint : Int) (data_P : List Int) : run (E self) jmp fin depth c3 K5 (tJ2 a b limit wasBalanced wasPartitioned length_10 pivot hint data_P) =
    SJ2 self (fun a b limit wasBalanced wasPartitioned length_10 pivot data_P => jmp (.code c4 K5) (tJ3 a b limit wasBalanced wasPartitioned length_10 pivot data_P)) a b limit wasBalanced wasPartitioned length_10 pivot hint data_P := by kernel_rfl
theorem sJ3 (self : (List Int) → Int → Int → Int → R) (jmp : Tgt → ASt → R) (a : Int) (b : Int) (limit : Int) (wasBalanced : Bool) (wasPartitioned : Bool) (length_10 : Int) (pivot : Int) (data_P : List Int) : run (E self) jmp fin depth c4 K5 (tJ3 a b limit wasBalanced wasPartitioned length_10 pivot data_P) =
    SJ3 self (fun a b limit wasBalanced wasPartitioned length_10 pivot v_87 data_P => jmp (.code c5 K24) (tJ4 a b limit wasBalanced wasPartitioned length_10 pivot v_87 data_P)) a b limit wasBalanced wasPartitioned length_10 pivot data_P := by kernel_rfl
theorem sJ4 (self : (List Int) → Int → Int → Int → R) (jmp : Tgt → ASt → R) (a : Int) (b : Int) (limit : Int) (wasBalanced : Bool) (wasPartitioned : Bool) (length_10 : Int) (pivot : Int) (v_87 : Bool) (data_P : List Int) : run (E self) jmp fin depth c5 K24 (tJ4 a b limit wasBalanced wasPartitioned length_10 pivot v_87 data_P) =
    SJ4 self (fun a b limit wasBalanced wasPartitioned data_P => jmp (.loop c0 K3) (tL0 a b limit wasBalanced wasPartitioned data_P)) a b limit wasBalanced wasPartitioned length_10 pivot v_87 data_P := by kernel_rfl
theorem se (self : (List Int) → Int → Int → Int → R) (jmp : Tgt → ASt → R) (x : (argTy ps).den) : run (E self) jmp fin depth (bodyOf Try.f44) .ret (entryFrom 0 ps x) =
    Se self (fun a b limit wasBalanced wasPartitioned data_P => jmp (.loop c0 K3) (tL0 a b limit wasBalanced wasPartitioned data_P)) x.1 x.2.1 x.2.2.1 x.2.2.2.1 := by kernel_rfl
end slices_pdqsortOrdered_int
noncomputable def slices_pdqsortOrdered_int (data : List Int) (a : Int) (b : Int) (limit : Int) : slices_pdqsortOrdered_int.R :=
  recF slices_pdqsortOrdered_int.E0 slices_pdqsortOrdered_int.ctx0 44 slices_pdqsortOrdered_int.ps slices_pdqsortOrdered_int.rs slices_pdqsortOrdered_int.fin (bodyOf Try.f44) (data, a, b, limit, ())
namespace slices_pdqsortOrdered_int
noncomputable def L0 (a : Int) (b : Int) (limit : Int) (wasBalanced : Bool) (wasPartitioned : Bool) (data_P : List Int) : R := lim (E slices_pdqsortOrdered_int) fin (.loop c0 K3) (tL0 a b limit wasBalanced wasPartitioned data_P)
noncomputable def J1 (a : Int) (b : Int) (limit : Int) (wasBalanced : Bool) (wasPartitioned : Bool) (length_10 : Int) (data_P : List Int) : R := lim (E slices_pdqsortOrdered_int) fin (.code c2 K5) (tJ1 a b limit wasBalanced wasPartitioned length_10 data_P)
noncomputable def J2 (a : Int) (b : Int) (limit : Int) (wasBalanced : Bool) (wasPartitioned : Bool) (length_10 : Int) (pivot : Int) (hint : Int) (data_P : List Int) : R := lim (E slices_pdqsortOrdered_int) fin (.code c3 K5) (tJ2 a b limit wasBalanced wasPartitioned length_10 pivot hint data_P)
noncomputable def J3 (a : Int) (b : Int) (limit : Int) (wasBalanced : Bool) (wasPartitioned : Bool) (length_10 : Int) (pivot : Int) (data_P : List Int) : R := lim (E slices_pdqsortOrdered_int) fin (.code c4 K5) (tJ3 a b limit wasBalanced wasPartitioned length_10 pivot data_P)
noncomputable def J4 (a : Int) (b : Int) (limit : Int) (wasBalanced : Bool) (wasPartitioned : Bool) (length_10 : Int) (pivot : Int) (v_87 : Bool) (data_P : List Int) : R := lim (E slices_pdqsortOrdered_int) fin (.code c5 K24) (tJ4 a b limit wasBalanced wasPartitioned length_10 pivot v_87 data_P)
theorem L0_eq (a : Int) (b : Int) (limit : Int) (wasBalanced : Bool) (wasPartitioned : Bool) (data_P : List Int) : L0 a b limit wasBalanced wasPartitioned data_P = SL0 slices_pdqsortOrdered_int J1 a b limit wasBalanced wasPartitioned data_P :=
  (lim_eq (.loop c0 K3) (tL0 a b limit wasBalanced wasPartitioned data_P)).trans (sL0 slices_pdqsortOrdered_int (lim (E slices_pdqsortOrdered_int) fin) a b limit wasBalanced wasPartitioned data_P)
theorem J1_eq (a : Int) (b : Int) (limit : Int) (wasBalanced : Bool) (wasPartitioned : Bool) (length_10 : Int) (data_P : List Int) : J1 a b limit wasBalanced wasPartitioned length_10 data_P = SJ1 slices_pdqsortOrdered_int J2 a b limit wasBalanced wasPartitioned length_10 data_P :=
  (lim_eq (.code c2 K5) (tJ1 a b limit wasBalanced wasPartitioned length_10 data_P)).trans (sJ1 slices_pdqsortOrdered_int (lim (E slices_pdqsortOrdered_int) fin) a b limit wasBalanced wasPartitioned length_10 data_P)
theorem J2_eq (a : Int) (b : Int) (limit : Int) (wasBalanced : Bool) (wasPartitioned : Bool) (length_10 : Int) (pivot : Int) (hint : Int) (data_P : List Int) : J2 a b limit wasBalanced wasPartitioned length_10 pivot hint data_P = SJ2 slices_pdqsortOrdered_int J3 a b limit wasBalanced wasPartitioned length_10 pivot hint data_P :=
  (lim_eq (.code c3 K5) (tJ2 a b limit wasBalanced wasPartitioned length_10 pivot hint data_P)).trans (sJ2 slices_pdqsortOrdered_int (lim (E slices_pdqsortOrdered_int) fin) a b limit wasBalanced wasPartitioned length_10 pivot hint data_P)
theorem J3_eq (a : Int) (b : Int) (limit : Int) (wasBalanced : Bool) (wasPartitioned : Bool) (length_10 : Int) (pivot : Int) (data_P : List Int) : J3 a b limit wasBalanced wasPartitioned length_10 pivot data_P = SJ3 slices_pdqsortOrdered_int J4 a b limit wasBalanced wasPartitioned length_10 pivot data_P :=
  (lim_eq (.code c4 K5) (tJ3 a b limit wasBalanced wasPartitioned length_10 pivot data_P)).trans (sJ3 slices_pdqsortOrdered_int (lim (E slices_pdqsortOrdered_int) fin) a b limit wasBalanced wasPartitioned length_10 pivot data_P)
theorem J4_eq (a : Int) (b : Int) (limit : Int) (wasBalanced : Bool) (wasPartitioned : Bool) (length_10 : Int) (pivot : Int) (v_87 : Bool) (data_P : List Int) : J4 a b limit wasBalanced wasPartitioned length_10 pivot v_87 data_P = SJ4 slices_pdqsortOrdered_int L0 a b limit wasBalanced wasPartitioned length_10 pivot v_87 data_P :=
  (lim_eq (.code c5 K24) (tJ4 a b limit wasBalanced wasPartitioned length_10 pivot v_87 data_P)).trans (sJ4 slices_pdqsortOrdered_int (lim (E slices_pdqsortOrdered_int) fin) a b limit wasBalanced wasPartitioned length_10 pivot v_87 data_P)
theorem selfrun : (fun x : (argTy ps).den => slices_pdqsortOrdered_int x.1 x.2.1 x.2.2.1 x.2.2.2.1) = recF E0 ctx0 44 ps rs fin (bodyOf Try.f44) := by kernel_rfl
end slices_pdqsortOrdered_int
noncomputable def slices_pdqsortOrdered_int.sig : Sig := ⟨slices_pdqsortOrdered_int.ps, slices_pdqsortOrdered_int.rs, fun x => slices_pdqsortOrdered_int x.1 x.2.1 x.2.2.1 x.2.2.2.1⟩
theorem slices_pdqsortOrdered_int.val (x : (argTy slices_pdqsortOrdered_int.ps).den) : lim (slices_pdqsortOrdered_int.E slices_pdqsortOrdered_int) slices_pdqsortOrdered_int.fin (.code (bodyOf Try.f44) .ret) (entryFrom 0 slices_pdqsortOrdered_int.ps x) = slices_pdqsortOrdered_int.sig.run x := by
  have h := recF_eq (E := slices_pdqsortOrdered_int.E0) (ctx := slices_pdqsortOrdered_int.ctx0) (f := 44) (ps := slices_pdqsortOrdered_int.ps) (rs := slices_pdqsortOrdered_int.rs) (fin := slices_pdqsortOrdered_int.fin) (body := bodyOf Try.f44) x
  rw [← slices_pdqsortOrdered_int.selfrun] at h
  exact h.symm
theorem slices_pdqsortOrdered_int_eq (data : List Int) (a : Int) (b : Int) (limit : Int) : slices_pdqsortOrdered_int data a b limit = slices_pdqsortOrdered_int.Se slices_pdqsortOrdered_int slices_pdqsortOrdered_int.L0 data a b limit :=
  (slices_pdqsortOrdered_int.val (data, a, b, limit, ())).symm.trans ((lim_eq (.code (bodyOf Try.f44) .ret) (entryFrom 0 slices_pdqsortOrdered_int.ps (data, a, b, limit, ()))).trans (slices_pdqsortOrdered_int.se slices_pdqsortOrdered_int (lim (slices_pdqsortOrdered_int.E slices_pdqsortOrdered_int) slices_pdqsortOrdered_int.fin) (data, a, b, limit, ())))
theorem slices_pdqsortOrdered_int.ok : CallOK Try.prog 44 slices_pdqsortOrdered_int.sig := by
  have h := callOK_rec (E := slices_pdqsortOrdered_int.E0) (ctx := slices_pdqsortOrdered_int.ctx0) (f := 44) (ps := slices_pdqsortOrdered_int.ps) (rs := slices_pdqsortOrdered_int.rs) (fin := slices_pdqsortOrdered_int.fin) (body := bodyOf Try.f44) mixed tt_ok (ctxOk_cons (ctxOk_cons (ctxOk_cons (ctxOk_cons (ctxOk_cons (ctxOk_cons (ctxOk_cons (ctxOk_cons (ctxOk_cons ctxOk_nil slices_partitionOrdered_int.ok Try.func66 (by kernel_rfl) (by kernel_rfl)) slices_partitionEqualOrdered_int.ok Try.func65 (by kernel_rfl) (by kernel_rfl)) cmp_Less_int.ok Try.func64 (by kernel_rfl) (by kernel_rfl)) slices_partialInsertionSortOrdered_int.ok Try.func63 (by kernel_rfl) (by kernel_rfl)) slices_reverseRangeOrdered_int.ok Try.func62 (by kernel_rfl) (by kernel_rfl)) slices_choosePivotOrdered_int.ok Try.func61 (by kernel_rfl) (by kernel_rfl)) slices_breakPatternsOrdered_int.ok Try.func60 (by kernel_rfl) (by kernel_rfl)) slices_heapSortOrdered_int.ok Try.func59 (by kernel_rfl) (by kernel_rfl)) slices_insertionSortOrdered_int.ok Try.func58 (by kernel_rfl) (by kernel_rfl)) Try.func44 (by kernel_rfl : Try.f44.body = some (bodyOf Try.f44)) (by kernel_rfl) (by kernel_rfl) Try.ntmps44 (of_decide_eq_true (by kernel_rfl)) (of_decide_eq_true (by kernel_rfl)) rfl
  rw [← slices_pdqsortOrdered_int.selfrun] at h
  exact h
noncomputable def slices_pdqsortOrdered_int.ctxc (n : Nat) : List (Nat × Sig) := [(58, slices_insertionSortOrdered_int.sigc n), (59, slices_heapSortOrdered_int.sigc n), (60, slices_breakPatternsOrdered_int.sigc n), (61, slices_choosePivotOrdered_int.sigc n), (62, slices_reverseRangeOrdered_int.sigc n), (63, slices_partialInsertionSortOrdered_int.sigc n), (64, cmp_Less_int.sigc n), (65, slices_partitionEqualOrdered_int.sigc n), (66, slices_partitionOrdered_int.sigc n)]
noncomputable def slices_pdqsortOrdered_int.runc (n : Nat) : Nat → (argTy slices_pdqsortOrdered_int.ps).den → slices_pdqsortOrdered_int.R
  | 0, _ => none
  | d + 1, x => runs (withCtx slices_pdqsortOrdered_int.E0 ((44, ⟨slices_pdqsortOrdered_int.ps, slices_pdqsortOrdered_int.rs, slices_pdqsortOrdered_int.runc n d⟩) :: slices_pdqsortOrdered_int.ctxc n)) slices_pdqsortOrdered_int.fin n (.code (bodyOf Try.f44) .ret) (entryFrom 0 slices_pdqsortOrdered_int.ps x)
noncomputable def slices_pdqsortOrdered_int.sigc (n : Nat) : Sig := ⟨slices_pdqsortOrdered_int.ps, slices_pdqsortOrdered_int.rs, slices_pdqsortOrdered_int.runc n n⟩
theorem slices_pdqsortOrdered_int.runc_le (n : Nat) : ∀ d x y, slices_pdqsortOrdered_int.runc n d x = some y → slices_pdqsortOrdered_int.sig.run x = some y := by
  intro d
  induction d with
  | zero => intro x y h; cases h
  | succ d ih => exact fun x y h => (slices_pdqsortOrdered_int.val x).symm.trans (runs_lim (E := slices_pdqsortOrdered_int.E slices_pdqsortOrdered_int) (c := (44, ⟨slices_pdqsortOrdered_int.ps, slices_pdqsortOrdered_int.rs, slices_pdqsortOrdered_int.runc n d⟩) :: slices_pdqsortOrdered_int.ctxc n) (ctxLe_cons (ctxLe_cons (ctxLe_cons (ctxLe_cons (ctxLe_cons (ctxLe_cons (ctxLe_cons (ctxLe_cons (ctxLe_cons (ctxLe_cons ctxLe_nil (slices_partitionOrdered_int.sigc_le n)) (slices_partitionEqualOrdered_int.sigc_le n)) (cmp_Less_int.sigc_le n)) (slices_partialInsertionSortOrdered_int.sigc_le n)) (slices_reverseRangeOrdered_int.sigc_le n)) (slices_choosePivotOrdered_int.sigc_le n)) (slices_breakPatternsOrdered_int.sigc_le n)) (slices_heapSortOrdered_int.sigc_le n)) (slices_insertionSortOrdered_int.sigc_le n)) ih) h)
theorem slices_pdqsortOrdered_int.sigc_le (n : Nat) : ∀ x y, (slices_pdqsortOrdered_int.sigc n).run x = some y → slices_pdqsortOrdered_int.sig.run x = some y := slices_pdqsortOrdered_int.runc_le n n

/-! ### slices.Sort[[]int,int] -/
namespace slices_Sort_int_int
abbrev ps : List PM := [.own (.int .i64)]
abbrev rs : List RM := []
abbrev R : Type := Option (List Int × Unit)
noncomputable def E : Env := { tt := tt, ctx := [(45, math_bits_Len.sig), (44, slices_pdqsortOrdered_int.sig)], nt := 11, ann := [] }
noncomputable def fin : ASt → R := Kret E Try.f30.results.toList ps rs
noncomputable def Se (x_0 : List Int) : R :=
  Option.bind (math_bits_Len (IntKind.u64.wrap (x_0.length : Int))) fun x1 =>
  Option.bind (slices_pdqsortOrdered_int x_0 0 (x_0.length : Int) x1.1) fun x2 =>
  some (x2.1, ())
theorem se (jmp : Tgt → ASt → R) (x : (argTy ps).den) : run E jmp fin depth (bodyOf Try.f30) .ret (entryFrom 0 ps x) =
    Se x.1 := by kernel_rfl
end slices_Sort_int_int
noncomputable def slices_Sort_int_int (x_0 : List Int) : slices_Sort_int_int.R :=
  slices_Sort_int_int.Se x_0
noncomputable def slices_Sort_int_int.sig : Sig := ⟨slices_Sort_int_int.ps, slices_Sort_int_int.rs, fun x => slices_Sort_int_int x.1⟩
theorem slices_Sort_int_int.ok : CallOK Try.prog 30 slices_Sort_int_int.sig :=
  callOK_of_lim (E := slices_Sort_int_int.E) mixed tt_ok (ctxOk_cons (ctxOk_cons ctxOk_nil slices_pdqsortOrdered_int.ok Try.func44 (by kernel_rfl) (by kernel_rfl)) math_bits_Len.ok Try.func45 (by kernel_rfl) (by kernel_rfl)) Try.func30 (by kernel_rfl : Try.f30.body = some (bodyOf Try.f30)) Try.ntmps30 (of_decide_eq_true (by kernel_rfl)) (of_decide_eq_true (by kernel_rfl))
    fun x y h => ((lim_eq (.code (bodyOf Try.f30) .ret) (entryFrom 0 slices_Sort_int_int.ps x)).trans (slices_Sort_int_int.se (lim slices_Sort_int_int.E slices_Sort_int_int.fin) x)).trans h
theorem slices_Sort_int_int.val (x : (argTy slices_Sort_int_int.ps).den) : lim slices_Sort_int_int.E slices_Sort_int_int.fin (.code (bodyOf Try.f30) .ret) (entryFrom 0 slices_Sort_int_int.ps x) = slices_Sort_int_int.sig.run x :=
  (lim_eq (.code (bodyOf Try.f30) .ret) (entryFrom 0 slices_Sort_int_int.ps x)).trans (slices_Sort_int_int.se (lim slices_Sort_int_int.E slices_Sort_int_int.fin) x)
noncomputable def slices_Sort_int_int.ctxc (n : Nat) : List (Nat × Sig) := [(45, math_bits_Len.sigc n), (44, slices_pdqsortOrdered_int.sigc n)]
noncomputable def slices_Sort_int_int.sigc (n : Nat) : Sig := ⟨slices_Sort_int_int.ps, slices_Sort_int_int.rs, fun x => runs (withCtx slices_Sort_int_int.E (slices_Sort_int_int.ctxc n)) slices_Sort_int_int.fin n (.code (bodyOf Try.f30) .ret) (entryFrom 0 slices_Sort_int_int.ps x)⟩
theorem slices_Sort_int_int.sigc_le (n : Nat) : ∀ x y, (slices_Sort_int_int.sigc n).run x = some y → slices_Sort_int_int.sig.run x = some y :=
  fun x y h => (slices_Sort_int_int.val x).symm.trans (runs_lim (E := slices_Sort_int_int.E) (c := slices_Sort_int_int.ctxc n) (ctxLe_cons (ctxLe_cons ctxLe_nil (slices_pdqsortOrdered_int.sigc_le n)) (math_bits_Len.sigc_le n)) h)

/-! ### guerdon/cells.comparison -/
namespace cells_comparison
abbrev ps : List PM := [.pure (.int .i64)]
abbrev rs : List RM := [.pure .bool]
abbrev R : Type := Option (Bool × Unit)
noncomputable def E : Env := { tt := tt, ctx := [], nt := 17, ann := [] }
noncomputable def fin : ASt → R := Kret E Try.f24.results.toList ps rs
noncomputable def Se (op : Int) : R :=
  cond (op == 19)
    (some (true, ()))
    (cond (op == 20)
      (some (true, ()))
      (cond (op == 21)
        (some (true, ()))
        (some ((op == 22), ()))))
theorem se (jmp : Tgt → ASt → R) (x : (argTy ps).den) : run E jmp fin depth (bodyOf Try.f24) .ret (entryFrom 0 ps x) =
    Se x.1 := by kernel_rfl
end cells_comparison
noncomputable def cells_comparison (op : Int) : cells_comparison.R :=
  cells_comparison.Se op
noncomputable def cells_comparison.sig : Sig := ⟨cells_comparison.ps, cells_comparison.rs, fun x => cells_comparison x.1⟩
theorem cells_comparison.ok : CallOK Try.prog 24 cells_comparison.sig :=
  callOK_of_lim (E := cells_comparison.E) mixed tt_ok ctxOk_nil Try.func24 (by kernel_rfl : Try.f24.body = some (bodyOf Try.f24)) Try.ntmps24 (of_decide_eq_true (by kernel_rfl)) (of_decide_eq_true (by kernel_rfl))
    fun x y h => ((lim_eq (.code (bodyOf Try.f24) .ret) (entryFrom 0 cells_comparison.ps x)).trans (cells_comparison.se (lim cells_comparison.E cells_comparison.fin) x)).trans h
theorem cells_comparison.val (x : (argTy cells_comparison.ps).den) : lim cells_comparison.E cells_comparison.fin (.code (bodyOf Try.f24) .ret) (entryFrom 0 cells_comparison.ps x) = cells_comparison.sig.run x :=
  (lim_eq (.code (bodyOf Try.f24) .ret) (entryFrom 0 cells_comparison.ps x)).trans (cells_comparison.se (lim cells_comparison.E cells_comparison.fin) x)
noncomputable def cells_comparison.ctxc (n : Nat) : List (Nat × Sig) := []
noncomputable def cells_comparison.sigc (n : Nat) : Sig := ⟨cells_comparison.ps, cells_comparison.rs, fun x => runs (withCtx cells_comparison.E (cells_comparison.ctxc n)) cells_comparison.fin n (.code (bodyOf Try.f24) .ret) (entryFrom 0 cells_comparison.ps x)⟩
theorem cells_comparison.sigc_le (n : Nat) : ∀ x y, (cells_comparison.sigc n).run x = some y → cells_comparison.sig.run x = some y :=
  fun x y h => (cells_comparison.val x).symm.trans (runs_lim (E := cells_comparison.E) (c := cells_comparison.ctxc n) ctxLe_nil h)

/-! ### guerdon/expr.Arity -/
namespace expr_Arity
abbrev ps : List PM := [.pure (.int .i64)]
abbrev rs : List RM := [.pure (.int .i64)]
abbrev R : Type := Option (Int × Unit)
noncomputable def E : Env := { tt := tt, ctx := [], nt := 31, ann := [(2, [(0, .keep), (3, .keep)]), (11, [(0, .keep), (13, .keep)])] }
noncomputable def c0 : Code := sub [1, 1] (bodyOf Try.f46)
noncomputable def c1 : Code := sub [1, 0, 0, 1] (bodyOf Try.f46)
noncomputable def c2 : Code := sub [1, 0, 0, 1, 1, 1, 1, 1] (bodyOf Try.f46)
noncomputable def K2 : Kont := .seq c0 .ret
noncomputable def K3 : Kont := .blk 0 K2
noncomputable def fin : ASt → R := Kret E Try.f46.results.toList ps rs
def tJ0 (op : Int) (v_3 : Bool) : ASt := ⟨[(3, .one (.val .bool v_3)), (0, .one (.val (.int .i64) op))], []⟩
def tJ1 (op : Int) (v_13 : Bool) : ASt := ⟨[(13, .one (.val .bool v_13)), (0, .one (.val (.int .i64) op))], []⟩
noncomputable def SJ0 (kJ1 : Int → Bool → R) (op : Int) (v_3 : Bool) : R :=
  cond v_3
    (some ((-1), ()))
    (cond (op == 26)
      (some (3, ()))
      (cond (op == 10)
        (kJ1 op (op == 10))
        (cond (op == 25)
          (kJ1 op (op == 25))
          (cond (op == 31)
            (kJ1 op (op == 31))
            (cond (op == 32)
              (kJ1 op (op == 32))
              (cond (op == 33)
                (kJ1 op (op == 33))
                (kJ1 op (op == 34))))))))
noncomputable def SJ1 (op : Int) (v_13 : Bool) : R :=
  cond v_13
    (some (1, ()))
    (cond (decide (op ≤ 9))
      (cond (decide (op ≤ 9))
        (some (0, ()))
        (some (2, ())))
      (cond (decide (op ≥ 35))
        (some (0, ()))
        (some (2, ()))))
noncomputable def Se (kJ0 : Int → Bool → R) (op : Int) : R :=
  cond (decide (op < 1))
    (kJ0 op true)
    (kJ0 op (decide (op > 39)))
theorem sJ0 (jmp : Tgt → ASt → R) (op : Int) (v_3 : Bool) : run E jmp fin depth c1 K3 (tJ0 op v_3) =
    SJ0 (fun op v_13 => jmp (.code c2 K3) (tJ1 op v_13)) op v_3 := by kernel_rfl
theorem sJ1 (jmp : Tgt → ASt → R) (op : Int) (v_13 : Bool) : run E jmp fin depth c2 K3 (tJ1 op v_13) =
    SJ1 op v_13 := by kernel_rfl
theorem se (jmp : Tgt → ASt → R) (x : (argTy ps).den) : run E jmp fin depth (bodyOf Try.f46) .ret (entryFrom 0 ps x) =
    Se (fun op v_3 => jmp (.code c1 K3) (tJ0 op v_3)) x.1 := by kernel_rfl
noncomputable def J0 (op : Int) (v_3 : Bool) : R := lim E fin (.code c1 K3) (tJ0 op v_3)
noncomputable def J1 (op : Int) (v_13 : Bool) : R := lim E fin (.code c2 K3) (tJ1 op v_13)
theorem J0_eq (op : Int) (v_3 : Bool) : J0 op v_3 = SJ0 J1 op v_3 :=
  (lim_eq (.code c1 K3) (tJ0 op v_3)).trans (sJ0 (lim E fin) op v_3)
theorem J1_eq (op : Int) (v_13 : Bool) : J1 op v_13 = SJ1 op v_13 :=
  (lim_eq (.code c2 K3) (tJ1 op v_13)).trans (sJ1 (lim E fin) op v_13)
end expr_Arity
noncomputable def expr_Arity (op : Int) : expr_Arity.R :=
  expr_Arity.Se expr_Arity.J0 op
noncomputable def expr_Arity.sig : Sig := ⟨expr_Arity.ps, expr_Arity.rs, fun x => expr_Arity x.1⟩
theorem expr_Arity.ok : CallOK Try.prog 46 expr_Arity.sig :=
  callOK_of_lim (E := expr_Arity.E) mixed tt_ok ctxOk_nil Try.func46 (by kernel_rfl : Try.f46.body = some (bodyOf Try.f46)) Try.ntmps46 (of_decide_eq_true (by kernel_rfl)) (of_decide_eq_true (by kernel_rfl))
    fun x y h => ((lim_eq (.code (bodyOf Try.f46) .ret) (entryFrom 0 expr_Arity.ps x)).trans (expr_Arity.se (lim expr_Arity.E expr_Arity.fin) x)).trans h
theorem expr_Arity.val (x : (argTy expr_Arity.ps).den) : lim expr_Arity.E expr_Arity.fin (.code (bodyOf Try.f46) .ret) (entryFrom 0 expr_Arity.ps x) = expr_Arity.sig.run x :=
  (lim_eq (.code (bodyOf Try.f46) .ret) (entryFrom 0 expr_Arity.ps x)).trans (expr_Arity.se (lim expr_Arity.E expr_Arity.fin) x)
noncomputable def expr_Arity.ctxc (n : Nat) : List (Nat × Sig) := []
noncomputable def expr_Arity.sigc (n : Nat) : Sig := ⟨expr_Arity.ps, expr_Arity.rs, fun x => runs (withCtx expr_Arity.E (expr_Arity.ctxc n)) expr_Arity.fin n (.code (bodyOf Try.f46) .ret) (entryFrom 0 expr_Arity.ps x)⟩
theorem expr_Arity.sigc_le (n : Nat) : ∀ x y, (expr_Arity.sigc n).run x = some y → expr_Arity.sig.run x = some y :=
  fun x y h => (expr_Arity.val x).symm.trans (runs_lim (E := expr_Arity.E) (c := expr_Arity.ctxc n) ctxLe_nil h)

/-! ### guerdon/expr.starts -/
namespace expr_starts
abbrev ps : List PM := [.pure (.sl api_Type)]
abbrev rs : List RM := [.own (.int .i64), .pure (.int .i64), .pure (.int .i64)]
abbrev R : Type := Option (List Int × Int × Int × Unit)
noncomputable def E : Env := { tt := tt, ctx := [(46, expr_Arity.sig)], nt := 69, ann := [(1000007, [(0, .keep), (5, .own (.int .i64)), (6, .own (.int .i64)), (17, .keep), (18, .keep), (19, .keep)]), (17, [(0, .keep), (5, .own (.int .i64)), (6, .own (.int .i64)), (7, .keep), (9, .keep), (10, .keep), (17, .keep), (18, .keep), (19, .keep)])] }
noncomputable def c0 : Code := sub [1, 1, 1, 1, 1] (bodyOf Try.f36)
noncomputable def c1 : Code := sub [1, 1, 1, 1, 0, 1, 0, 0] (bodyOf Try.f36)
noncomputable def c2 : Code := sub [1, 1, 1, 1, 0, 1, 0, 0, 1, 1, 1] (bodyOf Try.f36)
noncomputable def c3 : Code := sub [1, 1, 1, 1, 0, 1, 0, 0, 1, 1, 0, 0, 1, 1, 1, 1, 1, 1] (bodyOf Try.f36)
noncomputable def K9 : Kont := .seq c0 .ret
noncomputable def K11 : Kont := .blk 0 K9
noncomputable def K12 : Kont := .loop c1 K11
noncomputable def K15 : Kont := .seq c2 K12
noncomputable def K16 : Kont := .blk 1 K15
noncomputable def fin : ASt → R := Kret E Try.f36.results.toList ps rs
def tL0 (e : List api_TypeV) (out : List Int) (stack : List Int) (v_17 : List api_TypeV) (v_18 : Int) (v_19 : Int) : ASt := ⟨[(19, .one (.val (.int .i64) v_19)), (18, .one (.val (.int .i64) v_18)), (17, .one (.val (.sl api_Type) v_17)), (6, .one (.own 6)), (5, .one (.own 5)), (0, .one (.val (.sl api_Type) e))], [(6, some ⟨.free, .int .i64, stack⟩), (5, some ⟨.free, .int .i64, out⟩)]⟩
def tJ1 (e : List api_TypeV) (out : List Int) (stack : List Int) (i : Int) (k : Int) (start : Int) (v_17 : List api_TypeV) (v_18 : Int) (v_19 : Int) : ASt := ⟨[(19, .one (.val (.int .i64) v_19)), (18, .one (.val (.int .i64) v_18)), (17, .one (.val (.sl api_Type) v_17)), (10, .one (.val (.int .i64) start)), (9, .one (.val (.int .i64) k)), (7, .one (.val (.int .i64) i)), (6, .one (.own 6)), (5, .one (.own 5)), (0, .one (.val (.sl api_Type) e))], [(6, some ⟨.free, .int .i64, stack⟩), (5, some ⟨.free, .int .i64, out⟩)]⟩
noncomputable def SL0 (kJ1 : (List api_TypeV) → (List Int) → (List Int) → Int → Int → Int → (List api_TypeV) → Int → Int → R) (e : List api_TypeV) (out : List Int) (stack : List Int) (v_17 : List api_TypeV) (v_18 : Int) (v_19 : Int) : R :=
  cond (decide (v_19 < v_18))
    (Option.bind (idx v_17 v_19) fun x1 =>
    Option.bind (expr_Arity x1.1) fun x2 =>
    cond (decide (x2.1 < 0))
      (some ([], v_19, 2, ()))
      (cond (decide (x2.1 > (stack.length : Int)))
        (some ([], v_19, 5, ()))
        (cond (decide (x2.1 > 0))
          (cond (decide (0 ≤ IntKind.i64.wrap ((stack.length : Int) - x2.1)) && decide (IntKind.i64.wrap ((stack.length : Int) - x2.1) < (stack.length : Int)))
            (kJ1 e out stack v_19 x2.1 (stack.getD ((IntKind.i64.wrap ((stack.length : Int) - x2.1)).toNat) 0) v_17 v_18 v_19)
            none)
          (kJ1 e out stack v_19 x2.1 v_19 v_17 v_18 v_19))))
    (cond (decide ((stack.length : Int) > 1))
      (some ([], (e.length : Int), 4, ()))
      (some (out, 0, 0, ())))
noncomputable def SJ1 (kL0 : (List api_TypeV) → (List Int) → (List Int) → (List api_TypeV) → Int → Int → R) (e : List api_TypeV) (out : List Int) (stack : List Int) (i : Int) (k : Int) (start : Int) (v_17 : List api_TypeV) (v_18 : Int) (v_19 : Int) : R :=
  cond (decide ((0 : Int) ≤ 0) && (decide ((0 : Int) ≤ IntKind.i64.wrap ((stack.length : Int) - k)) && decide (IntKind.i64.wrap ((stack.length : Int) - k) ≤ (stack.length : Int))))
    (cond (decide (((stack.take ((IntKind.i64.wrap ((stack.length : Int) - k)).toNat)).length + 1) * 8 ≤ room) && decide (0 < Ty.nc (.int .i64)))
      (cond (decide ((((stack.take ((IntKind.i64.wrap ((stack.length : Int) - k)).toNat)) ++ [start]).length : Int) > 12))
        (some ([], i, 16, ()))
        (cond (decide ((out.length + 1) * 8 ≤ room) && decide (0 < Ty.nc (.int .i64)))
          (kL0 e (out ++ [start]) ((stack.take ((IntKind.i64.wrap ((stack.length : Int) - k)).toNat)) ++ [start]) v_17 v_18 (IntKind.i64.wrap (v_19 + 1)))
          none))
      none)
    none
noncomputable def Se (kL0 : (List api_TypeV) → (List Int) → (List Int) → (List api_TypeV) → Int → Int → R) (e : List api_TypeV) : R :=
  cond (decide ((e.length : Int) > 48))
    (some ([], 0, 4, ()))
    (cond ((e.length : Int) == 0)
      (some ([], 0, 5, ()))
      (kL0 e [] [] e (e.length : Int) 0))
theorem sL0 (jmp : Tgt → ASt → R) (e : List api_TypeV) (out : List Int) (stack : List Int) (v_17 : List api_TypeV) (v_18 : Int) (v_19 : Int) : run E jmp fin depth c1 (.loop c1 K11) (tL0 e out stack v_17 v_18 v_19) =
    SL0 (fun e out stack i k start v_17 v_18 v_19 => jmp (.code c3 K16) (tJ1 e out stack i k start v_17 v_18 v_19)) e out stack v_17 v_18 v_19 := by kernel_rfl
theorem sJ1 (jmp : Tgt → ASt → R) (e : List api_TypeV) (out : List Int) (stack : List Int) (i : Int) (k : Int) (start : Int) (v_17 : List api_TypeV) (v_18 : Int) (v_19 : Int) : run E jmp fin depth c3 K16 (tJ1 e out stack i k start v_17 v_18 v_19) =
    SJ1 (fun e out stack v_17 v_18 v_19 => jmp (.loop c1 K11) (tL0 e out stack v_17 v_18 v_19)) e out stack i k start v_17 v_18 v_19 := by kernel_rfl
theorem se (jmp : Tgt → ASt → R) (x : (argTy ps).den) : run E jmp fin depth (bodyOf Try.f36) .ret (entryFrom 0 ps x) =
    Se (fun e out stack v_17 v_18 v_19 => jmp (.loop c1 K11) (tL0 e out stack v_17 v_18 v_19)) x.1 := by kernel_rfl
noncomputable def L0 (e : List api_TypeV) (out : List Int) (stack : List Int) (v_17 : List api_TypeV) (v_18 : Int) (v_19 : Int) : R := lim E fin (.loop c1 K11) (tL0 e out stack v_17 v_18 v_19)
noncomputable def J1 (e : List api_TypeV) (out : List Int) (stack : List Int) (i : Int) (k : Int) (start : Int) (v_17 : List api_TypeV) (v_18 : Int) (v_19 : Int) : R := lim E fin (.code c3 K16) (tJ1 e out stack i k start v_17 v_18 v_19)
theorem L0_eq (e : List api_TypeV) (out : List Int) (stack : List Int) (v_17 : List api_TypeV) (v_18 : Int) (v_19 : Int) : L0 e out stack v_17 v_18 v_19 = SL0 J1 e out stack v_17 v_18 v_19 :=
  (lim_eq (.loop c1 K11) (tL0 e out stack v_17 v_18 v_19)).trans (sL0 (lim E fin) e out stack v_17 v_18 v_19)
theorem J1_eq (e : List api_TypeV) (out : List Int) (stack : List Int) (i : Int) (k : Int) (start : Int) (v_17 : List api_TypeV) (v_18 : Int) (v_19 : Int) : J1 e out stack i k start v_17 v_18 v_19 = SJ1 L0 e out stack i k start v_17 v_18 v_19 :=
  (lim_eq (.code c3 K16) (tJ1 e out stack i k start v_17 v_18 v_19)).trans (sJ1 (lim E fin) e out stack i k start v_17 v_18 v_19)
end expr_starts
noncomputable def expr_starts (e : List api_TypeV) : expr_starts.R :=
  expr_starts.Se expr_starts.L0 e
noncomputable def expr_starts.sig : Sig := ⟨expr_starts.ps, expr_starts.rs, fun x => expr_starts x.1⟩
theorem expr_starts.ok : CallOK Try.prog 36 expr_starts.sig :=
  callOK_of_lim (E := expr_starts.E) mixed tt_ok (ctxOk_cons ctxOk_nil expr_Arity.ok Try.func46 (by kernel_rfl) (by kernel_rfl)) Try.func36 (by kernel_rfl : Try.f36.body = some (bodyOf Try.f36)) Try.ntmps36 (of_decide_eq_true (by kernel_rfl)) (of_decide_eq_true (by kernel_rfl))
    fun x y h => ((lim_eq (.code (bodyOf Try.f36) .ret) (entryFrom 0 expr_starts.ps x)).trans (expr_starts.se (lim expr_starts.E expr_starts.fin) x)).trans h
theorem expr_starts.val (x : (argTy expr_starts.ps).den) : lim expr_starts.E expr_starts.fin (.code (bodyOf Try.f36) .ret) (entryFrom 0 expr_starts.ps x) = expr_starts.sig.run x :=
  (lim_eq (.code (bodyOf Try.f36) .ret) (entryFrom 0 expr_starts.ps x)).trans (expr_starts.se (lim expr_starts.E expr_starts.fin) x)
noncomputable def expr_starts.ctxc (n : Nat) : List (Nat × Sig) := [(46, expr_Arity.sigc n)]
noncomputable def expr_starts.sigc (n : Nat) : Sig := ⟨expr_starts.ps, expr_starts.rs, fun x => runs (withCtx expr_starts.E (expr_starts.ctxc n)) expr_starts.fin n (.code (bodyOf Try.f36) .ret) (entryFrom 0 expr_starts.ps x)⟩
theorem expr_starts.sigc_le (n : Nat) : ∀ x y, (expr_starts.sigc n).run x = some y → expr_starts.sig.run x = some y :=
  fun x y h => (expr_starts.val x).symm.trans (runs_lim (E := expr_starts.E) (c := expr_starts.ctxc n) (ctxLe_cons ctxLe_nil (expr_Arity.sigc_le n)) h)

/-! ### guerdon/expr.Starts -/
namespace expr_Starts
abbrev ps : List PM := [.pure (.sl api_Type)]
abbrev rs : List RM := [.own (.int .i64), .pure (.int .i64)]
abbrev R : Type := Option (List Int × Int × Unit)
noncomputable def E : Env := { tt := tt, ctx := [(36, expr_starts.sig)], nt := 15, ann := [] }
noncomputable def fin : ASt → R := Kret E Try.f51.results.toList ps rs
noncomputable def Se (e : List api_TypeV) : R :=
  Option.bind (expr_starts e) fun x1 =>
  some (x1.1, x1.2.2.1, ())
theorem se (jmp : Tgt → ASt → R) (x : (argTy ps).den) : run E jmp fin depth (bodyOf Try.f51) .ret (entryFrom 0 ps x) =
    Se x.1 := by kernel_rfl
end expr_Starts
noncomputable def expr_Starts (e : List api_TypeV) : expr_Starts.R :=
  expr_Starts.Se e
noncomputable def expr_Starts.sig : Sig := ⟨expr_Starts.ps, expr_Starts.rs, fun x => expr_Starts x.1⟩
theorem expr_Starts.ok : CallOK Try.prog 51 expr_Starts.sig :=
  callOK_of_lim (E := expr_Starts.E) mixed tt_ok (ctxOk_cons ctxOk_nil expr_starts.ok Try.func36 (by kernel_rfl) (by kernel_rfl)) Try.func51 (by kernel_rfl : Try.f51.body = some (bodyOf Try.f51)) Try.ntmps51 (of_decide_eq_true (by kernel_rfl)) (of_decide_eq_true (by kernel_rfl))
    fun x y h => ((lim_eq (.code (bodyOf Try.f51) .ret) (entryFrom 0 expr_Starts.ps x)).trans (expr_Starts.se (lim expr_Starts.E expr_Starts.fin) x)).trans h
theorem expr_Starts.val (x : (argTy expr_Starts.ps).den) : lim expr_Starts.E expr_Starts.fin (.code (bodyOf Try.f51) .ret) (entryFrom 0 expr_Starts.ps x) = expr_Starts.sig.run x :=
  (lim_eq (.code (bodyOf Try.f51) .ret) (entryFrom 0 expr_Starts.ps x)).trans (expr_Starts.se (lim expr_Starts.E expr_Starts.fin) x)
noncomputable def expr_Starts.ctxc (n : Nat) : List (Nat × Sig) := [(36, expr_starts.sigc n)]
noncomputable def expr_Starts.sigc (n : Nat) : Sig := ⟨expr_Starts.ps, expr_Starts.rs, fun x => runs (withCtx expr_Starts.E (expr_Starts.ctxc n)) expr_Starts.fin n (.code (bodyOf Try.f51) .ret) (entryFrom 0 expr_Starts.ps x)⟩
theorem expr_Starts.sigc_le (n : Nat) : ∀ x y, (expr_Starts.sigc n).run x = some y → expr_Starts.sig.run x = some y :=
  fun x y h => (expr_Starts.val x).symm.trans (runs_lim (E := expr_Starts.E) (c := expr_Starts.ctxc n) (ctxLe_cons ctxLe_nil (expr_starts.sigc_le n)) h)

/-! ### guerdon/expr.operands -/
namespace expr_operands
abbrev ps : List PM := [.pure (.sl api_Type), .pure (.sl (.int .i64)), .pure (.int .i64)]
abbrev rs : List RM := [.own (.int .i64)]
abbrev R : Type := Option (List Int × Unit)
noncomputable def E : Env := { tt := tt, ctx := [(46, expr_Arity.sig)], nt := 37, ann := [(1000005, [(1, .keep), (8, .keep), (9, .keep), (10, .keep)])] }
noncomputable def c0 : Code := sub [1, 1, 1, 1, 1] (bodyOf Try.f37)
noncomputable def c1 : Code := sub [1, 1, 1, 1, 0, 1, 0, 0] (bodyOf Try.f37)
noncomputable def K5 : Kont := .seq c0 .ret
noncomputable def K7 : Kont := .blk 0 K5
noncomputable def fin : ASt → R := Kret E Try.f37.results.toList ps rs
def tL0 (l : List Int) (out : List Int) (last : Int) (i : Int) : ASt := ⟨[(10, .one (.val (.int .i64) i)), (9, .one (.val (.int .i64) last)), (8, .one (.own 8)), (1, .one (.val (.sl (.int .i64)) l))], [(8, some ⟨.free, .int .i64, out⟩)]⟩
noncomputable def SL0 (kL0 : (List Int) → (List Int) → Int → Int → R) (l : List Int) (out : List Int) (last : Int) (i : Int) : R :=
  cond (decide (i ≥ 0))
    (cond (decide (0 ≤ i) && decide (i < (out.length : Int)))
      (Option.bind (idx l last) fun x1 =>
      kL0 l (out.set i.toNat last) (IntKind.i64.wrap (x1 - 1)) (IntKind.i64.wrap (i - 1)))
      none)
    (some (out, ()))
noncomputable def Se (kL0 : (List Int) → (List Int) → Int → Int → R) (e : List api_TypeV) (l : List Int) (at_2 : Int) : R :=
  Option.bind (idx e at_2) fun x1 =>
  Option.bind (expr_Arity x1.1) fun x2 =>
  cond (decide (0 ≤ (x2.1 : Int)) && (decide ((x2.1 : Int) ≤ x2.1) && (decide ((x2.1 : Int) * 8 ≤ room) && (decide ((x2.1 : Int) ≤ maxLen) && decide (0 < Ty.nc (.int .i64))))))
    (kL0 l (List.replicate x2.1.toNat 0) (IntKind.i64.wrap (at_2 - 1)) (IntKind.i64.wrap (x2.1 - 1)))
    none
theorem sL0 (jmp : Tgt → ASt → R) (l : List Int) (out : List Int) (last : Int) (i : Int) : run E jmp fin depth c1 (.loop c1 K7) (tL0 l out last i) =
    SL0 (fun l out last i => jmp (.loop c1 K7) (tL0 l out last i)) l out last i := by kernel_rfl
theorem se (jmp : Tgt → ASt → R) (x : (argTy ps).den) : run E jmp fin depth (bodyOf Try.f37) .ret (entryFrom 0 ps x) =
    Se (fun l out last i => jmp (.loop c1 K7) (tL0 l out last i)) x.1 x.2.1 x.2.2.1 := by kernel_rfl
noncomputable def L0 (l : List Int) (out : List Int) (last : Int) (i : Int) : R := lim E fin (.loop c1 K7) (tL0 l out last i)
theorem L0_eq (l : List Int) (out : List Int) (last : Int) (i : Int) : L0 l out last i = SL0 L0 l out last i :=
  (lim_eq (.loop c1 K7) (tL0 l out last i)).trans (sL0 (lim E fin) l out last i)
end expr_operands
noncomputable def expr_operands (e : List api_TypeV) (l : List Int) (at_2 : Int) : expr_operands.R :=
  expr_operands.Se expr_operands.L0 e l at_2
noncomputable def expr_operands.sig : Sig := ⟨expr_operands.ps, expr_operands.rs, fun x => expr_operands x.1 x.2.1 x.2.2.1⟩
theorem expr_operands.ok : CallOK Try.prog 37 expr_operands.sig :=
  callOK_of_lim (E := expr_operands.E) mixed tt_ok (ctxOk_cons ctxOk_nil expr_Arity.ok Try.func46 (by kernel_rfl) (by kernel_rfl)) Try.func37 (by kernel_rfl : Try.f37.body = some (bodyOf Try.f37)) Try.ntmps37 (of_decide_eq_true (by kernel_rfl)) (of_decide_eq_true (by kernel_rfl))
    fun x y h => ((lim_eq (.code (bodyOf Try.f37) .ret) (entryFrom 0 expr_operands.ps x)).trans (expr_operands.se (lim expr_operands.E expr_operands.fin) x)).trans h
theorem expr_operands.val (x : (argTy expr_operands.ps).den) : lim expr_operands.E expr_operands.fin (.code (bodyOf Try.f37) .ret) (entryFrom 0 expr_operands.ps x) = expr_operands.sig.run x :=
  (lim_eq (.code (bodyOf Try.f37) .ret) (entryFrom 0 expr_operands.ps x)).trans (expr_operands.se (lim expr_operands.E expr_operands.fin) x)
noncomputable def expr_operands.ctxc (n : Nat) : List (Nat × Sig) := [(46, expr_Arity.sigc n)]
noncomputable def expr_operands.sigc (n : Nat) : Sig := ⟨expr_operands.ps, expr_operands.rs, fun x => runs (withCtx expr_operands.E (expr_operands.ctxc n)) expr_operands.fin n (.code (bodyOf Try.f37) .ret) (entryFrom 0 expr_operands.ps x)⟩
theorem expr_operands.sigc_le (n : Nat) : ∀ x y, (expr_operands.sigc n).run x = some y → expr_operands.sig.run x = some y :=
  fun x y h => (expr_operands.val x).symm.trans (runs_lim (E := expr_operands.E) (c := expr_operands.ctxc n) (ctxLe_cons ctxLe_nil (expr_Arity.sigc_le n)) h)

/-! ### guerdon/expr.Operands -/
namespace expr_Operands
abbrev ps : List PM := [.pure (.sl api_Type), .pure (.int .i64)]
abbrev rs : List RM := [.own (.int .i64)]
abbrev R : Type := Option (List Int × Unit)
noncomputable def E : Env := { tt := tt, ctx := [(51, expr_Starts.sig), (37, expr_operands.sig)], nt := 28, ann := [] }
noncomputable def fin : ASt → R := Kret E Try.f39.results.toList ps rs
noncomputable def Se (e : List api_TypeV) (at_1 : Int) : R :=
  Option.bind (expr_Starts e) fun x1 =>
  cond (x1.2.1 != 0)
    (some ([], ()))
    (cond (decide (at_1 < 0))
      (some ([], ()))
      (cond (decide (at_1 ≥ (e.length : Int)))
        (some ([], ()))
        (Option.bind (expr_operands e x1.1 at_1) fun x2 =>
        some (x2.1, ()))))
theorem se (jmp : Tgt → ASt → R) (x : (argTy ps).den) : run E jmp fin depth (bodyOf Try.f39) .ret (entryFrom 0 ps x) =
    Se x.1 x.2.1 := by kernel_rfl
end expr_Operands
noncomputable def expr_Operands (e : List api_TypeV) (at_1 : Int) : expr_Operands.R :=
  expr_Operands.Se e at_1
noncomputable def expr_Operands.sig : Sig := ⟨expr_Operands.ps, expr_Operands.rs, fun x => expr_Operands x.1 x.2.1⟩
theorem expr_Operands.ok : CallOK Try.prog 39 expr_Operands.sig :=
  callOK_of_lim (E := expr_Operands.E) mixed tt_ok (ctxOk_cons (ctxOk_cons ctxOk_nil expr_operands.ok Try.func37 (by kernel_rfl) (by kernel_rfl)) expr_Starts.ok Try.func51 (by kernel_rfl) (by kernel_rfl)) Try.func39 (by kernel_rfl : Try.f39.body = some (bodyOf Try.f39)) Try.ntmps39 (of_decide_eq_true (by kernel_rfl)) (of_decide_eq_true (by kernel_rfl))
    fun x y h => ((lim_eq (.code (bodyOf Try.f39) .ret) (entryFrom 0 expr_Operands.ps x)).trans (expr_Operands.se (lim expr_Operands.E expr_Operands.fin) x)).trans h
theorem expr_Operands.val (x : (argTy expr_Operands.ps).den) : lim expr_Operands.E expr_Operands.fin (.code (bodyOf Try.f39) .ret) (entryFrom 0 expr_Operands.ps x) = expr_Operands.sig.run x :=
  (lim_eq (.code (bodyOf Try.f39) .ret) (entryFrom 0 expr_Operands.ps x)).trans (expr_Operands.se (lim expr_Operands.E expr_Operands.fin) x)
noncomputable def expr_Operands.ctxc (n : Nat) : List (Nat × Sig) := [(51, expr_Starts.sigc n), (37, expr_operands.sigc n)]
noncomputable def expr_Operands.sigc (n : Nat) : Sig := ⟨expr_Operands.ps, expr_Operands.rs, fun x => runs (withCtx expr_Operands.E (expr_Operands.ctxc n)) expr_Operands.fin n (.code (bodyOf Try.f39) .ret) (entryFrom 0 expr_Operands.ps x)⟩
theorem expr_Operands.sigc_le (n : Nat) : ∀ x y, (expr_Operands.sigc n).run x = some y → expr_Operands.sig.run x = some y :=
  fun x y h => (expr_Operands.val x).symm.trans (runs_lim (E := expr_Operands.E) (c := expr_Operands.ctxc n) (ctxLe_cons (ctxLe_cons ctxLe_nil (expr_operands.sigc_le n)) (expr_Starts.sigc_le n)) h)

/-! ### guerdon/cells.literal -/
namespace cells_literal
abbrev ps : List PM := [.pure (.int .i64)]
abbrev rs : List RM := [.pure .bool]
abbrev R : Type := Option (Bool × Unit)
noncomputable def E : Env := { tt := tt, ctx := [], nt := 9, ann := [] }
noncomputable def fin : ASt → R := Kret E Try.f23.results.toList ps rs
noncomputable def Se (op : Int) : R :=
  cond (decide (op ≥ 2))
    (some (decide (op ≤ 6), ()))
    (some (false, ()))
theorem se (jmp : Tgt → ASt → R) (x : (argTy ps).den) : run E jmp fin depth (bodyOf Try.f23) .ret (entryFrom 0 ps x) =
    Se x.1 := by kernel_rfl
end cells_literal
noncomputable def cells_literal (op : Int) : cells_literal.R :=
  cells_literal.Se op
noncomputable def cells_literal.sig : Sig := ⟨cells_literal.ps, cells_literal.rs, fun x => cells_literal x.1⟩
theorem cells_literal.ok : CallOK Try.prog 23 cells_literal.sig :=
  callOK_of_lim (E := cells_literal.E) mixed tt_ok ctxOk_nil Try.func23 (by kernel_rfl : Try.f23.body = some (bodyOf Try.f23)) Try.ntmps23 (of_decide_eq_true (by kernel_rfl)) (of_decide_eq_true (by kernel_rfl))
    fun x y h => ((lim_eq (.code (bodyOf Try.f23) .ret) (entryFrom 0 cells_literal.ps x)).trans (cells_literal.se (lim cells_literal.E cells_literal.fin) x)).trans h
theorem cells_literal.val (x : (argTy cells_literal.ps).den) : lim cells_literal.E cells_literal.fin (.code (bodyOf Try.f23) .ret) (entryFrom 0 cells_literal.ps x) = cells_literal.sig.run x :=
  (lim_eq (.code (bodyOf Try.f23) .ret) (entryFrom 0 cells_literal.ps x)).trans (cells_literal.se (lim cells_literal.E cells_literal.fin) x)
noncomputable def cells_literal.ctxc (n : Nat) : List (Nat × Sig) := []
noncomputable def cells_literal.sigc (n : Nat) : Sig := ⟨cells_literal.ps, cells_literal.rs, fun x => runs (withCtx cells_literal.E (cells_literal.ctxc n)) cells_literal.fin n (.code (bodyOf Try.f23) .ret) (entryFrom 0 cells_literal.ps x)⟩
theorem cells_literal.sigc_le (n : Nat) : ∀ x y, (cells_literal.sigc n).run x = some y → cells_literal.sig.run x = some y :=
  fun x y h => (cells_literal.val x).symm.trans (runs_lim (E := cells_literal.E) (c := cells_literal.ctxc n) ctxLe_nil h)

/-! ### guerdon/cells.simple -/
namespace cells_simple
abbrev ps : List PM := [.pure (.sl api_Type), .pure (.int .i64)]
abbrev rs : List RM := [.pure api_Type, .pure api_Type, .pure .bool]
abbrev R : Type := Option (api_TypeV × api_TypeV × Bool × Unit)
noncomputable def E : Env := { tt := tt, ctx := [(39, expr_Operands.sig), (23, cells_literal.sig)], nt := 45, ann := [(7, [(4, .keep), (5, .keep), (8, .keep), (9, .keep)])] }
noncomputable def c0 : Code := sub [1, 1, 1, 1, 1] (bodyOf Try.f25)
noncomputable def fin : ASt → R := Kret E Try.f25.results.toList ps rs
def tJ0 (v_4 : api_TypeV) (v_5 : api_TypeV) (a : api_TypeV) (b : api_TypeV) : ASt := ⟨[(9, .one (.optr 9 0 [])), (8, .one (.optr 8 0 [])), (5, .one (.optr 5 0 [])), (4, .one (.optr 4 0 []))], [(9, some ⟨.free, api_Type, [b]⟩), (8, some ⟨.free, api_Type, [a]⟩), (5, some ⟨.free, api_Type, [v_5]⟩), (4, some ⟨.free, api_Type, [v_4]⟩)]⟩
noncomputable def SJ0 (v_4 : api_TypeV) (v_5 : api_TypeV) (a : api_TypeV) (b : api_TypeV) : R :=
  cond (a.1 == 7)
    (Option.bind (cells_literal b.1) fun x1 =>
    some (a, b, x1.1, ()))
    (some (a, b, false, ()))
noncomputable def Se (kJ0 : api_TypeV → api_TypeV → api_TypeV → api_TypeV → R) (e : List api_TypeV) (at_1 : Int) : R :=
  Option.bind (expr_Operands e at_1) fun x1 =>
  cond ((x1.1.length : Int) != 2)
    (some ((0, 0, ()), (0, 0, ()), false, ()))
    (cond (decide (0 ≤ 0) && decide (0 < (x1.1.length : Int)))
      (Option.bind (idx e (x1.1.getD 0 0)) fun x2 =>
      cond (decide (0 ≤ 1) && decide (1 < (x1.1.length : Int)))
        (Option.bind (idx e (x1.1.getD 1 0)) fun x3 =>
        cond (x3.1 == 7)
          (kJ0 (0, 0, ()) (0, 0, ()) x3 x2)
          (kJ0 (0, 0, ()) (0, 0, ()) x2 x3))
        none)
      none)
theorem sJ0 (jmp : Tgt → ASt → R) (v_4 : api_TypeV) (v_5 : api_TypeV) (a : api_TypeV) (b : api_TypeV) : run E jmp fin depth c0 .ret (tJ0 v_4 v_5 a b) =
    SJ0 v_4 v_5 a b := by kernel_rfl
theorem se (jmp : Tgt → ASt → R) (x : (argTy ps).den) : run E jmp fin depth (bodyOf Try.f25) .ret (entryFrom 0 ps x) =
    Se (fun v_4 v_5 a b => jmp (.code c0 .ret) (tJ0 v_4 v_5 a b)) x.1 x.2.1 := by kernel_rfl
noncomputable def J0 (v_4 : api_TypeV) (v_5 : api_TypeV) (a : api_TypeV) (b : api_TypeV) : R := lim E fin (.code c0 .ret) (tJ0 v_4 v_5 a b)
theorem J0_eq (v_4 : api_TypeV) (v_5 : api_TypeV) (a : api_TypeV) (b : api_TypeV) : J0 v_4 v_5 a b = SJ0 v_4 v_5 a b :=
  (lim_eq (.code c0 .ret) (tJ0 v_4 v_5 a b)).trans (sJ0 (lim E fin) v_4 v_5 a b)
end cells_simple
noncomputable def cells_simple (e : List api_TypeV) (at_1 : Int) : cells_simple.R :=
  cells_simple.Se cells_simple.J0 e at_1
noncomputable def cells_simple.sig : Sig := ⟨cells_simple.ps, cells_simple.rs, fun x => cells_simple x.1 x.2.1⟩
theorem cells_simple.ok : CallOK Try.prog 25 cells_simple.sig :=
  callOK_of_lim (E := cells_simple.E) mixed tt_ok (ctxOk_cons (ctxOk_cons ctxOk_nil cells_literal.ok Try.func23 (by kernel_rfl) (by kernel_rfl)) expr_Operands.ok Try.func39 (by kernel_rfl) (by kernel_rfl)) Try.func25 (by kernel_rfl : Try.f25.body = some (bodyOf Try.f25)) Try.ntmps25 (of_decide_eq_true (by kernel_rfl)) (of_decide_eq_true (by kernel_rfl))
    fun x y h => ((lim_eq (.code (bodyOf Try.f25) .ret) (entryFrom 0 cells_simple.ps x)).trans (cells_simple.se (lim cells_simple.E cells_simple.fin) x)).trans h
theorem cells_simple.val (x : (argTy cells_simple.ps).den) : lim cells_simple.E cells_simple.fin (.code (bodyOf Try.f25) .ret) (entryFrom 0 cells_simple.ps x) = cells_simple.sig.run x :=
  (lim_eq (.code (bodyOf Try.f25) .ret) (entryFrom 0 cells_simple.ps x)).trans (cells_simple.se (lim cells_simple.E cells_simple.fin) x)
noncomputable def cells_simple.ctxc (n : Nat) : List (Nat × Sig) := [(39, expr_Operands.sigc n), (23, cells_literal.sigc n)]
noncomputable def cells_simple.sigc (n : Nat) : Sig := ⟨cells_simple.ps, cells_simple.rs, fun x => runs (withCtx cells_simple.E (cells_simple.ctxc n)) cells_simple.fin n (.code (bodyOf Try.f25) .ret) (entryFrom 0 cells_simple.ps x)⟩
theorem cells_simple.sigc_le (n : Nat) : ∀ x y, (cells_simple.sigc n).run x = some y → cells_simple.sig.run x = some y :=
  fun x y h => (cells_simple.val x).symm.trans (runs_lim (E := cells_simple.E) (c := cells_simple.ctxc n) (ctxLe_cons (ctxLe_cons ctxLe_nil (cells_literal.sigc_le n)) (expr_Operands.sigc_le n)) h)

/-! ### slices.Compact[[]int,int] -/
namespace slices_Compact_int_int
abbrev ps : List PM := [.give (.int .i64)]
abbrev rs : List RM := [.own (.int .i64)]
abbrev R : Type := Option (List Int × Unit)
noncomputable def E : Env := { tt := tt, ctx := [], nt := 61, ann := [(1000004, [(0, .keep), (3, .keep)]), (1000009, [(0, .keep), (3, .keep), (4, .keep), (5, .keep)])] }
noncomputable def c0 : Code := sub [1, 1, 1] (bodyOf Try.f31)
noncomputable def c1 : Code := sub [1, 1, 0, 1, 0, 0] (bodyOf Try.f31)
noncomputable def c2 : Code := sub [1, 1, 0, 1, 0, 0, 1, 1] (bodyOf Try.f31)
noncomputable def c3 : Code := sub [1, 1, 0, 1, 0, 0, 1, 0, 0, 1, 0, 1, 1] (bodyOf Try.f31)
noncomputable def c4 : Code := sub [1, 1, 0, 1, 0, 0, 1, 0, 0, 1, 0, 1, 0, 1, 0, 0] (bodyOf Try.f31)
noncomputable def K5 : Kont := .seq c0 .ret
noncomputable def K7 : Kont := .blk 0 K5
noncomputable def K8 : Kont := .loop c1 K7
noncomputable def K11 : Kont := .seq c2 K8
noncomputable def K12 : Kont := .blk 1 K11
noncomputable def K15 : Kont := .seq c3 K12
noncomputable def K17 : Kont := .blk 2 K15
noncomputable def fin : ASt → R := Kret E Try.f31.results.toList ps rs
def tL0 (s : List Int) (k : Int) : ASt := ⟨[(3, .one (.val (.int .i64) k)), (0, .one (.own 0))], [(0, some ⟨.free, .int .i64, s⟩)]⟩
def tL1 (s : List Int) (k : Int) (s2_lo : Nat) (s2_len : Nat) (k2 : Int) : ASt := ⟨[(5, .one (.val (.int .i64) k2)), (4, .one (.osub 0 s2_lo s2_len)), (3, .one (.val (.int .i64) k)), (0, .one (.own 0))], [(0, some ⟨.free, .int .i64, s⟩)]⟩
noncomputable def SL0 (kL1 : (List Int) → Int → Nat → Nat → Int → R) (kL0 : (List Int) → Int → R) (s : List Int) (k : Int) : R :=
  cond (decide (k < (s.length : Int)))
    (cond (decide (0 ≤ k) && decide (k < (s.length : Int)))
      (cond (decide (0 ≤ IntKind.i64.wrap (k - 1)) && decide (IntKind.i64.wrap (k - 1) < (s.length : Int)))
        (cond ((s.getD k.toNat 0) == (s.getD ((IntKind.i64.wrap (k - 1)).toNat) 0))
          (cond (decide ((0 : Int) ≤ k) && (decide ((k : Int) ≤ (s.length : Int)) && decide ((s.length : Int) ≤ (s.length : Int))))
            (kL1 s k k.toNat (s.length - k.toNat) 1)
            none)
          (kL0 s (IntKind.i64.wrap (k + 1))))
        none)
      none)
    (some (s, ()))
noncomputable def SL1 (kL1 : (List Int) → Int → Nat → Nat → Int → R) (s : List Int) (k : Int) (s2_lo : Nat) (s2_len : Nat) (k2 : Int) : R :=
  cond (decide (k2 < (s2_len : Int)))
    (cond (decide (0 ≤ k2) && decide (k2 < ((s2_len : Nat) : Int)))
      (cond (decide (0 ≤ IntKind.i64.wrap (k2 - 1)) && decide (IntKind.i64.wrap (k2 - 1) < ((s2_len : Nat) : Int)))
        (cond ((s.getD (s2_lo + k2.toNat) 0) != (s.getD (s2_lo + (IntKind.i64.wrap (k2 - 1)).toNat) 0))
          (cond (decide (0 ≤ k2) && decide (k2 < ((s2_len : Nat) : Int)))
            (cond (decide (0 ≤ k) && decide (k < (s.length : Int)))
              (kL1 (s.set k.toNat (s.getD (s2_lo + k2.toNat) 0)) (IntKind.i64.wrap (k + 1)) s2_lo s2_len (IntKind.i64.wrap (k2 + 1)))
              none)
            none)
          (kL1 s k s2_lo s2_len (IntKind.i64.wrap (k2 + 1))))
        none)
      none)
    (cond (decide ((0 : Int) ≤ k) && (decide ((k : Int) ≤ (s.length : Int)) && decide ((s.length : Int) ≤ (s.length : Int))))
      (cond (decide (0 < (s.length - k.toNat)))
        (cond (decide ((0 : Int) ≤ 0) && (decide ((0 : Int) ≤ k) && decide (k ≤ ((s.take k.toNat ++ (List.replicate (s.length - k.toNat) 0 ++ s.drop (k.toNat + (s.length - k.toNat)))).length : Int))))
          (some (((s.take k.toNat ++ (List.replicate (s.length - k.toNat) 0 ++ s.drop (k.toNat + (s.length - k.toNat)))).take k.toNat), ()))
          none)
        none)
      none)
noncomputable def Se (kL0 : (List Int) → Int → R) (s : List Int) : R :=
  cond (decide ((s.length : Int) < 2))
    (some (s, ()))
    (kL0 s 1)
theorem sL0 (jmp : Tgt → ASt → R) (s : List Int) (k : Int) : run E jmp fin depth c1 (.loop c1 K7) (tL0 s k) =
    SL0 (fun s k s2_lo s2_len k2 => jmp (.loop c4 K17) (tL1 s k s2_lo s2_len k2)) (fun s k => jmp (.loop c1 K7) (tL0 s k)) s k := by kernel_rfl
theorem sL1 (jmp : Tgt → ASt → R) (s : List Int) (k : Int) (s2_lo : Nat) (s2_len : Nat) (k2 : Int) : run E jmp fin depth c4 (.loop c4 K17) (tL1 s k s2_lo s2_len k2) =
    SL1 (fun s k s2_lo s2_len k2 => jmp (.loop c4 K17) (tL1 s k s2_lo s2_len k2)) s k s2_lo s2_len k2 := by kernel_rfl
theorem se (jmp : Tgt → ASt → R) (x : (argTy ps).den) : run E jmp fin depth (bodyOf Try.f31) .ret (entryFrom 0 ps x) =
    Se (fun s k => jmp (.loop c1 K7) (tL0 s k)) x.1 := by kernel_rfl
noncomputable def L0 (s : List Int) (k : Int) : R := lim E fin (.loop c1 K7) (tL0 s k)
noncomputable def L1 (s : List Int) (k : Int) (s2_lo : Nat) (s2_len : Nat) (k2 : Int) : R := lim E fin (.loop c4 K17) (tL1 s k s2_lo s2_len k2)
theorem L0_eq (s : List Int) (k : Int) : L0 s k = SL0 L1 L0 s k :=
  (lim_eq (.loop c1 K7) (tL0 s k)).trans (sL0 (lim E fin) s k)
theorem L1_eq (s : List Int) (k : Int) (s2_lo : Nat) (s2_len : Nat) (k2 : Int) : L1 s k s2_lo s2_len k2 = SL1 L1 s k s2_lo s2_len k2 :=
  (lim_eq (.loop c4 K17) (tL1 s k s2_lo s2_len k2)).trans (sL1 (lim E fin) s k s2_lo s2_len k2)
end slices_Compact_int_int
noncomputable def slices_Compact_int_int (s : List Int) : slices_Compact_int_int.R :=
  slices_Compact_int_int.Se slices_Compact_int_int.L0 s
noncomputable def slices_Compact_int_int.sig : Sig := ⟨slices_Compact_int_int.ps, slices_Compact_int_int.rs, fun x => slices_Compact_int_int x.1⟩
theorem slices_Compact_int_int.ok : CallOK Try.prog 31 slices_Compact_int_int.sig :=
  callOK_of_lim (E := slices_Compact_int_int.E) mixed tt_ok ctxOk_nil Try.func31 (by kernel_rfl : Try.f31.body = some (bodyOf Try.f31)) Try.ntmps31 (of_decide_eq_true (by kernel_rfl)) (of_decide_eq_true (by kernel_rfl))
    fun x y h => ((lim_eq (.code (bodyOf Try.f31) .ret) (entryFrom 0 slices_Compact_int_int.ps x)).trans (slices_Compact_int_int.se (lim slices_Compact_int_int.E slices_Compact_int_int.fin) x)).trans h
theorem slices_Compact_int_int.val (x : (argTy slices_Compact_int_int.ps).den) : lim slices_Compact_int_int.E slices_Compact_int_int.fin (.code (bodyOf Try.f31) .ret) (entryFrom 0 slices_Compact_int_int.ps x) = slices_Compact_int_int.sig.run x :=
  (lim_eq (.code (bodyOf Try.f31) .ret) (entryFrom 0 slices_Compact_int_int.ps x)).trans (slices_Compact_int_int.se (lim slices_Compact_int_int.E slices_Compact_int_int.fin) x)
noncomputable def slices_Compact_int_int.ctxc (n : Nat) : List (Nat × Sig) := []
noncomputable def slices_Compact_int_int.sigc (n : Nat) : Sig := ⟨slices_Compact_int_int.ps, slices_Compact_int_int.rs, fun x => runs (withCtx slices_Compact_int_int.E (slices_Compact_int_int.ctxc n)) slices_Compact_int_int.fin n (.code (bodyOf Try.f31) .ret) (entryFrom 0 slices_Compact_int_int.ps x)⟩
theorem slices_Compact_int_int.sigc_le (n : Nat) : ∀ x y, (slices_Compact_int_int.sigc n).run x = some y → slices_Compact_int_int.sig.run x = some y :=
  fun x y h => (slices_Compact_int_int.val x).symm.trans (runs_lim (E := slices_Compact_int_int.E) (c := slices_Compact_int_int.ctxc n) ctxLe_nil h)

/-! ### guerdon/cells.CutPoints -/
namespace cells_CutPoints
abbrev ps : List PM := [.pure (.sl (.sl api_Type)), .pure (.int .i64)]
abbrev rs : List RM := [.own (.int .i64)]
abbrev R : Type := Option (List Int × Unit)
noncomputable def E : Env := { tt := tt, ctx := [(30, slices_Sort_int_int.sig), (31, slices_Compact_int_int.sig), (24, cells_comparison.sig), (25, cells_simple.sig)], nt := 70, ann := [(1000003, [(1, .keep), (5, .own (.int .i64)), (13, .keep), (14, .keep), (15, .keep)]), (1000006, [(1, .keep), (5, .own (.int .i64)), (7, .keep), (13, .keep), (14, .keep), (15, .keep), (19, .keep), (20, .keep), (21, .keep)]), (11, [(1, .keep), (5, .own (.int .i64)), (7, .keep), (11, .keep), (13, .keep), (14, .keep), (15, .keep), (19, .keep), (20, .keep), (21, .keep)])] }
noncomputable def c0 : Code := sub [1, 1, 1] (bodyOf Try.f13)
noncomputable def c1 : Code := sub [1, 1, 0, 1, 0, 0] (bodyOf Try.f13)
noncomputable def c2 : Code := sub [1, 1, 0, 1, 0, 0, 1, 1, 1] (bodyOf Try.f13)
noncomputable def c3 : Code := sub [1, 1, 0, 1, 0, 0, 1, 1, 0, 0, 1, 1, 0, 0] (bodyOf Try.f13)
noncomputable def c4 : Code := sub [1, 1, 0, 1, 0, 0, 1, 1, 0, 0, 1, 1, 0, 0, 1, 1, 1] (bodyOf Try.f13)
noncomputable def c5 : Code := sub [1, 1, 0, 1, 0, 0, 1, 1, 0, 0, 1, 1, 0, 0, 1, 1, 0, 0, 1, 1, 1, 1] (bodyOf Try.f13)
noncomputable def K3 : Kont := .seq c0 .ret
noncomputable def K5 : Kont := .blk 0 K3
noncomputable def K6 : Kont := .loop c1 K5
noncomputable def K9 : Kont := .seq c2 K6
noncomputable def K10 : Kont := .blk 1 K9
noncomputable def K13 : Kont := .blk 2 K10
noncomputable def K14 : Kont := .loop c3 K13
noncomputable def K18 : Kont := .seq c4 K14
noncomputable def K19 : Kont := .blk 3 K18
noncomputable def fin : ASt → R := Kret E Try.f13.results.toList ps rs
def tL0 (input : Int) (out : List Int) (v_13 : List (List api_TypeV)) (v_14 : Int) (v_15 : Int) : ASt := ⟨[(15, .one (.val (.int .i64) v_15)), (14, .one (.val (.int .i64) v_14)), (13, .one (.val (.sl (.sl api_Type)) v_13)), (5, .one (.own 5)), (1, .one (.val (.int .i64) input))], [(5, some ⟨.free, .int .i64, out⟩)]⟩
def tL1 (input : Int) (out : List Int) (e : List api_TypeV) (v_13 : List (List api_TypeV)) (v_14 : Int) (v_15 : Int) (v_19 : List api_TypeV) (v_20 : Int) (v_21 : Int) : ASt := ⟨[(21, .one (.val (.int .i64) v_21)), (20, .one (.val (.int .i64) v_20)), (19, .one (.val (.sl api_Type) v_19)), (15, .one (.val (.int .i64) v_15)), (14, .one (.val (.int .i64) v_14)), (13, .one (.val (.sl (.sl api_Type)) v_13)), (7, .one (.val (.sl api_Type) e)), (5, .one (.own 5)), (1, .one (.val (.int .i64) input))], [(5, some ⟨.free, .int .i64, out⟩)]⟩
def tJ2 (input : Int) (out : List Int) (e : List api_TypeV) (lit : api_TypeV) (v_13 : List (List api_TypeV)) (v_14 : Int) (v_15 : Int) (v_19 : List api_TypeV) (v_20 : Int) (v_21 : Int) : ASt := ⟨[(21, .one (.val (.int .i64) v_21)), (20, .one (.val (.int .i64) v_20)), (19, .one (.val (.sl api_Type) v_19)), (15, .one (.val (.int .i64) v_15)), (14, .one (.val (.int .i64) v_14)), (13, .one (.val (.sl (.sl api_Type)) v_13)), (11, .one (.optr 11 0 [])), (7, .one (.val (.sl api_Type) e)), (5, .one (.own 5)), (1, .one (.val (.int .i64) input))], [(11, some ⟨.free, api_Type, [lit]⟩), (5, some ⟨.free, .int .i64, out⟩)]⟩
noncomputable def SL0 (kL1 : Int → (List Int) → (List api_TypeV) → (List (List api_TypeV)) → Int → Int → (List api_TypeV) → Int → Int → R) (input : Int) (out : List Int) (v_13 : List (List api_TypeV)) (v_14 : Int) (v_15 : Int) : R :=
  cond (decide (v_15 < v_14))
    (Option.bind (idx v_13 v_15) fun x1 =>
    kL1 input out x1 v_13 v_14 v_15 x1 (x1.length : Int) 0)
    (Option.bind (slices_Sort_int_int out) fun x2 =>
    Option.bind (slices_Compact_int_int x2.1) fun x3 =>
    some (x3.1, ()))
noncomputable def SL1 (kL1 : Int → (List Int) → (List api_TypeV) → (List (List api_TypeV)) → Int → Int → (List api_TypeV) → Int → Int → R) (kJ2 : Int → (List Int) → (List api_TypeV) → api_TypeV → (List (List api_TypeV)) → Int → Int → (List api_TypeV) → Int → Int → R) (kL0 : Int → (List Int) → (List (List api_TypeV)) → Int → Int → R) (input : Int) (out : List Int) (e : List api_TypeV) (v_13 : List (List api_TypeV)) (v_14 : Int) (v_15 : Int) (v_19 : List api_TypeV) (v_20 : Int) (v_21 : Int) : R :=
  cond (decide (v_21 < v_20))
    (Option.bind (idx v_19 v_21) fun x1 =>
    Option.bind (cells_comparison x1.1) fun x2 =>
    cond (!x2.1)
      (kL1 input out e v_13 v_14 v_15 v_19 v_20 (IntKind.i64.wrap (v_21 + 1)))
      (Option.bind (cells_simple e v_21) fun x3 =>
      cond (!x3.2.2.1)
        (kL1 input out e v_13 v_14 v_15 v_19 v_20 (IntKind.i64.wrap (v_21 + 1)))
        (cond (x3.1.2.1 != input)
          (kL1 input out e v_13 v_14 v_15 v_19 v_20 (IntKind.i64.wrap (v_21 + 1)))
          (cond (x3.2.1.1 == 6)
            (kL1 input out e v_13 v_14 v_15 v_19 v_20 (IntKind.i64.wrap (v_21 + 1)))
            (kJ2 input out e x3.2.1 v_13 v_14 v_15 v_19 v_20 v_21)))))
    (kL0 input out v_13 v_14 (IntKind.i64.wrap (v_15 + 1)))
noncomputable def SJ2 (kL1 : Int → (List Int) → (List api_TypeV) → (List (List api_TypeV)) → Int → Int → (List api_TypeV) → Int → Int → R) (input : Int) (out : List Int) (e : List api_TypeV) (lit : api_TypeV) (v_13 : List (List api_TypeV)) (v_14 : Int) (v_15 : Int) (v_19 : List api_TypeV) (v_20 : Int) (v_21 : Int) : R :=
  cond (decide ((out.length + 1) * 8 ≤ room) && decide (0 < Ty.nc (.int .i64)))
    (cond (decide (lit.2.1 < 9223372036854775807))
      (cond (decide (((out ++ [lit.2.1]).length + 1) * 8 ≤ room) && decide (0 < Ty.nc (.int .i64)))
        (kL1 input ((out ++ [lit.2.1]) ++ [IntKind.i64.wrap (lit.2.1 + 1)]) e v_13 v_14 v_15 v_19 v_20 (IntKind.i64.wrap (v_21 + 1)))
        none)
      (kL1 input (out ++ [lit.2.1]) e v_13 v_14 v_15 v_19 v_20 (IntKind.i64.wrap (v_21 + 1))))
    none
noncomputable def Se (kL0 : Int → (List Int) → (List (List api_TypeV)) → Int → Int → R) (guards : List (List api_TypeV)) (input : Int) : R :=
  kL0 input [] guards (guards.length : Int) 0
theorem sL0 (jmp : Tgt → ASt → R) (input : Int) (out : List Int) (v_13 : List (List api_TypeV)) (v_14 : Int) (v_15 : Int) : run E jmp fin depth c1 (.loop c1 K5) (tL0 input out v_13 v_14 v_15) =
    SL0 (fun input out e v_13 v_14 v_15 v_19 v_20 v_21 => jmp (.loop c3 K13) (tL1 input out e v_13 v_14 v_15 v_19 v_20 v_21)) input out v_13 v_14 v_15 := by kernel_rfl
theorem sL1 (jmp : Tgt → ASt → R) (input : Int) (out : List Int) (e : List api_TypeV) (v_13 : List (List api_TypeV)) (v_14 : Int) (v_15 : Int) (v_19 : List api_TypeV) (v_20 : Int) (v_21 : Int) : run E jmp fin depth c3 (.loop c3 K13) (tL1 input out e v_13 v_14 v_15 v_19 v_20 v_21) =
    SL1 (fun input out e v_13 v_14 v_15 v_19 v_20 v_21 => jmp (.loop c3 K13) (tL1 input out e v_13 v_14 v_15 v_19 v_20 v_21)) (fun input out e lit v_13 v_14 v_15 v_19 v_20 v_21 => jmp (.code c5 K19) (tJ2 input out e lit v_13 v_14 v_15 v_19 v_20 v_21)) (fun input out v_13 v_14 v_15 => jmp (.loop c1 K5) (tL0 input out v_13 v_14 v_15)) input out e v_13 v_14 v_15 v_19 v_20 v_21 := by kernel_rfl
theorem sJ2 (jmp : Tgt → ASt → R) (input : Int) (out : List Int) (e : List api_TypeV) (lit : api_TypeV) (v_13 : List (List api_TypeV)) (v_14 : Int) (v_15 : Int) (v_19 : List api_TypeV) (v_20 : Int) (v_21 : Int) : run E jmp fin depth c5 K19 (tJ2 input out e lit v_13 v_14 v_15 v_19 v_20 v_21) =
    SJ2 (fun input out e v_13 v_14 v_15 v_19 v_20 v_21 => jmp (.loop c3 K13) (tL1 input out e v_13 v_14 v_15 v_19 v_20 v_21)) input out e lit v_13 v_14 v_15 v_19 v_20 v_21 := by kernel_rfl
theorem se (jmp : Tgt → ASt → R) (x : (argTy ps).den) : run E jmp fin depth (bodyOf Try.f13) .ret (entryFrom 0 ps x) =
    Se (fun input out v_13 v_14 v_15 => jmp (.loop c1 K5) (tL0 input out v_13 v_14 v_15)) x.1 x.2.1 := by kernel_rfl
noncomputable def L0 (input : Int) (out : List Int) (v_13 : List (List api_TypeV)) (v_14 : Int) (v_15 : Int) : R := lim E fin (.loop c1 K5) (tL0 input out v_13 v_14 v_15)
noncomputable def L1 (input : Int) (out : List Int) (e : List api_TypeV) (v_13 : List (List api_TypeV)) (v_14 : Int) (v_15 : Int) (v_19 : List api_TypeV) (v_20 : Int) (v_21 : Int) : R := lim E fin (.loop c3 K13) (tL1 input out e v_13 v_14 v_15 v_19 v_20 v_21)
noncomputable def J2 (input : Int) (out : List Int) (e : List api_TypeV) (lit : api_TypeV) (v_13 : List (List api_TypeV)) (v_14 : Int) (v_15 : Int) (v_19 : List api_TypeV) (v_20 : Int) (v_21 : Int) : R := lim E fin (.code c5 K19) (tJ2 input out e lit v_13 v_14 v_15 v_19 v_20 v_21)
theorem L0_eq (input : Int) (out : List Int) (v_13 : List (List api_TypeV)) (v_14 : Int) (v_15 : Int) : L0 input out v_13 v_14 v_15 = SL0 L1 input out v_13 v_14 v_15 :=
  (lim_eq (.loop c1 K5) (tL0 input out v_13 v_14 v_15)).trans (sL0 (lim E fin) input out v_13 v_14 v_15)
theorem L1_eq (input : Int) (out : List Int) (e : List api_TypeV) (v_13 : List (List api_TypeV)) (v_14 : Int) (v_15 : Int) (v_19 : List api_TypeV) (v_20 : Int) (v_21 : Int) : L1 input out e v_13 v_14 v_15 v_19 v_20 v_21 = SL1 L1 J2 L0 input out e v_13 v_14 v_15 v_19 v_20 v_21 :=
  (lim_eq (.loop c3 K13) (tL1 input out e v_13 v_14 v_15 v_19 v_20 v_21)).trans (sL1 (lim E fin) input out e v_13 v_14 v_15 v_19 v_20 v_21)
theorem J2_eq (input : Int) (out : List Int) (e : List api_TypeV) (lit : api_TypeV) (v_13 : List (List api_TypeV)) (v_14 : Int) (v_15 : Int) (v_19 : List api_TypeV) (v_20 : Int) (v_21 : Int) : J2 input out e lit v_13 v_14 v_15 v_19 v_20 v_21 = SJ2 L1 input out e lit v_13 v_14 v_15 v_19 v_20 v_21 :=
  (lim_eq (.code c5 K19) (tJ2 input out e lit v_13 v_14 v_15 v_19 v_20 v_21)).trans (sJ2 (lim E fin) input out e lit v_13 v_14 v_15 v_19 v_20 v_21)
end cells_CutPoints
noncomputable def cells_CutPoints (guards : List (List api_TypeV)) (input : Int) : cells_CutPoints.R :=
  cells_CutPoints.Se cells_CutPoints.L0 guards input
noncomputable def cells_CutPoints.sig : Sig := ⟨cells_CutPoints.ps, cells_CutPoints.rs, fun x => cells_CutPoints x.1 x.2.1⟩
theorem cells_CutPoints.ok : CallOK Try.prog 13 cells_CutPoints.sig :=
  callOK_of_lim (E := cells_CutPoints.E) mixed tt_ok (ctxOk_cons (ctxOk_cons (ctxOk_cons (ctxOk_cons ctxOk_nil cells_simple.ok Try.func25 (by kernel_rfl) (by kernel_rfl)) cells_comparison.ok Try.func24 (by kernel_rfl) (by kernel_rfl)) slices_Compact_int_int.ok Try.func31 (by kernel_rfl) (by kernel_rfl)) slices_Sort_int_int.ok Try.func30 (by kernel_rfl) (by kernel_rfl)) Try.func13 (by kernel_rfl : Try.f13.body = some (bodyOf Try.f13)) Try.ntmps13 (of_decide_eq_true (by kernel_rfl)) (of_decide_eq_true (by kernel_rfl))
    fun x y h => ((lim_eq (.code (bodyOf Try.f13) .ret) (entryFrom 0 cells_CutPoints.ps x)).trans (cells_CutPoints.se (lim cells_CutPoints.E cells_CutPoints.fin) x)).trans h
theorem cells_CutPoints.val (x : (argTy cells_CutPoints.ps).den) : lim cells_CutPoints.E cells_CutPoints.fin (.code (bodyOf Try.f13) .ret) (entryFrom 0 cells_CutPoints.ps x) = cells_CutPoints.sig.run x :=
  (lim_eq (.code (bodyOf Try.f13) .ret) (entryFrom 0 cells_CutPoints.ps x)).trans (cells_CutPoints.se (lim cells_CutPoints.E cells_CutPoints.fin) x)
noncomputable def cells_CutPoints.ctxc (n : Nat) : List (Nat × Sig) := [(30, slices_Sort_int_int.sigc n), (31, slices_Compact_int_int.sigc n), (24, cells_comparison.sigc n), (25, cells_simple.sigc n)]
noncomputable def cells_CutPoints.sigc (n : Nat) : Sig := ⟨cells_CutPoints.ps, cells_CutPoints.rs, fun x => runs (withCtx cells_CutPoints.E (cells_CutPoints.ctxc n)) cells_CutPoints.fin n (.code (bodyOf Try.f13) .ret) (entryFrom 0 cells_CutPoints.ps x)⟩
theorem cells_CutPoints.sigc_le (n : Nat) : ∀ x y, (cells_CutPoints.sigc n).run x = some y → cells_CutPoints.sig.run x = some y :=
  fun x y h => (cells_CutPoints.val x).symm.trans (runs_lim (E := cells_CutPoints.E) (c := cells_CutPoints.ctxc n) (ctxLe_cons (ctxLe_cons (ctxLe_cons (ctxLe_cons ctxLe_nil (cells_simple.sigc_le n)) (cells_comparison.sigc_le n)) (slices_Compact_int_int.sigc_le n)) (slices_Sort_int_int.sigc_le n)) h)

/-! ### guerdon/expr.literal -/
namespace expr_literal
abbrev ps : List PM := [.pure (.int .i64)]
abbrev rs : List RM := [.pure (.int .i64)]
abbrev R : Type := Option (Int × Unit)
noncomputable def E : Env := { tt := tt, ctx := [], nt := 10, ann := [] }
noncomputable def fin : ASt → R := Kret E Try.f89.results.toList ps rs
noncomputable def Se (op : Int) : R :=
  cond (decide (op ≥ 1))
    (cond (decide (op ≤ 6))
      (some (op, ()))
      (some (0, ())))
    (some (0, ()))
theorem se (jmp : Tgt → ASt → R) (x : (argTy ps).den) : run E jmp fin depth (bodyOf Try.f89) .ret (entryFrom 0 ps x) =
    Se x.1 := by kernel_rfl
end expr_literal
noncomputable def expr_literal (op : Int) : expr_literal.R :=
  expr_literal.Se op
noncomputable def expr_literal.sig : Sig := ⟨expr_literal.ps, expr_literal.rs, fun x => expr_literal x.1⟩
theorem expr_literal.ok : CallOK Try.prog 89 expr_literal.sig :=
  callOK_of_lim (E := expr_literal.E) mixed tt_ok ctxOk_nil Try.func89 (by kernel_rfl : Try.f89.body = some (bodyOf Try.f89)) Try.ntmps89 (of_decide_eq_true (by kernel_rfl)) (of_decide_eq_true (by kernel_rfl))
    fun x y h => ((lim_eq (.code (bodyOf Try.f89) .ret) (entryFrom 0 expr_literal.ps x)).trans (expr_literal.se (lim expr_literal.E expr_literal.fin) x)).trans h
theorem expr_literal.val (x : (argTy expr_literal.ps).den) : lim expr_literal.E expr_literal.fin (.code (bodyOf Try.f89) .ret) (entryFrom 0 expr_literal.ps x) = expr_literal.sig.run x :=
  (lim_eq (.code (bodyOf Try.f89) .ret) (entryFrom 0 expr_literal.ps x)).trans (expr_literal.se (lim expr_literal.E expr_literal.fin) x)
noncomputable def expr_literal.ctxc (n : Nat) : List (Nat × Sig) := []
noncomputable def expr_literal.sigc (n : Nat) : Sig := ⟨expr_literal.ps, expr_literal.rs, fun x => runs (withCtx expr_literal.E (expr_literal.ctxc n)) expr_literal.fin n (.code (bodyOf Try.f89) .ret) (entryFrom 0 expr_literal.ps x)⟩
theorem expr_literal.sigc_le (n : Nat) : ∀ x y, (expr_literal.sigc n).run x = some y → expr_literal.sig.run x = some y :=
  fun x y h => (expr_literal.val x).symm.trans (runs_lim (E := expr_literal.E) (c := expr_literal.ctxc n) ctxLe_nil h)

/-! ### guerdon/expr.meaning -/
namespace expr_meaning
abbrev ps : List PM := [.pure (.int .i64)]
abbrev rs : List RM := [.pure .bool]
abbrev R : Type := Option (Bool × Unit)
noncomputable def E : Env := { tt := tt, ctx := [(89, expr_literal.sig)], nt := 19, ann := [] }
noncomputable def fin : ASt → R := Kret E Try.f69.results.toList ps rs
noncomputable def Se (op : Int) : R :=
  cond (op == 7)
    (cond (op == 7)
      (some (true, ()))
      (Option.bind (expr_literal op) fun x1 =>
      some (decide (x1.1 > 0), ())))
    (cond (op == 8)
      (cond (op == 8)
        (some (true, ()))
        (Option.bind (expr_literal op) fun x2 =>
        some (decide (x2.1 > 0), ())))
      (cond (op == 14)
        (cond (op == 14)
          (some (true, ()))
          (Option.bind (expr_literal op) fun x3 =>
          some (decide (x3.1 > 0), ())))
        (cond (op == 15)
          (cond (op == 15)
            (some (true, ()))
            (Option.bind (expr_literal op) fun x4 =>
            some (decide (x4.1 > 0), ())))
          (cond (op == 16)
            (cond (op == 16)
              (some (true, ()))
              (Option.bind (expr_literal op) fun x5 =>
              some (decide (x5.1 > 0), ())))
            (cond (op == 33)
              (cond (op == 33)
                (some (true, ()))
                (Option.bind (expr_literal op) fun x6 =>
                some (decide (x6.1 > 0), ())))
              (cond (op == 34)
                (cond (op == 34)
                  (some (true, ()))
                  (Option.bind (expr_literal op) fun x7 =>
                  some (decide (x7.1 > 0), ())))
                (cond (op == 36)
                  (cond (op == 36)
                    (some (true, ()))
                    (Option.bind (expr_literal op) fun x8 =>
                    some (decide (x8.1 > 0), ())))
                  (cond (op == 37)
                    (cond (op == 37)
                      (some (true, ()))
                      (Option.bind (expr_literal op) fun x9 =>
                      some (decide (x9.1 > 0), ())))
                    (cond (op == 38)
                      (cond (op == 38)
                        (some (true, ()))
                        (Option.bind (expr_literal op) fun x10 =>
                        some (decide (x10.1 > 0), ())))
                      (cond (op == 39)
                        (some (true, ()))
                        (Option.bind (expr_literal op) fun x11 =>
                        some (decide (x11.1 > 0), ()))))))))))))
theorem se (jmp : Tgt → ASt → R) (x : (argTy ps).den) : run E jmp fin depth (bodyOf Try.f69) .ret (entryFrom 0 ps x) =
    Se x.1 := by kernel_rfl
end expr_meaning
noncomputable def expr_meaning (op : Int) : expr_meaning.R :=
  expr_meaning.Se op
noncomputable def expr_meaning.sig : Sig := ⟨expr_meaning.ps, expr_meaning.rs, fun x => expr_meaning x.1⟩
theorem expr_meaning.ok : CallOK Try.prog 69 expr_meaning.sig :=
  callOK_of_lim (E := expr_meaning.E) mixed tt_ok (ctxOk_cons ctxOk_nil expr_literal.ok Try.func89 (by kernel_rfl) (by kernel_rfl)) Try.func69 (by kernel_rfl : Try.f69.body = some (bodyOf Try.f69)) Try.ntmps69 (of_decide_eq_true (by kernel_rfl)) (of_decide_eq_true (by kernel_rfl))
    fun x y h => ((lim_eq (.code (bodyOf Try.f69) .ret) (entryFrom 0 expr_meaning.ps x)).trans (expr_meaning.se (lim expr_meaning.E expr_meaning.fin) x)).trans h
theorem expr_meaning.val (x : (argTy expr_meaning.ps).den) : lim expr_meaning.E expr_meaning.fin (.code (bodyOf Try.f69) .ret) (entryFrom 0 expr_meaning.ps x) = expr_meaning.sig.run x :=
  (lim_eq (.code (bodyOf Try.f69) .ret) (entryFrom 0 expr_meaning.ps x)).trans (expr_meaning.se (lim expr_meaning.E expr_meaning.fin) x)
noncomputable def expr_meaning.ctxc (n : Nat) : List (Nat × Sig) := [(89, expr_literal.sigc n)]
noncomputable def expr_meaning.sigc (n : Nat) : Sig := ⟨expr_meaning.ps, expr_meaning.rs, fun x => runs (withCtx expr_meaning.E (expr_meaning.ctxc n)) expr_meaning.fin n (.code (bodyOf Try.f69) .ret) (entryFrom 0 expr_meaning.ps x)⟩
theorem expr_meaning.sigc_le (n : Nat) : ∀ x y, (expr_meaning.sigc n).run x = some y → expr_meaning.sig.run x = some y :=
  fun x y h => (expr_meaning.val x).symm.trans (runs_lim (E := expr_meaning.E) (c := expr_meaning.ctxc n) (ctxLe_cons ctxLe_nil (expr_literal.sigc_le n)) h)

/-! ### guerdon/value.ValidType -/
namespace value_ValidType
abbrev ps : List PM := [.pure api_Type, .pure (.sl api_Enum)]
abbrev rs : List RM := [.pure .bool]
abbrev R : Type := Option (Bool × Unit)
noncomputable def E : Env := { tt := tt, ctx := [], nt := 28, ann := [(7, [(1, .keep), (2, .keep), (6, .keep), (7, .keep)])] }
noncomputable def c0 : Code := sub [1, 1] (bodyOf Try.f33)
noncomputable def c1 : Code := sub [1, 0, 1, 0, 1] (bodyOf Try.f33)
noncomputable def K2 : Kont := .seq c0 .ret
noncomputable def K4 : Kont := .blk 0 K2
noncomputable def fin : ASt → R := Kret E Try.f33.results.toList ps rs
def tJ0 (enums : List api_EnumV) (t : api_TypeV) (v_6 : Int) (v_7 : Bool) : ASt := ⟨[(7, .one (.val .bool v_7)), (6, .one (.val (.int .i64) v_6)), (2, .one (.optr 2 0 [])), (1, .one (.val (.sl api_Enum) enums))], [(2, some ⟨.free, api_Type, [t]⟩)]⟩
noncomputable def SJ0 (enums : List api_EnumV) (t : api_TypeV) (v_6 : Int) (v_7 : Bool) : R :=
  cond v_7
    (some ((t.2.1 == 0), ()))
    (cond (v_6 == 6)
      (cond (decide (t.2.1 ≥ 0))
        (some (decide (t.2.1 < (enums.length : Int)), ()))
        (some (false, ())))
      (some (false, ())))
noncomputable def Se (kJ0 : (List api_EnumV) → api_TypeV → Int → Bool → R) (t : api_TypeV) (enums : List api_EnumV) : R :=
  cond (t.1 == 1)
    (kJ0 enums t t.1 (t.1 == 1))
    (cond (t.1 == 2)
      (kJ0 enums t t.1 (t.1 == 2))
      (cond (t.1 == 3)
        (kJ0 enums t t.1 (t.1 == 3))
        (cond (t.1 == 4)
          (kJ0 enums t t.1 (t.1 == 4))
          (kJ0 enums t t.1 (t.1 == 5)))))
theorem sJ0 (jmp : Tgt → ASt → R) (enums : List api_EnumV) (t : api_TypeV) (v_6 : Int) (v_7 : Bool) : run E jmp fin depth c1 K4 (tJ0 enums t v_6 v_7) =
    SJ0 enums t v_6 v_7 := by kernel_rfl
theorem se (jmp : Tgt → ASt → R) (x : (argTy ps).den) : run E jmp fin depth (bodyOf Try.f33) .ret (entryFrom 0 ps x) =
    Se (fun enums t v_6 v_7 => jmp (.code c1 K4) (tJ0 enums t v_6 v_7)) x.1 x.2.1 := by kernel_rfl
noncomputable def J0 (enums : List api_EnumV) (t : api_TypeV) (v_6 : Int) (v_7 : Bool) : R := lim E fin (.code c1 K4) (tJ0 enums t v_6 v_7)
theorem J0_eq (enums : List api_EnumV) (t : api_TypeV) (v_6 : Int) (v_7 : Bool) : J0 enums t v_6 v_7 = SJ0 enums t v_6 v_7 :=
  (lim_eq (.code c1 K4) (tJ0 enums t v_6 v_7)).trans (sJ0 (lim E fin) enums t v_6 v_7)
end value_ValidType
noncomputable def value_ValidType (t : api_TypeV) (enums : List api_EnumV) : value_ValidType.R :=
  value_ValidType.Se value_ValidType.J0 t enums
noncomputable def value_ValidType.sig : Sig := ⟨value_ValidType.ps, value_ValidType.rs, fun x => value_ValidType x.1 x.2.1⟩
theorem value_ValidType.ok : CallOK Try.prog 33 value_ValidType.sig :=
  callOK_of_lim (E := value_ValidType.E) mixed tt_ok ctxOk_nil Try.func33 (by kernel_rfl : Try.f33.body = some (bodyOf Try.f33)) Try.ntmps33 (of_decide_eq_true (by kernel_rfl)) (of_decide_eq_true (by kernel_rfl))
    fun x y h => ((lim_eq (.code (bodyOf Try.f33) .ret) (entryFrom 0 value_ValidType.ps x)).trans (value_ValidType.se (lim value_ValidType.E value_ValidType.fin) x)).trans h
theorem value_ValidType.val (x : (argTy value_ValidType.ps).den) : lim value_ValidType.E value_ValidType.fin (.code (bodyOf Try.f33) .ret) (entryFrom 0 value_ValidType.ps x) = value_ValidType.sig.run x :=
  (lim_eq (.code (bodyOf Try.f33) .ret) (entryFrom 0 value_ValidType.ps x)).trans (value_ValidType.se (lim value_ValidType.E value_ValidType.fin) x)
noncomputable def value_ValidType.ctxc (n : Nat) : List (Nat × Sig) := []
noncomputable def value_ValidType.sigc (n : Nat) : Sig := ⟨value_ValidType.ps, value_ValidType.rs, fun x => runs (withCtx value_ValidType.E (value_ValidType.ctxc n)) value_ValidType.fin n (.code (bodyOf Try.f33) .ret) (entryFrom 0 value_ValidType.ps x)⟩
theorem value_ValidType.sigc_le (n : Nat) : ∀ x y, (value_ValidType.sigc n).run x = some y → value_ValidType.sig.run x = some y :=
  fun x y h => (value_ValidType.val x).symm.trans (runs_lim (E := value_ValidType.E) (c := value_ValidType.ctxc n) ctxLe_nil h)

/-! ### guerdon/value.Bounds -/
namespace value_Bounds
abbrev ps : List PM := [.pure api_Type, .pure (.sl api_Enum)]
abbrev rs : List RM := [.pure (.int .i64), .pure (.int .i64)]
abbrev R : Type := Option (Int × Int × Unit)
noncomputable def E : Env := { tt := tt, ctx := [(33, value_ValidType.sig)], nt := 30, ann := [] }
noncomputable def fin : ASt → R := Kret E Try.f34.results.toList ps rs
noncomputable def Se (t : api_TypeV) (enums : List api_EnumV) : R :=
  Option.bind (value_ValidType t enums) fun x1 =>
  cond (!x1.1)
    (some (0, (-1), ()))
    (cond (t.1 == 1)
      (some (0, 1, ()))
      (cond (t.1 == 2)
        (some ((-1000000000000), 1000000000000, ()))
        (cond (t.1 == 3)
          (some ((-1000000000000000), 1000000000000000, ()))
          (cond (t.1 == 4)
            (some ((-1000000000), 1000000000, ()))
            (cond (t.1 == 5)
              (some (0, 109572, ()))
              (Option.bind (idx enums t.2.1) fun x2 =>
              some (0, IntKind.i64.wrap ((x2.2.1.length : Int) - 1), ())))))))
theorem se (jmp : Tgt → ASt → R) (x : (argTy ps).den) : run E jmp fin depth (bodyOf Try.f34) .ret (entryFrom 0 ps x) =
    Se x.1 x.2.1 := by kernel_rfl
end value_Bounds
noncomputable def value_Bounds (t : api_TypeV) (enums : List api_EnumV) : value_Bounds.R :=
  value_Bounds.Se t enums
noncomputable def value_Bounds.sig : Sig := ⟨value_Bounds.ps, value_Bounds.rs, fun x => value_Bounds x.1 x.2.1⟩
theorem value_Bounds.ok : CallOK Try.prog 34 value_Bounds.sig :=
  callOK_of_lim (E := value_Bounds.E) mixed tt_ok (ctxOk_cons ctxOk_nil value_ValidType.ok Try.func33 (by kernel_rfl) (by kernel_rfl)) Try.func34 (by kernel_rfl : Try.f34.body = some (bodyOf Try.f34)) Try.ntmps34 (of_decide_eq_true (by kernel_rfl)) (of_decide_eq_true (by kernel_rfl))
    fun x y h => ((lim_eq (.code (bodyOf Try.f34) .ret) (entryFrom 0 value_Bounds.ps x)).trans (value_Bounds.se (lim value_Bounds.E value_Bounds.fin) x)).trans h
theorem value_Bounds.val (x : (argTy value_Bounds.ps).den) : lim value_Bounds.E value_Bounds.fin (.code (bodyOf Try.f34) .ret) (entryFrom 0 value_Bounds.ps x) = value_Bounds.sig.run x :=
  (lim_eq (.code (bodyOf Try.f34) .ret) (entryFrom 0 value_Bounds.ps x)).trans (value_Bounds.se (lim value_Bounds.E value_Bounds.fin) x)
noncomputable def value_Bounds.ctxc (n : Nat) : List (Nat × Sig) := [(33, value_ValidType.sigc n)]
noncomputable def value_Bounds.sigc (n : Nat) : Sig := ⟨value_Bounds.ps, value_Bounds.rs, fun x => runs (withCtx value_Bounds.E (value_Bounds.ctxc n)) value_Bounds.fin n (.code (bodyOf Try.f34) .ret) (entryFrom 0 value_Bounds.ps x)⟩
theorem value_Bounds.sigc_le (n : Nat) : ∀ x y, (value_Bounds.sigc n).run x = some y → value_Bounds.sig.run x = some y :=
  fun x y h => (value_Bounds.val x).symm.trans (runs_lim (E := value_Bounds.E) (c := value_Bounds.ctxc n) (ctxLe_cons ctxLe_nil (value_ValidType.sigc_le n)) h)

/-! ### guerdon/expr.number -/
namespace expr_number
abbrev ps : List PM := [.pure api_Type]
abbrev rs : List RM := [.pure (.int .i64)]
abbrev R : Type := Option (Int × Unit)
noncomputable def E : Env := { tt := tt, ctx := [(69, expr_meaning.sig), (34, value_Bounds.sig)], nt := 67, ann := [(3, [(1, .keep)]), (9, [(1, .keep), (15, .keep), (16, .keep)]), (15, [(1, .keep), (15, .keep), (39, .keep)])] }
noncomputable def c0 : Code := sub [1, 1, 1] (bodyOf Try.f47)
noncomputable def c1 : Code := sub [1, 1] (bodyOf Try.f47)
noncomputable def c2 : Code := sub [1, 1, 0, 1, 0, 1] (bodyOf Try.f47)
noncomputable def c3 : Code := sub [1, 1, 0, 1, 0, 1, 1, 1] (bodyOf Try.f47)
noncomputable def K5 : Kont := .seq c0 .ret
noncomputable def K7 : Kont := .blk 0 K5
noncomputable def fin : ASt → R := Kret E Try.f47.results.toList ps rs
def tJ0 (n_1 : api_TypeV) : ASt := ⟨[(1, .one (.optr 1 0 []))], [(1, some ⟨.free, api_Type, [n_1]⟩)]⟩
def tJ1 (n_1 : api_TypeV) (v_15 : Int) (v_16 : Bool) : ASt := ⟨[(16, .one (.val .bool v_16)), (15, .one (.val (.int .i64) v_15)), (1, .one (.optr 1 0 []))], [(1, some ⟨.free, api_Type, [n_1]⟩)]⟩
def tJ2 (n_1 : api_TypeV) (v_15 : Int) (v_39 : Bool) : ASt := ⟨[(39, .one (.val .bool v_39)), (15, .one (.val (.int .i64) v_15)), (1, .one (.optr 1 0 []))], [(1, some ⟨.free, api_Type, [n_1]⟩)]⟩
noncomputable def SJ0 (kJ1 : api_TypeV → Int → Bool → R) (n_1 : api_TypeV) : R :=
  cond (n_1.1 == 1)
    (kJ1 n_1 n_1.1 (n_1.1 == 1))
    (cond (n_1.1 == 2)
      (kJ1 n_1 n_1.1 (n_1.1 == 2))
      (cond (n_1.1 == 3)
        (kJ1 n_1 n_1.1 (n_1.1 == 3))
        (cond (n_1.1 == 4)
          (kJ1 n_1 n_1.1 (n_1.1 == 4))
          (kJ1 n_1 n_1.1 (n_1.1 == 5)))))
noncomputable def SJ1 (kJ2 : api_TypeV → Int → Bool → R) (n_1 : api_TypeV) (v_15 : Int) (v_16 : Bool) : R :=
  cond v_16
    (Option.bind (value_Bounds (n_1.1, 0, ()) []) fun x1 =>
    cond (decide (n_1.2.1 < x1.1))
      (some (3, ()))
      (cond (decide (n_1.2.1 > x1.2.1))
        (some (3, ()))
        (some (0, ()))))
    (cond (v_15 == 14)
      (kJ2 n_1 v_15 (v_15 == 14))
      (cond (v_15 == 15)
        (kJ2 n_1 v_15 (v_15 == 15))
        (kJ2 n_1 v_15 (v_15 == 16))))
noncomputable def SJ2 (n_1 : api_TypeV) (v_15 : Int) (v_39 : Bool) : R :=
  cond v_39
    (cond (decide (n_1.2.1 < 0))
      (some (3, ()))
      (cond (decide (n_1.2.1 > 5))
        (some (3, ()))
        (some (0, ()))))
    (cond (v_15 == 6)
      (cond (decide (n_1.2.1 < 0))
        (some (3, ()))
        (some (0, ())))
      (cond (v_15 == 34)
        (cond (decide (n_1.2.1 < 0))
          (some (3, ()))
          (cond (decide ((Int.tmod n_1.2.1 8) > 5))
            (some (3, ()))
            (some (0, ()))))
        (some (0, ()))))
noncomputable def Se (kJ0 : api_TypeV → R) (n_0 : api_TypeV) : R :=
  cond (n_0.2.1 != 0)
    (Option.bind (expr_meaning n_0.1) fun x1 =>
    cond (!x1.1)
      (some (2, ()))
      (kJ0 n_0))
    (kJ0 n_0)
theorem sJ0 (jmp : Tgt → ASt → R) (n_1 : api_TypeV) : run E jmp fin depth c1 .ret (tJ0 n_1) =
    SJ0 (fun n_1 v_15 v_16 => jmp (.code c2 K7) (tJ1 n_1 v_15 v_16)) n_1 := by kernel_rfl
theorem sJ1 (jmp : Tgt → ASt → R) (n_1 : api_TypeV) (v_15 : Int) (v_16 : Bool) : run E jmp fin depth c2 K7 (tJ1 n_1 v_15 v_16) =
    SJ1 (fun n_1 v_15 v_39 => jmp (.code c3 K7) (tJ2 n_1 v_15 v_39)) n_1 v_15 v_16 := by kernel_rfl
theorem sJ2 (jmp : Tgt → ASt → R) (n_1 : api_TypeV) (v_15 : Int) (v_39 : Bool) : run E jmp fin depth c3 K7 (tJ2 n_1 v_15 v_39) =
    SJ2 n_1 v_15 v_39 := by kernel_rfl
theorem se (jmp : Tgt → ASt → R) (x : (argTy ps).den) : run E jmp fin depth (bodyOf Try.f47) .ret (entryFrom 0 ps x) =
    Se (fun n_1 => jmp (.code c1 .ret) (tJ0 n_1)) x.1 := by kernel_rfl
noncomputable def J0 (n_1 : api_TypeV) : R := lim E fin (.code c1 .ret) (tJ0 n_1)
noncomputable def J1 (n_1 : api_TypeV) (v_15 : Int) (v_16 : Bool) : R := lim E fin (.code c2 K7) (tJ1 n_1 v_15 v_16)
noncomputable def J2 (n_1 : api_TypeV) (v_15 : Int) (v_39 : Bool) : R := lim E fin (.code c3 K7) (tJ2 n_1 v_15 v_39)
theorem J0_eq (n_1 : api_TypeV) : J0 n_1 = SJ0 J1 n_1 :=
  (lim_eq (.code c1 .ret) (tJ0 n_1)).trans (sJ0 (lim E fin) n_1)
theorem J1_eq (n_1 : api_TypeV) (v_15 : Int) (v_16 : Bool) : J1 n_1 v_15 v_16 = SJ1 J2 n_1 v_15 v_16 :=
  (lim_eq (.code c2 K7) (tJ1 n_1 v_15 v_16)).trans (sJ1 (lim E fin) n_1 v_15 v_16)
theorem J2_eq (n_1 : api_TypeV) (v_15 : Int) (v_39 : Bool) : J2 n_1 v_15 v_39 = SJ2 n_1 v_15 v_39 :=
  (lim_eq (.code c3 K7) (tJ2 n_1 v_15 v_39)).trans (sJ2 (lim E fin) n_1 v_15 v_39)
end expr_number
noncomputable def expr_number (n_0 : api_TypeV) : expr_number.R :=
  expr_number.Se expr_number.J0 n_0
noncomputable def expr_number.sig : Sig := ⟨expr_number.ps, expr_number.rs, fun x => expr_number x.1⟩
theorem expr_number.ok : CallOK Try.prog 47 expr_number.sig :=
  callOK_of_lim (E := expr_number.E) mixed tt_ok (ctxOk_cons (ctxOk_cons ctxOk_nil value_Bounds.ok Try.func34 (by kernel_rfl) (by kernel_rfl)) expr_meaning.ok Try.func69 (by kernel_rfl) (by kernel_rfl)) Try.func47 (by kernel_rfl : Try.f47.body = some (bodyOf Try.f47)) Try.ntmps47 (of_decide_eq_true (by kernel_rfl)) (of_decide_eq_true (by kernel_rfl))
    fun x y h => ((lim_eq (.code (bodyOf Try.f47) .ret) (entryFrom 0 expr_number.ps x)).trans (expr_number.se (lim expr_number.E expr_number.fin) x)).trans h
theorem expr_number.val (x : (argTy expr_number.ps).den) : lim expr_number.E expr_number.fin (.code (bodyOf Try.f47) .ret) (entryFrom 0 expr_number.ps x) = expr_number.sig.run x :=
  (lim_eq (.code (bodyOf Try.f47) .ret) (entryFrom 0 expr_number.ps x)).trans (expr_number.se (lim expr_number.E expr_number.fin) x)
noncomputable def expr_number.ctxc (n : Nat) : List (Nat × Sig) := [(69, expr_meaning.sigc n), (34, value_Bounds.sigc n)]
noncomputable def expr_number.sigc (n : Nat) : Sig := ⟨expr_number.ps, expr_number.rs, fun x => runs (withCtx expr_number.E (expr_number.ctxc n)) expr_number.fin n (.code (bodyOf Try.f47) .ret) (entryFrom 0 expr_number.ps x)⟩
theorem expr_number.sigc_le (n : Nat) : ∀ x y, (expr_number.sigc n).run x = some y → expr_number.sig.run x = some y :=
  fun x y h => (expr_number.val x).symm.trans (runs_lim (E := expr_number.E) (c := expr_number.ctxc n) (ctxLe_cons (ctxLe_cons ctxLe_nil (value_Bounds.sigc_le n)) (expr_meaning.sigc_le n)) h)

/-! ### guerdon/expr.at[guerdon/api.Enum] -/
namespace expr_at_api_Enum
abbrev ps : List PM := [.pure (.sl api_Enum), .pure (.int .i64)]
abbrev rs : List RM := [.pure api_Enum, .pure (.int .i64)]
abbrev R : Type := Option (api_EnumV × Int × Unit)
noncomputable def E : Env := { tt := tt, ctx := [], nt := 20, ann := [] }
noncomputable def fin : ASt → R := Kret E Try.f70.results.toList ps rs
noncomputable def Se (l : List api_EnumV) (i : Int) : R :=
  cond (decide (i < 0))
    (some (([], [], ()), 6, ()))
    (cond (decide (i ≥ (l.length : Int)))
      (some (([], [], ()), 6, ()))
      (Option.bind (idx l i) fun x1 =>
      some (x1, 0, ())))
theorem se (jmp : Tgt → ASt → R) (x : (argTy ps).den) : run E jmp fin depth (bodyOf Try.f70) .ret (entryFrom 0 ps x) =
    Se x.1 x.2.1 := by kernel_rfl
end expr_at_api_Enum
noncomputable def expr_at_api_Enum (l : List api_EnumV) (i : Int) : expr_at_api_Enum.R :=
  expr_at_api_Enum.Se l i
noncomputable def expr_at_api_Enum.sig : Sig := ⟨expr_at_api_Enum.ps, expr_at_api_Enum.rs, fun x => expr_at_api_Enum x.1 x.2.1⟩
theorem expr_at_api_Enum.ok : CallOK Try.prog 70 expr_at_api_Enum.sig :=
  callOK_of_lim (E := expr_at_api_Enum.E) mixed tt_ok ctxOk_nil Try.func70 (by kernel_rfl : Try.f70.body = some (bodyOf Try.f70)) Try.ntmps70 (of_decide_eq_true (by kernel_rfl)) (of_decide_eq_true (by kernel_rfl))
    fun x y h => ((lim_eq (.code (bodyOf Try.f70) .ret) (entryFrom 0 expr_at_api_Enum.ps x)).trans (expr_at_api_Enum.se (lim expr_at_api_Enum.E expr_at_api_Enum.fin) x)).trans h
theorem expr_at_api_Enum.val (x : (argTy expr_at_api_Enum.ps).den) : lim expr_at_api_Enum.E expr_at_api_Enum.fin (.code (bodyOf Try.f70) .ret) (entryFrom 0 expr_at_api_Enum.ps x) = expr_at_api_Enum.sig.run x :=
  (lim_eq (.code (bodyOf Try.f70) .ret) (entryFrom 0 expr_at_api_Enum.ps x)).trans (expr_at_api_Enum.se (lim expr_at_api_Enum.E expr_at_api_Enum.fin) x)
noncomputable def expr_at_api_Enum.ctxc (n : Nat) : List (Nat × Sig) := []
noncomputable def expr_at_api_Enum.sigc (n : Nat) : Sig := ⟨expr_at_api_Enum.ps, expr_at_api_Enum.rs, fun x => runs (withCtx expr_at_api_Enum.E (expr_at_api_Enum.ctxc n)) expr_at_api_Enum.fin n (.code (bodyOf Try.f70) .ret) (entryFrom 0 expr_at_api_Enum.ps x)⟩
theorem expr_at_api_Enum.sigc_le (n : Nat) : ∀ x y, (expr_at_api_Enum.sigc n).run x = some y → expr_at_api_Enum.sig.run x = some y :=
  fun x y h => (expr_at_api_Enum.val x).symm.trans (runs_lim (E := expr_at_api_Enum.E) (c := expr_at_api_Enum.ctxc n) ctxLe_nil h)

/-! ### guerdon/expr.at[string] -/
namespace expr_at_string
abbrev ps : List PM := [.pure (.sl .str), .pure (.int .i64)]
abbrev rs : List RM := [.pure .str, .pure (.int .i64)]
abbrev R : Type := Option (List UInt8 × Int × Unit)
noncomputable def E : Env := { tt := tt, ctx := [], nt := 20, ann := [] }
noncomputable def fin : ASt → R := Kret E Try.f71.results.toList ps rs
noncomputable def Se (l : List (List UInt8)) (i : Int) : R :=
  cond (decide (i < 0))
    (some ([], 6, ()))
    (cond (decide (i ≥ (l.length : Int)))
      (some ([], 6, ()))
      (Option.bind (idx l i) fun x1 =>
      some (x1, 0, ())))
theorem se (jmp : Tgt → ASt → R) (x : (argTy ps).den) : run E jmp fin depth (bodyOf Try.f71) .ret (entryFrom 0 ps x) =
    Se x.1 x.2.1 := by kernel_rfl
end expr_at_string
noncomputable def expr_at_string (l : List (List UInt8)) (i : Int) : expr_at_string.R :=
  expr_at_string.Se l i
noncomputable def expr_at_string.sig : Sig := ⟨expr_at_string.ps, expr_at_string.rs, fun x => expr_at_string x.1 x.2.1⟩
theorem expr_at_string.ok : CallOK Try.prog 71 expr_at_string.sig :=
  callOK_of_lim (E := expr_at_string.E) mixed tt_ok ctxOk_nil Try.func71 (by kernel_rfl : Try.f71.body = some (bodyOf Try.f71)) Try.ntmps71 (of_decide_eq_true (by kernel_rfl)) (of_decide_eq_true (by kernel_rfl))
    fun x y h => ((lim_eq (.code (bodyOf Try.f71) .ret) (entryFrom 0 expr_at_string.ps x)).trans (expr_at_string.se (lim expr_at_string.E expr_at_string.fin) x)).trans h
theorem expr_at_string.val (x : (argTy expr_at_string.ps).den) : lim expr_at_string.E expr_at_string.fin (.code (bodyOf Try.f71) .ret) (entryFrom 0 expr_at_string.ps x) = expr_at_string.sig.run x :=
  (lim_eq (.code (bodyOf Try.f71) .ret) (entryFrom 0 expr_at_string.ps x)).trans (expr_at_string.se (lim expr_at_string.E expr_at_string.fin) x)
noncomputable def expr_at_string.ctxc (n : Nat) : List (Nat × Sig) := []
noncomputable def expr_at_string.sigc (n : Nat) : Sig := ⟨expr_at_string.ps, expr_at_string.rs, fun x => runs (withCtx expr_at_string.E (expr_at_string.ctxc n)) expr_at_string.fin n (.code (bodyOf Try.f71) .ret) (entryFrom 0 expr_at_string.ps x)⟩
theorem expr_at_string.sigc_le (n : Nat) : ∀ x y, (expr_at_string.sigc n).run x = some y → expr_at_string.sig.run x = some y :=
  fun x y h => (expr_at_string.val x).symm.trans (runs_lim (E := expr_at_string.E) (c := expr_at_string.ctxc n) ctxLe_nil h)

end Go.Proofs.Ytmkkdjnojcmihaa
