import Derived.Test.YtojafdgkcamliaaCode1
set_option maxRecDepth 100000
set_option linter.unusedVariables false
namespace Go.Proofs.Ytojafdgkcamliaa
open Go Go.Lift
namespace slices_partitionEqualOrdered_int
abbrev ps : List PM := [.own (.int .i64), .pure (.int .i64), .pure (.int .i64), .pure (.int .i64)]
abbrev rs : List RM := [.pure (.int .i64)]
abbrev R : Type := Option (Int × List Int × Unit)
noncomputable def E : Env := { tt := tt, ctx := [(71, cmp_Less_int.sig)], nt := 84, ann := [(1000003, [(0, .keep), (1, .keep), (9, .keep), (10, .keep)]), (5, [(0, .keep), (1, .keep), (9, .keep), (10, .keep)]), (1000003, [(0, .keep), (1, .keep), (9, .keep), (10, .keep)]), (7, [(0, .keep), (1, .keep), (9, .keep), (10, .keep)]), (1000005, [(0, .keep), (1, .keep), (9, .keep), (10, .keep)])] }
noncomputable def c0 : Code := sub [1, 1, 1, 1] (bodyOf Try.f72)
noncomputable def c1 : Code := sub [1, 1, 1, 0, 0, 0] (bodyOf Try.f72)
noncomputable def c2 : Code := sub [1, 1, 1, 0, 0, 0, 0, 1] (bodyOf Try.f72)
noncomputable def c3 : Code := sub [1, 1, 1, 0, 0, 0, 0, 1, 1] (bodyOf Try.f72)
noncomputable def c4 : Code := sub [1, 1, 1, 0, 0, 0, 0, 0, 0, 0] (bodyOf Try.f72)
noncomputable def c5 : Code := sub [1, 1, 1, 0, 0, 0, 0, 1, 0, 0, 0] (bodyOf Try.f72)
noncomputable def K4 : Kont := .seq c0 .ret
noncomputable def K5 : Kont := .blk 0 K4
noncomputable def K6 : Kont := .loop c1 K5
noncomputable def K7 : Kont := .blk 1 K6
noncomputable def K8 : Kont := .seq c2 K7
noncomputable def K9 : Kont := .blk 2 K8
noncomputable def K14 : Kont := .seq c3 K7
noncomputable def K15 : Kont := .blk 4 K14
noncomputable def fin : ASt → R := Kret E Try.f72.results.toList ps rs
def tL0 (a : Int) (i : Int) (j : Int) (data_P : List Int) : ASt := ⟨[(10, .one (.val (.int .i64) j)), (9, .one (.val (.int .i64) i)), (1, .one (.val (.int .i64) a)), (0, .one (.own 10000))], [(10000, some ⟨.fixed, .int .i64, data_P⟩)]⟩
def tJ1 (a : Int) (i : Int) (j : Int) (data_P : List Int) : ASt := ⟨[(10, .one (.val (.int .i64) j)), (9, .one (.val (.int .i64) i)), (1, .one (.val (.int .i64) a)), (0, .one (.own 10000))], [(10000, some ⟨.fixed, .int .i64, data_P⟩)]⟩
def tL2 (a : Int) (i : Int) (j : Int) (data_P : List Int) : ASt := ⟨[(10, .one (.val (.int .i64) j)), (9, .one (.val (.int .i64) i)), (1, .one (.val (.int .i64) a)), (0, .one (.own 10000))], [(10000, some ⟨.fixed, .int .i64, data_P⟩)]⟩
def tJ3 (a : Int) (i : Int) (j : Int) (data_P : List Int) : ASt := ⟨[(10, .one (.val (.int .i64) j)), (9, .one (.val (.int .i64) i)), (1, .one (.val (.int .i64) a)), (0, .one (.own 10000))], [(10000, some ⟨.fixed, .int .i64, data_P⟩)]⟩
def tL4 (a : Int) (i : Int) (j : Int) (data_P : List Int) : ASt := ⟨[(10, .one (.val (.int .i64) j)), (9, .one (.val (.int .i64) i)), (1, .one (.val (.int .i64) a)), (0, .one (.own 10000))], [(10000, some ⟨.fixed, .int .i64, data_P⟩)]⟩
noncomputable def L0 (a : Int) (i : Int) (j : Int) (data_P : List Int) : R := lim E fin (.loop c1 K5) (tL0 a i j data_P)
noncomputable def J1 (a : Int) (i : Int) (j : Int) (data_P : List Int) : R := lim E fin (.code c2 K7) (tJ1 a i j data_P)
noncomputable def L2 (a : Int) (i : Int) (j : Int) (data_P : List Int) : R := lim E fin (.loop c4 K9) (tL2 a i j data_P)
noncomputable def J3 (a : Int) (i : Int) (j : Int) (data_P : List Int) : R := lim E fin (.code c3 K7) (tJ3 a i j data_P)
noncomputable def L4 (a : Int) (i : Int) (j : Int) (data_P : List Int) : R := lim E fin (.loop c5 K15) (tL4 a i j data_P)
noncomputable def SL0 (a : Int) (i : Int) (j : Int) (data_P : List Int) : R :=
  L2 a i j data_P
noncomputable def SJ1 (a : Int) (i : Int) (j : Int) (data_P : List Int) : R :=
  L4 a i j data_P
noncomputable def SL2 (a : Int) (i : Int) (j : Int) (data_P : List Int) : R :=
  cond (decide (i ≤ j))
    (cond (decide (0 ≤ a) && decide (a < (data_P.length : Int)))
      (cond (decide (0 ≤ i) && decide (i < (data_P.length : Int)))
        (Option.bind (cmp_Less_int (data_P.getD a.toNat 0) (data_P.getD i.toNat 0)) fun x1 =>
        cond (!x1.1)
          (L2 a (IntKind.i64.wrap (i + 1)) j data_P)
          (J1 a i j data_P))
        none)
      none)
    (J1 a i j data_P)
noncomputable def SJ3 (a : Int) (i : Int) (j : Int) (data_P : List Int) : R :=
  cond (decide (i > j))
    (some (i, data_P, ()))
    (cond (decide (0 ≤ j) && decide (j < (data_P.length : Int)))
      (cond (decide (0 ≤ i) && decide (i < (data_P.length : Int)))
        (cond (decide (0 ≤ i) && decide (i < (data_P.length : Int)))
          (cond (decide (0 ≤ j) && decide (j < ((data_P.set i.toNat (data_P.getD j.toNat 0)).length : Int)))
            (L0 a (IntKind.i64.wrap (i + 1)) (IntKind.i64.wrap (j - 1)) ((data_P.set i.toNat (data_P.getD j.toNat 0)).set j.toNat (data_P.getD i.toNat 0)))
            none)
          none)
        none)
      none)
noncomputable def SL4 (a : Int) (i : Int) (j : Int) (data_P : List Int) : R :=
  cond (decide (i ≤ j))
    (cond (decide (0 ≤ a) && decide (a < (data_P.length : Int)))
      (cond (decide (0 ≤ j) && decide (j < (data_P.length : Int)))
        (Option.bind (cmp_Less_int (data_P.getD a.toNat 0) (data_P.getD j.toNat 0)) fun x1 =>
        cond x1.1
          (L4 a i (IntKind.i64.wrap (j - 1)) data_P)
          (J3 a i j data_P))
        none)
      none)
    (J3 a i j data_P)
noncomputable def Se (data : List Int) (a : Int) (b : Int) (pivot : Int) : R :=
  cond (decide (0 ≤ pivot) && decide (pivot < (data.length : Int)))
    (cond (decide (0 ≤ a) && decide (a < (data.length : Int)))
      (cond (decide (0 ≤ a) && decide (a < (data.length : Int)))
        (cond (decide (0 ≤ pivot) && decide (pivot < ((data.set a.toNat (data.getD pivot.toNat 0)).length : Int)))
          (L0 a (IntKind.i64.wrap (a + 1)) (IntKind.i64.wrap (b - 1)) ((data.set a.toNat (data.getD pivot.toNat 0)).set pivot.toNat (data.getD a.toNat 0)))
          none)
        none)
      none)
    none
theorem L0_eq (a i j data_P) : L0 a i j data_P = SL0 a i j data_P := (lim_eq (.loop c1 K5) (tL0 a i j data_P)).trans (by kernel_rfl)
theorem J1_eq (a i j data_P) : J1 a i j data_P = SJ1 a i j data_P := (lim_eq (.code c2 K7) (tJ1 a i j data_P)).trans (by kernel_rfl)
theorem L2_eq (a i j data_P) : L2 a i j data_P = SL2 a i j data_P := (lim_eq (.loop c4 K9) (tL2 a i j data_P)).trans (by kernel_rfl)
theorem J3_eq (a i j data_P) : J3 a i j data_P = SJ3 a i j data_P := (lim_eq (.code c3 K7) (tJ3 a i j data_P)).trans (by kernel_rfl)
theorem L4_eq (a i j data_P) : L4 a i j data_P = SL4 a i j data_P := (lim_eq (.loop c5 K15) (tL4 a i j data_P)).trans (by kernel_rfl)
theorem se (x : (argTy ps).den) : run E (lim E fin) fin depth (bodyOf Try.f72) .ret (entryFrom 0 ps x) = Se x.1 x.2.1 x.2.2.1 x.2.2.2.1 := by kernel_rfl
end slices_partitionEqualOrdered_int
noncomputable def slices_partitionEqualOrdered_int (data : List Int) (a : Int) (b : Int) (pivot : Int) : slices_partitionEqualOrdered_int.R :=
  slices_partitionEqualOrdered_int.Se data a b pivot
namespace slices_partitionEqualOrdered_int
noncomputable def sig : Sig := ⟨ps, rs, fun x => slices_partitionEqualOrdered_int x.1 x.2.1 x.2.2.1 x.2.2.2.1⟩
theorem val (x : (argTy ps).den) : lim E fin (.code (bodyOf Try.f72) .ret) (entryFrom 0 ps x) = sig.run x := (lim_eq (.code (bodyOf Try.f72) .ret) (entryFrom 0 ps x)).trans (se x)
theorem ok : CallOK Try.prog 72 sig :=
  callOK_of_lim (E := E) mixed tt_ok (ctxOk_cons ctxOk_nil cmp_Less_int.ok Try.func71 (by kernel_rfl) (by kernel_rfl)) Try.func72 (by kernel_rfl : Try.f72.body = some (bodyOf Try.f72)) Try.ntmps72 (of_decide_eq_true (by kernel_rfl)) (of_decide_eq_true (by kernel_rfl)) fun x y h => (val x).trans h
noncomputable def ctxc (n : Nat) : List (Nat × Sig) := [(71, cmp_Less_int.sigc n)]
noncomputable def sigc (n : Nat) : Sig := ⟨ps, rs, fun x => runs (withCtx E (ctxc n)) fin n (.code (bodyOf Try.f72) .ret) (entryFrom 0 ps x)⟩
theorem sigc_le (n : Nat) : ∀ x y, (sigc n).run x = some y → sig.run x = some y := fun x y h => (val x).symm.trans (runs_lim (E := E) (c := ctxc n) (ctxLe_cons ctxLe_nil (cmp_Less_int.sigc_le n)) h)
end slices_partitionEqualOrdered_int
namespace slices_partitionOrdered_int
abbrev ps : List PM := [.own (.int .i64), .pure (.int .i64), .pure (.int .i64), .pure (.int .i64)]
abbrev rs : List RM := [.pure (.int .i64), .pure .bool]
abbrev R : Type := Option (Int × Bool × List Int × Unit)
noncomputable def E : Env := { tt := tt, ctx := [(71, cmp_Less_int.sig)], nt := 168, ann := [(5, [(0, .keep), (1, .keep), (10, .keep), (11, .keep)]), (1000003, [(0, .keep), (1, .keep), (10, .keep), (11, .keep)]), (7, [(0, .keep), (1, .keep), (10, .keep), (11, .keep)]), (1000005, [(0, .keep), (1, .keep), (10, .keep), (11, .keep)]), (1000013, [(0, .keep), (1, .keep), (10, .keep), (11, .keep)]), (15, [(0, .keep), (1, .keep), (10, .keep), (11, .keep)]), (1000013, [(0, .keep), (1, .keep), (10, .keep), (11, .keep)]), (17, [(0, .keep), (1, .keep), (10, .keep), (11, .keep)]), (1000015, [(0, .keep), (1, .keep), (10, .keep), (11, .keep)])] }
noncomputable def c0 : Code := sub [1, 1, 1, 1] (bodyOf Try.f73)
noncomputable def c1 : Code := sub [1, 1, 1, 1, 1] (bodyOf Try.f73)
noncomputable def c2 : Code := sub [1, 1, 1, 1, 1, 1, 1, 1, 1, 1] (bodyOf Try.f73)
noncomputable def c3 : Code := sub [1, 1, 1, 1, 1, 1, 1, 1, 1, 0, 0, 0] (bodyOf Try.f73)
noncomputable def c4 : Code := sub [1, 1, 1, 1, 1, 1, 1, 1, 1, 0, 0, 0, 0, 1] (bodyOf Try.f73)
noncomputable def c5 : Code := sub [1, 1, 1, 1, 1, 1, 1, 1, 1, 0, 0, 0, 0, 1, 1] (bodyOf Try.f73)
noncomputable def c6 : Code := sub [1, 1, 1, 0, 0, 0] (bodyOf Try.f73)
noncomputable def c7 : Code := sub [1, 1, 1, 1, 0, 0, 0] (bodyOf Try.f73)
noncomputable def c8 : Code := sub [1, 1, 1, 1, 1, 1, 1, 1, 1, 0, 0, 0, 0, 0, 0, 0] (bodyOf Try.f73)
noncomputable def c9 : Code := sub [1, 1, 1, 1, 1, 1, 1, 1, 1, 0, 0, 0, 0, 1, 0, 0, 0] (bodyOf Try.f73)
noncomputable def K4 : Kont := .seq c0 .ret
noncomputable def K5 : Kont := .blk 0 K4
noncomputable def K10 : Kont := .seq c1 .ret
noncomputable def K11 : Kont := .blk 2 K10
noncomputable def K23 : Kont := .seq c2 .ret
noncomputable def K24 : Kont := .blk 4 K23
noncomputable def K25 : Kont := .loop c3 K24
noncomputable def K26 : Kont := .blk 5 K25
noncomputable def K27 : Kont := .seq c4 K26
noncomputable def K28 : Kont := .blk 6 K27
noncomputable def K33 : Kont := .seq c5 K26
noncomputable def K34 : Kont := .blk 8 K33
noncomputable def fin : ASt → R := Kret E Try.f73.results.toList ps rs
def tJ0 (a : Int) (i : Int) (j : Int) (data_P : List Int) : ASt := ⟨[(11, .one (.val (.int .i64) j)), (10, .one (.val (.int .i64) i)), (1, .one (.val (.int .i64) a)), (0, .one (.own 10000))], [(10000, some ⟨.fixed, .int .i64, data_P⟩)]⟩
def tL1 (a : Int) (i : Int) (j : Int) (data_P : List Int) : ASt := ⟨[(11, .one (.val (.int .i64) j)), (10, .one (.val (.int .i64) i)), (1, .one (.val (.int .i64) a)), (0, .one (.own 10000))], [(10000, some ⟨.fixed, .int .i64, data_P⟩)]⟩
def tJ2 (a : Int) (i : Int) (j : Int) (data_P : List Int) : ASt := ⟨[(11, .one (.val (.int .i64) j)), (10, .one (.val (.int .i64) i)), (1, .one (.val (.int .i64) a)), (0, .one (.own 10000))], [(10000, some ⟨.fixed, .int .i64, data_P⟩)]⟩
def tL3 (a : Int) (i : Int) (j : Int) (data_P : List Int) : ASt := ⟨[(11, .one (.val (.int .i64) j)), (10, .one (.val (.int .i64) i)), (1, .one (.val (.int .i64) a)), (0, .one (.own 10000))], [(10000, some ⟨.fixed, .int .i64, data_P⟩)]⟩
def tL4 (a : Int) (i : Int) (j : Int) (data_P : List Int) : ASt := ⟨[(11, .one (.val (.int .i64) j)), (10, .one (.val (.int .i64) i)), (1, .one (.val (.int .i64) a)), (0, .one (.own 10000))], [(10000, some ⟨.fixed, .int .i64, data_P⟩)]⟩
def tJ5 (a : Int) (i : Int) (j : Int) (data_P : List Int) : ASt := ⟨[(11, .one (.val (.int .i64) j)), (10, .one (.val (.int .i64) i)), (1, .one (.val (.int .i64) a)), (0, .one (.own 10000))], [(10000, some ⟨.fixed, .int .i64, data_P⟩)]⟩
def tL6 (a : Int) (i : Int) (j : Int) (data_P : List Int) : ASt := ⟨[(11, .one (.val (.int .i64) j)), (10, .one (.val (.int .i64) i)), (1, .one (.val (.int .i64) a)), (0, .one (.own 10000))], [(10000, some ⟨.fixed, .int .i64, data_P⟩)]⟩
def tJ7 (a : Int) (i : Int) (j : Int) (data_P : List Int) : ASt := ⟨[(11, .one (.val (.int .i64) j)), (10, .one (.val (.int .i64) i)), (1, .one (.val (.int .i64) a)), (0, .one (.own 10000))], [(10000, some ⟨.fixed, .int .i64, data_P⟩)]⟩
def tL8 (a : Int) (i : Int) (j : Int) (data_P : List Int) : ASt := ⟨[(11, .one (.val (.int .i64) j)), (10, .one (.val (.int .i64) i)), (1, .one (.val (.int .i64) a)), (0, .one (.own 10000))], [(10000, some ⟨.fixed, .int .i64, data_P⟩)]⟩
noncomputable def J0 (a : Int) (i : Int) (j : Int) (data_P : List Int) : R := lim E fin (.code c0 .ret) (tJ0 a i j data_P)
noncomputable def L1 (a : Int) (i : Int) (j : Int) (data_P : List Int) : R := lim E fin (.loop c6 K5) (tL1 a i j data_P)
noncomputable def J2 (a : Int) (i : Int) (j : Int) (data_P : List Int) : R := lim E fin (.code c1 .ret) (tJ2 a i j data_P)
noncomputable def L3 (a : Int) (i : Int) (j : Int) (data_P : List Int) : R := lim E fin (.loop c7 K11) (tL3 a i j data_P)
noncomputable def L4 (a : Int) (i : Int) (j : Int) (data_P : List Int) : R := lim E fin (.loop c3 K24) (tL4 a i j data_P)
noncomputable def J5 (a : Int) (i : Int) (j : Int) (data_P : List Int) : R := lim E fin (.code c4 K26) (tJ5 a i j data_P)
noncomputable def L6 (a : Int) (i : Int) (j : Int) (data_P : List Int) : R := lim E fin (.loop c8 K28) (tL6 a i j data_P)
noncomputable def J7 (a : Int) (i : Int) (j : Int) (data_P : List Int) : R := lim E fin (.code c5 K26) (tJ7 a i j data_P)
noncomputable def L8 (a : Int) (i : Int) (j : Int) (data_P : List Int) : R := lim E fin (.loop c9 K34) (tL8 a i j data_P)
noncomputable def SJ0 (a : Int) (i : Int) (j : Int) (data_P : List Int) : R :=
  L3 a i j data_P
noncomputable def SL1 (a : Int) (i : Int) (j : Int) (data_P : List Int) : R :=
  cond (decide (i ≤ j))
    (cond (decide (0 ≤ i) && decide (i < (data_P.length : Int)))
      (cond (decide (0 ≤ a) && decide (a < (data_P.length : Int)))
        (Option.bind (cmp_Less_int (data_P.getD i.toNat 0) (data_P.getD a.toNat 0)) fun x1 =>
        cond x1.1
          (L1 a (IntKind.i64.wrap (i + 1)) j data_P)
          (J0 a i j data_P))
        none)
      none)
    (J0 a i j data_P)
noncomputable def SJ2 (a : Int) (i : Int) (j : Int) (data_P : List Int) : R :=
  cond (decide (i > j))
    (cond (decide (0 ≤ a) && decide (a < (data_P.length : Int)))
      (cond (decide (0 ≤ j) && decide (j < (data_P.length : Int)))
        (cond (decide (0 ≤ j) && decide (j < (data_P.length : Int)))
          (cond (decide (0 ≤ a) && decide (a < ((data_P.set j.toNat (data_P.getD a.toNat 0)).length : Int)))
            (some (j, true, ((data_P.set j.toNat (data_P.getD a.toNat 0)).set a.toNat (data_P.getD j.toNat 0)), ()))
            none)
          none)
        none)
      none)
    (cond (decide (0 ≤ j) && decide (j < (data_P.length : Int)))
      (cond (decide (0 ≤ i) && decide (i < (data_P.length : Int)))
        (cond (decide (0 ≤ i) && decide (i < (data_P.length : Int)))
          (cond (decide (0 ≤ j) && decide (j < ((data_P.set i.toNat (data_P.getD j.toNat 0)).length : Int)))
            (L4 a (IntKind.i64.wrap (i + 1)) (IntKind.i64.wrap (j - 1)) ((data_P.set i.toNat (data_P.getD j.toNat 0)).set j.toNat (data_P.getD i.toNat 0)))
            none)
          none)
        none)
      none)
noncomputable def SL3 (a : Int) (i : Int) (j : Int) (data_P : List Int) : R :=
  cond (decide (i ≤ j))
    (cond (decide (0 ≤ j) && decide (j < (data_P.length : Int)))
      (cond (decide (0 ≤ a) && decide (a < (data_P.length : Int)))
        (Option.bind (cmp_Less_int (data_P.getD j.toNat 0) (data_P.getD a.toNat 0)) fun x1 =>
        cond (!x1.1)
          (L3 a i (IntKind.i64.wrap (j - 1)) data_P)
          (J2 a i j data_P))
        none)
      none)
    (J2 a i j data_P)
noncomputable def SL4 (a : Int) (i : Int) (j : Int) (data_P : List Int) : R :=
  L6 a i j data_P
noncomputable def SJ5 (a : Int) (i : Int) (j : Int) (data_P : List Int) : R :=
  L8 a i j data_P
noncomputable def SL6 (a : Int) (i : Int) (j : Int) (data_P : List Int) : R :=
  cond (decide (i ≤ j))
    (cond (decide (0 ≤ i) && decide (i < (data_P.length : Int)))
      (cond (decide (0 ≤ a) && decide (a < (data_P.length : Int)))
        (Option.bind (cmp_Less_int (data_P.getD i.toNat 0) (data_P.getD a.toNat 0)) fun x1 =>
        cond x1.1
          (L6 a (IntKind.i64.wrap (i + 1)) j data_P)
          (J5 a i j data_P))
        none)
      none)
    (J5 a i j data_P)
noncomputable def SJ7 (a : Int) (i : Int) (j : Int) (data_P : List Int) : R :=
  cond (decide (i > j))
    (cond (decide (0 ≤ a) && decide (a < (data_P.length : Int)))
      (cond (decide (0 ≤ j) && decide (j < (data_P.length : Int)))
        (cond (decide (0 ≤ j) && decide (j < (data_P.length : Int)))
          (cond (decide (0 ≤ a) && decide (a < ((data_P.set j.toNat (data_P.getD a.toNat 0)).length : Int)))
            (some (j, false, ((data_P.set j.toNat (data_P.getD a.toNat 0)).set a.toNat (data_P.getD j.toNat 0)), ()))
            none)
          none)
        none)
      none)
    (cond (decide (0 ≤ j) && decide (j < (data_P.length : Int)))
      (cond (decide (0 ≤ i) && decide (i < (data_P.length : Int)))
        (cond (decide (0 ≤ i) && decide (i < (data_P.length : Int)))
          (cond (decide (0 ≤ j) && decide (j < ((data_P.set i.toNat (data_P.getD j.toNat 0)).length : Int)))
            (L4 a (IntKind.i64.wrap (i + 1)) (IntKind.i64.wrap (j - 1)) ((data_P.set i.toNat (data_P.getD j.toNat 0)).set j.toNat (data_P.getD i.toNat 0)))
            none)
          none)
        none)
      none)
noncomputable def SL8 (a : Int) (i : Int) (j : Int) (data_P : List Int) : R :=
  cond (decide (i ≤ j))
    (cond (decide (0 ≤ j) && decide (j < (data_P.length : Int)))
      (cond (decide (0 ≤ a) && decide (a < (data_P.length : Int)))
        (Option.bind (cmp_Less_int (data_P.getD j.toNat 0) (data_P.getD a.toNat 0)) fun x1 =>
        cond (!x1.1)
          (L8 a i (IntKind.i64.wrap (j - 1)) data_P)
          (J7 a i j data_P))
        none)
      none)
    (J7 a i j data_P)
noncomputable def Se (data : List Int) (a : Int) (b : Int) (pivot : Int) : R :=
  cond (decide (0 ≤ pivot) && decide (pivot < (data.length : Int)))
    (cond (decide (0 ≤ a) && decide (a < (data.length : Int)))
      (cond (decide (0 ≤ a) && decide (a < (data.length : Int)))
        (cond (decide (0 ≤ pivot) && decide (pivot < ((data.set a.toNat (data.getD pivot.toNat 0)).length : Int)))
          (L1 a (IntKind.i64.wrap (a + 1)) (IntKind.i64.wrap (b - 1)) ((data.set a.toNat (data.getD pivot.toNat 0)).set pivot.toNat (data.getD a.toNat 0)))
          none)
        none)
      none)
    none
theorem J0_eq (a i j data_P) : J0 a i j data_P = SJ0 a i j data_P := (lim_eq (.code c0 .ret) (tJ0 a i j data_P)).trans (by kernel_rfl)
theorem L1_eq (a i j data_P) : L1 a i j data_P = SL1 a i j data_P := (lim_eq (.loop c6 K5) (tL1 a i j data_P)).trans (by kernel_rfl)
theorem J2_eq (a i j data_P) : J2 a i j data_P = SJ2 a i j data_P := (lim_eq (.code c1 .ret) (tJ2 a i j data_P)).trans (by kernel_rfl)
theorem L3_eq (a i j data_P) : L3 a i j data_P = SL3 a i j data_P := (lim_eq (.loop c7 K11) (tL3 a i j data_P)).trans (by kernel_rfl)
theorem L4_eq (a i j data_P) : L4 a i j data_P = SL4 a i j data_P := (lim_eq (.loop c3 K24) (tL4 a i j data_P)).trans (by kernel_rfl)
theorem J5_eq (a i j data_P) : J5 a i j data_P = SJ5 a i j data_P := (lim_eq (.code c4 K26) (tJ5 a i j data_P)).trans (by kernel_rfl)
theorem L6_eq (a i j data_P) : L6 a i j data_P = SL6 a i j data_P := (lim_eq (.loop c8 K28) (tL6 a i j data_P)).trans (by kernel_rfl)
theorem J7_eq (a i j data_P) : J7 a i j data_P = SJ7 a i j data_P := (lim_eq (.code c5 K26) (tJ7 a i j data_P)).trans (by kernel_rfl)
theorem L8_eq (a i j data_P) : L8 a i j data_P = SL8 a i j data_P := (lim_eq (.loop c9 K34) (tL8 a i j data_P)).trans (by kernel_rfl)
theorem se (x : (argTy ps).den) : run E (lim E fin) fin depth (bodyOf Try.f73) .ret (entryFrom 0 ps x) = Se x.1 x.2.1 x.2.2.1 x.2.2.2.1 := by kernel_rfl
end slices_partitionOrdered_int
noncomputable def slices_partitionOrdered_int (data : List Int) (a : Int) (b : Int) (pivot : Int) : slices_partitionOrdered_int.R :=
  slices_partitionOrdered_int.Se data a b pivot
namespace slices_partitionOrdered_int
noncomputable def sig : Sig := ⟨ps, rs, fun x => slices_partitionOrdered_int x.1 x.2.1 x.2.2.1 x.2.2.2.1⟩
theorem val (x : (argTy ps).den) : lim E fin (.code (bodyOf Try.f73) .ret) (entryFrom 0 ps x) = sig.run x := (lim_eq (.code (bodyOf Try.f73) .ret) (entryFrom 0 ps x)).trans (se x)
theorem ok : CallOK Try.prog 73 sig :=
  callOK_of_lim (E := E) mixed tt_ok (ctxOk_cons ctxOk_nil cmp_Less_int.ok Try.func71 (by kernel_rfl) (by kernel_rfl)) Try.func73 (by kernel_rfl : Try.f73.body = some (bodyOf Try.f73)) Try.ntmps73 (of_decide_eq_true (by kernel_rfl)) (of_decide_eq_true (by kernel_rfl)) fun x y h => (val x).trans h
noncomputable def ctxc (n : Nat) : List (Nat × Sig) := [(71, cmp_Less_int.sigc n)]
noncomputable def sigc (n : Nat) : Sig := ⟨ps, rs, fun x => runs (withCtx E (ctxc n)) fin n (.code (bodyOf Try.f73) .ret) (entryFrom 0 ps x)⟩
theorem sigc_le (n : Nat) : ∀ x y, (sigc n).run x = some y → sig.run x = some y := fun x y h => (val x).symm.trans (runs_lim (E := E) (c := ctxc n) (ctxLe_cons ctxLe_nil (cmp_Less_int.sigc_le n)) h)
end slices_partitionOrdered_int
namespace slices_pdqsortOrdered_int
abbrev ps : List PM := [.own (.int .i64), .pure (.int .i64), .pure (.int .i64), .pure (.int .i64)]
abbrev rs : List RM := []
abbrev R : Type := Option (List Int × Unit)
noncomputable def E0 : Env := { tt := tt, ctx := [], nt := 134, ann := [(1000002, [(0, .keep), (1, .keep), (2, .keep), (3, .keep), (8, .keep), (9, .keep)]), (10, [(0, .keep), (1, .keep), (2, .keep), (3, .keep), (8, .keep), (9, .keep), (10, .keep)]), (15, [(0, .keep), (1, .keep), (2, .keep), (3, .keep), (8, .keep), (9, .keep), (10, .keep), (11, .keep), (12, .keep)]), (17, [(0, .keep), (1, .keep), (2, .keep), (3, .keep), (8, .keep), (9, .keep), (10, .keep), (11, .keep)]), (18, [(0, .keep), (1, .keep), (2, .keep), (3, .keep), (8, .keep), (9, .keep), (10, .keep), (11, .keep), (87, .keep)])] }
noncomputable def ctx0 : List (Nat × Sig) := [(65, slices_insertionSortOrdered_int.sig), (66, slices_heapSortOrdered_int.sig), (67, slices_breakPatternsOrdered_int.sig), (68, slices_choosePivotOrdered_int.sig), (69, slices_reverseRangeOrdered_int.sig), (70, slices_partialInsertionSortOrdered_int.sig), (71, cmp_Less_int.sig), (72, slices_partitionEqualOrdered_int.sig), (73, slices_partitionOrdered_int.sig)]
noncomputable def E (self : (List Int) → Int → Int → Int → R) : Env := withCtx E0 ((62, ⟨ps, rs, fun x => self x.1 x.2.1 x.2.2.1 x.2.2.2.1⟩) :: ctx0)
noncomputable def c0 : Code := sub [1, 1, 0, 0] (bodyOf Try.f62)
noncomputable def c1 : Code := sub [1, 1, 0, 0, 0, 1, 1, 1, 1, 1, 1, 1, 1] (bodyOf Try.f62)
noncomputable def c2 : Code := sub [1, 1, 0, 0, 0, 1, 1, 1, 1] (bodyOf Try.f62)
noncomputable def c3 : Code := sub [1, 1, 0, 0, 0, 1, 1, 1, 1, 1, 1] (bodyOf Try.f62)
noncomputable def c4 : Code := sub [1, 1, 0, 0, 0, 1, 1, 1, 1, 1, 1, 1] (bodyOf Try.f62)
noncomputable def c5 : Code := sub [1, 1, 0, 0, 0, 1, 1, 1, 1, 1, 1, 1, 0, 1] (bodyOf Try.f62)
noncomputable def K3 : Kont := .blk 0 .ret
noncomputable def K4 : Kont := .loop c0 K3
noncomputable def K5 : Kont := .blk 1 K4
noncomputable def K24 : Kont := .seq c1 K5
noncomputable def fin : ASt → R := Kret E0 Try.f62.results.toList ps rs
def tL0 (a : Int) (b : Int) (limit : Int) (wasBalanced : Bool) (wasPartitioned : Bool) (data_P : List Int) : ASt := ⟨[(9, .one (.val .bool wasPartitioned)), (8, .one (.val .bool wasBalanced)), (3, .one (.val (.int .i64) limit)), (2, .one (.val (.int .i64) b)), (1, .one (.val (.int .i64) a)), (0, .one (.own 10000))], [(10000, some ⟨.fixed, .int .i64, data_P⟩)]⟩
def tJ1 (a : Int) (b : Int) (limit : Int) (wasBalanced : Bool) (wasPartitioned : Bool) (length_10 : Int) (data_P : List Int) : ASt := ⟨[(10, .one (.val (.int .i64) length_10)), (9, .one (.val .bool wasPartitioned)), (8, .one (.val .bool wasBalanced)), (3, .one (.val (.int .i64) limit)), (2, .one (.val (.int .i64) b)), (1, .one (.val (.int .i64) a)), (0, .one (.own 10000))], [(10000, some ⟨.fixed, .int .i64, data_P⟩)]⟩
def tJ2 (a : Int) (b : Int) (limit : Int) (wasBalanced : Bool) (wasPartitioned : Bool) (length_10 : Int) (pivot : Int) (hint : Int) (data_P : List Int) : ASt := ⟨[(12, .one (.val (.int .i64) hint)), (11, .one (.val (.int .i64) pivot)), (10, .one (.val (.int .i64) length_10)), (9, .one (.val .bool wasPartitioned)), (8, .one (.val .bool wasBalanced)), (3, .one (.val (.int .i64) limit)), (2, .one (.val (.int .i64) b)), (1, .one (.val (.int .i64) a)), (0, .one (.own 10000))], [(10000, some ⟨.fixed, .int .i64, data_P⟩)]⟩
def tJ3 (a : Int) (b : Int) (limit : Int) (wasBalanced : Bool) (wasPartitioned : Bool) (length_10 : Int) (pivot : Int) (data_P : List Int) : ASt := ⟨[(11, .one (.val (.int .i64) pivot)), (10, .one (.val (.int .i64) length_10)), (9, .one (.val .bool wasPartitioned)), (8, .one (.val .bool wasBalanced)), (3, .one (.val (.int .i64) limit)), (2, .one (.val (.int .i64) b)), (1, .one (.val (.int .i64) a)), (0, .one (.own 10000))], [(10000, some ⟨.fixed, .int .i64, data_P⟩)]⟩
def tJ4 (a : Int) (b : Int) (limit : Int) (wasBalanced : Bool) (wasPartitioned : Bool) (length_10 : Int) (pivot : Int) (v_87 : Bool) (data_P : List Int) : ASt := ⟨[(87, .one (.val .bool v_87)), (11, .one (.val (.int .i64) pivot)), (10, .one (.val (.int .i64) length_10)), (9, .one (.val .bool wasPartitioned)), (8, .one (.val .bool wasBalanced)), (3, .one (.val (.int .i64) limit)), (2, .one (.val (.int .i64) b)), (1, .one (.val (.int .i64) a)), (0, .one (.own 10000))], [(10000, some ⟨.fixed, .int .i64, data_P⟩)]⟩
noncomputable def SL0 (self : (List Int) → Int → Int → Int → R) (kJ1 : Int → Int → Int → Bool → Bool → Int → (List Int) → R) (a : Int) (b : Int) (limit : Int) (wasBalanced : Bool) (wasPartitioned : Bool) (data_P : List Int) : R :=
  cond (decide ((IntKind.i64.wrap (b - a)) ≤ 12))
    (Option.bind (slices_insertionSortOrdered_int data_P a b) fun x1 =>
    some (x1.1, ()))
    (cond (limit == 0)
      (Option.bind (slices_heapSortOrdered_int data_P a b) fun x2 =>
      some (x2.1, ()))
      (cond (!wasBalanced)
        (Option.bind (slices_breakPatternsOrdered_int data_P a b) fun x3 =>
        kJ1 a b (IntKind.i64.wrap (limit - 1)) wasBalanced wasPartitioned (IntKind.i64.wrap (b - a)) x3.1)
        (kJ1 a b limit wasBalanced wasPartitioned (IntKind.i64.wrap (b - a)) data_P)))
noncomputable def SJ1 (self : (List Int) → Int → Int → Int → R) (kJ2 : Int → Int → Int → Bool → Bool → Int → Int → Int → (List Int) → R) (a : Int) (b : Int) (limit : Int) (wasBalanced : Bool) (wasPartitioned : Bool) (length_10 : Int) (data_P : List Int) : R :=
  Option.bind (slices_choosePivotOrdered_int data_P a b) fun x1 =>
  cond (x1.2.1 == 2)
    (Option.bind (slices_reverseRangeOrdered_int data_P a b) fun x2 =>
    kJ2 a b limit wasBalanced wasPartitioned length_10 (IntKind.i64.wrap ((IntKind.i64.wrap (b - 1)) - (IntKind.i64.wrap (x1.1 - a)))) 1 x2.1)
    (kJ2 a b limit wasBalanced wasPartitioned length_10 x1.1 x1.2.1 data_P)
noncomputable def SJ2 (self : (List Int) → Int → Int → Int → R) (kJ3 : Int → Int → Int → Bool → Bool → Int → Int → (List Int) → R) (a : Int) (b : Int) (limit : Int) (wasBalanced : Bool) (wasPartitioned : Bool) (length_10 : Int) (pivot : Int) (hint : Int) (data_P : List Int) : R :=
  cond wasBalanced
    (cond wasPartitioned
      (cond (hint == 1)
        (Option.bind (slices_partialInsertionSortOrdered_int data_P a b) fun x1 =>
        cond x1.1
          (some (x1.2.1, ()))
          (kJ3 a b limit wasBalanced wasPartitioned length_10 pivot x1.2.1))
        (kJ3 a b limit wasBalanced wasPartitioned length_10 pivot data_P))
      (kJ3 a b limit wasBalanced wasPartitioned length_10 pivot data_P))
    (kJ3 a b limit wasBalanced wasPartitioned length_10 pivot data_P)
noncomputable def SJ3 (self : (List Int) → Int → Int → Int → R) (kJ4 : Int → Int → Int → Bool → Bool → Int → Int → Bool → (List Int) → R) (a : Int) (b : Int) (limit : Int) (wasBalanced : Bool) (wasPartitioned : Bool) (length_10 : Int) (pivot : Int) (data_P : List Int) : R :=
  cond (decide (a > 0))
    (cond (decide (0 ≤ IntKind.i64.wrap (a - 1)) && decide (IntKind.i64.wrap (a - 1) < (data_P.length : Int)))
      (cond (decide (0 ≤ pivot) && decide (pivot < (data_P.length : Int)))
        (Option.bind (cmp_Less_int (data_P.getD ((IntKind.i64.wrap (a - 1)).toNat) 0) (data_P.getD pivot.toNat 0)) fun x1 =>
        kJ4 a b limit wasBalanced wasPartitioned length_10 pivot (!x1.1) data_P)
        none)
      none)
    (kJ4 a b limit wasBalanced wasPartitioned length_10 pivot false data_P)
noncomputable def SJ4 (self : (List Int) → Int → Int → Int → R) (kL0 : Int → Int → Int → Bool → Bool → (List Int) → R) (a : Int) (b : Int) (limit : Int) (wasBalanced : Bool) (wasPartitioned : Bool) (length_10 : Int) (pivot : Int) (v_87 : Bool) (data_P : List Int) : R :=
  cond v_87
    (Option.bind (slices_partitionEqualOrdered_int data_P a b pivot) fun x1 =>
    kL0 x1.1 b limit wasBalanced wasPartitioned x1.2.1)
    (Option.bind (slices_partitionOrdered_int data_P a b pivot) fun x2 =>
    cond (decide ((IntKind.i64.wrap (x2.1 - a)) < (IntKind.i64.wrap (b - x2.1))))
      (Option.bind (self x2.2.2.1 a x2.1 limit) fun x3 =>
      kL0 (IntKind.i64.wrap (x2.1 + 1)) b limit (decide ((IntKind.i64.wrap (x2.1 - a)) ≥ (IntKind.i64.wrap (Int.tdiv length_10 8)))) x2.2.1 x3.1)
      (Option.bind (self x2.2.2.1 (IntKind.i64.wrap (x2.1 + 1)) b limit) fun x4 =>
      kL0 a x2.1 limit (decide ((IntKind.i64.wrap (b - x2.1)) ≥ (IntKind.i64.wrap (Int.tdiv length_10 8)))) x2.2.1 x4.1))
noncomputable def Se (self : (List Int) → Int → Int → Int → R) (kL0 : Int → Int → Int → Bool → Bool → (List Int) → R) (data : List Int) (a : Int) (b : Int) (limit : Int) : R :=
  kL0 a b limit true true data
theorem sL0 (self : (List Int) → Int → Int → Int → R) (jmp : Tgt → ASt → R) (a : Int) (b : Int) (limit : Int) (wasBalanced : Bool) (wasPartitioned : Bool) (data_P : List Int) : run (E self) jmp fin depth c0 (.loop c0 K3) (tL0 a b limit wasBalanced wasPartitioned data_P) =
    SL0 self (fun a b limit wasBalanced wasPartitioned length_10 data_P => jmp (.code c2 K5) (tJ1 a b limit wasBalanced wasPartitioned length_10 data_P)) a b limit wasBalanced wasPartitioned data_P := by kernel_rfl
theorem sJ1 (self : (List Int) → Int → Int → Int → R) (jmp : Tgt → ASt → R) (a : Int) (b : Int) (limit : Int) (wasBalanced : Bool) (wasPartitioned : Bool) (length_10 : Int) (data_P : List Int) : run (E self) jmp fin depth c2 K5 (tJ1 a b limit wasBalanced wasPartitioned length_10 data_P) =
    SJ1 self (fun a b limit wasBalanced wasPartitioned length_10 pivot hint data_P => jmp (.code c3 K5) (tJ2 a b limit wasBalanced wasPartitioned length_10 pivot hint data_P)) a b limit wasBalanced wasPartitioned length_10 data_P := by kernel_rfl
theorem sJ2 (self : (List Int) → Int → Int → Int → R) (jmp : Tgt → ASt → R) (a : Int) (b : Int) (limit : Int) (wasBalanced : Bool) (wasPartitioned : Bool) (length_10 : Int) (pivot : Int) (hint : Int) (data_P : List Int) : run (E self) jmp fin depth c3 K5 (tJ2 a b limit wasBalanced wasPartitioned length_10 pivot hint data_P) =
    SJ2 self (fun a b limit wasBalanced wasPartitioned length_10 pivot data_P => jmp (.code c4 K5) (tJ3 a b limit wasBalanced wasPartitioned length_10 pivot data_P)) a b limit wasBalanced wasPartitioned length_10 pivot hint data_P := by kernel_rfl
theorem sJ3 (self : (List Int) → Int → Int → Int → R) (jmp : Tgt → ASt → R) (a : Int) (b : Int) (limit : Int) (wasBalanced : Bool) (wasPartitioned : Bool) (length_10 : Int) (pivot : Int) (data_P : List Int) : run (E self) jmp fin depth c4 K5 (tJ3 a b limit wasBalanced wasPartitioned length_10 pivot data_P) =
    SJ3 self (fun a b limit wasBalanced wasPartitioned length_10 pivot v_87 data_P => jmp (.code c5 K24) (tJ4 a b limit wasBalanced wasPartitioned length_10 pivot v_87 data_P)) a b limit wasBalanced wasPartitioned length_10 pivot data_P := by kernel_rfl
theorem sJ4 (self : (List Int) → Int → Int → Int → R) (jmp : Tgt → ASt → R) (a : Int) (b : Int) (limit : Int) (wasBalanced : Bool) (wasPartitioned : Bool) (length_10 : Int) (pivot : Int) (v_87 : Bool) (data_P : List Int) : run (E self) jmp fin depth c5 K24 (tJ4 a b limit wasBalanced wasPartitioned length_10 pivot v_87 data_P) =
    SJ4 self (fun a b limit wasBalanced wasPartitioned data_P => jmp (.loop c0 K3) (tL0 a b limit wasBalanced wasPartitioned data_P)) a b limit wasBalanced wasPartitioned length_10 pivot v_87 data_P := by kernel_rfl
theorem se (self : (List Int) → Int → Int → Int → R) (jmp : Tgt → ASt → R) (x : (argTy ps).den) : run (E self) jmp fin depth (bodyOf Try.f62) .ret (entryFrom 0 ps x) =
    Se self (fun a b limit wasBalanced wasPartitioned data_P => jmp (.loop c0 K3) (tL0 a b limit wasBalanced wasPartitioned data_P)) x.1 x.2.1 x.2.2.1 x.2.2.2.1 := by kernel_rfl
end slices_pdqsortOrdered_int
noncomputable def slices_pdqsortOrdered_int (data : List Int) (a : Int) (b : Int) (limit : Int) : slices_pdqsortOrdered_int.R :=
  recF slices_pdqsortOrdered_int.E0 slices_pdqsortOrdered_int.ctx0 62 slices_pdqsortOrdered_int.ps slices_pdqsortOrdered_int.rs slices_pdqsortOrdered_int.fin (bodyOf Try.f62) (data, a, b, limit, ())
namespace slices_pdqsortOrdered_int
noncomputable def L0 (a : Int) (b : Int) (limit : Int) (wasBalanced : Bool) (wasPartitioned : Bool) (data_P : List Int) : R := lim (E slices_pdqsortOrdered_int) fin (.loop c0 K3) (tL0 a b limit wasBalanced wasPartitioned data_P)
noncomputable def J1 (a : Int) (b : Int) (limit : Int) (wasBalanced : Bool) (wasPartitioned : Bool) (length_10 : Int) (data_P : List Int) : R := lim (E slices_pdqsortOrdered_int) fin (.code c2 K5) (tJ1 a b limit wasBalanced wasPartitioned length_10 data_P)
noncomputable def J2 (a : Int) (b : Int) (limit : Int) (wasBalanced : Bool) (wasPartitioned : Bool) (length_10 : Int) (pivot : Int) (hint : Int) (data_P : List Int) : R := lim (E slices_pdqsortOrdered_int) fin (.code c3 K5) (tJ2 a b limit wasBalanced wasPartitioned length_10 pivot hint data_P)
noncomputable def J3 (a : Int) (b : Int) (limit : Int) (wasBalanced : Bool) (wasPartitioned : Bool) (length_10 : Int) (pivot : Int) (data_P : List Int) : R := lim (E slices_pdqsortOrdered_int) fin (.code c4 K5) (tJ3 a b limit wasBalanced wasPartitioned length_10 pivot data_P)
noncomputable def J4 (a : Int) (b : Int) (limit : Int) (wasBalanced : Bool) (wasPartitioned : Bool) (length_10 : Int) (pivot : Int) (v_87 : Bool) (data_P : List Int) : R := lim (E slices_pdqsortOrdered_int) fin (.code c5 K24) (tJ4 a b limit wasBalanced wasPartitioned length_10 pivot v_87 data_P)
theorem L0_eq (a : Int) (b : Int) (limit : Int) (wasBalanced : Bool) (wasPartitioned : Bool) (data_P : List Int) : L0 a b limit wasBalanced wasPartitioned data_P = SL0 slices_pdqsortOrdered_int J1 a b limit wasBalanced wasPartitioned data_P :=
  (lim_eq (.loop c0 K3) (tL0 a b limit wasBalanced wasPartitioned data_P)).trans (sL0 slices_pdqsortOrdered_int (lim (E slices_pdqsortOrdered_int) fin) a b limit wasBalanced wasPartitioned data_P)
theorem J1_eq (a : Int) (b : Int) (limit : Int) (wasBalanced : Bool) (wasPartitioned : Bool) (length_10 : Int) (data_P : List Int) : J1 a b limit wasBalanced wasPartitioned length_10 data_P = SJ1 slices_pdqsortOrdered_int J2 a b limit wasBalanced wasPartitioned length_10 data_P :=
  (lim_eq (.code c2 K5) (tJ1 a b limit wasBalanced wasPartitioned length_10 data_P)).trans (sJ1 slices_pdqsortOrdered_int (lim (E slices_pdqsortOrdered_int) fin) a b limit wasBalanced wasPartitioned length_10 data_P)
theorem J2_eq (a : Int) (b : Int) (limit : Int) (wasBalanced : Bool) (wasPartitioned : Bool) (length_10 : Int) (pivot : Int) (hint : Int) (data_P : List Int) : J2 a b limit wasBalanced wasPartitioned length_10 pivot hint data_P = SJ2 slices_pdqsortOrdered_int J3 a b limit wasBalanced wasPartitioned length_10 pivot hint data_P :=
  (lim_eq (.code c3 K5) (tJ2 a b limit wasBalanced wasPartitioned length_10 pivot hint data_P)).trans (sJ2 slices_pdqsortOrdered_int (lim (E slices_pdqsortOrdered_int) fin) a b limit wasBalanced wasPartitioned length_10 pivot hint data_P)
theorem J3_eq (a : Int) (b : Int) (limit : Int) (wasBalanced : Bool) (wasPartitioned : Bool) (length_10 : Int) (pivot : Int) (data_P : List Int) : J3 a b limit wasBalanced wasPartitioned length_10 pivot data_P = SJ3 slices_pdqsortOrdered_int J4 a b limit wasBalanced wasPartitioned length_10 pivot data_P :=
  (lim_eq (.code c4 K5) (tJ3 a b limit wasBalanced wasPartitioned length_10 pivot data_P)).trans (sJ3 slices_pdqsortOrdered_int (lim (E slices_pdqsortOrdered_int) fin) a b limit wasBalanced wasPartitioned length_10 pivot data_P)
theorem J4_eq (a : Int) (b : Int) (limit : Int) (wasBalanced : Bool) (wasPartitioned : Bool) (length_10 : Int) (pivot : Int) (v_87 : Bool) (data_P : List Int) : J4 a b limit wasBalanced wasPartitioned length_10 pivot v_87 data_P = SJ4 slices_pdqsortOrdered_int L0 a b limit wasBalanced wasPartitioned length_10 pivot v_87 data_P :=
  (lim_eq (.code c5 K24) (tJ4 a b limit wasBalanced wasPartitioned length_10 pivot v_87 data_P)).trans (sJ4 slices_pdqsortOrdered_int (lim (E slices_pdqsortOrdered_int) fin) a b limit wasBalanced wasPartitioned length_10 pivot v_87 data_P)
theorem selfrun : (fun x : (argTy ps).den => slices_pdqsortOrdered_int x.1 x.2.1 x.2.2.1 x.2.2.2.1) = recF E0 ctx0 62 ps rs fin (bodyOf Try.f62) := by kernel_rfl
end slices_pdqsortOrdered_int
noncomputable def slices_pdqsortOrdered_int.sig : Sig := ⟨slices_pdqsortOrdered_int.ps, slices_pdqsortOrdered_int.rs, fun x => slices_pdqsortOrdered_int x.1 x.2.1 x.2.2.1 x.2.2.2.1⟩
theorem slices_pdqsortOrdered_int.val (x : (argTy slices_pdqsortOrdered_int.ps).den) : lim (slices_pdqsortOrdered_int.E slices_pdqsortOrdered_int) slices_pdqsortOrdered_int.fin (.code (bodyOf Try.f62) .ret) (entryFrom 0 slices_pdqsortOrdered_int.ps x) = slices_pdqsortOrdered_int.sig.run x := by
  have h := recF_eq (E := slices_pdqsortOrdered_int.E0) (ctx := slices_pdqsortOrdered_int.ctx0) (f := 62) (ps := slices_pdqsortOrdered_int.ps) (rs := slices_pdqsortOrdered_int.rs) (fin := slices_pdqsortOrdered_int.fin) (body := bodyOf Try.f62) x
  rw [← slices_pdqsortOrdered_int.selfrun] at h
  exact h.symm
theorem slices_pdqsortOrdered_int.ok : CallOK Try.prog 62 slices_pdqsortOrdered_int.sig := by
  have h := callOK_rec (E := slices_pdqsortOrdered_int.E0) (ctx := slices_pdqsortOrdered_int.ctx0) (f := 62) (ps := slices_pdqsortOrdered_int.ps) (rs := slices_pdqsortOrdered_int.rs) (fin := slices_pdqsortOrdered_int.fin) (body := bodyOf Try.f62) mixed tt_ok (ctxOk_cons (ctxOk_cons (ctxOk_cons (ctxOk_cons (ctxOk_cons (ctxOk_cons (ctxOk_cons (ctxOk_cons (ctxOk_cons ctxOk_nil slices_partitionOrdered_int.ok Try.func73 (by kernel_rfl) (by kernel_rfl)) slices_partitionEqualOrdered_int.ok Try.func72 (by kernel_rfl) (by kernel_rfl)) cmp_Less_int.ok Try.func71 (by kernel_rfl) (by kernel_rfl)) slices_partialInsertionSortOrdered_int.ok Try.func70 (by kernel_rfl) (by kernel_rfl)) slices_reverseRangeOrdered_int.ok Try.func69 (by kernel_rfl) (by kernel_rfl)) slices_choosePivotOrdered_int.ok Try.func68 (by kernel_rfl) (by kernel_rfl)) slices_breakPatternsOrdered_int.ok Try.func67 (by kernel_rfl) (by kernel_rfl)) slices_heapSortOrdered_int.ok Try.func66 (by kernel_rfl) (by kernel_rfl)) slices_insertionSortOrdered_int.ok Try.func65 (by kernel_rfl) (by kernel_rfl)) Try.func62 (by kernel_rfl : Try.f62.body = some (bodyOf Try.f62)) (by kernel_rfl) (by kernel_rfl) Try.ntmps62 (of_decide_eq_true (by kernel_rfl)) (of_decide_eq_true (by kernel_rfl)) rfl
  rw [← slices_pdqsortOrdered_int.selfrun] at h
  exact h
noncomputable def slices_pdqsortOrdered_int.ctxc (n : Nat) : List (Nat × Sig) := [(65, slices_insertionSortOrdered_int.sigc n), (66, slices_heapSortOrdered_int.sigc n), (67, slices_breakPatternsOrdered_int.sigc n), (68, slices_choosePivotOrdered_int.sigc n), (69, slices_reverseRangeOrdered_int.sigc n), (70, slices_partialInsertionSortOrdered_int.sigc n), (71, cmp_Less_int.sigc n), (72, slices_partitionEqualOrdered_int.sigc n), (73, slices_partitionOrdered_int.sigc n)]
noncomputable def slices_pdqsortOrdered_int.runc (n : Nat) : Nat → (argTy slices_pdqsortOrdered_int.ps).den → slices_pdqsortOrdered_int.R
  | 0, _ => none
  | d + 1, x => runs (withCtx slices_pdqsortOrdered_int.E0 ((62, ⟨slices_pdqsortOrdered_int.ps, slices_pdqsortOrdered_int.rs, slices_pdqsortOrdered_int.runc n d⟩) :: slices_pdqsortOrdered_int.ctxc n)) slices_pdqsortOrdered_int.fin n (.code (bodyOf Try.f62) .ret) (entryFrom 0 slices_pdqsortOrdered_int.ps x)
noncomputable def slices_pdqsortOrdered_int.sigc (n : Nat) : Sig := ⟨slices_pdqsortOrdered_int.ps, slices_pdqsortOrdered_int.rs, slices_pdqsortOrdered_int.runc n n⟩
theorem slices_pdqsortOrdered_int.runc_le (n : Nat) : ∀ d x y, slices_pdqsortOrdered_int.runc n d x = some y → slices_pdqsortOrdered_int.sig.run x = some y := by
  intro d
  induction d with
  | zero => intro x y h; cases h
  | succ d ih => exact fun x y h => (slices_pdqsortOrdered_int.val x).symm.trans (runs_lim (E := slices_pdqsortOrdered_int.E slices_pdqsortOrdered_int) (c := (62, ⟨slices_pdqsortOrdered_int.ps, slices_pdqsortOrdered_int.rs, slices_pdqsortOrdered_int.runc n d⟩) :: slices_pdqsortOrdered_int.ctxc n) (ctxLe_cons (ctxLe_cons (ctxLe_cons (ctxLe_cons (ctxLe_cons (ctxLe_cons (ctxLe_cons (ctxLe_cons (ctxLe_cons (ctxLe_cons ctxLe_nil (slices_partitionOrdered_int.sigc_le n)) (slices_partitionEqualOrdered_int.sigc_le n)) (cmp_Less_int.sigc_le n)) (slices_partialInsertionSortOrdered_int.sigc_le n)) (slices_reverseRangeOrdered_int.sigc_le n)) (slices_choosePivotOrdered_int.sigc_le n)) (slices_breakPatternsOrdered_int.sigc_le n)) (slices_heapSortOrdered_int.sigc_le n)) (slices_insertionSortOrdered_int.sigc_le n)) ih) h)
theorem slices_pdqsortOrdered_int.sigc_le (n : Nat) : ∀ x y, (slices_pdqsortOrdered_int.sigc n).run x = some y → slices_pdqsortOrdered_int.sig.run x = some y := slices_pdqsortOrdered_int.runc_le n n
namespace slices_Sort_int_int
abbrev ps : List PM := [.own (.int .i64)]
abbrev rs : List RM := []
abbrev R : Type := Option (List Int × Unit)
noncomputable def E : Env := { tt := tt, ctx := [(63, math_bits_Len.sig), (62, slices_pdqsortOrdered_int.sig)], nt := 11, ann := [] }
noncomputable def fin : ASt → R := Kret E Try.f53.results.toList ps rs
noncomputable def Se (x_0 : List Int) : R :=
  Option.bind (math_bits_Len (IntKind.u64.wrap (x_0.length : Int))) fun x1 =>
  Option.bind (slices_pdqsortOrdered_int x_0 0 (x_0.length : Int) x1.1) fun x2 =>
  some (x2.1, ())
theorem se (x : (argTy ps).den) : run E (lim E fin) fin depth (bodyOf Try.f53) .ret (entryFrom 0 ps x) = Se x.1 := by kernel_rfl
end slices_Sort_int_int
noncomputable def slices_Sort_int_int (x_0 : List Int) : slices_Sort_int_int.R :=
  slices_Sort_int_int.Se x_0
namespace slices_Sort_int_int
noncomputable def sig : Sig := ⟨ps, rs, fun x => slices_Sort_int_int x.1⟩
theorem val (x : (argTy ps).den) : lim E fin (.code (bodyOf Try.f53) .ret) (entryFrom 0 ps x) = sig.run x := (lim_eq (.code (bodyOf Try.f53) .ret) (entryFrom 0 ps x)).trans (se x)
theorem ok : CallOK Try.prog 53 sig :=
  callOK_of_lim (E := E) mixed tt_ok (ctxOk_cons (ctxOk_cons ctxOk_nil slices_pdqsortOrdered_int.ok Try.func62 (by kernel_rfl) (by kernel_rfl)) math_bits_Len.ok Try.func63 (by kernel_rfl) (by kernel_rfl)) Try.func53 (by kernel_rfl : Try.f53.body = some (bodyOf Try.f53)) Try.ntmps53 (of_decide_eq_true (by kernel_rfl)) (of_decide_eq_true (by kernel_rfl)) fun x y h => (val x).trans h
noncomputable def ctxc (n : Nat) : List (Nat × Sig) := [(63, math_bits_Len.sigc n), (62, slices_pdqsortOrdered_int.sigc n)]
noncomputable def sigc (n : Nat) : Sig := ⟨ps, rs, fun x => runs (withCtx E (ctxc n)) fin n (.code (bodyOf Try.f53) .ret) (entryFrom 0 ps x)⟩
theorem sigc_le (n : Nat) : ∀ x y, (sigc n).run x = some y → sig.run x = some y := fun x y h => (val x).symm.trans (runs_lim (E := E) (c := ctxc n) (ctxLe_cons (ctxLe_cons ctxLe_nil (slices_pdqsortOrdered_int.sigc_le n)) (math_bits_Len.sigc_le n)) h)
end slices_Sort_int_int
namespace slices_Compact_int_int
abbrev ps : List PM := [.give (.int .i64)]
abbrev rs : List RM := [.own (.int .i64)]
abbrev R : Type := Option (List Int × Unit)
noncomputable def E : Env := { tt := tt, ctx := [], nt := 61, ann := [(1000004, [(0, .keep), (3, .keep)]), (1000009, [(0, .keep), (3, .keep), (4, .keep), (5, .keep)])] }
noncomputable def c0 : Code := sub [1, 1, 1] (bodyOf Try.f54)
noncomputable def c1 : Code := sub [1, 1, 0, 1, 0, 0] (bodyOf Try.f54)
noncomputable def c2 : Code := sub [1, 1, 0, 1, 0, 0, 1, 1] (bodyOf Try.f54)
noncomputable def c3 : Code := sub [1, 1, 0, 1, 0, 0, 1, 0, 0, 1, 0, 1, 1] (bodyOf Try.f54)
noncomputable def c4 : Code := sub [1, 1, 0, 1, 0, 0, 1, 0, 0, 1, 0, 1, 0, 1, 0, 0] (bodyOf Try.f54)
noncomputable def K5 : Kont := .seq c0 .ret
noncomputable def K7 : Kont := .blk 0 K5
noncomputable def K8 : Kont := .loop c1 K7
noncomputable def K11 : Kont := .seq c2 K8
noncomputable def K12 : Kont := .blk 1 K11
noncomputable def K15 : Kont := .seq c3 K12
noncomputable def K17 : Kont := .blk 2 K15
noncomputable def fin : ASt → R := Kret E Try.f54.results.toList ps rs
def tL0 (s : List Int) (k : Int) : ASt := ⟨[(3, .one (.val (.int .i64) k)), (0, .one (.own 0))], [(0, some ⟨.free, .int .i64, s⟩)]⟩
def tL1 (s : List Int) (k : Int) (s2_lo : Nat) (s2_len : Nat) (k2 : Int) : ASt := ⟨[(5, .one (.val (.int .i64) k2)), (4, .one (.osub 0 s2_lo s2_len)), (3, .one (.val (.int .i64) k)), (0, .one (.own 0))], [(0, some ⟨.free, .int .i64, s⟩)]⟩
noncomputable def L0 (s : List Int) (k : Int) : R := lim E fin (.loop c1 K7) (tL0 s k)
noncomputable def L1 (s : List Int) (k : Int) (s2_lo : Nat) (s2_len : Nat) (k2 : Int) : R := lim E fin (.loop c4 K17) (tL1 s k s2_lo s2_len k2)
noncomputable def SL0 (s : List Int) (k : Int) : R :=
  cond (decide (k < (s.length : Int)))
    (cond (decide (0 ≤ k) && decide (k < (s.length : Int)))
      (cond (decide (0 ≤ IntKind.i64.wrap (k - 1)) && decide (IntKind.i64.wrap (k - 1) < (s.length : Int)))
        (cond ((s.getD k.toNat 0) == (s.getD ((IntKind.i64.wrap (k - 1)).toNat) 0))
          (cond (decide ((0 : Int) ≤ k) && (decide ((k : Int) ≤ (s.length : Int)) && decide ((s.length : Int) ≤ (s.length : Int))))
            (L1 s k k.toNat (s.length - k.toNat) 1)
            none)
          (L0 s (IntKind.i64.wrap (k + 1))))
        none)
      none)
    (some (s, ()))
noncomputable def SL1 (s : List Int) (k : Int) (s2_lo : Nat) (s2_len : Nat) (k2 : Int) : R :=
  cond (decide (k2 < (s2_len : Int)))
    (cond (decide (0 ≤ k2) && decide (k2 < ((s2_len : Nat) : Int)))
      (cond (decide (0 ≤ IntKind.i64.wrap (k2 - 1)) && decide (IntKind.i64.wrap (k2 - 1) < ((s2_len : Nat) : Int)))
        (cond ((s.getD (s2_lo + k2.toNat) 0) != (s.getD (s2_lo + (IntKind.i64.wrap (k2 - 1)).toNat) 0))
          (cond (decide (0 ≤ k2) && decide (k2 < ((s2_len : Nat) : Int)))
            (cond (decide (0 ≤ k) && decide (k < (s.length : Int)))
              (L1 (s.set k.toNat (s.getD (s2_lo + k2.toNat) 0)) (IntKind.i64.wrap (k + 1)) s2_lo s2_len (IntKind.i64.wrap (k2 + 1)))
              none)
            none)
          (L1 s k s2_lo s2_len (IntKind.i64.wrap (k2 + 1))))
        none)
      none)
    (cond (decide ((0 : Int) ≤ k) && (decide ((k : Int) ≤ (s.length : Int)) && decide ((s.length : Int) ≤ (s.length : Int))))
      (cond (decide (0 < (s.length - k.toNat)))
        (cond (decide ((0 : Int) ≤ 0) && (decide ((0 : Int) ≤ k) && decide (k ≤ ((s.take k.toNat ++ (List.replicate (s.length - k.toNat) 0 ++ s.drop (k.toNat + (s.length - k.toNat)))).length : Int))))
          (some (((s.take k.toNat ++ (List.replicate (s.length - k.toNat) 0 ++ s.drop (k.toNat + (s.length - k.toNat)))).take k.toNat), ()))
          none)
        none)
      none)
noncomputable def Se (s : List Int) : R :=
  cond (decide ((s.length : Int) < 2))
    (some (s, ()))
    (L0 s 1)
theorem L0_eq (s k) : L0 s k = SL0 s k := (lim_eq (.loop c1 K7) (tL0 s k)).trans (by kernel_rfl)
theorem L1_eq (s k s2_lo s2_len k2) : L1 s k s2_lo s2_len k2 = SL1 s k s2_lo s2_len k2 := (lim_eq (.loop c4 K17) (tL1 s k s2_lo s2_len k2)).trans (by kernel_rfl)
theorem se (x : (argTy ps).den) : run E (lim E fin) fin depth (bodyOf Try.f54) .ret (entryFrom 0 ps x) = Se x.1 := by kernel_rfl
end slices_Compact_int_int
noncomputable def slices_Compact_int_int (s : List Int) : slices_Compact_int_int.R :=
  slices_Compact_int_int.Se s
namespace slices_Compact_int_int
noncomputable def sig : Sig := ⟨ps, rs, fun x => slices_Compact_int_int x.1⟩
theorem val (x : (argTy ps).den) : lim E fin (.code (bodyOf Try.f54) .ret) (entryFrom 0 ps x) = sig.run x := (lim_eq (.code (bodyOf Try.f54) .ret) (entryFrom 0 ps x)).trans (se x)
theorem ok : CallOK Try.prog 54 sig :=
  callOK_of_lim (E := E) mixed tt_ok ctxOk_nil Try.func54 (by kernel_rfl : Try.f54.body = some (bodyOf Try.f54)) Try.ntmps54 (of_decide_eq_true (by kernel_rfl)) (of_decide_eq_true (by kernel_rfl)) fun x y h => (val x).trans h
noncomputable def ctxc (n : Nat) : List (Nat × Sig) := []
noncomputable def sigc (n : Nat) : Sig := ⟨ps, rs, fun x => runs (withCtx E (ctxc n)) fin n (.code (bodyOf Try.f54) .ret) (entryFrom 0 ps x)⟩
theorem sigc_le (n : Nat) : ∀ x y, (sigc n).run x = some y → sig.run x = some y := fun x y h => (val x).symm.trans (runs_lim (E := E) (c := ctxc n) ctxLe_nil h)
end slices_Compact_int_int
namespace daterange_Boundaries
abbrev ps : List PM := [.pure (.sl api_DateRange)]
abbrev rs : List RM := [.own (.int .i64)]
abbrev R : Type := Option (List Int × Unit)
noncomputable def E : Env := { tt := tt, ctx := [(52, daterange_proper.sig), (53, slices_Sort_int_int.sig), (54, slices_Compact_int_int.sig)], nt := 26, ann := [(1000003, [(3, .own (.int .i64)), (6, .keep), (7, .keep), (8, .keep)])] }
noncomputable def c0 : Code := sub [1, 1, 1] (bodyOf Try.f37)
noncomputable def c1 : Code := sub [1, 1, 0, 1, 0, 0] (bodyOf Try.f37)
noncomputable def K3 : Kont := .seq c0 .ret
noncomputable def K5 : Kont := .blk 0 K3
noncomputable def fin : ASt → R := Kret E Try.f37.results.toList ps rs
def tL0 (out : List Int) (v_6 : List api_DateRangeV) (v_7 : Int) (v_8 : Int) : ASt := ⟨[(8, .one (.val (.int .i64) v_8)), (7, .one (.val (.int .i64) v_7)), (6, .one (.val (.sl api_DateRange) v_6)), (3, .one (.own 3))], [(3, some ⟨.free, .int .i64, out⟩)]⟩
noncomputable def L0 (out : List Int) (v_6 : List api_DateRangeV) (v_7 : Int) (v_8 : Int) : R := lim E fin (.loop c1 K5) (tL0 out v_6 v_7 v_8)
noncomputable def SL0 (out : List Int) (v_6 : List api_DateRangeV) (v_7 : Int) (v_8 : Int) : R :=
  cond (decide (v_8 < v_7))
    (Option.bind (idx v_6 v_8) fun x1 =>
    Option.bind (daterange_proper x1) fun x2 =>
    cond x2.1
      (cond (decide ((out.length + 2) * 8 ≤ room) && decide (0 < Ty.nc (.int .i64)))
        (L0 (out ++ [x1.1, x1.2.1]) v_6 v_7 (IntKind.i64.wrap (v_8 + 1)))
        none)
      (L0 out v_6 v_7 (IntKind.i64.wrap (v_8 + 1))))
    (Option.bind (slices_Sort_int_int out) fun x3 =>
    Option.bind (slices_Compact_int_int x3.1) fun x4 =>
    some (x4.1, ()))
noncomputable def Se (l : List api_DateRangeV) : R :=
  L0 [] l (l.length : Int) 0
theorem L0_eq (out v_6 v_7 v_8) : L0 out v_6 v_7 v_8 = SL0 out v_6 v_7 v_8 := (lim_eq (.loop c1 K5) (tL0 out v_6 v_7 v_8)).trans (by kernel_rfl)
theorem se (x : (argTy ps).den) : run E (lim E fin) fin depth (bodyOf Try.f37) .ret (entryFrom 0 ps x) = Se x.1 := by kernel_rfl
end daterange_Boundaries
noncomputable def daterange_Boundaries (l : List api_DateRangeV) : daterange_Boundaries.R :=
  daterange_Boundaries.Se l
namespace daterange_Boundaries
noncomputable def sig : Sig := ⟨ps, rs, fun x => daterange_Boundaries x.1⟩
theorem val (x : (argTy ps).den) : lim E fin (.code (bodyOf Try.f37) .ret) (entryFrom 0 ps x) = sig.run x := (lim_eq (.code (bodyOf Try.f37) .ret) (entryFrom 0 ps x)).trans (se x)
theorem ok : CallOK Try.prog 37 sig :=
  callOK_of_lim (E := E) mixed tt_ok (ctxOk_cons (ctxOk_cons (ctxOk_cons ctxOk_nil slices_Compact_int_int.ok Try.func54 (by kernel_rfl) (by kernel_rfl)) slices_Sort_int_int.ok Try.func53 (by kernel_rfl) (by kernel_rfl)) daterange_proper.ok Try.func52 (by kernel_rfl) (by kernel_rfl)) Try.func37 (by kernel_rfl : Try.f37.body = some (bodyOf Try.f37)) Try.ntmps37 (of_decide_eq_true (by kernel_rfl)) (of_decide_eq_true (by kernel_rfl)) fun x y h => (val x).trans h
noncomputable def ctxc (n : Nat) : List (Nat × Sig) := [(52, daterange_proper.sigc n), (53, slices_Sort_int_int.sigc n), (54, slices_Compact_int_int.sigc n)]
noncomputable def sigc (n : Nat) : Sig := ⟨ps, rs, fun x => runs (withCtx E (ctxc n)) fin n (.code (bodyOf Try.f37) .ret) (entryFrom 0 ps x)⟩
theorem sigc_le (n : Nat) : ∀ x y, (sigc n).run x = some y → sig.run x = some y := fun x y h => (val x).symm.trans (runs_lim (E := E) (c := ctxc n) (ctxLe_cons (ctxLe_cons (ctxLe_cons ctxLe_nil (slices_Compact_int_int.sigc_le n)) (slices_Sort_int_int.sigc_le n)) (daterange_proper.sigc_le n)) h)
end daterange_Boundaries
namespace effective_ChangeDates_1
abbrev ps : List PM := [.pure (.int .i64)]
abbrev rs : List RM := [.pure .bool]
abbrev R : Type := Option (Bool × Unit)
noncomputable def E : Env := { tt := tt, ctx := [], nt := 9, ann := [] }
noncomputable def fin : ASt → R := Kret E Try.f38.results.toList ps rs
noncomputable def Se (d : Int) : R :=
  cond (decide (d < 1))
    (some (true, ()))
    (some (decide (d > 109572), ()))
theorem se (x : (argTy ps).den) : run E (lim E fin) fin depth (bodyOf Try.f38) .ret (entryFrom 0 ps x) = Se x.1 := by kernel_rfl
end effective_ChangeDates_1
noncomputable def effective_ChangeDates_1 (d : Int) : effective_ChangeDates_1.R :=
  effective_ChangeDates_1.Se d
namespace effective_ChangeDates_1
noncomputable def sig : Sig := ⟨ps, rs, fun x => effective_ChangeDates_1 x.1⟩
theorem val (x : (argTy ps).den) : lim E fin (.code (bodyOf Try.f38) .ret) (entryFrom 0 ps x) = sig.run x := (lim_eq (.code (bodyOf Try.f38) .ret) (entryFrom 0 ps x)).trans (se x)
theorem ok : CallOK Try.prog 38 sig :=
  callOK_of_lim (E := E) mixed tt_ok ctxOk_nil Try.func38 (by kernel_rfl : Try.f38.body = some (bodyOf Try.f38)) Try.ntmps38 (of_decide_eq_true (by kernel_rfl)) (of_decide_eq_true (by kernel_rfl)) fun x y h => (val x).trans h
noncomputable def ctxc (n : Nat) : List (Nat × Sig) := []
noncomputable def sigc (n : Nat) : Sig := ⟨ps, rs, fun x => runs (withCtx E (ctxc n)) fin n (.code (bodyOf Try.f38) .ret) (entryFrom 0 ps x)⟩
theorem sigc_le (n : Nat) : ∀ x y, (sigc n).run x = some y → sig.run x = some y := fun x y h => (val x).symm.trans (runs_lim (E := E) (c := ctxc n) ctxLe_nil h)
end effective_ChangeDates_1
namespace slices_IndexFunc_int_int_effective_ChangeDates_1
abbrev ps : List PM := [.pure (.sl (.int .i64)), .fn 38]
abbrev rs : List RM := [.pure (.int .i64)]
abbrev R : Type := Option (Int × Unit)
noncomputable def E : Env := { tt := tt, ctx := [(38, effective_ChangeDates_1.sig)], nt := 19, ann := [(1000002, [(0, .keep), (1, .keep), (7, .keep), (8, .keep)])] }
noncomputable def c0 : Code := sub [1, 1] (bodyOf Try.f51)
noncomputable def c1 : Code := sub [1, 0, 1, 0, 0] (bodyOf Try.f51)
noncomputable def K2 : Kont := .seq c0 .ret
noncomputable def K4 : Kont := .blk 0 K2
noncomputable def fin : ASt → R := Kret E Try.f51.results.toList ps rs
def tL0 (s : List Int) (v_7 : Int) (v_8 : Int) : ASt := ⟨[(8, .one (.val (.int .i64) v_8)), (7, .one (.val (.int .i64) v_7)), (1, .one (.fn 38 [])), (0, .one (.val (.sl (.int .i64)) s))], []⟩
noncomputable def L0 (s : List Int) (v_7 : Int) (v_8 : Int) : R := lim E fin (.loop c1 K4) (tL0 s v_7 v_8)
noncomputable def SL0 (s : List Int) (v_7 : Int) (v_8 : Int) : R :=
  cond (decide (v_8 < v_7))
    (Option.bind (idx s v_8) fun x1 =>
    Option.bind (effective_ChangeDates_1 x1) fun x2 =>
    cond x2.1
      (some (v_8, ()))
      (L0 s v_7 (IntKind.i64.wrap (v_8 + 1))))
    (some ((-1), ()))
noncomputable def Se (s : List Int) : R :=
  L0 s (s.length : Int) 0
theorem L0_eq (s v_7 v_8) : L0 s v_7 v_8 = SL0 s v_7 v_8 := (lim_eq (.loop c1 K4) (tL0 s v_7 v_8)).trans (by kernel_rfl)
theorem se (x : (argTy ps).den) : run E (lim E fin) fin depth (bodyOf Try.f51) .ret (entryFrom 0 ps x) = Se x.1 := by kernel_rfl
end slices_IndexFunc_int_int_effective_ChangeDates_1
noncomputable def slices_IndexFunc_int_int_effective_ChangeDates_1 (s : List Int) : slices_IndexFunc_int_int_effective_ChangeDates_1.R :=
  slices_IndexFunc_int_int_effective_ChangeDates_1.Se s
namespace slices_IndexFunc_int_int_effective_ChangeDates_1
noncomputable def sig : Sig := ⟨ps, rs, fun x => slices_IndexFunc_int_int_effective_ChangeDates_1 x.1⟩
theorem val (x : (argTy ps).den) : lim E fin (.code (bodyOf Try.f51) .ret) (entryFrom 0 ps x) = sig.run x := (lim_eq (.code (bodyOf Try.f51) .ret) (entryFrom 0 ps x)).trans (se x)
theorem ok : CallOK Try.prog 51 sig :=
  callOK_of_lim (E := E) mixed tt_ok (ctxOk_cons ctxOk_nil effective_ChangeDates_1.ok Try.func38 (by kernel_rfl) (by kernel_rfl)) Try.func51 (by kernel_rfl : Try.f51.body = some (bodyOf Try.f51)) Try.ntmps51 (of_decide_eq_true (by kernel_rfl)) (of_decide_eq_true (by kernel_rfl)) fun x y h => (val x).trans h
noncomputable def ctxc (n : Nat) : List (Nat × Sig) := [(38, effective_ChangeDates_1.sigc n)]
noncomputable def sigc (n : Nat) : Sig := ⟨ps, rs, fun x => runs (withCtx E (ctxc n)) fin n (.code (bodyOf Try.f51) .ret) (entryFrom 0 ps x)⟩
theorem sigc_le (n : Nat) : ∀ x y, (sigc n).run x = some y → sig.run x = some y := fun x y h => (val x).symm.trans (runs_lim (E := E) (c := ctxc n) (ctxLe_cons ctxLe_nil (effective_ChangeDates_1.sigc_le n)) h)
end slices_IndexFunc_int_int_effective_ChangeDates_1
namespace slices_DeleteFunc_int_int_effective_ChangeDates_1
abbrev ps : List PM := [.give (.int .i64), .fn 38]
abbrev rs : List RM := [.own (.int .i64)]
abbrev R : Type := Option (List Int × Unit)
noncomputable def E : Env := { tt := tt, ctx := [(51, slices_IndexFunc_int_int_effective_ChangeDates_1.sig), (38, effective_ChangeDates_1.sig)], nt := 42, ann := [(1000005, [(0, .keep), (1, .keep), (5, .keep), (6, .keep)])] }
noncomputable def c0 : Code := sub [1, 1, 1, 1] (bodyOf Try.f36)
noncomputable def c1 : Code := sub [1, 1, 1, 0, 1, 0, 0] (bodyOf Try.f36)
noncomputable def K6 : Kont := .seq c0 .ret
noncomputable def K8 : Kont := .blk 0 K6
noncomputable def fin : ASt → R := Kret E Try.f36.results.toList ps rs
def tL0 (s : List Int) (i : Int) (j : Int) : ASt := ⟨[(6, .one (.val (.int .i64) j)), (5, .one (.val (.int .i64) i)), (1, .one (.fn 38 [])), (0, .one (.own 0))], [(0, some ⟨.free, .int .i64, s⟩)]⟩
noncomputable def L0 (s : List Int) (i : Int) (j : Int) : R := lim E fin (.loop c1 K8) (tL0 s i j)
noncomputable def SL0 (s : List Int) (i : Int) (j : Int) : R :=
  cond (decide (j < (s.length : Int)))
    (cond (decide (0 ≤ j) && decide (j < (s.length : Int)))
      (Option.bind (effective_ChangeDates_1 (s.getD j.toNat 0)) fun x1 =>
      cond (!x1.1)
        (cond (decide (0 ≤ i) && decide (i < (s.length : Int)))
          (L0 (s.set i.toNat (s.getD j.toNat 0)) (IntKind.i64.wrap (i + 1)) (IntKind.i64.wrap (j + 1)))
          none)
        (L0 s i (IntKind.i64.wrap (j + 1))))
      none)
    (cond (decide ((0 : Int) ≤ i) && (decide ((i : Int) ≤ (s.length : Int)) && decide ((s.length : Int) ≤ (s.length : Int))))
      (cond (decide (0 < (s.length - i.toNat)))
        (cond (decide ((0 : Int) ≤ 0) && (decide ((0 : Int) ≤ i) && decide (i ≤ ((s.take i.toNat ++ (List.replicate (s.length - i.toNat) 0 ++ s.drop (i.toNat + (s.length - i.toNat)))).length : Int))))
          (some (((s.take i.toNat ++ (List.replicate (s.length - i.toNat) 0 ++ s.drop (i.toNat + (s.length - i.toNat)))).take i.toNat), ()))
          none)
        none)
      none)
noncomputable def Se (s : List Int) : R :=
  Option.bind (slices_IndexFunc_int_int_effective_ChangeDates_1 s) fun x1 =>
  cond (x1.1 == (-1))
    (some (s, ()))
    (L0 s x1.1 (IntKind.i64.wrap (x1.1 + 1)))
theorem L0_eq (s i j) : L0 s i j = SL0 s i j := (lim_eq (.loop c1 K8) (tL0 s i j)).trans (by kernel_rfl)
theorem se (x : (argTy ps).den) : run E (lim E fin) fin depth (bodyOf Try.f36) .ret (entryFrom 0 ps x) = Se x.1 := by kernel_rfl
end slices_DeleteFunc_int_int_effective_ChangeDates_1
noncomputable def slices_DeleteFunc_int_int_effective_ChangeDates_1 (s : List Int) : slices_DeleteFunc_int_int_effective_ChangeDates_1.R :=
  slices_DeleteFunc_int_int_effective_ChangeDates_1.Se s
namespace slices_DeleteFunc_int_int_effective_ChangeDates_1
noncomputable def sig : Sig := ⟨ps, rs, fun x => slices_DeleteFunc_int_int_effective_ChangeDates_1 x.1⟩
theorem val (x : (argTy ps).den) : lim E fin (.code (bodyOf Try.f36) .ret) (entryFrom 0 ps x) = sig.run x := (lim_eq (.code (bodyOf Try.f36) .ret) (entryFrom 0 ps x)).trans (se x)
theorem ok : CallOK Try.prog 36 sig :=
  callOK_of_lim (E := E) mixed tt_ok (ctxOk_cons (ctxOk_cons ctxOk_nil effective_ChangeDates_1.ok Try.func38 (by kernel_rfl) (by kernel_rfl)) slices_IndexFunc_int_int_effective_ChangeDates_1.ok Try.func51 (by kernel_rfl) (by kernel_rfl)) Try.func36 (by kernel_rfl : Try.f36.body = some (bodyOf Try.f36)) Try.ntmps36 (of_decide_eq_true (by kernel_rfl)) (of_decide_eq_true (by kernel_rfl)) fun x y h => (val x).trans h
noncomputable def ctxc (n : Nat) : List (Nat × Sig) := [(51, slices_IndexFunc_int_int_effective_ChangeDates_1.sigc n), (38, effective_ChangeDates_1.sigc n)]
noncomputable def sigc (n : Nat) : Sig := ⟨ps, rs, fun x => runs (withCtx E (ctxc n)) fin n (.code (bodyOf Try.f36) .ret) (entryFrom 0 ps x)⟩
theorem sigc_le (n : Nat) : ∀ x y, (sigc n).run x = some y → sig.run x = some y := fun x y h => (val x).symm.trans (runs_lim (E := E) (c := ctxc n) (ctxLe_cons (ctxLe_cons ctxLe_nil (effective_ChangeDates_1.sigc_le n)) (slices_IndexFunc_int_int_effective_ChangeDates_1.sigc_le n)) h)
end slices_DeleteFunc_int_int_effective_ChangeDates_1
namespace effective_ChangeDates
abbrev ps : List PM := [.pure api_Law]
abbrev rs : List RM := [.own (.int .i64)]
abbrev R : Type := Option (List Int × Unit)
noncomputable def E : Env := { tt := tt, ctx := [(37, daterange_Boundaries.sig), (36, slices_DeleteFunc_int_int_effective_ChangeDates_1.sig)], nt := 57, ann := [(1000003, [(1, .keep), (3, .own api_DateRange), (13, .keep), (14, .keep), (15, .keep)]), (1000006, [(1, .keep), (3, .own api_DateRange), (13, .keep), (14, .keep), (15, .keep), (20, .keep), (21, .keep), (22, .keep)]), (1000012, [(3, .own api_DateRange), (34, .keep), (35, .keep), (36, .keep)]), (1000015, [(3, .own api_DateRange), (34, .keep), (35, .keep), (36, .keep), (41, .keep), (42, .keep), (43, .keep)])] }
noncomputable def c0 : Code := sub [1, 1, 1] (bodyOf Try.f19)
noncomputable def c1 : Code := sub [1, 1, 0, 1, 0, 0] (bodyOf Try.f19)
noncomputable def c2 : Code := sub [1, 1, 0, 1, 0, 0, 1, 1, 1] (bodyOf Try.f19)
noncomputable def c3 : Code := sub [1, 1, 1, 1] (bodyOf Try.f19)
noncomputable def c4 : Code := sub [1, 1, 1, 0, 1, 0, 0] (bodyOf Try.f19)
noncomputable def c5 : Code := sub [1, 1, 1, 0, 1, 0, 0, 1, 1, 1] (bodyOf Try.f19)
noncomputable def c6 : Code := sub [1, 1, 0, 1, 0, 0, 1, 1, 0, 0, 1, 1, 0, 0] (bodyOf Try.f19)
noncomputable def c7 : Code := sub [1, 1, 1, 0, 1, 0, 0, 1, 1, 0, 0, 1, 1, 0, 0] (bodyOf Try.f19)
noncomputable def K3 : Kont := .seq c0 .ret
noncomputable def K5 : Kont := .blk 0 K3
noncomputable def K6 : Kont := .loop c1 K5
noncomputable def K9 : Kont := .seq c2 K6
noncomputable def K10 : Kont := .blk 1 K9
noncomputable def K13 : Kont := .blk 2 K10
noncomputable def K15 : Kont := .seq c3 .ret
noncomputable def K17 : Kont := .blk 4 K15
noncomputable def K18 : Kont := .loop c4 K17
noncomputable def K26 : Kont := .seq c5 K18
noncomputable def K27 : Kont := .blk 5 K26
noncomputable def K30 : Kont := .blk 6 K27
noncomputable def fin : ASt → R := Kret E Try.f19.results.toList ps rs
def tL0 (l : api_LawV) (all : List api_DateRangeV) (v_13 : List api_TableV) (v_14 : Int) (v_15 : Int) : ASt := ⟨[(15, .one (.val (.int .i64) v_15)), (14, .one (.val (.int .i64) v_14)), (13, .one (.val (.sl api_Table) v_13)), (3, .one (.own 3)), (1, .one (.optr 1 0 []))], [(3, some ⟨.free, api_DateRange, all⟩), (1, some ⟨.free, api_Law, [l]⟩)]⟩
def tL1 (l : api_LawV) (all : List api_DateRangeV) (v_13 : List api_TableV) (v_14 : Int) (v_15 : Int) (v_20 : List api_RowV) (v_21 : Int) (v_22 : Int) : ASt := ⟨[(22, .one (.val (.int .i64) v_22)), (21, .one (.val (.int .i64) v_21)), (20, .one (.val (.sl api_Row) v_20)), (15, .one (.val (.int .i64) v_15)), (14, .one (.val (.int .i64) v_14)), (13, .one (.val (.sl api_Table) v_13)), (3, .one (.own 3)), (1, .one (.optr 1 0 []))], [(3, some ⟨.free, api_DateRange, all⟩), (1, some ⟨.free, api_Law, [l]⟩)]⟩
def tL2 (all : List api_DateRangeV) (v_34 : List api_ScopeV) (v_35 : Int) (v_36 : Int) : ASt := ⟨[(36, .one (.val (.int .i64) v_36)), (35, .one (.val (.int .i64) v_35)), (34, .one (.val (.sl api_Scope) v_34)), (3, .one (.own 3))], [(3, some ⟨.free, api_DateRange, all⟩)]⟩
def tL3 (all : List api_DateRangeV) (v_34 : List api_ScopeV) (v_35 : Int) (v_36 : Int) (v_41 : List api_RuleV) (v_42 : Int) (v_43 : Int) : ASt := ⟨[(43, .one (.val (.int .i64) v_43)), (42, .one (.val (.int .i64) v_42)), (41, .one (.val (.sl api_Rule) v_41)), (36, .one (.val (.int .i64) v_36)), (35, .one (.val (.int .i64) v_35)), (34, .one (.val (.sl api_Scope) v_34)), (3, .one (.own 3))], [(3, some ⟨.free, api_DateRange, all⟩)]⟩
noncomputable def L0 (l : api_LawV) (all : List api_DateRangeV) (v_13 : List api_TableV) (v_14 : Int) (v_15 : Int) : R := lim E fin (.loop c1 K5) (tL0 l all v_13 v_14 v_15)
noncomputable def L1 (l : api_LawV) (all : List api_DateRangeV) (v_13 : List api_TableV) (v_14 : Int) (v_15 : Int) (v_20 : List api_RowV) (v_21 : Int) (v_22 : Int) : R := lim E fin (.loop c6 K13) (tL1 l all v_13 v_14 v_15 v_20 v_21 v_22)
noncomputable def L2 (all : List api_DateRangeV) (v_34 : List api_ScopeV) (v_35 : Int) (v_36 : Int) : R := lim E fin (.loop c4 K17) (tL2 all v_34 v_35 v_36)
noncomputable def L3 (all : List api_DateRangeV) (v_34 : List api_ScopeV) (v_35 : Int) (v_36 : Int) (v_41 : List api_RuleV) (v_42 : Int) (v_43 : Int) : R := lim E fin (.loop c7 K30) (tL3 all v_34 v_35 v_36 v_41 v_42 v_43)
noncomputable def SL0 (l : api_LawV) (all : List api_DateRangeV) (v_13 : List api_TableV) (v_14 : Int) (v_15 : Int) : R :=
  cond (decide (v_15 < v_14))
    (Option.bind (idx v_13 v_15) fun x1 =>
    L1 l all v_13 v_14 v_15 x1.2.2.2.1 (x1.2.2.2.1.length : Int) 0)
    (L2 all l.2.2.1 (l.2.2.1.length : Int) 0)
noncomputable def SL1 (l : api_LawV) (all : List api_DateRangeV) (v_13 : List api_TableV) (v_14 : Int) (v_15 : Int) (v_20 : List api_RowV) (v_21 : Int) (v_22 : Int) : R :=
  cond (decide (v_22 < v_21))
    (Option.bind (idx v_20 v_22) fun x1 =>
    cond (decide ((all.length + 1) * 16 ≤ room) && decide (0 < Ty.nc (.pair (.int .i64) (.pair (.int .i64) .unit))))
      (L1 l (all ++ [x1.1]) v_13 v_14 v_15 v_20 v_21 (IntKind.i64.wrap (v_22 + 1)))
      none)
    (L0 l all v_13 v_14 (IntKind.i64.wrap (v_15 + 1)))
noncomputable def SL2 (all : List api_DateRangeV) (v_34 : List api_ScopeV) (v_35 : Int) (v_36 : Int) : R :=
  cond (decide (v_36 < v_35))
    (Option.bind (idx v_34 v_36) fun x1 =>
    L3 all v_34 v_35 v_36 x1.2.2.2.2.1 (x1.2.2.2.2.1.length : Int) 0)
    (Option.bind (daterange_Boundaries all) fun x2 =>
    Option.bind (slices_DeleteFunc_int_int_effective_ChangeDates_1 x2.1) fun x3 =>
    some (x3.1, ()))
noncomputable def SL3 (all : List api_DateRangeV) (v_34 : List api_ScopeV) (v_35 : Int) (v_36 : Int) (v_41 : List api_RuleV) (v_42 : Int) (v_43 : Int) : R :=
  cond (decide (v_43 < v_42))
    (Option.bind (idx v_41 v_43) fun x1 =>
    cond (decide ((all.length + 1) * 16 ≤ room) && decide (0 < Ty.nc (.pair (.int .i64) (.pair (.int .i64) .unit))))
      (L3 (all ++ [x1.2.2.2.2.1]) v_34 v_35 v_36 v_41 v_42 (IntKind.i64.wrap (v_43 + 1)))
      none)
    (L2 all v_34 v_35 (IntKind.i64.wrap (v_36 + 1)))
noncomputable def Se (l : api_LawV) : R :=
  L0 l [] l.2.1 (l.2.1.length : Int) 0
theorem L0_eq (l all v_13 v_14 v_15) : L0 l all v_13 v_14 v_15 = SL0 l all v_13 v_14 v_15 := (lim_eq (.loop c1 K5) (tL0 l all v_13 v_14 v_15)).trans (by kernel_rfl)
theorem L1_eq (l all v_13 v_14 v_15 v_20 v_21 v_22) : L1 l all v_13 v_14 v_15 v_20 v_21 v_22 = SL1 l all v_13 v_14 v_15 v_20 v_21 v_22 := (lim_eq (.loop c6 K13) (tL1 l all v_13 v_14 v_15 v_20 v_21 v_22)).trans (by kernel_rfl)
theorem L2_eq (all v_34 v_35 v_36) : L2 all v_34 v_35 v_36 = SL2 all v_34 v_35 v_36 := (lim_eq (.loop c4 K17) (tL2 all v_34 v_35 v_36)).trans (by kernel_rfl)
theorem L3_eq (all v_34 v_35 v_36 v_41 v_42 v_43) : L3 all v_34 v_35 v_36 v_41 v_42 v_43 = SL3 all v_34 v_35 v_36 v_41 v_42 v_43 := (lim_eq (.loop c7 K30) (tL3 all v_34 v_35 v_36 v_41 v_42 v_43)).trans (by kernel_rfl)
theorem se (x : (argTy ps).den) : run E (lim E fin) fin depth (bodyOf Try.f19) .ret (entryFrom 0 ps x) = Se x.1 := by kernel_rfl
end effective_ChangeDates
noncomputable def effective_ChangeDates (l : api_LawV) : effective_ChangeDates.R :=
  effective_ChangeDates.Se l
namespace effective_ChangeDates
noncomputable def sig : Sig := ⟨ps, rs, fun x => effective_ChangeDates x.1⟩
theorem val (x : (argTy ps).den) : lim E fin (.code (bodyOf Try.f19) .ret) (entryFrom 0 ps x) = sig.run x := (lim_eq (.code (bodyOf Try.f19) .ret) (entryFrom 0 ps x)).trans (se x)
theorem ok : CallOK Try.prog 19 sig :=
  callOK_of_lim (E := E) mixed tt_ok (ctxOk_cons (ctxOk_cons ctxOk_nil slices_DeleteFunc_int_int_effective_ChangeDates_1.ok Try.func36 (by kernel_rfl) (by kernel_rfl)) daterange_Boundaries.ok Try.func37 (by kernel_rfl) (by kernel_rfl)) Try.func19 (by kernel_rfl : Try.f19.body = some (bodyOf Try.f19)) Try.ntmps19 (of_decide_eq_true (by kernel_rfl)) (of_decide_eq_true (by kernel_rfl)) fun x y h => (val x).trans h
noncomputable def ctxc (n : Nat) : List (Nat × Sig) := [(37, daterange_Boundaries.sigc n), (36, slices_DeleteFunc_int_int_effective_ChangeDates_1.sigc n)]
noncomputable def sigc (n : Nat) : Sig := ⟨ps, rs, fun x => runs (withCtx E (ctxc n)) fin n (.code (bodyOf Try.f19) .ret) (entryFrom 0 ps x)⟩
theorem sigc_le (n : Nat) : ∀ x y, (sigc n).run x = some y → sig.run x = some y := fun x y h => (val x).symm.trans (runs_lim (E := E) (c := ctxc n) (ctxLe_cons (ctxLe_cons ctxLe_nil (slices_DeleteFunc_int_int_effective_ChangeDates_1.sigc_le n)) (daterange_Boundaries.sigc_le n)) h)
end effective_ChangeDates
namespace law15_awake
abbrev ps : List PM := []
abbrev rs : List RM := [.pure .bool]
abbrev R : Type := Option (Bool × Unit)
noncomputable def E : Env := { tt := tt, ctx := [(23, law15_example.sig), (11, effective_TreeOn.sig), (17, effective_LawOn.sig), (13, same_Ints.sig), (19, effective_ChangeDates.sig)], nt := 83, ann := [] }
noncomputable def fin : ASt → R := Kret E Try.f10.results.toList ps rs
noncomputable def Se : R :=
  Option.bind law15_example fun x1 =>
  Option.bind (effective_TreeOn x1.1 0 120) fun x2 =>
  Option.bind (effective_TreeOn x1.1 0 20) fun x3 =>
  Option.bind (effective_LawOn ([], [], [x1.1], ()) 120) fun x4 =>
  Option.bind (same_Ints x2.1 [1, 2]) fun x5 =>
  cond x5.1
    (Option.bind (same_Ints x2.2.1 [(-1), 0]) fun x6 =>
    cond x6.1
      (Option.bind (same_Ints x2.2.2.1 [3, 0]) fun x7 =>
      cond x7.1
        (Option.bind (same_Ints x3.1 [0, 2]) fun x8 =>
        cond x8.1
          (Option.bind (same_Ints x3.2.1 [(-1), 0]) fun x9 =>
          cond x9.1
            (Option.bind (effective_ChangeDates ([], [], [x1.1], ())) fun x10 =>
            Option.bind (same_Ints x10.1 [50, 100, 200]) fun x11 =>
            cond x11.1
              (cond ((x4.1.2.2.1.length : Int) == 1)
                (Option.bind (idx x4.1.2.2.1 0) fun x12 =>
                cond ((x12.2.2.2.2.1.length : Int) == 2)
                  (Option.bind (idx x4.1.2.2.1 0) fun x13 =>
                  Option.bind (idx x13.2.2.2.2.1 1) fun x14 =>
                  some ((x14.2.2.1 == 0), ()))
                  (some (false, ())))
                (some (false, ())))
              (some (false, ())))
            (some (false, ())))
          (some (false, ())))
        (some (false, ())))
      (some (false, ())))
    (some (false, ()))
theorem se (x : (argTy ps).den) : run E (lim E fin) fin depth (bodyOf Try.f10) .ret (entryFrom 0 ps x) = Se := by kernel_rfl
end law15_awake
noncomputable def law15_awake : law15_awake.R :=
  law15_awake.Se 
namespace law15_awake
noncomputable def sig : Sig := ⟨ps, rs, fun x => law15_awake⟩
theorem val (x : (argTy ps).den) : lim E fin (.code (bodyOf Try.f10) .ret) (entryFrom 0 ps x) = sig.run x := (lim_eq (.code (bodyOf Try.f10) .ret) (entryFrom 0 ps x)).trans (se x)
theorem ok : CallOK Try.prog 10 sig :=
  callOK_of_lim (E := E) mixed tt_ok (ctxOk_cons (ctxOk_cons (ctxOk_cons (ctxOk_cons (ctxOk_cons ctxOk_nil effective_ChangeDates.ok Try.func19 (by kernel_rfl) (by kernel_rfl)) same_Ints.ok Try.func13 (by kernel_rfl) (by kernel_rfl)) effective_LawOn.ok Try.func17 (by kernel_rfl) (by kernel_rfl)) effective_TreeOn.ok Try.func11 (by kernel_rfl) (by kernel_rfl)) law15_example.ok Try.func23 (by kernel_rfl) (by kernel_rfl)) Try.func10 (by kernel_rfl : Try.f10.body = some (bodyOf Try.f10)) Try.ntmps10 (of_decide_eq_true (by kernel_rfl)) (of_decide_eq_true (by kernel_rfl)) fun x y h => (val x).trans h
noncomputable def ctxc (n : Nat) : List (Nat × Sig) := [(23, law15_example.sigc n), (11, effective_TreeOn.sigc n), (17, effective_LawOn.sigc n), (13, same_Ints.sigc n), (19, effective_ChangeDates.sigc n)]
noncomputable def sigc (n : Nat) : Sig := ⟨ps, rs, fun x => runs (withCtx E (ctxc n)) fin n (.code (bodyOf Try.f10) .ret) (entryFrom 0 ps x)⟩
theorem sigc_le (n : Nat) : ∀ x y, (sigc n).run x = some y → sig.run x = some y := fun x y h => (val x).symm.trans (runs_lim (E := E) (c := ctxc n) (ctxLe_cons (ctxLe_cons (ctxLe_cons (ctxLe_cons (ctxLe_cons ctxLe_nil (effective_ChangeDates.sigc_le n)) (same_Ints.sigc_le n)) (effective_LawOn.sigc_le n)) (effective_TreeOn.sigc_le n)) (law15_example.sigc_le n)) h)
end law15_awake
namespace same_smallScope
abbrev ps : List PM := [.pure api_Scope]
abbrev rs : List RM := [.pure .bool]
abbrev R : Type := Option (Bool × Unit)
noncomputable def E : Env := { tt := tt, ctx := [], nt := 93, ann := [(3, [(1, .keep)]), (1000004, [(1, .keep), (3, .keep)]), (1000009, [(1, .keep), (4, .keep)]), (1000014, [(1, .keep), (5, .keep)])] }
noncomputable def c0 : Code := sub [1, 1, 1] (bodyOf Try.f28)
noncomputable def c1 : Code := sub [1, 1, 1, 1] (bodyOf Try.f28)
noncomputable def c2 : Code := sub [1, 1, 1, 1, 1] (bodyOf Try.f28)
noncomputable def c3 : Code := sub [1, 1] (bodyOf Try.f28)
noncomputable def c4 : Code := sub [1, 1, 0, 1, 0, 0] (bodyOf Try.f28)
noncomputable def c5 : Code := sub [1, 1, 1, 0, 1, 0, 0] (bodyOf Try.f28)
noncomputable def c6 : Code := sub [1, 1, 1, 1, 0, 1, 0, 0] (bodyOf Try.f28)
noncomputable def K5 : Kont := .seq c0 .ret
noncomputable def K7 : Kont := .blk 0 K5
noncomputable def K15 : Kont := .seq c1 .ret
noncomputable def K17 : Kont := .blk 2 K15
noncomputable def K25 : Kont := .seq c2 .ret
noncomputable def K27 : Kont := .blk 4 K25
noncomputable def fin : ASt → R := Kret E Try.f28.results.toList ps rs
def tJ0 (s : api_ScopeV) : ASt := ⟨[(1, .one (.optr 1 0 []))], [(1, some ⟨.free, api_Scope, [s]⟩)]⟩
def tL1 (s : api_ScopeV) (i : Int) : ASt := ⟨[(3, .one (.val (.int .i64) i)), (1, .one (.optr 1 0 []))], [(1, some ⟨.free, api_Scope, [s]⟩)]⟩
def tL2 (s : api_ScopeV) (i : Int) : ASt := ⟨[(4, .one (.val (.int .i64) i)), (1, .one (.optr 1 0 []))], [(1, some ⟨.free, api_Scope, [s]⟩)]⟩
def tL3 (s : api_ScopeV) (i : Int) : ASt := ⟨[(5, .one (.val (.int .i64) i)), (1, .one (.optr 1 0 []))], [(1, some ⟨.free, api_Scope, [s]⟩)]⟩
noncomputable def J0 (s : api_ScopeV) : R := lim E fin (.code c3 .ret) (tJ0 s)
noncomputable def L1 (s : api_ScopeV) (i : Int) : R := lim E fin (.loop c4 K7) (tL1 s i)
noncomputable def L2 (s : api_ScopeV) (i : Int) : R := lim E fin (.loop c5 K17) (tL2 s i)
noncomputable def L3 (s : api_ScopeV) (i : Int) : R := lim E fin (.loop c6 K27) (tL3 s i)
noncomputable def SJ0 (s : api_ScopeV) : R :=
  L1 s 0
noncomputable def SL1 (s : api_ScopeV) (i : Int) : R :=
  cond (decide (i < (s.2.2.1.length : Int)))
    (Option.bind (idx s.2.2.1 i) fun x1 =>
    cond (decide ((x1.1.length : Int) > 80))
      (some (false, ()))
      (L1 s (IntKind.i64.wrap (i + 1))))
    (L2 s 0)
noncomputable def SL2 (s : api_ScopeV) (i : Int) : R :=
  cond (decide (i < (s.2.2.2.1.length : Int)))
    (Option.bind (idx s.2.2.2.1 i) fun x1 =>
    cond (decide ((x1.1.length : Int) > 80))
      (some (false, ()))
      (L2 s (IntKind.i64.wrap (i + 1))))
    (L3 s 0)
noncomputable def SL3 (s : api_ScopeV) (i : Int) : R :=
  cond (decide (i < (s.2.2.2.2.1.length : Int)))
    (Option.bind (idx s.2.2.2.2.1 i) fun x1 =>
    cond (decide ((x1.1.length : Int) > 80))
      (some (false, ()))
      (cond (decide ((x1.2.2.2.2.2.2.2.1.length : Int) > 80))
        (some (false, ()))
        (cond (decide ((x1.2.2.2.2.2.1.length : Int) > 50))
          (some (false, ()))
          (cond (decide ((x1.2.2.2.2.2.2.1.length : Int) > 50))
            (some (false, ()))
            (L3 s (IntKind.i64.wrap (i + 1)))))))
    (some (true, ()))
noncomputable def Se (s : api_ScopeV) : R :=
  cond (decide ((s.1.length : Int) > 80))
    (some (false, ()))
    (cond (decide ((s.2.2.1.length : Int) > 14))
      (some (false, ()))
      (cond (decide ((s.2.2.2.1.length : Int) > 14))
        (some (false, ()))
        (cond (decide ((s.2.2.2.2.1.length : Int) > 60))
          (some (false, ()))
          (J0 s))))
theorem J0_eq (s) : J0 s = SJ0 s := (lim_eq (.code c3 .ret) (tJ0 s)).trans (by kernel_rfl)
theorem L1_eq (s i) : L1 s i = SL1 s i := (lim_eq (.loop c4 K7) (tL1 s i)).trans (by kernel_rfl)
theorem L2_eq (s i) : L2 s i = SL2 s i := (lim_eq (.loop c5 K17) (tL2 s i)).trans (by kernel_rfl)
theorem L3_eq (s i) : L3 s i = SL3 s i := (lim_eq (.loop c6 K27) (tL3 s i)).trans (by kernel_rfl)
theorem se (x : (argTy ps).den) : run E (lim E fin) fin depth (bodyOf Try.f28) .ret (entryFrom 0 ps x) = Se x.1 := by kernel_rfl
end same_smallScope
noncomputable def same_smallScope (s : api_ScopeV) : same_smallScope.R :=
  same_smallScope.Se s
namespace same_smallScope
noncomputable def sig : Sig := ⟨ps, rs, fun x => same_smallScope x.1⟩
theorem val (x : (argTy ps).den) : lim E fin (.code (bodyOf Try.f28) .ret) (entryFrom 0 ps x) = sig.run x := (lim_eq (.code (bodyOf Try.f28) .ret) (entryFrom 0 ps x)).trans (se x)
theorem ok : CallOK Try.prog 28 sig :=
  callOK_of_lim (E := E) mixed tt_ok ctxOk_nil Try.func28 (by kernel_rfl : Try.f28.body = some (bodyOf Try.f28)) Try.ntmps28 (of_decide_eq_true (by kernel_rfl)) (of_decide_eq_true (by kernel_rfl)) fun x y h => (val x).trans h
noncomputable def ctxc (n : Nat) : List (Nat × Sig) := []
noncomputable def sigc (n : Nat) : Sig := ⟨ps, rs, fun x => runs (withCtx E (ctxc n)) fin n (.code (bodyOf Try.f28) .ret) (entryFrom 0 ps x)⟩
theorem sigc_le (n : Nat) : ∀ x y, (sigc n).run x = some y → sig.run x = some y := fun x y h => (val x).symm.trans (runs_lim (E := E) (c := ctxc n) ctxLe_nil h)
end same_smallScope
namespace same_SmallLaw
abbrev ps : List PM := [.pure api_Law]
abbrev rs : List RM := [.pure .bool]
abbrev R : Type := Option (Bool × Unit)
noncomputable def E : Env := { tt := tt, ctx := [(28, same_smallScope.sig)], nt := 127, ann := [(3, [(1, .keep)]), (1000006, [(1, .keep), (3, .keep), (4, .keep), (5, .keep)]), (10, [(1, .keep), (3, .keep), (4, .keep), (5, .keep)]), (1000016, [(1, .keep), (3, .keep), (4, .keep), (7, .keep)]), (1000011, [(1, .keep), (3, .keep), (4, .keep), (5, .keep), (6, .keep)]), (1000022, [(1, .keep), (4, .keep), (8, .keep)])] }
noncomputable def c0 : Code := sub [1, 1, 1, 1, 1] (bodyOf Try.f15)
noncomputable def c1 : Code := sub [1, 1, 1, 1, 0, 1, 0, 0] (bodyOf Try.f15)
noncomputable def c2 : Code := sub [1, 1, 1, 1, 0, 1, 0, 0, 1, 1] (bodyOf Try.f15)
noncomputable def c3 : Code := sub [1, 1, 1, 1, 1, 1] (bodyOf Try.f15)
noncomputable def c4 : Code := sub [1, 1, 1, 1, 1, 1, 1] (bodyOf Try.f15)
noncomputable def c5 : Code := sub [1, 1] (bodyOf Try.f15)
noncomputable def c6 : Code := sub [1, 1, 1, 1, 0, 1, 0, 0, 1, 0, 0, 1] (bodyOf Try.f15)
noncomputable def c7 : Code := sub [1, 1, 1, 1, 1, 0, 1, 0, 0] (bodyOf Try.f15)
noncomputable def c8 : Code := sub [1, 1, 1, 1, 0, 1, 0, 0, 1, 0, 0, 1, 1, 0, 0] (bodyOf Try.f15)
noncomputable def c9 : Code := sub [1, 1, 1, 1, 1, 1, 0, 1, 0, 0] (bodyOf Try.f15)
noncomputable def K7 : Kont := .seq c0 .ret
noncomputable def K9 : Kont := .blk 0 K7
noncomputable def K10 : Kont := .loop c1 K9
noncomputable def K13 : Kont := .seq c2 K10
noncomputable def K14 : Kont := .blk 1 K13
noncomputable def K18 : Kont := .seq c3 .ret
noncomputable def K20 : Kont := .blk 4 K18
noncomputable def K23 : Kont := .blk 2 K14
noncomputable def K32 : Kont := .seq c4 .ret
noncomputable def K34 : Kont := .blk 6 K32
noncomputable def fin : ASt → R := Kret E Try.f15.results.toList ps rs
def tJ0 (l : api_LawV) : ASt := ⟨[(1, .one (.optr 1 0 []))], [(1, some ⟨.free, api_Law, [l]⟩)]⟩
def tL1 (l : api_LawV) (rows : Int) (rules : Int) (i : Int) : ASt := ⟨[(5, .one (.val (.int .i64) i)), (4, .one (.val (.int .i64) rules)), (3, .one (.val (.int .i64) rows)), (1, .one (.optr 1 0 []))], [(1, some ⟨.free, api_Law, [l]⟩)]⟩
def tJ2 (l : api_LawV) (rows : Int) (rules : Int) (i : Int) : ASt := ⟨[(5, .one (.val (.int .i64) i)), (4, .one (.val (.int .i64) rules)), (3, .one (.val (.int .i64) rows)), (1, .one (.optr 1 0 []))], [(1, some ⟨.free, api_Law, [l]⟩)]⟩
def tL3 (l : api_LawV) (rows : Int) (rules : Int) (i : Int) : ASt := ⟨[(7, .one (.val (.int .i64) i)), (4, .one (.val (.int .i64) rules)), (3, .one (.val (.int .i64) rows)), (1, .one (.optr 1 0 []))], [(1, some ⟨.free, api_Law, [l]⟩)]⟩
def tL4 (l : api_LawV) (rows : Int) (rules : Int) (i : Int) (k : Int) : ASt := ⟨[(6, .one (.val (.int .i64) k)), (5, .one (.val (.int .i64) i)), (4, .one (.val (.int .i64) rules)), (3, .one (.val (.int .i64) rows)), (1, .one (.optr 1 0 []))], [(1, some ⟨.free, api_Law, [l]⟩)]⟩
def tL5 (l : api_LawV) (rules : Int) (i : Int) : ASt := ⟨[(8, .one (.val (.int .i64) i)), (4, .one (.val (.int .i64) rules)), (1, .one (.optr 1 0 []))], [(1, some ⟨.free, api_Law, [l]⟩)]⟩
noncomputable def J0 (l : api_LawV) : R := lim E fin (.code c5 .ret) (tJ0 l)
noncomputable def L1 (l : api_LawV) (rows : Int) (rules : Int) (i : Int) : R := lim E fin (.loop c1 K9) (tL1 l rows rules i)
noncomputable def J2 (l : api_LawV) (rows : Int) (rules : Int) (i : Int) : R := lim E fin (.code c6 K14) (tJ2 l rows rules i)
noncomputable def L3 (l : api_LawV) (rows : Int) (rules : Int) (i : Int) : R := lim E fin (.loop c7 K20) (tL3 l rows rules i)
noncomputable def L4 (l : api_LawV) (rows : Int) (rules : Int) (i : Int) (k : Int) : R := lim E fin (.loop c8 K23) (tL4 l rows rules i k)
noncomputable def L5 (l : api_LawV) (rules : Int) (i : Int) : R := lim E fin (.loop c9 K34) (tL5 l rules i)
noncomputable def SJ0 (l : api_LawV) : R :=
  L1 l 0 0 0
noncomputable def SL1 (l : api_LawV) (rows : Int) (rules : Int) (i : Int) : R :=
  cond (decide (i < (l.1.length : Int)))
    (Option.bind (idx l.1 i) fun x1 =>
    cond (decide ((x1.1.length : Int) > 80))
      (some (false, ()))
      (Option.bind (idx l.1 i) fun x2 =>
      cond (decide ((x2.2.1.length : Int) > 20))
        (some (false, ()))
        (J2 l rows rules i)))
    (L3 l rows rules 0)
noncomputable def SJ2 (l : api_LawV) (rows : Int) (rules : Int) (i : Int) : R :=
  L4 l rows rules i 0
noncomputable def SL3 (l : api_LawV) (rows : Int) (rules : Int) (i : Int) : R :=
  cond (decide (i < (l.2.1.length : Int)))
    (Option.bind (idx l.2.1 i) fun x1 =>
    Option.bind (idx l.2.1 i) fun x2 =>
    cond (decide ((x2.1.length : Int) > 80))
      (some (false, ()))
      (cond (decide ((IntKind.i64.wrap (rows + (x1.2.2.2.1.length : Int))) > 150))
        (some (false, ()))
        (L3 l (IntKind.i64.wrap (rows + (x1.2.2.2.1.length : Int))) rules (IntKind.i64.wrap (i + 1)))))
    (L5 l rules 0)
noncomputable def SL4 (l : api_LawV) (rows : Int) (rules : Int) (i : Int) (k : Int) : R :=
  Option.bind (idx l.1 i) fun x1 =>
  cond (decide (k < (x1.2.1.length : Int)))
    (Option.bind (idx l.1 i) fun x2 =>
    Option.bind (idx x2.2.1 k) fun x3 =>
    cond (decide ((x3.length : Int) > 80))
      (some (false, ()))
      (L4 l rows rules i (IntKind.i64.wrap (k + 1))))
    (L1 l rows rules (IntKind.i64.wrap (i + 1)))
noncomputable def SL5 (l : api_LawV) (rules : Int) (i : Int) : R :=
  cond (decide (i < (l.2.2.1.length : Int)))
    (Option.bind (idx l.2.2.1 i) fun x1 =>
    cond (decide ((IntKind.i64.wrap (rules + (x1.2.2.2.2.1.length : Int))) > 60))
      (some (false, ()))
      (Option.bind (idx l.2.2.1 i) fun x2 =>
      Option.bind (same_smallScope x2) fun x3 =>
      cond (!x3.1)
        (some (false, ()))
        (L5 l (IntKind.i64.wrap (rules + (x1.2.2.2.2.1.length : Int))) (IntKind.i64.wrap (i + 1)))))
    (some (true, ()))
noncomputable def Se (l : api_LawV) : R :=
  cond (decide ((l.1.length : Int) > 9))
    (some (false, ()))
    (cond (decide ((l.2.1.length : Int) > 9))
      (some (false, ()))
      (cond (decide ((l.2.2.1.length : Int) > 5))
        (some (false, ()))
        (J0 l)))
theorem J0_eq (l) : J0 l = SJ0 l := (lim_eq (.code c5 .ret) (tJ0 l)).trans (by kernel_rfl)
theorem L1_eq (l rows rules i) : L1 l rows rules i = SL1 l rows rules i := (lim_eq (.loop c1 K9) (tL1 l rows rules i)).trans (by kernel_rfl)
theorem J2_eq (l rows rules i) : J2 l rows rules i = SJ2 l rows rules i := (lim_eq (.code c6 K14) (tJ2 l rows rules i)).trans (by kernel_rfl)
theorem L3_eq (l rows rules i) : L3 l rows rules i = SL3 l rows rules i := (lim_eq (.loop c7 K20) (tL3 l rows rules i)).trans (by kernel_rfl)
theorem L4_eq (l rows rules i k) : L4 l rows rules i k = SL4 l rows rules i k := (lim_eq (.loop c8 K23) (tL4 l rows rules i k)).trans (by kernel_rfl)
theorem L5_eq (l rules i) : L5 l rules i = SL5 l rules i := (lim_eq (.loop c9 K34) (tL5 l rules i)).trans (by kernel_rfl)
theorem se (x : (argTy ps).den) : run E (lim E fin) fin depth (bodyOf Try.f15) .ret (entryFrom 0 ps x) = Se x.1 := by kernel_rfl
end same_SmallLaw
noncomputable def same_SmallLaw (l : api_LawV) : same_SmallLaw.R :=
  same_SmallLaw.Se l
namespace same_SmallLaw
noncomputable def sig : Sig := ⟨ps, rs, fun x => same_SmallLaw x.1⟩
theorem val (x : (argTy ps).den) : lim E fin (.code (bodyOf Try.f15) .ret) (entryFrom 0 ps x) = sig.run x := (lim_eq (.code (bodyOf Try.f15) .ret) (entryFrom 0 ps x)).trans (se x)
theorem ok : CallOK Try.prog 15 sig :=
  callOK_of_lim (E := E) mixed tt_ok (ctxOk_cons ctxOk_nil same_smallScope.ok Try.func28 (by kernel_rfl) (by kernel_rfl)) Try.func15 (by kernel_rfl : Try.f15.body = some (bodyOf Try.f15)) Try.ntmps15 (of_decide_eq_true (by kernel_rfl)) (of_decide_eq_true (by kernel_rfl)) fun x y h => (val x).trans h
noncomputable def ctxc (n : Nat) : List (Nat × Sig) := [(28, same_smallScope.sigc n)]
noncomputable def sigc (n : Nat) : Sig := ⟨ps, rs, fun x => runs (withCtx E (ctxc n)) fin n (.code (bodyOf Try.f15) .ret) (entryFrom 0 ps x)⟩
theorem sigc_le (n : Nat) : ∀ x y, (sigc n).run x = some y → sig.run x = some y := fun x y h => (val x).symm.trans (runs_lim (E := E) (c := ctxc n) (ctxLe_cons ctxLe_nil (same_smallScope.sigc_le n)) h)
end same_SmallLaw
end Go.Proofs.Ytojafdgkcamliaa
