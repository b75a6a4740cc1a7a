import Derived.Test.YtmmimgjakoacaaaCode1
set_option maxRecDepth 100000
set_option linter.unusedVariables false
namespace Go.Proofs.Ytmmimgjakoacaaa
open Go Go.Lift
namespace slices_partitionOrdered_int
abbrev ps : List PM := [.own (.int .i64), .pure (.int .i64), .pure (.int .i64), .pure (.int .i64)]
abbrev rs : List RM := [.pure (.int .i64), .pure .bool]
abbrev R : Type := Option (Int × Bool × List Int × Unit)
noncomputable def E : Env := { tt := tt, ctx := [(48, cmp_Less_int.sig)], nt := 168, ann := [(5, [(0, .keep), (1, .keep), (10, .keep), (11, .keep)]), (1000003, [(0, .keep), (1, .keep), (10, .keep), (11, .keep)]), (7, [(0, .keep), (1, .keep), (10, .keep), (11, .keep)]), (1000005, [(0, .keep), (1, .keep), (10, .keep), (11, .keep)]), (1000013, [(0, .keep), (1, .keep), (10, .keep), (11, .keep)]), (15, [(0, .keep), (1, .keep), (10, .keep), (11, .keep)]), (1000013, [(0, .keep), (1, .keep), (10, .keep), (11, .keep)]), (17, [(0, .keep), (1, .keep), (10, .keep), (11, .keep)]), (1000015, [(0, .keep), (1, .keep), (10, .keep), (11, .keep)])] }
noncomputable def c0 : Code := sub [1, 1, 1, 1] (bodyOf Try.f50)
noncomputable def c1 : Code := sub [1, 1, 1, 1, 1] (bodyOf Try.f50)
noncomputable def c2 : Code := sub [1, 1, 1, 1, 1, 1, 1, 1, 1, 1] (bodyOf Try.f50)
noncomputable def c3 : Code := sub [1, 1, 1, 1, 1, 1, 1, 1, 1, 0, 0, 0] (bodyOf Try.f50)
noncomputable def c4 : Code := sub [1, 1, 1, 1, 1, 1, 1, 1, 1, 0, 0, 0, 0, 1] (bodyOf Try.f50)
noncomputable def c5 : Code := sub [1, 1, 1, 1, 1, 1, 1, 1, 1, 0, 0, 0, 0, 1, 1] (bodyOf Try.f50)
noncomputable def c6 : Code := sub [1, 1, 1, 0, 0, 0] (bodyOf Try.f50)
noncomputable def c7 : Code := sub [1, 1, 1, 1, 0, 0, 0] (bodyOf Try.f50)
noncomputable def c8 : Code := sub [1, 1, 1, 1, 1, 1, 1, 1, 1, 0, 0, 0, 0, 0, 0, 0] (bodyOf Try.f50)
noncomputable def c9 : Code := sub [1, 1, 1, 1, 1, 1, 1, 1, 1, 0, 0, 0, 0, 1, 0, 0, 0] (bodyOf Try.f50)
noncomputable def K4 : Kont := .seq c0 .ret
noncomputable def K5 : Kont := .blk 0 K4
noncomputable def K10 : Kont := .seq c1 .ret
noncomputable def K11 : Kont := .blk 2 K10
noncomputable def K23 : Kont := .seq c2 .ret
noncomputable def K24 : Kont := .blk 4 K23
noncomputable def K25 : Kont := .loop c3 K24
noncomputable def K26 : Kont := .blk 5 K25
noncomputable def K27 : Kont := .seq c4 K26
noncomputable def K28 : Kont := .blk 6 K27
noncomputable def K33 : Kont := .seq c5 K26
noncomputable def K34 : Kont := .blk 8 K33
noncomputable def fin : ASt → R := Kret E Try.f50.results.toList ps rs
def tJ0 (a : Int) (i : Int) (j : Int) (data_P : List Int) : ASt := ⟨[(11, .one (.val (.int .i64) j)), (10, .one (.val (.int .i64) i)), (1, .one (.val (.int .i64) a)), (0, .one (.own 10000))], [(10000, some ⟨.fixed, .int .i64, data_P⟩)]⟩
def tL1 (a : Int) (i : Int) (j : Int) (data_P : List Int) : ASt := ⟨[(11, .one (.val (.int .i64) j)), (10, .one (.val (.int .i64) i)), (1, .one (.val (.int .i64) a)), (0, .one (.own 10000))], [(10000, some ⟨.fixed, .int .i64, data_P⟩)]⟩
def tJ2 (a : Int) (i : Int) (j : Int) (data_P : List Int) : ASt := ⟨[(11, .one (.val (.int .i64) j)), (10, .one (.val (.int .i64) i)), (1, .one (.val (.int .i64) a)), (0, .one (.own 10000))], [(10000, some ⟨.fixed, .int .i64, data_P⟩)]⟩
def tL3 (a : Int) (i : Int) (j : Int) (data_P : List Int) : ASt := ⟨[(11, .one (.val (.int .i64) j)), (10, .one (.val (.int .i64) i)), (1, .one (.val (.int .i64) a)), (0, .one (.own 10000))], [(10000, some ⟨.fixed, .int .i64, data_P⟩)]⟩
def tL4 (a : Int) (i : Int) (j : Int) (data_P : List Int) : ASt := ⟨[(11, .one (.val (.int .i64) j)), (10, .one (.val (.int .i64) i)), (1, .one (.val (.int .i64) a)), (0, .one (.own 10000))], [(10000, some ⟨.fixed, .int .i64, data_P⟩)]⟩
def tJ5 (a : Int) (i : Int) (j : Int) (data_P : List Int) : ASt := ⟨[(11, .one (.val (.int .i64) j)), (10, .one (.val (.int .i64) i)), (1, .one (.val (.int .i64) a)), (0, .one (.own 10000))], [(10000, some ⟨.fixed, .int .i64, data_P⟩)]⟩
def tL6 (a : Int) (i : Int) (j : Int) (data_P : List Int) : ASt := ⟨[(11, .one (.val (.int .i64) j)), (10, .one (.val (.int .i64) i)), (1, .one (.val (.int .i64) a)), (0, .one (.own 10000))], [(10000, some ⟨.fixed, .int .i64, data_P⟩)]⟩
def tJ7 (a : Int) (i : Int) (j : Int) (data_P : List Int) : ASt := ⟨[(11, .one (.val (.int .i64) j)), (10, .one (.val (.int .i64) i)), (1, .one (.val (.int .i64) a)), (0, .one (.own 10000))], [(10000, some ⟨.fixed, .int .i64, data_P⟩)]⟩
def tL8 (a : Int) (i : Int) (j : Int) (data_P : List Int) : ASt := ⟨[(11, .one (.val (.int .i64) j)), (10, .one (.val (.int .i64) i)), (1, .one (.val (.int .i64) a)), (0, .one (.own 10000))], [(10000, some ⟨.fixed, .int .i64, data_P⟩)]⟩
noncomputable def J0 (a : Int) (i : Int) (j : Int) (data_P : List Int) : R := lim E fin (.code c0 .ret) (tJ0 a i j data_P)
noncomputable def L1 (a : Int) (i : Int) (j : Int) (data_P : List Int) : R := lim E fin (.loop c6 K5) (tL1 a i j data_P)
noncomputable def J2 (a : Int) (i : Int) (j : Int) (data_P : List Int) : R := lim E fin (.code c1 .ret) (tJ2 a i j data_P)
noncomputable def L3 (a : Int) (i : Int) (j : Int) (data_P : List Int) : R := lim E fin (.loop c7 K11) (tL3 a i j data_P)
noncomputable def L4 (a : Int) (i : Int) (j : Int) (data_P : List Int) : R := lim E fin (.loop c3 K24) (tL4 a i j data_P)
noncomputable def J5 (a : Int) (i : Int) (j : Int) (data_P : List Int) : R := lim E fin (.code c4 K26) (tJ5 a i j data_P)
noncomputable def L6 (a : Int) (i : Int) (j : Int) (data_P : List Int) : R := lim E fin (.loop c8 K28) (tL6 a i j data_P)
noncomputable def J7 (a : Int) (i : Int) (j : Int) (data_P : List Int) : R := lim E fin (.code c5 K26) (tJ7 a i j data_P)
noncomputable def L8 (a : Int) (i : Int) (j : Int) (data_P : List Int) : R := lim E fin (.loop c9 K34) (tL8 a i j data_P)
noncomputable def SJ0 (a : Int) (i : Int) (j : Int) (data_P : List Int) : R :=
  L3 a i j data_P
noncomputable def SL1 (a : Int) (i : Int) (j : Int) (data_P : List Int) : R :=
  cond (decide (i ≤ j))
    (cond (decide (0 ≤ i) && decide (i < (data_P.length : Int)))
      (cond (decide (0 ≤ a) && decide (a < (data_P.length : Int)))
        (Option.bind (cmp_Less_int (data_P.getD i.toNat 0) (data_P.getD a.toNat 0)) fun x1 =>
        cond x1.1
          (L1 a (IntKind.i64.wrap (i + 1)) j data_P)
          (J0 a i j data_P))
        none)
      none)
    (J0 a i j data_P)
noncomputable def SJ2 (a : Int) (i : Int) (j : Int) (data_P : List Int) : R :=
  cond (decide (i > j))
    (cond (decide (0 ≤ a) && decide (a < (data_P.length : Int)))
      (cond (decide (0 ≤ j) && decide (j < (data_P.length : Int)))
        (cond (decide (0 ≤ j) && decide (j < (data_P.length : Int)))
          (cond (decide (0 ≤ a) && decide (a < ((data_P.set j.toNat (data_P.getD a.toNat 0)).length : Int)))
            (some (j, true, ((data_P.set j.toNat (data_P.getD a.toNat 0)).set a.toNat (data_P.getD j.toNat 0)), ()))
            none)
          none)
        none)
      none)
    (cond (decide (0 ≤ j) && decide (j < (data_P.length : Int)))
      (cond (decide (0 ≤ i) && decide (i < (data_P.length : Int)))
        (cond (decide (0 ≤ i) && decide (i < (data_P.length : Int)))
          (cond (decide (0 ≤ j) && decide (j < ((data_P.set i.toNat (data_P.getD j.toNat 0)).length : Int)))
            (L4 a (IntKind.i64.wrap (i + 1)) (IntKind.i64.wrap (j - 1)) ((data_P.set i.toNat (data_P.getD j.toNat 0)).set j.toNat (data_P.getD i.toNat 0)))
            none)
          none)
        none)
      none)
noncomputable def SL3 (a : Int) (i : Int) (j : Int) (data_P : List Int) : R :=
  cond (decide (i ≤ j))
    (cond (decide (0 ≤ j) && decide (j < (data_P.length : Int)))
      (cond (decide (0 ≤ a) && decide (a < (data_P.length : Int)))
        (Option.bind (cmp_Less_int (data_P.getD j.toNat 0) (data_P.getD a.toNat 0)) fun x1 =>
        cond (!x1.1)
          (L3 a i (IntKind.i64.wrap (j - 1)) data_P)
          (J2 a i j data_P))
        none)
      none)
    (J2 a i j data_P)
noncomputable def SL4 (a : Int) (i : Int) (j : Int) (data_P : List Int) : R :=
  L6 a i j data_P
noncomputable def SJ5 (a : Int) (i : Int) (j : Int) (data_P : List Int) : R :=
  L8 a i j data_P
noncomputable def SL6 (a : Int) (i : Int) (j : Int) (data_P : List Int) : R :=
  cond (decide (i ≤ j))
    (cond (decide (0 ≤ i) && decide (i < (data_P.length : Int)))
      (cond (decide (0 ≤ a) && decide (a < (data_P.length : Int)))
        (Option.bind (cmp_Less_int (data_P.getD i.toNat 0) (data_P.getD a.toNat 0)) fun x1 =>
        cond x1.1
          (L6 a (IntKind.i64.wrap (i + 1)) j data_P)
          (J5 a i j data_P))
        none)
      none)
    (J5 a i j data_P)
noncomputable def SJ7 (a : Int) (i : Int) (j : Int) (data_P : List Int) : R :=
  cond (decide (i > j))
    (cond (decide (0 ≤ a) && decide (a < (data_P.length : Int)))
      (cond (decide (0 ≤ j) && decide (j < (data_P.length : Int)))
        (cond (decide (0 ≤ j) && decide (j < (data_P.length : Int)))
          (cond (decide (0 ≤ a) && decide (a < ((data_P.set j.toNat (data_P.getD a.toNat 0)).length : Int)))
            (some (j, false, ((data_P.set j.toNat (data_P.getD a.toNat 0)).set a.toNat (data_P.getD j.toNat 0)), ()))
            none)
          none)
        none)
      none)
    (cond (decide (0 ≤ j) && decide (j < (data_P.length : Int)))
      (cond (decide (0 ≤ i) && decide (i < (data_P.length : Int)))
        (cond (decide (0 ≤ i) && decide (i < (data_P.length : Int)))
          (cond (decide (0 ≤ j) && decide (j < ((data_P.set i.toNat (data_P.getD j.toNat 0)).length : Int)))
            (L4 a (IntKind.i64.wrap (i + 1)) (IntKind.i64.wrap (j - 1)) ((data_P.set i.toNat (data_P.getD j.toNat 0)).set j.toNat (data_P.getD i.toNat 0)))
            none)
          none)
        none)
      none)
noncomputable def SL8 (a : Int) (i : Int) (j : Int) (data_P : List Int) : R :=
  cond (decide (i ≤ j))
    (cond (decide (0 ≤ j) && decide (j < (data_P.length : Int)))
      (cond (decide (0 ≤ a) && decide (a < (data_P.length : Int)))
        (Option.bind (cmp_Less_int (data_P.getD j.toNat 0) (data_P.getD a.toNat 0)) fun x1 =>
        cond (!x1.1)
          (L8 a i (IntKind.i64.wrap (j - 1)) data_P)
          (J7 a i j data_P))
        none)
      none)
    (J7 a i j data_P)
noncomputable def Se (data : List Int) (a : Int) (b : Int) (pivot : Int) : R :=
  cond (decide (0 ≤ pivot) && decide (pivot < (data.length : Int)))
    (cond (decide (0 ≤ a) && decide (a < (data.length : Int)))
      (cond (decide (0 ≤ a) && decide (a < (data.length : Int)))
        (cond (decide (0 ≤ pivot) && decide (pivot < ((data.set a.toNat (data.getD pivot.toNat 0)).length : Int)))
          (L1 a (IntKind.i64.wrap (a + 1)) (IntKind.i64.wrap (b - 1)) ((data.set a.toNat (data.getD pivot.toNat 0)).set pivot.toNat (data.getD a.toNat 0)))
          none)
        none)
      none)
    none
theorem J0_eq (a i j data_P) : J0 a i j data_P = SJ0 a i j data_P := (lim_eq (.code c0 .ret) (tJ0 a i j data_P)).trans (by kernel_rfl)
theorem L1_eq (a i j data_P) : L1 a i j data_P = SL1 a i j data_P := (lim_eq (.loop c6 K5) (tL1 a i j data_P)).trans (by kernel_rfl)
theorem J2_eq (a i j data_P) : J2 a i j data_P = SJ2 a i j data_P := (lim_eq (.code c1 .ret) (tJ2 a i j data_P)).trans (by kernel_rfl)
theorem L3_eq (a i j data_P) : L3 a i j data_P = SL3 a i j data_P := (lim_eq (.loop c7 K11) (tL3 a i j data_P)).trans (by kernel_rfl)
theorem L4_eq (a i j data_P) : L4 a i j data_P = SL4 a i j data_P := (lim_eq (.loop c3 K24) (tL4 a i j data_P)).trans (by kernel_rfl)
theorem J5_eq (a i j data_P) : J5 a i j data_P = SJ5 a i j data_P := (lim_eq (.code c4 K26) (tJ5 a i j data_P)).trans (by kernel_rfl)
theorem L6_eq (a i j data_P) : L6 a i j data_P = SL6 a i j data_P := (lim_eq (.loop c8 K28) (tL6 a i j data_P)).trans (by kernel_rfl)
theorem J7_eq (a i j data_P) : J7 a i j data_P = SJ7 a i j data_P := (lim_eq (.code c5 K26) (tJ7 a i j data_P)).trans (by kernel_rfl)
theorem L8_eq (a i j data_P) : L8 a i j data_P = SL8 a i j data_P := (lim_eq (.loop c9 K34) (tL8 a i j data_P)).trans (by kernel_rfl)
theorem se (x : (argTy ps).den) : run E (lim E fin) fin depth (bodyOf Try.f50) .ret (entryFrom 0 ps x) = Se x.1 x.2.1 x.2.2.1 x.2.2.2.1 := by kernel_rfl
end slices_partitionOrdered_int
noncomputable def slices_partitionOrdered_int (data : List Int) (a : Int) (b : Int) (pivot : Int) : slices_partitionOrdered_int.R :=
  slices_partitionOrdered_int.Se data a b pivot
namespace slices_partitionOrdered_int
noncomputable def sig : Sig := ⟨ps, rs, fun x => slices_partitionOrdered_int x.1 x.2.1 x.2.2.1 x.2.2.2.1⟩
theorem val (x : (argTy ps).den) : lim E fin (.code (bodyOf Try.f50) .ret) (entryFrom 0 ps x) = sig.run x := (lim_eq (.code (bodyOf Try.f50) .ret) (entryFrom 0 ps x)).trans (se x)
theorem ok : CallOK Try.prog 50 sig :=
  callOK_of_lim (E := E) mixed tt_ok (ctxOk_cons ctxOk_nil cmp_Less_int.ok Try.func48 (by kernel_rfl) (by kernel_rfl)) Try.func50 (by kernel_rfl : Try.f50.body = some (bodyOf Try.f50)) Try.ntmps50 (of_decide_eq_true (by kernel_rfl)) (of_decide_eq_true (by kernel_rfl)) (fun x y h => (val x).trans h)
noncomputable def ctxc (n : Nat) : List (Nat × Sig) := [(48, cmp_Less_int.sigc n)]
noncomputable def sigc (n : Nat) : Sig := ⟨ps, rs, fun x => runs (withCtx E (ctxc n)) fin n (.code (bodyOf Try.f50) .ret) (entryFrom 0 ps x)⟩
theorem sigc_le (n : Nat) : ∀ x y, (sigc n).run x = some y → sig.run x = some y := fun x y h => (val x).symm.trans (runs_lim (E := E) (c := ctxc n) (ctxLe_cons ctxLe_nil (cmp_Less_int.sigc_le n)) h)
end slices_partitionOrdered_int
namespace slices_pdqsortOrdered_int
abbrev ps : List PM := [.own (.int .i64), .pure (.int .i64), .pure (.int .i64), .pure (.int .i64)]
abbrev rs : List RM := []
abbrev R : Type := Option (List Int × Unit)
noncomputable def E0 : Env := { tt := tt, ctx := [], nt := 134, ann := [(1000002, [(0, .keep), (1, .keep), (2, .keep), (3, .keep), (8, .keep), (9, .keep)]), (10, [(0, .keep), (1, .keep), (2, .keep), (3, .keep), (8, .keep), (9, .keep), (10, .keep)]), (15, [(0, .keep), (1, .keep), (2, .keep), (3, .keep), (8, .keep), (9, .keep), (10, .keep), (11, .keep), (12, .keep)]), (17, [(0, .keep), (1, .keep), (2, .keep), (3, .keep), (8, .keep), (9, .keep), (10, .keep), (11, .keep)]), (18, [(0, .keep), (1, .keep), (2, .keep), (3, .keep), (8, .keep), (9, .keep), (10, .keep), (11, .keep), (87, .keep)])] }
noncomputable def ctx0 : List (Nat × Sig) := [(42, slices_insertionSortOrdered_int.sig), (43, slices_heapSortOrdered_int.sig), (44, slices_breakPatternsOrdered_int.sig), (45, slices_choosePivotOrdered_int.sig), (46, slices_reverseRangeOrdered_int.sig), (47, slices_partialInsertionSortOrdered_int.sig), (48, cmp_Less_int.sig), (49, slices_partitionEqualOrdered_int.sig), (50, slices_partitionOrdered_int.sig)]
noncomputable def E (self : (List Int) → Int → Int → Int → R) : Env := withCtx E0 ((40, ⟨ps, rs, fun x => self x.1 x.2.1 x.2.2.1 x.2.2.2.1⟩) :: ctx0)
noncomputable def c0 : Code := sub [1, 1, 0, 0] (bodyOf Try.f40)
noncomputable def c1 : Code := sub [1, 1, 0, 0, 0, 1, 1, 1, 1, 1, 1, 1, 1] (bodyOf Try.f40)
noncomputable def c2 : Code := sub [1, 1, 0, 0, 0, 1, 1, 1, 1] (bodyOf Try.f40)
noncomputable def c3 : Code := sub [1, 1, 0, 0, 0, 1, 1, 1, 1, 1, 1] (bodyOf Try.f40)
noncomputable def c4 : Code := sub [1, 1, 0, 0, 0, 1, 1, 1, 1, 1, 1, 1] (bodyOf Try.f40)
noncomputable def c5 : Code := sub [1, 1, 0, 0, 0, 1, 1, 1, 1, 1, 1, 1, 0, 1] (bodyOf Try.f40)
noncomputable def K3 : Kont := .blk 0 .ret
noncomputable def K4 : Kont := .loop c0 K3
noncomputable def K5 : Kont := .blk 1 K4
noncomputable def K24 : Kont := .seq c1 K5
noncomputable def fin : ASt → R := Kret E0 Try.f40.results.toList ps rs
def tL0 (a : Int) (b : Int) (limit : Int) (wasBalanced : Bool) (wasPartitioned : Bool) (data_P : List Int) : ASt := ⟨[(9, .one (.val .bool wasPartitioned)), (8, .one (.val .bool wasBalanced)), (3, .one (.val (.int .i64) limit)), (2, .one (.val (.int .i64) b)), (1, .one (.val (.int .i64) a)), (0, .one (.own 10000))], [(10000, some ⟨.fixed, .int .i64, data_P⟩)]⟩
def tJ1 (a : Int) (b : Int) (limit : Int) (wasBalanced : Bool) (wasPartitioned : Bool) (length_10 : Int) (data_P : List Int) : ASt := ⟨[(10, .one (.val (.int .i64) length_10)), (9, .one (.val .bool wasPartitioned)), (8, .one (.val .bool wasBalanced)), (3, .one (.val (.int .i64) limit)), (2, .one (.val (.int .i64) b)), (1, .one (.val (.int .i64) a)), (0, .one (.own 10000))], [(10000, some ⟨.fixed, .int .i64, data_P⟩)]⟩
def tJ2 (a : Int) (b : Int) (limit : Int) (wasBalanced : Bool) (wasPartitioned : Bool) (length_10 : Int) (pivot : Int) (hint : Int) (data_P : List Int) : ASt := ⟨[(12, .one (.val (.int .i64) hint)), (11, .one (.val (.int .i64) pivot)), (10, .one (.val (.int .i64) length_10)), (9, .one (.val .bool wasPartitioned)), (8, .one (.val .bool wasBalanced)), (3, .one (.val (.int .i64) limit)), (2, .one (.val (.int .i64) b)), (1, .one (.val (.int .i64) a)), (0, .one (.own 10000))], [(10000, some ⟨.fixed, .int .i64, data_P⟩)]⟩
def tJ3 (a : Int) (b : Int) (limit : Int) (wasBalanced : Bool) (wasPartitioned : Bool) (length_10 : Int) (pivot : Int) (data_P : List Int) : ASt := ⟨[(11, .one (.val (.int .i64) pivot)), (10, .one (.val (.int .i64) length_10)), (9, .one (.val .bool wasPartitioned)), (8, .one (.val .bool wasBalanced)), (3, .one (.val (.int .i64) limit)), (2, .one (.val (.int .i64) b)), (1, .one (.val (.int .i64) a)), (0, .one (.own 10000))], [(10000, some ⟨.fixed, .int .i64, data_P⟩)]⟩
def tJ4 (a : Int) (b : Int) (limit : Int) (wasBalanced : Bool) (wasPartitioned : Bool) (length_10 : Int) (pivot : Int) (v_87 : Bool) (data_P : List Int) : ASt := ⟨[(87, .one (.val .bool v_87)), (11, .one (.val (.int .i64) pivot)), (10, .one (.val (.int .i64) length_10)), (9, .one (.val .bool wasPartitioned)), (8, .one (.val .bool wasBalanced)), (3, .one (.val (.int .i64) limit)), (2, .one (.val (.int .i64) b)), (1, .one (.val (.int .i64) a)), (0, .one (.own 10000))], [(10000, some ⟨.fixed, .int .i64, data_P⟩)]⟩
noncomputable def SL0 (self : (List Int) → Int → Int → Int → R) (kJ1 : Int → Int → Int → Bool → Bool → Int → (List Int) → R) (a : Int) (b : Int) (limit : Int) (wasBalanced : Bool) (wasPartitioned : Bool) (data_P : List Int) : R :=
  cond (decide ((IntKind.i64.wrap (b - a)) ≤ 12))
    (Option.bind (slices_insertionSortOrdered_int data_P a b) fun x1 =>
    some (x1.1, ()))
    (cond (limit == 0)
      (Option.bind (slices_heapSortOrdered_int data_P a b) fun x2 =>
      some (x2.1, ()))
      (cond (!wasBalanced)
        (Option.bind (slices_breakPatternsOrdered_int data_P a b) fun x3 =>
        kJ1 a b (IntKind.i64.wrap (limit - 1)) wasBalanced wasPartitioned (IntKind.i64.wrap (b - a)) x3.1)
        (kJ1 a b limit wasBalanced wasPartitioned (IntKind.i64.wrap (b - a)) data_P)))
noncomputable def SJ1 (self : (List Int) → Int → Int → Int → R) (kJ2 : Int → Int → Int → Bool → Bool → Int → Int → Int → (List Int) → R) (a : Int) (b : Int) (limit : Int) (wasBalanced : Bool) (wasPartitioned : Bool) (length_10 : Int) (data_P : List Int) : R :=
  Option.bind (slices_choosePivotOrdered_int data_P a b) fun x1 =>
  cond (x1.2.1 == 2)
    (Option.bind (slices_reverseRangeOrdered_int data_P a b) fun x2 =>
    kJ2 a b limit wasBalanced wasPartitioned length_10 (IntKind.i64.wrap ((IntKind.i64.wrap (b - 1)) - (IntKind.i64.wrap (x1.1 - a)))) 1 x2.1)
    (kJ2 a b limit wasBalanced wasPartitioned length_10 x1.1 x1.2.1 data_P)
noncomputable def SJ2 (self : (List Int) → Int → Int → Int → R) (kJ3 : Int → Int → Int → Bool → Bool → Int → Int → (List Int) → R) (a : Int) (b : Int) (limit : Int) (wasBalanced : Bool) (wasPartitioned : Bool) (length_10 : Int) (pivot : Int) (hint : Int) (data_P : List Int) : R :=
  cond wasBalanced
    (cond wasPartitioned
      (cond (hint == 1)
        (Option.bind (slices_partialInsertionSortOrdered_int data_P a b) fun x1 =>
        cond x1.1
          (some (x1.2.1, ()))
          (kJ3 a b limit wasBalanced wasPartitioned length_10 pivot x1.2.1))
        (kJ3 a b limit wasBalanced wasPartitioned length_10 pivot data_P))
      (kJ3 a b limit wasBalanced wasPartitioned length_10 pivot data_P))
    (kJ3 a b limit wasBalanced wasPartitioned length_10 pivot data_P)
noncomputable def SJ3 (self : (List Int) → Int → Int → Int → R) (kJ4 : Int → Int → Int → Bool → Bool → Int → Int → Bool → (List Int) → R) (a : Int) (b : Int) (limit : Int) (wasBalanced : Bool) (wasPartitioned : Bool) (length_10 : Int) (pivot : Int) (data_P : List Int) : R :=
  cond (decide (a > 0))
    (cond (decide (0 ≤ IntKind.i64.wrap (a - 1)) && decide (IntKind.i64.wrap (a - 1) < (data_P.length : Int)))
      (cond (decide (0 ≤ pivot) && decide (pivot < (data_P.length : Int)))
        (Option.bind (cmp_Less_int (data_P.getD ((IntKind.i64.wrap (a - 1)).toNat) 0) (data_P.getD pivot.toNat 0)) fun x1 =>
        kJ4 a b limit wasBalanced wasPartitioned length_10 pivot (!x1.1) data_P)
        none)
      none)
    (kJ4 a b limit wasBalanced wasPartitioned length_10 pivot false data_P)
noncomputable def SJ4 (self : (List Int) → Int → Int → Int → R) (kL0 : Int → Int → Int → Bool → Bool → (List Int) → R) (a : Int) (b : Int) (limit : Int) (wasBalanced : Bool) (wasPartitioned : Bool) (length_10 : Int) (pivot : Int) (v_87 : Bool) (data_P : List Int) : R :=
  cond v_87
    (Option.bind (slices_partitionEqualOrdered_int data_P a b pivot) fun x1 =>
    kL0 x1.1 b limit wasBalanced wasPartitioned x1.2.1)
    (Option.bind (slices_partitionOrdered_int data_P a b pivot) fun x2 =>
    cond (decide ((IntKind.i64.wrap (x2.1 - a)) < (IntKind.i64.wrap (b - x2.1))))
      (Option.bind (self x2.2.2.1 a x2.1 limit) fun x3 =>
      kL0 (IntKind.i64.wrap (x2.1 + 1)) b limit (decide ((IntKind.i64.wrap (x2.1 - a)) ≥ (IntKind.i64.wrap (Int.tdiv length_10 8)))) x2.2.1 x3.1)
      (Option.bind (self x2.2.2.1 (IntKind.i64.wrap (x2.1 + 1)) b limit) fun x4 =>
      kL0 a x2.1 limit (decide ((IntKind.i64.wrap (b - x2.1)) ≥ (IntKind.i64.wrap (Int.tdiv length_10 8)))) x2.2.1 x4.1))
noncomputable def Se (self : (List Int) → Int → Int → Int → R) (kL0 : Int → Int → Int → Bool → Bool → (List Int) → R) (data : List Int) (a : Int) (b : Int) (limit : Int) : R :=
  kL0 a b limit true true data
theorem sL0 (self : (List Int) → Int → Int → Int → R) (jmp : Tgt → ASt → R) (a : Int) (b : Int) (limit : Int) (wasBalanced : Bool) (wasPartitioned : Bool) (data_P : List Int) : run (E self) jmp fin depth c0 (.loop c0 K3) (tL0 a b limit wasBalanced wasPartitioned data_P) =
    SL0 self (fun a b limit wasBalanced wasPartitioned length_10 data_P => jmp (.code c2 K5) (tJ1 a b limit wasBalanced wasPartitioned length_10 data_P)) a b limit wasBalanced wasPartitioned data_P := by kernel_rfl
theorem sJ1 (self : (List Int) → Int → Int → Int → R) (jmp : Tgt → ASt → R) (a : Int) (b : Int) (limit : Int) (wasBalanced : Bool) (wasPartitioned : Bool) (length_10 : Int) (data_P : List Int) : run (E self) jmp fin depth c2 K5 (tJ1 a b limit wasBalanced wasPartitioned length_10 data_P) =
    SJ1 self (fun a b limit wasBalanced wasPartitioned length_10 pivot hint data_P => jmp (.code c3 K5) (tJ2 a b limit wasBalanced wasPartitioned length_10 pivot hint data_P)) a b limit wasBalanced wasPartitioned length_10 data_P := by kernel_rfl
theorem sJ2 (self : (List Int) → Int → Int → Int → R) (jmp : Tgt → ASt → R) (a : Int) (b : Int) (limit : Int) (wasBalanced : Bool) (wasPartitioned : Bool) (length_10 : Int) (pivot : Int) (hint : Int) (data_P : List Int) : run (E self) jmp fin depth c3 K5 (tJ2 a b limit wasBalanced wasPartitioned length_10 pivot hint data_P) =
    SJ2 self (fun a b limit wasBalanced wasPartitioned length_10 pivot data_P => jmp (.code c4 K5) (tJ3 a b limit wasBalanced wasPartitioned length_10 pivot data_P)) a b limit wasBalanced wasPartitioned length_10 pivot hint data_P := by kernel_rfl
theorem sJ3 (self : (List Int) → Int → Int → Int → R) (jmp : Tgt → ASt → R) (a : Int) (b : Int) (limit : Int) (wasBalanced : Bool) (wasPartitioned : Bool) (length_10 : Int) (pivot : Int) (data_P : List Int) : run (E self) jmp fin depth c4 K5 (tJ3 a b limit wasBalanced wasPartitioned length_10 pivot data_P) =
    SJ3 self (fun a b limit wasBalanced wasPartitioned length_10 pivot v_87 data_P => jmp (.code c5 K24) (tJ4 a b limit wasBalanced wasPartitioned length_10 pivot v_87 data_P)) a b limit wasBalanced wasPartitioned length_10 pivot data_P := by kernel_rfl
theorem sJ4 (self : (List Int) → Int → Int → Int → R) (jmp : Tgt → ASt → R) (a : Int) (b : Int) (limit : Int) (wasBalanced : Bool) (wasPartitioned : Bool) (length_10 : Int) (pivot : Int) (v_87 : Bool) (data_P : List Int) : run (E self) jmp fin depth c5 K24 (tJ4 a b limit wasBalanced wasPartitioned length_10 pivot v_87 data_P) =
    SJ4 self (fun a b limit wasBalanced wasPartitioned data_P => jmp (.loop c0 K3) (tL0 a b limit wasBalanced wasPartitioned data_P)) a b limit wasBalanced wasPartitioned length_10 pivot v_87 data_P := by kernel_rfl
theorem se (self : (List Int) → Int → Int → Int → R) (jmp : Tgt → ASt → R) (x : (argTy ps).den) : run (E self) jmp fin depth (bodyOf Try.f40) .ret (entryFrom 0 ps x) =
    Se self (fun a b limit wasBalanced wasPartitioned data_P => jmp (.loop c0 K3) (tL0 a b limit wasBalanced wasPartitioned data_P)) x.1 x.2.1 x.2.2.1 x.2.2.2.1 := by kernel_rfl
end slices_pdqsortOrdered_int
noncomputable def slices_pdqsortOrdered_int (data : List Int) (a : Int) (b : Int) (limit : Int) : slices_pdqsortOrdered_int.R :=
  recF slices_pdqsortOrdered_int.E0 slices_pdqsortOrdered_int.ctx0 40 slices_pdqsortOrdered_int.ps slices_pdqsortOrdered_int.rs slices_pdqsortOrdered_int.fin (bodyOf Try.f40) (data, a, b, limit, ())
namespace slices_pdqsortOrdered_int
noncomputable def L0 (a : Int) (b : Int) (limit : Int) (wasBalanced : Bool) (wasPartitioned : Bool) (data_P : List Int) : R := lim (E slices_pdqsortOrdered_int) fin (.loop c0 K3) (tL0 a b limit wasBalanced wasPartitioned data_P)
noncomputable def J1 (a : Int) (b : Int) (limit : Int) (wasBalanced : Bool) (wasPartitioned : Bool) (length_10 : Int) (data_P : List Int) : R := lim (E slices_pdqsortOrdered_int) fin (.code c2 K5) (tJ1 a b limit wasBalanced wasPartitioned length_10 data_P)
noncomputable def J2 (a : Int) (b : Int) (limit : Int) (wasBalanced : Bool) (wasPartitioned : Bool) (length_10 : Int) (pivot : Int) (hint : Int) (data_P : List Int) : R := lim (E slices_pdqsortOrdered_int) fin (.code c3 K5) (tJ2 a b limit wasBalanced wasPartitioned length_10 pivot hint data_P)
noncomputable def J3 (a : Int) (b : Int) (limit : Int) (wasBalanced : Bool) (wasPartitioned : Bool) (length_10 : Int) (pivot : Int) (data_P : List Int) : R := lim (E slices_pdqsortOrdered_int) fin (.code c4 K5) (tJ3 a b limit wasBalanced wasPartitioned length_10 pivot data_P)
noncomputable def J4 (a : Int) (b : Int) (limit : Int) (wasBalanced : Bool) (wasPartitioned : Bool) (length_10 : Int) (pivot : Int) (v_87 : Bool) (data_P : List Int) : R := lim (E slices_pdqsortOrdered_int) fin (.code c5 K24) (tJ4 a b limit wasBalanced wasPartitioned length_10 pivot v_87 data_P)
theorem L0_eq (a : Int) (b : Int) (limit : Int) (wasBalanced : Bool) (wasPartitioned : Bool) (data_P : List Int) : L0 a b limit wasBalanced wasPartitioned data_P = SL0 slices_pdqsortOrdered_int J1 a b limit wasBalanced wasPartitioned data_P :=
  (lim_eq (.loop c0 K3) (tL0 a b limit wasBalanced wasPartitioned data_P)).trans (sL0 slices_pdqsortOrdered_int (lim (E slices_pdqsortOrdered_int) fin) a b limit wasBalanced wasPartitioned data_P)
theorem J1_eq (a : Int) (b : Int) (limit : Int) (wasBalanced : Bool) (wasPartitioned : Bool) (length_10 : Int) (data_P : List Int) : J1 a b limit wasBalanced wasPartitioned length_10 data_P = SJ1 slices_pdqsortOrdered_int J2 a b limit wasBalanced wasPartitioned length_10 data_P :=
  (lim_eq (.code c2 K5) (tJ1 a b limit wasBalanced wasPartitioned length_10 data_P)).trans (sJ1 slices_pdqsortOrdered_int (lim (E slices_pdqsortOrdered_int) fin) a b limit wasBalanced wasPartitioned length_10 data_P)
theorem J2_eq (a : Int) (b : Int) (limit : Int) (wasBalanced : Bool) (wasPartitioned : Bool) (length_10 : Int) (pivot : Int) (hint : Int) (data_P : List Int) : J2 a b limit wasBalanced wasPartitioned length_10 pivot hint data_P = SJ2 slices_pdqsortOrdered_int J3 a b limit wasBalanced wasPartitioned length_10 pivot hint data_P :=
  (lim_eq (.code c3 K5) (tJ2 a b limit wasBalanced wasPartitioned length_10 pivot hint data_P)).trans (sJ2 slices_pdqsortOrdered_int (lim (E slices_pdqsortOrdered_int) fin) a b limit wasBalanced wasPartitioned length_10 pivot hint data_P)
theorem J3_eq (a : Int) (b : Int) (limit : Int) (wasBalanced : Bool) (wasPartitioned : Bool) (length_10 : Int) (pivot : Int) (data_P : List Int) : J3 a b limit wasBalanced wasPartitioned length_10 pivot data_P = SJ3 slices_pdqsortOrdered_int J4 a b limit wasBalanced wasPartitioned length_10 pivot data_P :=
  (lim_eq (.code c4 K5) (tJ3 a b limit wasBalanced wasPartitioned length_10 pivot data_P)).trans (sJ3 slices_pdqsortOrdered_int (lim (E slices_pdqsortOrdered_int) fin) a b limit wasBalanced wasPartitioned length_10 pivot data_P)
theorem J4_eq (a : Int) (b : Int) (limit : Int) (wasBalanced : Bool) (wasPartitioned : Bool) (length_10 : Int) (pivot : Int) (v_87 : Bool) (data_P : List Int) : J4 a b limit wasBalanced wasPartitioned length_10 pivot v_87 data_P = SJ4 slices_pdqsortOrdered_int L0 a b limit wasBalanced wasPartitioned length_10 pivot v_87 data_P :=
  (lim_eq (.code c5 K24) (tJ4 a b limit wasBalanced wasPartitioned length_10 pivot v_87 data_P)).trans (sJ4 slices_pdqsortOrdered_int (lim (E slices_pdqsortOrdered_int) fin) a b limit wasBalanced wasPartitioned length_10 pivot v_87 data_P)
theorem selfrun : (fun x : (argTy ps).den => slices_pdqsortOrdered_int x.1 x.2.1 x.2.2.1 x.2.2.2.1) = recF E0 ctx0 40 ps rs fin (bodyOf Try.f40) := by kernel_rfl
end slices_pdqsortOrdered_int
noncomputable def slices_pdqsortOrdered_int.sig : Sig := ⟨slices_pdqsortOrdered_int.ps, slices_pdqsortOrdered_int.rs, fun x => slices_pdqsortOrdered_int x.1 x.2.1 x.2.2.1 x.2.2.2.1⟩
theorem slices_pdqsortOrdered_int.val (x : (argTy slices_pdqsortOrdered_int.ps).den) : lim (slices_pdqsortOrdered_int.E slices_pdqsortOrdered_int) slices_pdqsortOrdered_int.fin (.code (bodyOf Try.f40) .ret) (entryFrom 0 slices_pdqsortOrdered_int.ps x) = slices_pdqsortOrdered_int.sig.run x := by
  have h := recF_eq (E := slices_pdqsortOrdered_int.E0) (ctx := slices_pdqsortOrdered_int.ctx0) (f := 40) (ps := slices_pdqsortOrdered_int.ps) (rs := slices_pdqsortOrdered_int.rs) (fin := slices_pdqsortOrdered_int.fin) (body := bodyOf Try.f40) x
  rw [← slices_pdqsortOrdered_int.selfrun] at h
  exact h.symm
theorem slices_pdqsortOrdered_int.ok : CallOK Try.prog 40 slices_pdqsortOrdered_int.sig := by
  have h := callOK_rec (E := slices_pdqsortOrdered_int.E0) (ctx := slices_pdqsortOrdered_int.ctx0) (f := 40) (ps := slices_pdqsortOrdered_int.ps) (rs := slices_pdqsortOrdered_int.rs) (fin := slices_pdqsortOrdered_int.fin) (body := bodyOf Try.f40) mixed tt_ok (ctxOk_cons (ctxOk_cons (ctxOk_cons (ctxOk_cons (ctxOk_cons (ctxOk_cons (ctxOk_cons (ctxOk_cons (ctxOk_cons ctxOk_nil slices_partitionOrdered_int.ok Try.func50 (by kernel_rfl) (by kernel_rfl)) slices_partitionEqualOrdered_int.ok Try.func49 (by kernel_rfl) (by kernel_rfl)) cmp_Less_int.ok Try.func48 (by kernel_rfl) (by kernel_rfl)) slices_partialInsertionSortOrdered_int.ok Try.func47 (by kernel_rfl) (by kernel_rfl)) slices_reverseRangeOrdered_int.ok Try.func46 (by kernel_rfl) (by kernel_rfl)) slices_choosePivotOrdered_int.ok Try.func45 (by kernel_rfl) (by kernel_rfl)) slices_breakPatternsOrdered_int.ok Try.func44 (by kernel_rfl) (by kernel_rfl)) slices_heapSortOrdered_int.ok Try.func43 (by kernel_rfl) (by kernel_rfl)) slices_insertionSortOrdered_int.ok Try.func42 (by kernel_rfl) (by kernel_rfl)) Try.func40 (by kernel_rfl : Try.f40.body = some (bodyOf Try.f40)) (by kernel_rfl) (by kernel_rfl) Try.ntmps40 (of_decide_eq_true (by kernel_rfl)) (of_decide_eq_true (by kernel_rfl)) rfl
  rw [← slices_pdqsortOrdered_int.selfrun] at h
  exact h
noncomputable def slices_pdqsortOrdered_int.ctxc (n : Nat) : List (Nat × Sig) := [(42, slices_insertionSortOrdered_int.sigc n), (43, slices_heapSortOrdered_int.sigc n), (44, slices_breakPatternsOrdered_int.sigc n), (45, slices_choosePivotOrdered_int.sigc n), (46, slices_reverseRangeOrdered_int.sigc n), (47, slices_partialInsertionSortOrdered_int.sigc n), (48, cmp_Less_int.sigc n), (49, slices_partitionEqualOrdered_int.sigc n), (50, slices_partitionOrdered_int.sigc n)]
noncomputable def slices_pdqsortOrdered_int.runc (n : Nat) : Nat → (argTy slices_pdqsortOrdered_int.ps).den → slices_pdqsortOrdered_int.R
  | 0, _ => none
  | d + 1, x => runs (withCtx slices_pdqsortOrdered_int.E0 ((40, ⟨slices_pdqsortOrdered_int.ps, slices_pdqsortOrdered_int.rs, slices_pdqsortOrdered_int.runc n d⟩) :: slices_pdqsortOrdered_int.ctxc n)) slices_pdqsortOrdered_int.fin n (.code (bodyOf Try.f40) .ret) (entryFrom 0 slices_pdqsortOrdered_int.ps x)
noncomputable def slices_pdqsortOrdered_int.sigc (n : Nat) : Sig := ⟨slices_pdqsortOrdered_int.ps, slices_pdqsortOrdered_int.rs, slices_pdqsortOrdered_int.runc n n⟩
theorem slices_pdqsortOrdered_int.runc_le (n : Nat) : ∀ d x y, slices_pdqsortOrdered_int.runc n d x = some y → slices_pdqsortOrdered_int.sig.run x = some y := by
  intro d
  induction d with
  | zero => intro x y h; cases h
  | succ d ih => exact fun x y h => (slices_pdqsortOrdered_int.val x).symm.trans (runs_lim (E := slices_pdqsortOrdered_int.E slices_pdqsortOrdered_int) (c := (40, ⟨slices_pdqsortOrdered_int.ps, slices_pdqsortOrdered_int.rs, slices_pdqsortOrdered_int.runc n d⟩) :: slices_pdqsortOrdered_int.ctxc n) (ctxLe_cons (ctxLe_cons (ctxLe_cons (ctxLe_cons (ctxLe_cons (ctxLe_cons (ctxLe_cons (ctxLe_cons (ctxLe_cons (ctxLe_cons ctxLe_nil (slices_partitionOrdered_int.sigc_le n)) (slices_partitionEqualOrdered_int.sigc_le n)) (cmp_Less_int.sigc_le n)) (slices_partialInsertionSortOrdered_int.sigc_le n)) (slices_reverseRangeOrdered_int.sigc_le n)) (slices_choosePivotOrdered_int.sigc_le n)) (slices_breakPatternsOrdered_int.sigc_le n)) (slices_heapSortOrdered_int.sigc_le n)) (slices_insertionSortOrdered_int.sigc_le n)) ih) h)
theorem slices_pdqsortOrdered_int.sigc_le (n : Nat) : ∀ x y, (slices_pdqsortOrdered_int.sigc n).run x = some y → slices_pdqsortOrdered_int.sig.run x = some y := slices_pdqsortOrdered_int.runc_le n n
namespace slices_Sort_int_int
abbrev ps : List PM := [.own (.int .i64)]
abbrev rs : List RM := []
abbrev R : Type := Option (List Int × Unit)
noncomputable def E : Env := { tt := tt, ctx := [(41, math_bits_Len.sig), (40, slices_pdqsortOrdered_int.sig)], nt := 11, ann := [] }
noncomputable def fin : ASt → R := Kret E Try.f38.results.toList ps rs
noncomputable def Se (x_0 : List Int) : R :=
  Option.bind (math_bits_Len (IntKind.u64.wrap (x_0.length : Int))) fun x1 =>
  Option.bind (slices_pdqsortOrdered_int x_0 0 (x_0.length : Int) x1.1) fun x2 =>
  some (x2.1, ())
theorem se (x : (argTy ps).den) : run E (lim E fin) fin depth (bodyOf Try.f38) .ret (entryFrom 0 ps x) = Se x.1 := by kernel_rfl
end slices_Sort_int_int
noncomputable def slices_Sort_int_int (x_0 : List Int) : slices_Sort_int_int.R :=
  slices_Sort_int_int.Se x_0
namespace slices_Sort_int_int
noncomputable def sig : Sig := ⟨ps, rs, fun x => slices_Sort_int_int x.1⟩
theorem val (x : (argTy ps).den) : lim E fin (.code (bodyOf Try.f38) .ret) (entryFrom 0 ps x) = sig.run x := (lim_eq (.code (bodyOf Try.f38) .ret) (entryFrom 0 ps x)).trans (se x)
theorem ok : CallOK Try.prog 38 sig :=
  callOK_of_lim (E := E) mixed tt_ok (ctxOk_cons (ctxOk_cons ctxOk_nil slices_pdqsortOrdered_int.ok Try.func40 (by kernel_rfl) (by kernel_rfl)) math_bits_Len.ok Try.func41 (by kernel_rfl) (by kernel_rfl)) Try.func38 (by kernel_rfl : Try.f38.body = some (bodyOf Try.f38)) Try.ntmps38 (of_decide_eq_true (by kernel_rfl)) (of_decide_eq_true (by kernel_rfl)) (fun x y h => (val x).trans h)
noncomputable def ctxc (n : Nat) : List (Nat × Sig) := [(41, math_bits_Len.sigc n), (40, slices_pdqsortOrdered_int.sigc n)]
noncomputable def sigc (n : Nat) : Sig := ⟨ps, rs, fun x => runs (withCtx E (ctxc n)) fin n (.code (bodyOf Try.f38) .ret) (entryFrom 0 ps x)⟩
theorem sigc_le (n : Nat) : ∀ x y, (sigc n).run x = some y → sig.run x = some y := fun x y h => (val x).symm.trans (runs_lim (E := E) (c := ctxc n) (ctxLe_cons (ctxLe_cons ctxLe_nil (slices_pdqsortOrdered_int.sigc_le n)) (math_bits_Len.sigc_le n)) h)
end slices_Sort_int_int
namespace slices_Compact_int_int
abbrev ps : List PM := [.give (.int .i64)]
abbrev rs : List RM := [.own (.int .i64)]
abbrev R : Type := Option (List Int × Unit)
noncomputable def E : Env := { tt := tt, ctx := [], nt := 61, ann := [(1000004, [(0, .keep), (3, .keep)]), (1000009, [(0, .keep), (3, .keep), (4, .keep), (5, .keep)])] }
noncomputable def c0 : Code := sub [1, 1, 1] (bodyOf Try.f39)
noncomputable def c1 : Code := sub [1, 1, 0, 1, 0, 0] (bodyOf Try.f39)
noncomputable def c2 : Code := sub [1, 1, 0, 1, 0, 0, 1, 1] (bodyOf Try.f39)
noncomputable def c3 : Code := sub [1, 1, 0, 1, 0, 0, 1, 0, 0, 1, 0, 1, 1] (bodyOf Try.f39)
noncomputable def c4 : Code := sub [1, 1, 0, 1, 0, 0, 1, 0, 0, 1, 0, 1, 0, 1, 0, 0] (bodyOf Try.f39)
noncomputable def K5 : Kont := .seq c0 .ret
noncomputable def K7 : Kont := .blk 0 K5
noncomputable def K8 : Kont := .loop c1 K7
noncomputable def K11 : Kont := .seq c2 K8
noncomputable def K12 : Kont := .blk 1 K11
noncomputable def K15 : Kont := .seq c3 K12
noncomputable def K17 : Kont := .blk 2 K15
noncomputable def fin : ASt → R := Kret E Try.f39.results.toList ps rs
def tL0 (s : List Int) (k : Int) : ASt := ⟨[(3, .one (.val (.int .i64) k)), (0, .one (.own 0))], [(0, some ⟨.free, .int .i64, s⟩)]⟩
def tL1 (s : List Int) (k : Int) (s2_lo : Nat) (s2_len : Nat) (k2 : Int) : ASt := ⟨[(5, .one (.val (.int .i64) k2)), (4, .one (.osub 0 s2_lo s2_len)), (3, .one (.val (.int .i64) k)), (0, .one (.own 0))], [(0, some ⟨.free, .int .i64, s⟩)]⟩
noncomputable def L0 (s : List Int) (k : Int) : R := lim E fin (.loop c1 K7) (tL0 s k)
noncomputable def L1 (s : List Int) (k : Int) (s2_lo : Nat) (s2_len : Nat) (k2 : Int) : R := lim E fin (.loop c4 K17) (tL1 s k s2_lo s2_len k2)
noncomputable def SL0 (s : List Int) (k : Int) : R :=
  cond (decide (k < (s.length : Int)))
    (cond (decide (0 ≤ k) && decide (k < (s.length : Int)))
      (cond (decide (0 ≤ IntKind.i64.wrap (k - 1)) && decide (IntKind.i64.wrap (k - 1) < (s.length : Int)))
        (cond ((s.getD k.toNat 0) == (s.getD ((IntKind.i64.wrap (k - 1)).toNat) 0))
          (cond (decide ((0 : Int) ≤ k) && (decide ((k : Int) ≤ (s.length : Int)) && decide ((s.length : Int) ≤ (s.length : Int))))
            (L1 s k k.toNat (s.length - k.toNat) 1)
            none)
          (L0 s (IntKind.i64.wrap (k + 1))))
        none)
      none)
    (some (s, ()))
noncomputable def SL1 (s : List Int) (k : Int) (s2_lo : Nat) (s2_len : Nat) (k2 : Int) : R :=
  cond (decide (k2 < (s2_len : Int)))
    (cond (decide (0 ≤ k2) && decide (k2 < ((s2_len : Nat) : Int)))
      (cond (decide (0 ≤ IntKind.i64.wrap (k2 - 1)) && decide (IntKind.i64.wrap (k2 - 1) < ((s2_len : Nat) : Int)))
        (cond ((s.getD (s2_lo + k2.toNat) 0) != (s.getD (s2_lo + (IntKind.i64.wrap (k2 - 1)).toNat) 0))
          (cond (decide (0 ≤ k2) && decide (k2 < ((s2_len : Nat) : Int)))
            (cond (decide (0 ≤ k) && decide (k < (s.length : Int)))
              (L1 (s.set k.toNat (s.getD (s2_lo + k2.toNat) 0)) (IntKind.i64.wrap (k + 1)) s2_lo s2_len (IntKind.i64.wrap (k2 + 1)))
              none)
            none)
          (L1 s k s2_lo s2_len (IntKind.i64.wrap (k2 + 1))))
        none)
      none)
    (cond (decide ((0 : Int) ≤ k) && (decide ((k : Int) ≤ (s.length : Int)) && decide ((s.length : Int) ≤ (s.length : Int))))
      (cond (decide (0 < (s.length - k.toNat)))
        (cond (decide ((0 : Int) ≤ 0) && (decide ((0 : Int) ≤ k) && decide (k ≤ ((s.take k.toNat ++ (List.replicate (s.length - k.toNat) 0 ++ s.drop (k.toNat + (s.length - k.toNat)))).length : Int))))
          (some (((s.take k.toNat ++ (List.replicate (s.length - k.toNat) 0 ++ s.drop (k.toNat + (s.length - k.toNat)))).take k.toNat), ()))
          none)
        none)
      none)
noncomputable def Se (s : List Int) : R :=
  cond (decide ((s.length : Int) < 2))
    (some (s, ()))
    (L0 s 1)
theorem L0_eq (s k) : L0 s k = SL0 s k := (lim_eq (.loop c1 K7) (tL0 s k)).trans (by kernel_rfl)
theorem L1_eq (s k s2_lo s2_len k2) : L1 s k s2_lo s2_len k2 = SL1 s k s2_lo s2_len k2 := (lim_eq (.loop c4 K17) (tL1 s k s2_lo s2_len k2)).trans (by kernel_rfl)
theorem se (x : (argTy ps).den) : run E (lim E fin) fin depth (bodyOf Try.f39) .ret (entryFrom 0 ps x) = Se x.1 := by kernel_rfl
end slices_Compact_int_int
noncomputable def slices_Compact_int_int (s : List Int) : slices_Compact_int_int.R :=
  slices_Compact_int_int.Se s
namespace slices_Compact_int_int
noncomputable def sig : Sig := ⟨ps, rs, fun x => slices_Compact_int_int x.1⟩
theorem val (x : (argTy ps).den) : lim E fin (.code (bodyOf Try.f39) .ret) (entryFrom 0 ps x) = sig.run x := (lim_eq (.code (bodyOf Try.f39) .ret) (entryFrom 0 ps x)).trans (se x)
theorem ok : CallOK Try.prog 39 sig :=
  callOK_of_lim (E := E) mixed tt_ok ctxOk_nil Try.func39 (by kernel_rfl : Try.f39.body = some (bodyOf Try.f39)) Try.ntmps39 (of_decide_eq_true (by kernel_rfl)) (of_decide_eq_true (by kernel_rfl)) (fun x y h => (val x).trans h)
noncomputable def ctxc (n : Nat) : List (Nat × Sig) := []
noncomputable def sigc (n : Nat) : Sig := ⟨ps, rs, fun x => runs (withCtx E (ctxc n)) fin n (.code (bodyOf Try.f39) .ret) (entryFrom 0 ps x)⟩
theorem sigc_le (n : Nat) : ∀ x y, (sigc n).run x = some y → sig.run x = some y := fun x y h => (val x).symm.trans (runs_lim (E := E) (c := ctxc n) ctxLe_nil h)
end slices_Compact_int_int
namespace daterange_Boundaries
abbrev ps : List PM := [.pure (.sl api_DateRange)]
abbrev rs : List RM := [.own (.int .i64)]
abbrev R : Type := Option (List Int × Unit)
noncomputable def E : Env := { tt := tt, ctx := [(37, daterange_proper.sig), (38, slices_Sort_int_int.sig), (39, slices_Compact_int_int.sig)], nt := 26, ann := [(1000003, [(3, .own (.int .i64)), (6, .keep), (7, .keep), (8, .keep)])] }
noncomputable def c0 : Code := sub [1, 1, 1] (bodyOf Try.f27)
noncomputable def c1 : Code := sub [1, 1, 0, 1, 0, 0] (bodyOf Try.f27)
noncomputable def K3 : Kont := .seq c0 .ret
noncomputable def K5 : Kont := .blk 0 K3
noncomputable def fin : ASt → R := Kret E Try.f27.results.toList ps rs
def tL0 (out : List Int) (v_6 : List api_DateRangeV) (v_7 : Int) (v_8 : Int) : ASt := ⟨[(8, .one (.val (.int .i64) v_8)), (7, .one (.val (.int .i64) v_7)), (6, .one (.val (.sl api_DateRange) v_6)), (3, .one (.own 3))], [(3, some ⟨.free, .int .i64, out⟩)]⟩
noncomputable def L0 (out : List Int) (v_6 : List api_DateRangeV) (v_7 : Int) (v_8 : Int) : R := lim E fin (.loop c1 K5) (tL0 out v_6 v_7 v_8)
noncomputable def SL0 (out : List Int) (v_6 : List api_DateRangeV) (v_7 : Int) (v_8 : Int) : R :=
  cond (decide (v_8 < v_7))
    (Option.bind (idx v_6 v_8) fun x1 =>
    Option.bind (daterange_proper x1) fun x2 =>
    cond x2.1
      (cond (decide ((out.length + 2) * 8 ≤ room) && decide (0 < Ty.nc (.int .i64)))
        (L0 (out ++ [x1.1, x1.2.1]) v_6 v_7 (IntKind.i64.wrap (v_8 + 1)))
        none)
      (L0 out v_6 v_7 (IntKind.i64.wrap (v_8 + 1))))
    (Option.bind (slices_Sort_int_int out) fun x3 =>
    Option.bind (slices_Compact_int_int x3.1) fun x4 =>
    some (x4.1, ()))
noncomputable def Se (l : List api_DateRangeV) : R :=
  L0 [] l (l.length : Int) 0
theorem L0_eq (out v_6 v_7 v_8) : L0 out v_6 v_7 v_8 = SL0 out v_6 v_7 v_8 := (lim_eq (.loop c1 K5) (tL0 out v_6 v_7 v_8)).trans (by kernel_rfl)
theorem se (x : (argTy ps).den) : run E (lim E fin) fin depth (bodyOf Try.f27) .ret (entryFrom 0 ps x) = Se x.1 := by kernel_rfl
end daterange_Boundaries
noncomputable def daterange_Boundaries (l : List api_DateRangeV) : daterange_Boundaries.R :=
  daterange_Boundaries.Se l
namespace daterange_Boundaries
noncomputable def sig : Sig := ⟨ps, rs, fun x => daterange_Boundaries x.1⟩
theorem val (x : (argTy ps).den) : lim E fin (.code (bodyOf Try.f27) .ret) (entryFrom 0 ps x) = sig.run x := (lim_eq (.code (bodyOf Try.f27) .ret) (entryFrom 0 ps x)).trans (se x)
theorem ok : CallOK Try.prog 27 sig :=
  callOK_of_lim (E := E) mixed tt_ok (ctxOk_cons (ctxOk_cons (ctxOk_cons ctxOk_nil slices_Compact_int_int.ok Try.func39 (by kernel_rfl) (by kernel_rfl)) slices_Sort_int_int.ok Try.func38 (by kernel_rfl) (by kernel_rfl)) daterange_proper.ok Try.func37 (by kernel_rfl) (by kernel_rfl)) Try.func27 (by kernel_rfl : Try.f27.body = some (bodyOf Try.f27)) Try.ntmps27 (of_decide_eq_true (by kernel_rfl)) (of_decide_eq_true (by kernel_rfl)) (fun x y h => (val x).trans h)
noncomputable def ctxc (n : Nat) : List (Nat × Sig) := [(37, daterange_proper.sigc n), (38, slices_Sort_int_int.sigc n), (39, slices_Compact_int_int.sigc n)]
noncomputable def sigc (n : Nat) : Sig := ⟨ps, rs, fun x => runs (withCtx E (ctxc n)) fin n (.code (bodyOf Try.f27) .ret) (entryFrom 0 ps x)⟩
theorem sigc_le (n : Nat) : ∀ x y, (sigc n).run x = some y → sig.run x = some y := fun x y h => (val x).symm.trans (runs_lim (E := E) (c := ctxc n) (ctxLe_cons (ctxLe_cons (ctxLe_cons ctxLe_nil (slices_Compact_int_int.sigc_le n)) (slices_Sort_int_int.sigc_le n)) (daterange_proper.sigc_le n)) h)
end daterange_Boundaries
namespace facts_Timeline
abbrev ps : List PM := [.pure (.sl api_Fact), .pure (.int .i64), .pure (.int .i64), .pure (.int .i64)]
abbrev rs : List RM := [.own api_ValuePeriod]
abbrev R : Type := Option (List api_ValuePeriodV × Unit)
noncomputable def E : Env := { tt := tt, ctx := [(25, facts_known.sig), (28, facts_ranges.sig), (27, daterange_Boundaries.sig), (24, facts_at.sig)], nt := 99, ann := [(1000005, [(9, .keep), (10, .own api_ValuePeriod), (11, .keep), (25, .keep), (26, .keep)]), (12, [(9, .keep), (10, .own api_ValuePeriod), (11, .keep), (12, .keep), (13, .keep), (15, .keep), (25, .keep), (26, .keep), (71, .keep)])] }
noncomputable def c0 : Code := sub [1, 1, 1, 1, 1] (bodyOf Try.f13)
noncomputable def c1 : Code := sub [1, 1, 1, 1, 0, 1, 0, 0] (bodyOf Try.f13)
noncomputable def c2 : Code := sub [1, 1, 1, 1, 0, 1, 0, 0, 1, 1, 1] (bodyOf Try.f13)
noncomputable def c3 : Code := sub [1, 1, 1, 1, 0, 1, 0, 0, 1, 1, 0, 0, 1, 1, 1, 1, 1, 1] (bodyOf Try.f13)
noncomputable def K5 : Kont := .seq c0 .ret
noncomputable def K7 : Kont := .blk 0 K5
noncomputable def K8 : Kont := .loop c1 K7
noncomputable def K11 : Kont := .seq c2 K8
noncomputable def K12 : Kont := .blk 1 K11
noncomputable def fin : ASt → R := Kret E Try.f13.results.toList ps rs
def tL0 (k : List api_FactV) (out : List api_ValuePeriodV) (cuts : List Int) (v_25 : Int) (v_26 : Int) : ASt := ⟨[(26, .one (.val (.int .i64) v_26)), (25, .one (.val (.int .i64) v_25)), (11, .one (.own 11)), (10, .one (.own 10)), (9, .one (.own 9))], [(11, some ⟨.free, .int .i64, cuts⟩), (10, some ⟨.free, api_ValuePeriod, out⟩), (9, some ⟨.free, api_Fact, k⟩)]⟩
def tJ1 (k : List api_FactV) (out : List api_ValuePeriodV) (cuts : List Int) (i : Int) (v_13 : api_ValueV) (last : Int) (v_25 : Int) (v_26 : Int) (v_71 : Bool) : ASt := ⟨[(71, .one (.val .bool v_71)), (26, .one (.val (.int .i64) v_26)), (25, .one (.val (.int .i64) v_25)), (15, .one (.val (.int .i64) last)), (13, .one (.optr 13 0 [])), (12, .one (.val (.int .i64) i)), (11, .one (.own 11)), (10, .one (.own 10)), (9, .one (.own 9))], [(13, some ⟨.free, api_Value, [v_13]⟩), (11, some ⟨.free, .int .i64, cuts⟩), (10, some ⟨.free, api_ValuePeriod, out⟩), (9, some ⟨.free, api_Fact, k⟩)]⟩
noncomputable def L0 (k : List api_FactV) (out : List api_ValuePeriodV) (cuts : List Int) (v_25 : Int) (v_26 : Int) : R := lim E fin (.loop c1 K7) (tL0 k out cuts v_25 v_26)
noncomputable def J1 (k : List api_FactV) (out : List api_ValuePeriodV) (cuts : List Int) (i : Int) (v_13 : api_ValueV) (last : Int) (v_25 : Int) (v_26 : Int) (v_71 : Bool) : R := lim E fin (.code c3 K12) (tJ1 k out cuts i v_13 last v_25 v_26 v_71)
noncomputable def SL0 (k : List api_FactV) (out : List api_ValuePeriodV) (cuts : List Int) (v_25 : Int) (v_26 : Int) : R :=
  cond (decide (v_26 < v_25))
    (cond ((IntKind.i64.wrap (v_26 + 1)) == (cuts.length : Int))
      (some (out, ()))
      (cond (decide (0 ≤ v_26) && decide (v_26 < (cuts.length : Int)))
        (Option.bind (facts_at k (cuts.getD v_26.toNat 0)) fun x1 =>
        cond (!x1.2.1)
          (L0 k out cuts v_25 (IntKind.i64.wrap (v_26 + 1)))
          (cond (decide ((IntKind.i64.wrap ((out.length : Int) - 1)) ≥ 0))
            (cond (decide (0 ≤ IntKind.i64.wrap ((out.length : Int) - 1)) && decide (IntKind.i64.wrap ((out.length : Int) - 1) < (out.length : Int)))
              (cond (eqTy (.pair (.int .i64) (.pair (.int .i64) (.pair (.int .i64) .unit))) ((out.getD ((IntKind.i64.wrap ((out.length : Int) - 1)).toNat) ((0, 0, ()), (0, 0, 0, ()), ())).2.1) x1.1)
                (cond (decide (0 ≤ IntKind.i64.wrap ((out.length : Int) - 1)) && decide (IntKind.i64.wrap ((out.length : Int) - 1) < (out.length : Int)))
                  (cond (decide (0 ≤ v_26) && decide (v_26 < (cuts.length : Int)))
                    (J1 k out cuts v_26 x1.1 (IntKind.i64.wrap ((out.length : Int) - 1)) v_25 v_26 ((((out.getD ((IntKind.i64.wrap ((out.length : Int) - 1)).toNat) ((0, 0, ()), (0, 0, 0, ()), ())).1).2.1) == (cuts.getD v_26.toNat 0)))
                    none)
                  none)
                (J1 k out cuts v_26 x1.1 (IntKind.i64.wrap ((out.length : Int) - 1)) v_25 v_26 false))
              none)
            (J1 k out cuts v_26 x1.1 (IntKind.i64.wrap ((out.length : Int) - 1)) v_25 v_26 false)))
        none))
    (some (out, ()))
noncomputable def SJ1 (k : List api_FactV) (out : List api_ValuePeriodV) (cuts : List Int) (i : Int) (v_13 : api_ValueV) (last : Int) (v_25 : Int) (v_26 : Int) (v_71 : Bool) : R :=
  cond v_71
    (cond (decide (0 ≤ IntKind.i64.wrap (i + 1)) && decide (IntKind.i64.wrap (i + 1) < (cuts.length : Int)))
      (cond (decide (0 ≤ last) && decide (last < (out.length : Int)))
        (L0 k (out.set last.toNat ((((out.getD last.toNat ((0, 0, ()), (0, 0, 0, ()), ())).1).1, (cuts.getD ((IntKind.i64.wrap (i + 1)).toNat) 0), ()), (out.getD last.toNat ((0, 0, ()), (0, 0, 0, ()), ())).2.1, ())) cuts v_25 (IntKind.i64.wrap (v_26 + 1)))
        none)
      none)
    (cond (decide (0 ≤ i) && decide (i < (cuts.length : Int)))
      (cond (decide (0 ≤ IntKind.i64.wrap (i + 1)) && decide (IntKind.i64.wrap (i + 1) < (cuts.length : Int)))
        (cond (decide ((out.length + 1) * 40 ≤ room) && decide (0 < Ty.nc (.pair (.pair (.int .i64) (.pair (.int .i64) .unit)) (.pair (.pair (.int .i64) (.pair (.int .i64) (.pair (.int .i64) .unit))) .unit))))
          (L0 k (out ++ [(((cuts.getD i.toNat 0), (cuts.getD ((IntKind.i64.wrap (i + 1)).toNat) 0), ()), v_13, ())]) cuts v_25 (IntKind.i64.wrap (v_26 + 1)))
          none)
        none)
      none)
noncomputable def Se (l : List api_FactV) (member : Int) (input : Int) (recorded : Int) : R :=
  Option.bind (facts_known l member input recorded) fun x1 =>
  Option.bind (facts_ranges x1.1) fun x2 =>
  Option.bind (daterange_Boundaries x2.1) fun x3 =>
  L0 x1.1 [] x3.1 (x3.1.length : Int) 0
theorem L0_eq (k out cuts v_25 v_26) : L0 k out cuts v_25 v_26 = SL0 k out cuts v_25 v_26 := (lim_eq (.loop c1 K7) (tL0 k out cuts v_25 v_26)).trans (by kernel_rfl)
theorem J1_eq (k out cuts i v_13 last v_25 v_26 v_71) : J1 k out cuts i v_13 last v_25 v_26 v_71 = SJ1 k out cuts i v_13 last v_25 v_26 v_71 := (lim_eq (.code c3 K12) (tJ1 k out cuts i v_13 last v_25 v_26 v_71)).trans (by kernel_rfl)
theorem se (x : (argTy ps).den) : run E (lim E fin) fin depth (bodyOf Try.f13) .ret (entryFrom 0 ps x) = Se x.1 x.2.1 x.2.2.1 x.2.2.2.1 := by kernel_rfl
end facts_Timeline
noncomputable def facts_Timeline (l : List api_FactV) (member : Int) (input : Int) (recorded : Int) : facts_Timeline.R :=
  facts_Timeline.Se l member input recorded
namespace facts_Timeline
noncomputable def sig : Sig := ⟨ps, rs, fun x => facts_Timeline x.1 x.2.1 x.2.2.1 x.2.2.2.1⟩
theorem val (x : (argTy ps).den) : lim E fin (.code (bodyOf Try.f13) .ret) (entryFrom 0 ps x) = sig.run x := (lim_eq (.code (bodyOf Try.f13) .ret) (entryFrom 0 ps x)).trans (se x)
theorem ok : CallOK Try.prog 13 sig :=
  callOK_of_lim (E := E) mixed tt_ok (ctxOk_cons (ctxOk_cons (ctxOk_cons (ctxOk_cons ctxOk_nil facts_at.ok Try.func24 (by kernel_rfl) (by kernel_rfl)) daterange_Boundaries.ok Try.func27 (by kernel_rfl) (by kernel_rfl)) facts_ranges.ok Try.func28 (by kernel_rfl) (by kernel_rfl)) facts_known.ok Try.func25 (by kernel_rfl) (by kernel_rfl)) Try.func13 (by kernel_rfl : Try.f13.body = some (bodyOf Try.f13)) Try.ntmps13 (of_decide_eq_true (by kernel_rfl)) (of_decide_eq_true (by kernel_rfl)) (fun x y h => (val x).trans h)
noncomputable def ctxc (n : Nat) : List (Nat × Sig) := [(25, facts_known.sigc n), (28, facts_ranges.sigc n), (27, daterange_Boundaries.sigc n), (24, facts_at.sigc n)]
noncomputable def sigc (n : Nat) : Sig := ⟨ps, rs, fun x => runs (withCtx E (ctxc n)) fin n (.code (bodyOf Try.f13) .ret) (entryFrom 0 ps x)⟩
theorem sigc_le (n : Nat) : ∀ x y, (sigc n).run x = some y → sig.run x = some y := fun x y h => (val x).symm.trans (runs_lim (E := E) (c := ctxc n) (ctxLe_cons (ctxLe_cons (ctxLe_cons (ctxLe_cons ctxLe_nil (facts_at.sigc_le n)) (daterange_Boundaries.sigc_le n)) (facts_ranges.sigc_le n)) (facts_known.sigc_le n)) h)
end facts_Timeline
namespace facts_ChangeDates
abbrev ps : List PM := [.pure (.sl api_Fact), .pure (.int .i64)]
abbrev rs : List RM := [.own (.int .i64)]
abbrev R : Type := Option (List Int × Unit)
noncomputable def E : Env := { tt := tt, ctx := [(28, facts_ranges.sig), (27, daterange_Boundaries.sig)], nt := 46, ann := [(1000003, [(1, .keep), (5, .own api_Fact), (11, .keep), (12, .keep), (13, .keep)]), (1000010, [(8, .own (.int .i64)), (28, .keep), (29, .keep), (30, .keep)])] }
noncomputable def c0 : Code := sub [1, 1, 1] (bodyOf Try.f16)
noncomputable def c1 : Code := sub [1, 1, 1, 1, 1] (bodyOf Try.f16)
noncomputable def c2 : Code := sub [1, 1, 0, 1, 0, 0] (bodyOf Try.f16)
noncomputable def c3 : Code := sub [1, 1, 1, 1, 0, 1, 0, 0] (bodyOf Try.f16)
noncomputable def K3 : Kont := .seq c0 .ret
noncomputable def K5 : Kont := .blk 0 K3
noncomputable def K14 : Kont := .seq c1 .ret
noncomputable def K16 : Kont := .blk 2 K14
noncomputable def fin : ASt → R := Kret E Try.f16.results.toList ps rs
def tL0 (recorded : Int) (some_5 : List api_FactV) (v_11 : List api_FactV) (v_12 : Int) (v_13 : Int) : ASt := ⟨[(13, .one (.val (.int .i64) v_13)), (12, .one (.val (.int .i64) v_12)), (11, .one (.val (.sl api_Fact) v_11)), (5, .one (.own 5)), (1, .one (.val (.int .i64) recorded))], [(5, some ⟨.free, api_Fact, some_5⟩)]⟩
def tL1 (out : List Int) (v_28 : List Int) (v_29 : Int) (v_30 : Int) : ASt := ⟨[(30, .one (.val (.int .i64) v_30)), (29, .one (.val (.int .i64) v_29)), (28, .one (.own 28)), (8, .one (.own 8))], [(28, some ⟨.free, .int .i64, v_28⟩), (8, some ⟨.free, .int .i64, out⟩)]⟩
noncomputable def L0 (recorded : Int) (some_5 : List api_FactV) (v_11 : List api_FactV) (v_12 : Int) (v_13 : Int) : R := lim E fin (.loop c2 K5) (tL0 recorded some_5 v_11 v_12 v_13)
noncomputable def L1 (out : List Int) (v_28 : List Int) (v_29 : Int) (v_30 : Int) : R := lim E fin (.loop c3 K16) (tL1 out v_28 v_29 v_30)
noncomputable def SL0 (recorded : Int) (some_5 : List api_FactV) (v_11 : List api_FactV) (v_12 : Int) (v_13 : Int) : R :=
  cond (decide (v_13 < v_12))
    (Option.bind (idx v_11 v_13) fun x1 =>
    cond (decide (x1.2.2.2.2.2.1 ≤ recorded))
      (cond (decide ((some_5.length + 1) * 72 ≤ room) && decide (0 < Ty.nc (.pair (.int .i64) (.pair (.int .i64) (.pair (.int .i64) (.pair (.pair (.int .i64) (.pair (.int .i64) (.pair (.int .i64) .unit))) (.pair (.pair (.int .i64) (.pair (.int .i64) .unit)) (.pair (.int .i64) .unit))))))))
        (L0 recorded (some_5 ++ [x1]) v_11 v_12 (IntKind.i64.wrap (v_13 + 1)))
        none)
      (L0 recorded some_5 v_11 v_12 (IntKind.i64.wrap (v_13 + 1))))
    (Option.bind (facts_ranges some_5) fun x2 =>
    Option.bind (daterange_Boundaries x2.1) fun x3 =>
    L1 [] x3.1 (x3.1.length : Int) 0)
noncomputable def SL1 (out : List Int) (v_28 : List Int) (v_29 : Int) (v_30 : Int) : R :=
  cond (decide (v_30 < v_29))
    (cond (decide (0 ≤ v_30) && decide (v_30 < (v_28.length : Int)))
      (cond (decide ((v_28.getD v_30.toNat 0) ≥ 1))
        (cond (decide ((v_28.getD v_30.toNat 0) ≤ 109572))
          (cond (decide ((out.length + 1) * 8 ≤ room) && decide (0 < Ty.nc (.int .i64)))
            (L1 (out ++ [(v_28.getD v_30.toNat 0)]) v_28 v_29 (IntKind.i64.wrap (v_30 + 1)))
            none)
          (L1 out v_28 v_29 (IntKind.i64.wrap (v_30 + 1))))
        (L1 out v_28 v_29 (IntKind.i64.wrap (v_30 + 1))))
      none)
    (some (out, ()))
noncomputable def Se (l : List api_FactV) (recorded : Int) : R :=
  L0 recorded [] l (l.length : Int) 0
theorem L0_eq (recorded some_5 v_11 v_12 v_13) : L0 recorded some_5 v_11 v_12 v_13 = SL0 recorded some_5 v_11 v_12 v_13 := (lim_eq (.loop c2 K5) (tL0 recorded some_5 v_11 v_12 v_13)).trans (by kernel_rfl)
theorem L1_eq (out v_28 v_29 v_30) : L1 out v_28 v_29 v_30 = SL1 out v_28 v_29 v_30 := (lim_eq (.loop c3 K16) (tL1 out v_28 v_29 v_30)).trans (by kernel_rfl)
theorem se (x : (argTy ps).den) : run E (lim E fin) fin depth (bodyOf Try.f16) .ret (entryFrom 0 ps x) = Se x.1 x.2.1 := by kernel_rfl
end facts_ChangeDates
noncomputable def facts_ChangeDates (l : List api_FactV) (recorded : Int) : facts_ChangeDates.R :=
  facts_ChangeDates.Se l recorded
namespace facts_ChangeDates
noncomputable def sig : Sig := ⟨ps, rs, fun x => facts_ChangeDates x.1 x.2.1⟩
theorem val (x : (argTy ps).den) : lim E fin (.code (bodyOf Try.f16) .ret) (entryFrom 0 ps x) = sig.run x := (lim_eq (.code (bodyOf Try.f16) .ret) (entryFrom 0 ps x)).trans (se x)
theorem ok : CallOK Try.prog 16 sig :=
  callOK_of_lim (E := E) mixed tt_ok (ctxOk_cons (ctxOk_cons ctxOk_nil daterange_Boundaries.ok Try.func27 (by kernel_rfl) (by kernel_rfl)) facts_ranges.ok Try.func28 (by kernel_rfl) (by kernel_rfl)) Try.func16 (by kernel_rfl : Try.f16.body = some (bodyOf Try.f16)) Try.ntmps16 (of_decide_eq_true (by kernel_rfl)) (of_decide_eq_true (by kernel_rfl)) (fun x y h => (val x).trans h)
noncomputable def ctxc (n : Nat) : List (Nat × Sig) := [(28, facts_ranges.sigc n), (27, daterange_Boundaries.sigc n)]
noncomputable def sigc (n : Nat) : Sig := ⟨ps, rs, fun x => runs (withCtx E (ctxc n)) fin n (.code (bodyOf Try.f16) .ret) (entryFrom 0 ps x)⟩
theorem sigc_le (n : Nat) : ∀ x y, (sigc n).run x = some y → sig.run x = some y := fun x y h => (val x).symm.trans (runs_lim (E := E) (c := ctxc n) (ctxLe_cons (ctxLe_cons ctxLe_nil (daterange_Boundaries.sigc_le n)) (facts_ranges.sigc_le n)) h)
end facts_ChangeDates
namespace same_Ints
abbrev ps : List PM := [.pure (.sl (.int .i64)), .pure (.sl (.int .i64))]
abbrev rs : List RM := [.pure .bool]
abbrev R : Type := Option (Bool × Unit)
noncomputable def E : Env := { tt := tt, ctx := [], nt := 32, ann := [(1000004, [(0, .keep), (1, .keep), (5, .keep)]), (6, [(0, .keep), (1, .keep), (5, .keep)])] }
noncomputable def c0 : Code := sub [1, 1, 1] (bodyOf Try.f15)
noncomputable def c1 : Code := sub [1, 1, 0, 1, 0, 0] (bodyOf Try.f15)
noncomputable def c2 : Code := sub [1, 1, 0, 1, 0, 0, 1] (bodyOf Try.f15)
noncomputable def K5 : Kont := .seq c0 .ret
noncomputable def K7 : Kont := .blk 0 K5
noncomputable def K8 : Kont := .loop c1 K7
noncomputable def fin : ASt → R := Kret E Try.f15.results.toList ps rs
def tL0 (a : List Int) (b : List Int) (i : Int) : ASt := ⟨[(5, .one (.val (.int .i64) i)), (1, .one (.val (.sl (.int .i64)) b)), (0, .one (.val (.sl (.int .i64)) a))], []⟩
def tJ1 (a : List Int) (b : List Int) (i : Int) : ASt := ⟨[(5, .one (.val (.int .i64) i)), (1, .one (.val (.sl (.int .i64)) b)), (0, .one (.val (.sl (.int .i64)) a))], []⟩
noncomputable def L0 (a : List Int) (b : List Int) (i : Int) : R := lim E fin (.loop c1 K7) (tL0 a b i)
noncomputable def J1 (a : List Int) (b : List Int) (i : Int) : R := lim E fin (.code c2 K8) (tJ1 a b i)
noncomputable def SL0 (a : List Int) (b : List Int) (i : Int) : R :=
  cond (decide (i < (a.length : Int)))
    (cond (decide (i < (b.length : Int)))
      (J1 a b i)
      (some (true, ())))
    (some (true, ()))
noncomputable def SJ1 (a : List Int) (b : List Int) (i : Int) : R :=
  Option.bind (idx a i) fun x1 =>
  Option.bind (idx b i) fun x2 =>
  cond (x1 != x2)
    (some (false, ()))
    (L0 a b (IntKind.i64.wrap (i + 1)))
noncomputable def Se (a : List Int) (b : List Int) : R :=
  cond ((a.length : Int) != (b.length : Int))
    (some (false, ()))
    (L0 a b 0)
theorem L0_eq (a b i) : L0 a b i = SL0 a b i := (lim_eq (.loop c1 K7) (tL0 a b i)).trans (by kernel_rfl)
theorem J1_eq (a b i) : J1 a b i = SJ1 a b i := (lim_eq (.code c2 K8) (tJ1 a b i)).trans (by kernel_rfl)
theorem se (x : (argTy ps).den) : run E (lim E fin) fin depth (bodyOf Try.f15) .ret (entryFrom 0 ps x) = Se x.1 x.2.1 := by kernel_rfl
end same_Ints
noncomputable def same_Ints (a : List Int) (b : List Int) : same_Ints.R :=
  same_Ints.Se a b
namespace same_Ints
noncomputable def sig : Sig := ⟨ps, rs, fun x => same_Ints x.1 x.2.1⟩
theorem val (x : (argTy ps).den) : lim E fin (.code (bodyOf Try.f15) .ret) (entryFrom 0 ps x) = sig.run x := (lim_eq (.code (bodyOf Try.f15) .ret) (entryFrom 0 ps x)).trans (se x)
theorem ok : CallOK Try.prog 15 sig :=
  callOK_of_lim (E := E) mixed tt_ok ctxOk_nil Try.func15 (by kernel_rfl : Try.f15.body = some (bodyOf Try.f15)) Try.ntmps15 (of_decide_eq_true (by kernel_rfl)) (of_decide_eq_true (by kernel_rfl)) (fun x y h => (val x).trans h)
noncomputable def ctxc (n : Nat) : List (Nat × Sig) := []
noncomputable def sigc (n : Nat) : Sig := ⟨ps, rs, fun x => runs (withCtx E (ctxc n)) fin n (.code (bodyOf Try.f15) .ret) (entryFrom 0 ps x)⟩
theorem sigc_le (n : Nat) : ∀ x y, (sigc n).run x = some y → sig.run x = some y := fun x y h => (val x).symm.trans (runs_lim (E := E) (c := ctxc n) ctxLe_nil h)
end same_Ints
namespace law34_awake
abbrev ps : List PM := []
abbrev rs : List RM := [.pure .bool]
abbrev R : Type := Option (Bool × Unit)
noncomputable def E : Env := { tt := tt, ctx := [(19, law34_two.sig), (11, facts_AsOf.sig), (9, facts_Validate.sig), (13, facts_Timeline.sig), (16, facts_ChangeDates.sig), (15, same_Ints.sig)], nt := 56, ann := [] }
noncomputable def fin : ASt → R := Kret E Try.f8.results.toList ps rs
noncomputable def Se : R :=
  Option.bind law34_two fun x1 =>
  Option.bind (facts_AsOf x1.1 (-1) 0 55 15) fun x2 =>
  Option.bind law34_two fun x3 =>
  Option.bind (facts_AsOf x3.1 (-1) 0 55 20) fun x4 =>
  Option.bind law34_two fun x5 =>
  Option.bind (facts_Validate x5.1) fun x6 =>
  cond x2.2.1
    (cond x4.2.1
      (cond (x2.1.2.2.1 == 5)
        (cond (x4.1.2.2.1 == 7)
          (Option.bind law34_two fun x7 =>
          Option.bind (facts_Timeline x7.1 (-1) 0 20) fun x8 =>
          cond ((x8.1.length : Int) == 3)
            (cond (x6.1 == 0)
              (cond (x6.2.1 == 0)
                (Option.bind law34_two fun x9 =>
                Option.bind (facts_ChangeDates x9.1 20) fun x10 =>
                Option.bind (same_Ints x10.1 [50, 60, 100]) fun x11 =>
                some (x11.1, ()))
                (some (false, ())))
              (some (false, ())))
            (some (false, ())))
          (some (false, ())))
        (some (false, ())))
      (some (false, ())))
    (some (false, ()))
theorem se (x : (argTy ps).den) : run E (lim E fin) fin depth (bodyOf Try.f8) .ret (entryFrom 0 ps x) = Se := by kernel_rfl
end law34_awake
noncomputable def law34_awake : law34_awake.R :=
  law34_awake.Se 
namespace law34_awake
noncomputable def sig : Sig := ⟨ps, rs, fun x => law34_awake⟩
theorem val (x : (argTy ps).den) : lim E fin (.code (bodyOf Try.f8) .ret) (entryFrom 0 ps x) = sig.run x := (lim_eq (.code (bodyOf Try.f8) .ret) (entryFrom 0 ps x)).trans (se x)
theorem ok : CallOK Try.prog 8 sig :=
  callOK_of_lim (E := E) mixed tt_ok (ctxOk_cons (ctxOk_cons (ctxOk_cons (ctxOk_cons (ctxOk_cons (ctxOk_cons ctxOk_nil same_Ints.ok Try.func15 (by kernel_rfl) (by kernel_rfl)) facts_ChangeDates.ok Try.func16 (by kernel_rfl) (by kernel_rfl)) facts_Timeline.ok Try.func13 (by kernel_rfl) (by kernel_rfl)) facts_Validate.ok Try.func9 (by kernel_rfl) (by kernel_rfl)) facts_AsOf.ok Try.func11 (by kernel_rfl) (by kernel_rfl)) law34_two.ok Try.func19 (by kernel_rfl) (by kernel_rfl)) Try.func8 (by kernel_rfl : Try.f8.body = some (bodyOf Try.f8)) Try.ntmps8 (of_decide_eq_true (by kernel_rfl)) (of_decide_eq_true (by kernel_rfl)) (fun x y h => (val x).trans h)
noncomputable def ctxc (n : Nat) : List (Nat × Sig) := [(19, law34_two.sigc n), (11, facts_AsOf.sigc n), (9, facts_Validate.sigc n), (13, facts_Timeline.sigc n), (16, facts_ChangeDates.sigc n), (15, same_Ints.sigc n)]
noncomputable def sigc (n : Nat) : Sig := ⟨ps, rs, fun x => runs (withCtx E (ctxc n)) fin n (.code (bodyOf Try.f8) .ret) (entryFrom 0 ps x)⟩
theorem sigc_le (n : Nat) : ∀ x y, (sigc n).run x = some y → sig.run x = some y := fun x y h => (val x).symm.trans (runs_lim (E := E) (c := ctxc n) (ctxLe_cons (ctxLe_cons (ctxLe_cons (ctxLe_cons (ctxLe_cons (ctxLe_cons ctxLe_nil (same_Ints.sigc_le n)) (facts_ChangeDates.sigc_le n)) (facts_Timeline.sigc_le n)) (facts_Validate.sigc_le n)) (facts_AsOf.sigc_le n)) (law34_two.sigc_le n)) h)
end law34_awake
namespace ref05_Valid
abbrev ps : List PM := [.pure api_DateRange]
abbrev rs : List RM := [.pure .bool]
abbrev R : Type := Option (Bool × Unit)
noncomputable def E : Env := { tt := tt, ctx := [], nt := 18, ann := [] }
noncomputable def fin : ASt → R := Kret E Try.f36.results.toList ps rs
noncomputable def Se (r_0 : api_DateRangeV) : R :=
  cond (decide (r_0.1 ≥ 0))
    (cond (decide (r_0.1 ≤ r_0.2.1))
      (some (decide (r_0.2.1 ≤ 109573), ()))
      (some (false, ())))
    (some (false, ()))
theorem se (x : (argTy ps).den) : run E (lim E fin) fin depth (bodyOf Try.f36) .ret (entryFrom 0 ps x) = Se x.1 := by kernel_rfl
end ref05_Valid
noncomputable def ref05_Valid (r_0 : api_DateRangeV) : ref05_Valid.R :=
  ref05_Valid.Se r_0
namespace ref05_Valid
noncomputable def sig : Sig := ⟨ps, rs, fun x => ref05_Valid x.1⟩
theorem val (x : (argTy ps).den) : lim E fin (.code (bodyOf Try.f36) .ret) (entryFrom 0 ps x) = sig.run x := (lim_eq (.code (bodyOf Try.f36) .ret) (entryFrom 0 ps x)).trans (se x)
theorem ok : CallOK Try.prog 36 sig :=
  callOK_of_lim (E := E) mixed tt_ok ctxOk_nil Try.func36 (by kernel_rfl : Try.f36.body = some (bodyOf Try.f36)) Try.ntmps36 (of_decide_eq_true (by kernel_rfl)) (of_decide_eq_true (by kernel_rfl)) (fun x y h => (val x).trans h)
noncomputable def ctxc (n : Nat) : List (Nat × Sig) := []
noncomputable def sigc (n : Nat) : Sig := ⟨ps, rs, fun x => runs (withCtx E (ctxc n)) fin n (.code (bodyOf Try.f36) .ret) (entryFrom 0 ps x)⟩
theorem sigc_le (n : Nat) : ∀ x y, (sigc n).run x = some y → sig.run x = some y := fun x y h => (val x).symm.trans (runs_lim (E := E) (c := ctxc n) ctxLe_nil h)
end ref05_Valid
namespace ref05_Contains
abbrev ps : List PM := [.pure api_DateRange, .pure (.int .i64)]
abbrev rs : List RM := [.pure .bool]
abbrev R : Type := Option (Bool × Unit)
noncomputable def E : Env := { tt := tt, ctx := [(36, ref05_Valid.sig)], nt := 19, ann := [] }
noncomputable def fin : ASt → R := Kret E Try.f26.results.toList ps rs
noncomputable def Se (r_0 : api_DateRangeV) (date : Int) : R :=
  Option.bind (ref05_Valid r_0) fun x1 =>
  cond x1.1
    (cond (decide (r_0.1 ≤ date))
      (some (decide (date < r_0.2.1), ()))
      (some (false, ())))
    (some (false, ()))
theorem se (x : (argTy ps).den) : run E (lim E fin) fin depth (bodyOf Try.f26) .ret (entryFrom 0 ps x) = Se x.1 x.2.1 := by kernel_rfl
end ref05_Contains
noncomputable def ref05_Contains (r_0 : api_DateRangeV) (date : Int) : ref05_Contains.R :=
  ref05_Contains.Se r_0 date
namespace ref05_Contains
noncomputable def sig : Sig := ⟨ps, rs, fun x => ref05_Contains x.1 x.2.1⟩
theorem val (x : (argTy ps).den) : lim E fin (.code (bodyOf Try.f26) .ret) (entryFrom 0 ps x) = sig.run x := (lim_eq (.code (bodyOf Try.f26) .ret) (entryFrom 0 ps x)).trans (se x)
theorem ok : CallOK Try.prog 26 sig :=
  callOK_of_lim (E := E) mixed tt_ok (ctxOk_cons ctxOk_nil ref05_Valid.ok Try.func36 (by kernel_rfl) (by kernel_rfl)) Try.func26 (by kernel_rfl : Try.f26.body = some (bodyOf Try.f26)) Try.ntmps26 (of_decide_eq_true (by kernel_rfl)) (of_decide_eq_true (by kernel_rfl)) (fun x y h => (val x).trans h)
noncomputable def ctxc (n : Nat) : List (Nat × Sig) := [(36, ref05_Valid.sigc n)]
noncomputable def sigc (n : Nat) : Sig := ⟨ps, rs, fun x => runs (withCtx E (ctxc n)) fin n (.code (bodyOf Try.f26) .ret) (entryFrom 0 ps x)⟩
theorem sigc_le (n : Nat) : ∀ x y, (sigc n).run x = some y → sig.run x = some y := fun x y h => (val x).symm.trans (runs_lim (E := E) (c := ctxc n) (ctxLe_cons ctxLe_nil (ref05_Valid.sigc_le n)) h)
end ref05_Contains
namespace ref34_AsOf
abbrev ps : List PM := [.pure (.sl api_Fact), .pure (.int .i64), .pure (.int .i64), .pure (.int .i64), .pure (.int .i64)]
abbrev rs : List RM := [.pure api_Value, .pure .bool]
abbrev R : Type := Option (api_ValueV × Bool × Unit)
noncomputable def E : Env := { tt := tt, ctx := [(26, ref05_Contains.sig)], nt := 89, ann := [(1000003, [(0, .keep), (1, .keep), (2, .keep), (3, .keep), (4, .keep), (10, .keep), (12, .keep), (13, .keep)]), (7, [(0, .keep), (1, .keep), (2, .keep), (3, .keep), (4, .keep), (10, .keep), (12, .keep), (13, .keep), (14, .keep)])] }
noncomputable def c0 : Code := sub [1, 1, 1] (bodyOf Try.f12)
noncomputable def c1 : Code := sub [1, 1, 0, 1, 0, 0] (bodyOf Try.f12)
noncomputable def c2 : Code := sub [1, 1, 0, 1, 0, 0, 1, 1] (bodyOf Try.f12)
noncomputable def c3 : Code := sub [1, 1, 0, 1, 0, 0, 1, 0, 0, 1, 1] (bodyOf Try.f12)
noncomputable def K3 : Kont := .seq c0 .ret
noncomputable def K5 : Kont := .blk 0 K3
noncomputable def K6 : Kont := .loop c1 K5
noncomputable def K9 : Kont := .seq c2 K6
noncomputable def K10 : Kont := .blk 1 K9
noncomputable def fin : ASt → R := Kret E Try.f12.results.toList ps rs
def tL0 (l : List api_FactV) (member : Int) (input : Int) (date : Int) (recorded : Int) (v_10 : api_ValueV) (best : Int) (i : Int) : ASt := ⟨[(13, .one (.val (.int .i64) i)), (12, .one (.val (.int .i64) best)), (10, .one (.optr 10 0 [])), (4, .one (.val (.int .i64) recorded)), (3, .one (.val (.int .i64) date)), (2, .one (.val (.int .i64) input)), (1, .one (.val (.int .i64) member)), (0, .one (.val (.sl api_Fact) l))], [(10, some ⟨.free, api_Value, [v_10]⟩)]⟩
def tJ1 (l : List api_FactV) (member : Int) (input : Int) (date : Int) (recorded : Int) (v_10 : api_ValueV) (best : Int) (i : Int) (f : api_FactV) : ASt := ⟨[(14, .one (.optr 14 0 [])), (13, .one (.val (.int .i64) i)), (12, .one (.val (.int .i64) best)), (10, .one (.optr 10 0 [])), (4, .one (.val (.int .i64) recorded)), (3, .one (.val (.int .i64) date)), (2, .one (.val (.int .i64) input)), (1, .one (.val (.int .i64) member)), (0, .one (.val (.sl api_Fact) l))], [(14, some ⟨.free, api_Fact, [f]⟩), (10, some ⟨.free, api_Value, [v_10]⟩)]⟩
noncomputable def L0 (l : List api_FactV) (member : Int) (input : Int) (date : Int) (recorded : Int) (v_10 : api_ValueV) (best : Int) (i : Int) : R := lim E fin (.loop c1 K5) (tL0 l member input date recorded v_10 best i)
noncomputable def J1 (l : List api_FactV) (member : Int) (input : Int) (date : Int) (recorded : Int) (v_10 : api_ValueV) (best : Int) (i : Int) (f : api_FactV) : R := lim E fin (.code c3 K10) (tJ1 l member input date recorded v_10 best i f)
noncomputable def SL0 (l : List api_FactV) (member : Int) (input : Int) (date : Int) (recorded : Int) (v_10 : api_ValueV) (best : Int) (i : Int) : R :=
  cond (decide (i < (l.length : Int)))
    (Option.bind (idx l i) fun x1 =>
    cond (x1.2.1 != member)
      (L0 l member input date recorded v_10 best (IntKind.i64.wrap (i + 1)))
      (cond (x1.2.2.1 != input)
        (L0 l member input date recorded v_10 best (IntKind.i64.wrap (i + 1)))
        (cond (decide (x1.2.2.2.2.2.1 > recorded))
          (L0 l member input date recorded v_10 best (IntKind.i64.wrap (i + 1)))
          (Option.bind (ref05_Contains x1.2.2.2.2.1 date) fun x2 =>
          cond (!x2.1)
            (L0 l member input date recorded v_10 best (IntKind.i64.wrap (i + 1)))
            (J1 l member input date recorded v_10 best i x1)))))
    (cond (decide (best < 0))
      (some ((0, 0, 0, ()), false, ()))
      (Option.bind (idx l best) fun x3 =>
      some (x3.2.2.2.1, true, ())))
noncomputable def SJ1 (l : List api_FactV) (member : Int) (input : Int) (date : Int) (recorded : Int) (v_10 : api_ValueV) (best : Int) (i : Int) (f : api_FactV) : R :=
  cond (decide (best < 0))
    (L0 l member input date recorded v_10 i (IntKind.i64.wrap (i + 1)))
    (Option.bind (idx l best) fun x1 =>
    cond (decide (f.2.2.2.2.2.1 > x1.2.2.2.2.2.1))
      (L0 l member input date recorded v_10 i (IntKind.i64.wrap (i + 1)))
      (Option.bind (idx l best) fun x2 =>
      cond (f.2.2.2.2.2.1 == x2.2.2.2.2.2.1)
        (Option.bind (idx l best) fun x3 =>
        cond (decide (f.1 > x3.1))
          (L0 l member input date recorded v_10 i (IntKind.i64.wrap (i + 1)))
          (L0 l member input date recorded v_10 best (IntKind.i64.wrap (i + 1))))
        (L0 l member input date recorded v_10 best (IntKind.i64.wrap (i + 1)))))
noncomputable def Se (l : List api_FactV) (member : Int) (input : Int) (date : Int) (recorded : Int) : R :=
  L0 l member input date recorded (0, 0, 0, ()) (-1) 0
theorem L0_eq (l member input date recorded v_10 best i) : L0 l member input date recorded v_10 best i = SL0 l member input date recorded v_10 best i := (lim_eq (.loop c1 K5) (tL0 l member input date recorded v_10 best i)).trans (by kernel_rfl)
theorem J1_eq (l member input date recorded v_10 best i f) : J1 l member input date recorded v_10 best i f = SJ1 l member input date recorded v_10 best i f := (lim_eq (.code c3 K10) (tJ1 l member input date recorded v_10 best i f)).trans (by kernel_rfl)
theorem se (x : (argTy ps).den) : run E (lim E fin) fin depth (bodyOf Try.f12) .ret (entryFrom 0 ps x) = Se x.1 x.2.1 x.2.2.1 x.2.2.2.1 x.2.2.2.2.1 := by kernel_rfl
end ref34_AsOf
noncomputable def ref34_AsOf (l : List api_FactV) (member : Int) (input : Int) (date : Int) (recorded : Int) : ref34_AsOf.R :=
  ref34_AsOf.Se l member input date recorded
namespace ref34_AsOf
noncomputable def sig : Sig := ⟨ps, rs, fun x => ref34_AsOf x.1 x.2.1 x.2.2.1 x.2.2.2.1 x.2.2.2.2.1⟩
theorem val (x : (argTy ps).den) : lim E fin (.code (bodyOf Try.f12) .ret) (entryFrom 0 ps x) = sig.run x := (lim_eq (.code (bodyOf Try.f12) .ret) (entryFrom 0 ps x)).trans (se x)
theorem ok : CallOK Try.prog 12 sig :=
  callOK_of_lim (E := E) mixed tt_ok (ctxOk_cons ctxOk_nil ref05_Contains.ok Try.func26 (by kernel_rfl) (by kernel_rfl)) Try.func12 (by kernel_rfl : Try.f12.body = some (bodyOf Try.f12)) Try.ntmps12 (of_decide_eq_true (by kernel_rfl)) (of_decide_eq_true (by kernel_rfl)) (fun x y h => (val x).trans h)
noncomputable def ctxc (n : Nat) : List (Nat × Sig) := [(26, ref05_Contains.sigc n)]
noncomputable def sigc (n : Nat) : Sig := ⟨ps, rs, fun x => runs (withCtx E (ctxc n)) fin n (.code (bodyOf Try.f12) .ret) (entryFrom 0 ps x)⟩
theorem sigc_le (n : Nat) : ∀ x y, (sigc n).run x = some y → sig.run x = some y := fun x y h => (val x).symm.trans (runs_lim (E := E) (c := ctxc n) (ctxLe_cons ctxLe_nil (ref05_Contains.sigc_le n)) h)
end ref34_AsOf
namespace law34_FactsAsOf
abbrev ps : List PM := [.pure (.sl api_Fact), .pure api_DateRange, .pure (.int .i64), .pure (.int .i64)]
abbrev rs : List RM := [.pure .bool]
abbrev R : Type := Option (Bool × Unit)
noncomputable def E : Env := { tt := tt, ctx := [(8, law34_awake.sig), (11, facts_AsOf.sig), (12, ref34_AsOf.sig)], nt := 50, ann := [] }
noncomputable def fin : ASt → R := Kret E Try.f4.results.toList ps rs
noncomputable def Se (l : List api_FactV) (who : api_DateRangeV) (date : Int) (recorded : Int) : R :=
  cond (decide ((l.length : Int) > 200))
    (Option.bind law34_awake fun x1 =>
    some (x1.1, ()))
    (Option.bind (facts_AsOf l who.1 who.2.1 date recorded) fun x2 =>
    Option.bind (ref34_AsOf l who.1 who.2.1 date recorded) fun x3 =>
    cond (eqTy (.pair (.int .i64) (.pair (.int .i64) (.pair (.int .i64) .unit))) x2.1 x3.1)
      (cond (x2.2.1 == x3.2.1)
        (Option.bind law34_awake fun x4 =>
        some (x4.1, ()))
        (some (false, ())))
      (some (false, ())))
theorem se (x : (argTy ps).den) : run E (lim E fin) fin depth (bodyOf Try.f4) .ret (entryFrom 0 ps x) = Se x.1 x.2.1 x.2.2.1 x.2.2.2.1 := by kernel_rfl
end law34_FactsAsOf
noncomputable def law34_FactsAsOf (l : List api_FactV) (who : api_DateRangeV) (date : Int) (recorded : Int) : law34_FactsAsOf.R :=
  law34_FactsAsOf.Se l who date recorded
namespace law34_FactsAsOf
noncomputable def sig : Sig := ⟨ps, rs, fun x => law34_FactsAsOf x.1 x.2.1 x.2.2.1 x.2.2.2.1⟩
theorem val (x : (argTy ps).den) : lim E fin (.code (bodyOf Try.f4) .ret) (entryFrom 0 ps x) = sig.run x := (lim_eq (.code (bodyOf Try.f4) .ret) (entryFrom 0 ps x)).trans (se x)
theorem ok : CallOK Try.prog 4 sig :=
  callOK_of_lim (E := E) mixed tt_ok (ctxOk_cons (ctxOk_cons (ctxOk_cons ctxOk_nil ref34_AsOf.ok Try.func12 (by kernel_rfl) (by kernel_rfl)) facts_AsOf.ok Try.func11 (by kernel_rfl) (by kernel_rfl)) law34_awake.ok Try.func8 (by kernel_rfl) (by kernel_rfl)) Try.func4 (by kernel_rfl : Try.f4.body = some (bodyOf Try.f4)) Try.ntmps4 (of_decide_eq_true (by kernel_rfl)) (of_decide_eq_true (by kernel_rfl)) (fun x y h => (val x).trans h)
noncomputable def ctxc (n : Nat) : List (Nat × Sig) := [(8, law34_awake.sigc n), (11, facts_AsOf.sigc n), (12, ref34_AsOf.sigc n)]
noncomputable def sigc (n : Nat) : Sig := ⟨ps, rs, fun x => runs (withCtx E (ctxc n)) fin n (.code (bodyOf Try.f4) .ret) (entryFrom 0 ps x)⟩
theorem sigc_le (n : Nat) : ∀ x y, (sigc n).run x = some y → sig.run x = some y := fun x y h => (val x).symm.trans (runs_lim (E := E) (c := ctxc n) (ctxLe_cons (ctxLe_cons (ctxLe_cons ctxLe_nil (ref34_AsOf.sigc_le n)) (facts_AsOf.sigc_le n)) (law34_awake.sigc_le n)) h)
end law34_FactsAsOf
end Go.Proofs.Ytmmimgjakoacaaa
