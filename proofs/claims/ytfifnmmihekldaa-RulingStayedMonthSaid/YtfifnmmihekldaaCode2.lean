import Derived.Test.YtfifnmmihekldaaCode1
set_option maxRecDepth 100000
set_option linter.unusedVariables false
namespace Go.Proofs.Ytfifnmmihekldaa
open Go Go.Lift
namespace slices_partitionOrdered_int
abbrev ps : List PM := [.own (.int .i64), .pure (.int .i64), .pure (.int .i64), .pure (.int .i64)]
abbrev rs : List RM := [.pure (.int .i64), .pure .bool]
abbrev R : Type := Option (Int × Bool × List Int × Unit)
noncomputable def E : Env := { tt := tt, ctx := [(33, cmp_Less_int.sig)], nt := 168, ann := [(5, [(0, .keep), (1, .keep), (10, .keep), (11, .keep)]), (1000003, [(0, .keep), (1, .keep), (10, .keep), (11, .keep)]), (7, [(0, .keep), (1, .keep), (10, .keep), (11, .keep)]), (1000005, [(0, .keep), (1, .keep), (10, .keep), (11, .keep)]), (1000013, [(0, .keep), (1, .keep), (10, .keep), (11, .keep)]), (15, [(0, .keep), (1, .keep), (10, .keep), (11, .keep)]), (1000013, [(0, .keep), (1, .keep), (10, .keep), (11, .keep)]), (17, [(0, .keep), (1, .keep), (10, .keep), (11, .keep)]), (1000015, [(0, .keep), (1, .keep), (10, .keep), (11, .keep)])] }
noncomputable def c0 : Code := sub [1, 1, 1, 1] (bodyOf Try.f35)
noncomputable def c1 : Code := sub [1, 1, 1, 1, 1] (bodyOf Try.f35)
noncomputable def c2 : Code := sub [1, 1, 1, 1, 1, 1, 1, 1, 1, 1] (bodyOf Try.f35)
noncomputable def c3 : Code := sub [1, 1, 1, 1, 1, 1, 1, 1, 1, 0, 0, 0] (bodyOf Try.f35)
noncomputable def c4 : Code := sub [1, 1, 1, 1, 1, 1, 1, 1, 1, 0, 0, 0, 0, 1] (bodyOf Try.f35)
noncomputable def c5 : Code := sub [1, 1, 1, 1, 1, 1, 1, 1, 1, 0, 0, 0, 0, 1, 1] (bodyOf Try.f35)
noncomputable def c6 : Code := sub [1, 1, 1, 0, 0, 0] (bodyOf Try.f35)
noncomputable def c7 : Code := sub [1, 1, 1, 1, 0, 0, 0] (bodyOf Try.f35)
noncomputable def c8 : Code := sub [1, 1, 1, 1, 1, 1, 1, 1, 1, 0, 0, 0, 0, 0, 0, 0] (bodyOf Try.f35)
noncomputable def c9 : Code := sub [1, 1, 1, 1, 1, 1, 1, 1, 1, 0, 0, 0, 0, 1, 0, 0, 0] (bodyOf Try.f35)
noncomputable def K4 : Kont := .seq c0 .ret
noncomputable def K5 : Kont := .blk 0 K4
noncomputable def K10 : Kont := .seq c1 .ret
noncomputable def K11 : Kont := .blk 2 K10
noncomputable def K23 : Kont := .seq c2 .ret
noncomputable def K24 : Kont := .blk 4 K23
noncomputable def K25 : Kont := .loop c3 K24
noncomputable def K26 : Kont := .blk 5 K25
noncomputable def K27 : Kont := .seq c4 K26
noncomputable def K28 : Kont := .blk 6 K27
noncomputable def K33 : Kont := .seq c5 K26
noncomputable def K34 : Kont := .blk 8 K33
noncomputable def fin : ASt → R := Kret E Try.f35.results.toList ps rs
def tJ0 (a : Int) (i : Int) (j : Int) (data_P : List Int) : ASt := ⟨[(11, .one (.val (.int .i64) j)), (10, .one (.val (.int .i64) i)), (1, .one (.val (.int .i64) a)), (0, .one (.own 10000))], [(10000, some ⟨.fixed, .int .i64, data_P⟩)]⟩
def tL1 (a : Int) (i : Int) (j : Int) (data_P : List Int) : ASt := ⟨[(11, .one (.val (.int .i64) j)), (10, .one (.val (.int .i64) i)), (1, .one (.val (.int .i64) a)), (0, .one (.own 10000))], [(10000, some ⟨.fixed, .int .i64, data_P⟩)]⟩
def tJ2 (a : Int) (i : Int) (j : Int) (data_P : List Int) : ASt := ⟨[(11, .one (.val (.int .i64) j)), (10, .one (.val (.int .i64) i)), (1, .one (.val (.int .i64) a)), (0, .one (.own 10000))], [(10000, some ⟨.fixed, .int .i64, data_P⟩)]⟩
def tL3 (a : Int) (i : Int) (j : Int) (data_P : List Int) : ASt := ⟨[(11, .one (.val (.int .i64) j)), (10, .one (.val (.int .i64) i)), (1, .one (.val (.int .i64) a)), (0, .one (.own 10000))], [(10000, some ⟨.fixed, .int .i64, data_P⟩)]⟩
def tL4 (a : Int) (i : Int) (j : Int) (data_P : List Int) : ASt := ⟨[(11, .one (.val (.int .i64) j)), (10, .one (.val (.int .i64) i)), (1, .one (.val (.int .i64) a)), (0, .one (.own 10000))], [(10000, some ⟨.fixed, .int .i64, data_P⟩)]⟩
def tJ5 (a : Int) (i : Int) (j : Int) (data_P : List Int) : ASt := ⟨[(11, .one (.val (.int .i64) j)), (10, .one (.val (.int .i64) i)), (1, .one (.val (.int .i64) a)), (0, .one (.own 10000))], [(10000, some ⟨.fixed, .int .i64, data_P⟩)]⟩
def tL6 (a : Int) (i : Int) (j : Int) (data_P : List Int) : ASt := ⟨[(11, .one (.val (.int .i64) j)), (10, .one (.val (.int .i64) i)), (1, .one (.val (.int .i64) a)), (0, .one (.own 10000))], [(10000, some ⟨.fixed, .int .i64, data_P⟩)]⟩
def tJ7 (a : Int) (i : Int) (j : Int) (data_P : List Int) : ASt := ⟨[(11, .one (.val (.int .i64) j)), (10, .one (.val (.int .i64) i)), (1, .one (.val (.int .i64) a)), (0, .one (.own 10000))], [(10000, some ⟨.fixed, .int .i64, data_P⟩)]⟩
def tL8 (a : Int) (i : Int) (j : Int) (data_P : List Int) : ASt := ⟨[(11, .one (.val (.int .i64) j)), (10, .one (.val (.int .i64) i)), (1, .one (.val (.int .i64) a)), (0, .one (.own 10000))], [(10000, some ⟨.fixed, .int .i64, data_P⟩)]⟩
noncomputable def J0 (a : Int) (i : Int) (j : Int) (data_P : List Int) : R := lim E fin (.code c0 .ret) (tJ0 a i j data_P)
noncomputable def L1 (a : Int) (i : Int) (j : Int) (data_P : List Int) : R := lim E fin (.loop c6 K5) (tL1 a i j data_P)
noncomputable def J2 (a : Int) (i : Int) (j : Int) (data_P : List Int) : R := lim E fin (.code c1 .ret) (tJ2 a i j data_P)
noncomputable def L3 (a : Int) (i : Int) (j : Int) (data_P : List Int) : R := lim E fin (.loop c7 K11) (tL3 a i j data_P)
noncomputable def L4 (a : Int) (i : Int) (j : Int) (data_P : List Int) : R := lim E fin (.loop c3 K24) (tL4 a i j data_P)
noncomputable def J5 (a : Int) (i : Int) (j : Int) (data_P : List Int) : R := lim E fin (.code c4 K26) (tJ5 a i j data_P)
noncomputable def L6 (a : Int) (i : Int) (j : Int) (data_P : List Int) : R := lim E fin (.loop c8 K28) (tL6 a i j data_P)
noncomputable def J7 (a : Int) (i : Int) (j : Int) (data_P : List Int) : R := lim E fin (.code c5 K26) (tJ7 a i j data_P)
noncomputable def L8 (a : Int) (i : Int) (j : Int) (data_P : List Int) : R := lim E fin (.loop c9 K34) (tL8 a i j data_P)
noncomputable def SJ0 (a : Int) (i : Int) (j : Int) (data_P : List Int) : R :=
  L3 a i j data_P
noncomputable def SL1 (a : Int) (i : Int) (j : Int) (data_P : List Int) : R :=
  cond (decide (i ≤ j))
    (cond (decide (0 ≤ i) && decide (i < (data_P.length : Int)))
      (cond (decide (0 ≤ a) && decide (a < (data_P.length : Int)))
        (Option.bind (cmp_Less_int (data_P.getD i.toNat 0) (data_P.getD a.toNat 0)) fun x1 =>
        cond x1.1
          (L1 a (IntKind.i64.wrap (i + 1)) j data_P)
          (J0 a i j data_P))
        none)
      none)
    (J0 a i j data_P)
noncomputable def SJ2 (a : Int) (i : Int) (j : Int) (data_P : List Int) : R :=
  cond (decide (i > j))
    (cond (decide (0 ≤ a) && decide (a < (data_P.length : Int)))
      (cond (decide (0 ≤ j) && decide (j < (data_P.length : Int)))
        (cond (decide (0 ≤ j) && decide (j < (data_P.length : Int)))
          (cond (decide (0 ≤ a) && decide (a < ((data_P.set j.toNat (data_P.getD a.toNat 0)).length : Int)))
            (some (j, true, ((data_P.set j.toNat (data_P.getD a.toNat 0)).set a.toNat (data_P.getD j.toNat 0)), ()))
            none)
          none)
        none)
      none)
    (cond (decide (0 ≤ j) && decide (j < (data_P.length : Int)))
      (cond (decide (0 ≤ i) && decide (i < (data_P.length : Int)))
        (cond (decide (0 ≤ i) && decide (i < (data_P.length : Int)))
          (cond (decide (0 ≤ j) && decide (j < ((data_P.set i.toNat (data_P.getD j.toNat 0)).length : Int)))
            (L4 a (IntKind.i64.wrap (i + 1)) (IntKind.i64.wrap (j - 1)) ((data_P.set i.toNat (data_P.getD j.toNat 0)).set j.toNat (data_P.getD i.toNat 0)))
            none)
          none)
        none)
      none)
noncomputable def SL3 (a : Int) (i : Int) (j : Int) (data_P : List Int) : R :=
  cond (decide (i ≤ j))
    (cond (decide (0 ≤ j) && decide (j < (data_P.length : Int)))
      (cond (decide (0 ≤ a) && decide (a < (data_P.length : Int)))
        (Option.bind (cmp_Less_int (data_P.getD j.toNat 0) (data_P.getD a.toNat 0)) fun x1 =>
        cond (!x1.1)
          (L3 a i (IntKind.i64.wrap (j - 1)) data_P)
          (J2 a i j data_P))
        none)
      none)
    (J2 a i j data_P)
noncomputable def SL4 (a : Int) (i : Int) (j : Int) (data_P : List Int) : R :=
  L6 a i j data_P
noncomputable def SJ5 (a : Int) (i : Int) (j : Int) (data_P : List Int) : R :=
  L8 a i j data_P
noncomputable def SL6 (a : Int) (i : Int) (j : Int) (data_P : List Int) : R :=
  cond (decide (i ≤ j))
    (cond (decide (0 ≤ i) && decide (i < (data_P.length : Int)))
      (cond (decide (0 ≤ a) && decide (a < (data_P.length : Int)))
        (Option.bind (cmp_Less_int (data_P.getD i.toNat 0) (data_P.getD a.toNat 0)) fun x1 =>
        cond x1.1
          (L6 a (IntKind.i64.wrap (i + 1)) j data_P)
          (J5 a i j data_P))
        none)
      none)
    (J5 a i j data_P)
noncomputable def SJ7 (a : Int) (i : Int) (j : Int) (data_P : List Int) : R :=
  cond (decide (i > j))
    (cond (decide (0 ≤ a) && decide (a < (data_P.length : Int)))
      (cond (decide (0 ≤ j) && decide (j < (data_P.length : Int)))
        (cond (decide (0 ≤ j) && decide (j < (data_P.length : Int)))
          (cond (decide (0 ≤ a) && decide (a < ((data_P.set j.toNat (data_P.getD a.toNat 0)).length : Int)))
            (some (j, false, ((data_P.set j.toNat (data_P.getD a.toNat 0)).set a.toNat (data_P.getD j.toNat 0)), ()))
            none)
          none)
        none)
      none)
    (cond (decide (0 ≤ j) && decide (j < (data_P.length : Int)))
      (cond (decide (0 ≤ i) && decide (i < (data_P.length : Int)))
        (cond (decide (0 ≤ i) && decide (i < (data_P.length : Int)))
          (cond (decide (0 ≤ j) && decide (j < ((data_P.set i.toNat (data_P.getD j.toNat 0)).length : Int)))
            (L4 a (IntKind.i64.wrap (i + 1)) (IntKind.i64.wrap (j - 1)) ((data_P.set i.toNat (data_P.getD j.toNat 0)).set j.toNat (data_P.getD i.toNat 0)))
            none)
          none)
        none)
      none)
noncomputable def SL8 (a : Int) (i : Int) (j : Int) (data_P : List Int) : R :=
  cond (decide (i ≤ j))
    (cond (decide (0 ≤ j) && decide (j < (data_P.length : Int)))
      (cond (decide (0 ≤ a) && decide (a < (data_P.length : Int)))
        (Option.bind (cmp_Less_int (data_P.getD j.toNat 0) (data_P.getD a.toNat 0)) fun x1 =>
        cond (!x1.1)
          (L8 a i (IntKind.i64.wrap (j - 1)) data_P)
          (J7 a i j data_P))
        none)
      none)
    (J7 a i j data_P)
noncomputable def Se (data : List Int) (a : Int) (b : Int) (pivot : Int) : R :=
  cond (decide (0 ≤ pivot) && decide (pivot < (data.length : Int)))
    (cond (decide (0 ≤ a) && decide (a < (data.length : Int)))
      (cond (decide (0 ≤ a) && decide (a < (data.length : Int)))
        (cond (decide (0 ≤ pivot) && decide (pivot < ((data.set a.toNat (data.getD pivot.toNat 0)).length : Int)))
          (L1 a (IntKind.i64.wrap (a + 1)) (IntKind.i64.wrap (b - 1)) ((data.set a.toNat (data.getD pivot.toNat 0)).set pivot.toNat (data.getD a.toNat 0)))
          none)
        none)
      none)
    none
theorem J0_eq (a i j data_P) : J0 a i j data_P = SJ0 a i j data_P := (lim_eq (.code c0 .ret) (tJ0 a i j data_P)).trans (by kernel_rfl)
theorem L1_eq (a i j data_P) : L1 a i j data_P = SL1 a i j data_P := (lim_eq (.loop c6 K5) (tL1 a i j data_P)).trans (by kernel_rfl)
theorem J2_eq (a i j data_P) : J2 a i j data_P = SJ2 a i j data_P := (lim_eq (.code c1 .ret) (tJ2 a i j data_P)).trans (by kernel_rfl)
theorem L3_eq (a i j data_P) : L3 a i j data_P = SL3 a i j data_P := (lim_eq (.loop c7 K11) (tL3 a i j data_P)).trans (by kernel_rfl)
theorem L4_eq (a i j data_P) : L4 a i j data_P = SL4 a i j data_P := (lim_eq (.loop c3 K24) (tL4 a i j data_P)).trans (by kernel_rfl)
theorem J5_eq (a i j data_P) : J5 a i j data_P = SJ5 a i j data_P := (lim_eq (.code c4 K26) (tJ5 a i j data_P)).trans (by kernel_rfl)
theorem L6_eq (a i j data_P) : L6 a i j data_P = SL6 a i j data_P := (lim_eq (.loop c8 K28) (tL6 a i j data_P)).trans (by kernel_rfl)
theorem J7_eq (a i j data_P) : J7 a i j data_P = SJ7 a i j data_P := (lim_eq (.code c5 K26) (tJ7 a i j data_P)).trans (by kernel_rfl)
theorem L8_eq (a i j data_P) : L8 a i j data_P = SL8 a i j data_P := (lim_eq (.loop c9 K34) (tL8 a i j data_P)).trans (by kernel_rfl)
theorem se (x : (argTy ps).den) : run E (lim E fin) fin depth (bodyOf Try.f35) .ret (entryFrom 0 ps x) = Se x.1 x.2.1 x.2.2.1 x.2.2.2.1 := by kernel_rfl
end slices_partitionOrdered_int
noncomputable def slices_partitionOrdered_int (data : List Int) (a : Int) (b : Int) (pivot : Int) : slices_partitionOrdered_int.R :=
  slices_partitionOrdered_int.Se data a b pivot
namespace slices_partitionOrdered_int
noncomputable def sig : Sig := ⟨ps, rs, fun x => slices_partitionOrdered_int x.1 x.2.1 x.2.2.1 x.2.2.2.1⟩
theorem val (x : (argTy ps).den) : lim E fin (.code (bodyOf Try.f35) .ret) (entryFrom 0 ps x) = sig.run x := (lim_eq (.code (bodyOf Try.f35) .ret) (entryFrom 0 ps x)).trans (se x)
theorem ok : CallOK Try.prog 35 sig :=
  callOK_of_lim (E := E) mixed tt_ok (ctxOk_cons ctxOk_nil cmp_Less_int.ok Try.func33 (by kernel_rfl) (by kernel_rfl)) Try.func35 (by kernel_rfl : Try.f35.body = some (bodyOf Try.f35)) Try.ntmps35 (of_decide_eq_true (by kernel_rfl)) (of_decide_eq_true (by kernel_rfl)) fun x y h => (val x).trans h
noncomputable def ctxc (n : Nat) : List (Nat × Sig) := [(33, cmp_Less_int.sigc n)]
noncomputable def sigc (n : Nat) : Sig := ⟨ps, rs, fun x => runs (withCtx E (ctxc n)) fin n (.code (bodyOf Try.f35) .ret) (entryFrom 0 ps x)⟩
theorem sigc_le (n : Nat) : ∀ x y, (sigc n).run x = some y → sig.run x = some y := fun x y h => (val x).symm.trans (runs_lim (E := E) (c := ctxc n) (ctxLe_cons ctxLe_nil (cmp_Less_int.sigc_le n)) h)
end slices_partitionOrdered_int
namespace slices_pdqsortOrdered_int
abbrev ps : List PM := [.own (.int .i64), .pure (.int .i64), .pure (.int .i64), .pure (.int .i64)]
abbrev rs : List RM := []
abbrev R : Type := Option (List Int × Unit)
noncomputable def E0 : Env := { tt := tt, ctx := [], nt := 134, ann := [(1000002, [(0, .keep), (1, .keep), (2, .keep), (3, .keep), (8, .keep), (9, .keep)]), (10, [(0, .keep), (1, .keep), (2, .keep), (3, .keep), (8, .keep), (9, .keep), (10, .keep)]), (15, [(0, .keep), (1, .keep), (2, .keep), (3, .keep), (8, .keep), (9, .keep), (10, .keep), (11, .keep), (12, .keep)]), (17, [(0, .keep), (1, .keep), (2, .keep), (3, .keep), (8, .keep), (9, .keep), (10, .keep), (11, .keep)]), (18, [(0, .keep), (1, .keep), (2, .keep), (3, .keep), (8, .keep), (9, .keep), (10, .keep), (11, .keep), (87, .keep)])] }
noncomputable def ctx0 : List (Nat × Sig) := [(27, slices_insertionSortOrdered_int.sig), (28, slices_heapSortOrdered_int.sig), (29, slices_breakPatternsOrdered_int.sig), (30, slices_choosePivotOrdered_int.sig), (31, slices_reverseRangeOrdered_int.sig), (32, slices_partialInsertionSortOrdered_int.sig), (33, cmp_Less_int.sig), (34, slices_partitionEqualOrdered_int.sig), (35, slices_partitionOrdered_int.sig)]
noncomputable def E (self : (List Int) → Int → Int → Int → R) : Env := withCtx E0 ((24, ⟨ps, rs, fun x => self x.1 x.2.1 x.2.2.1 x.2.2.2.1⟩) :: ctx0)
noncomputable def c0 : Code := sub [1, 1, 0, 0] (bodyOf Try.f24)
noncomputable def c1 : Code := sub [1, 1, 0, 0, 0, 1, 1, 1, 1, 1, 1, 1, 1] (bodyOf Try.f24)
noncomputable def c2 : Code := sub [1, 1, 0, 0, 0, 1, 1, 1, 1] (bodyOf Try.f24)
noncomputable def c3 : Code := sub [1, 1, 0, 0, 0, 1, 1, 1, 1, 1, 1] (bodyOf Try.f24)
noncomputable def c4 : Code := sub [1, 1, 0, 0, 0, 1, 1, 1, 1, 1, 1, 1] (bodyOf Try.f24)
noncomputable def c5 : Code := sub [1, 1, 0, 0, 0, 1, 1, 1, 1, 1, 1, 1, 0, 1] (bodyOf Try.f24)
noncomputable def K3 : Kont := .blk 0 .ret
noncomputable def K4 : Kont := .loop c0 K3
noncomputable def K5 : Kont := .blk 1 K4
noncomputable def K24 : Kont := .seq c1 K5
noncomputable def fin : ASt → R := Kret E0 Try.f24.results.toList ps rs
def tL0 (a : Int) (b : Int) (limit : Int) (wasBalanced : Bool) (wasPartitioned : Bool) (data_P : List Int) : ASt := ⟨[(9, .one (.val .bool wasPartitioned)), (8, .one (.val .bool wasBalanced)), (3, .one (.val (.int .i64) limit)), (2, .one (.val (.int .i64) b)), (1, .one (.val (.int .i64) a)), (0, .one (.own 10000))], [(10000, some ⟨.fixed, .int .i64, data_P⟩)]⟩
def tJ1 (a : Int) (b : Int) (limit : Int) (wasBalanced : Bool) (wasPartitioned : Bool) (length_10 : Int) (data_P : List Int) : ASt := ⟨[(10, .one (.val (.int .i64) length_10)), (9, .one (.val .bool wasPartitioned)), (8, .one (.val .bool wasBalanced)), (3, .one (.val (.int .i64) limit)), (2, .one (.val (.int .i64) b)), (1, .one (.val (.int .i64) a)), (0, .one (.own 10000))], [(10000, some ⟨.fixed, .int .i64, data_P⟩)]⟩
def tJ2 (a : Int) (b : Int) (limit : Int) (wasBalanced : Bool) (wasPartitioned : Bool) (length_10 : Int) (pivot : Int) (hint : Int) (data_P : List Int) : ASt := ⟨[(12, .one (.val (.int .i64) hint)), (11, .one (.val (.int .i64) pivot)), (10, .one (.val (.int .i64) length_10)), (9, .one (.val .bool wasPartitioned)), (8, .one (.val .bool wasBalanced)), (3, .one (.val (.int .i64) limit)), (2, .one (.val (.int .i64) b)), (1, .one (.val (.int .i64) a)), (0, .one (.own 10000))], [(10000, some ⟨.fixed, .int .i64, data_P⟩)]⟩
def tJ3 (a : Int) (b : Int) (limit : Int) (wasBalanced : Bool) (wasPartitioned : Bool) (length_10 : Int) (pivot : Int) (data_P : List Int) : ASt := ⟨[(11, .one (.val (.int .i64) pivot)), (10, .one (.val (.int .i64) length_10)), (9, .one (.val .bool wasPartitioned)), (8, .one (.val .bool wasBalanced)), (3, .one (.val (.int .i64) limit)), (2, .one (.val (.int .i64) b)), (1, .one (.val (.int .i64) a)), (0, .one (.own 10000))], [(10000, some ⟨.fixed, .int .i64, data_P⟩)]⟩
def tJ4 (a : Int) (b : Int) (limit : Int) (wasBalanced : Bool) (wasPartitioned : Bool) (length_10 : Int) (pivot : Int) (v_87 : Bool) (data_P : List Int) : ASt := ⟨[(87, .one (.val .bool v_87)), (11, .one (.val (.int .i64) pivot)), (10, .one (.val (.int .i64) length_10)), (9, .one (.val .bool wasPartitioned)), (8, .one (.val .bool wasBalanced)), (3, .one (.val (.int .i64) limit)), (2, .one (.val (.int .i64) b)), (1, .one (.val (.int .i64) a)), (0, .one (.own 10000))], [(10000, some ⟨.fixed, .int .i64, data_P⟩)]⟩
noncomputable def SL0 (self : (List Int) → Int → Int → Int → R) (kJ1 : Int → Int → Int → Bool → Bool → Int → (List Int) → R) (a : Int) (b : Int) (limit : Int) (wasBalanced : Bool) (wasPartitioned : Bool) (data_P : List Int) : R :=
  cond (decide ((IntKind.i64.wrap (b - a)) ≤ 12))
    (Option.bind (slices_insertionSortOrdered_int data_P a b) fun x1 =>
    some (x1.1, ()))
    (cond (limit == 0)
      (Option.bind (slices_heapSortOrdered_int data_P a b) fun x2 =>
      some (x2.1, ()))
      (cond (!wasBalanced)
        (Option.bind (slices_breakPatternsOrdered_int data_P a b) fun x3 =>
        kJ1 a b (IntKind.i64.wrap (limit - 1)) wasBalanced wasPartitioned (IntKind.i64.wrap (b - a)) x3.1)
        (kJ1 a b limit wasBalanced wasPartitioned (IntKind.i64.wrap (b - a)) data_P)))
noncomputable def SJ1 (self : (List Int) → Int → Int → Int → R) (kJ2 : Int → Int → Int → Bool → Bool → Int → Int → Int → (List Int) → R) (a : Int) (b : Int) (limit : Int) (wasBalanced : Bool) (wasPartitioned : Bool) (length_10 : Int) (data_P : List Int) : R :=
  Option.bind (slices_choosePivotOrdered_int data_P a b) fun x1 =>
  cond (x1.2.1 == 2)
    (Option.bind (slices_reverseRangeOrdered_int data_P a b) fun x2 =>
    kJ2 a b limit wasBalanced wasPartitioned length_10 (IntKind.i64.wrap ((IntKind.i64.wrap (b - 1)) - (IntKind.i64.wrap (x1.1 - a)))) 1 x2.1)
    (kJ2 a b limit wasBalanced wasPartitioned length_10 x1.1 x1.2.1 data_P)
noncomputable def SJ2 (self : (List Int) → Int → Int → Int → R) (kJ3 : Int → Int → Int → Bool → Bool → Int → Int → (List Int) → R) (a : Int) (b : Int) (limit : Int) (wasBalanced : Bool) (wasPartitioned : Bool) (length_10 : Int) (pivot : Int) (hint : Int) (data_P : List Int) : R :=
  cond wasBalanced
    (cond wasPartitioned
      (cond (hint == 1)
        (Option.bind (slices_partialInsertionSortOrdered_int data_P a b) fun x1 =>
        cond x1.1
          (some (x1.2.1, ()))
          (kJ3 a b limit wasBalanced wasPartitioned length_10 pivot x1.2.1))
        (kJ3 a b limit wasBalanced wasPartitioned length_10 pivot data_P))
      (kJ3 a b limit wasBalanced wasPartitioned length_10 pivot data_P))
    (kJ3 a b limit wasBalanced wasPartitioned length_10 pivot data_P)
noncomputable def SJ3 (self : (List Int) → Int → Int → Int → R) (kJ4 : Int → Int → Int → Bool → Bool → Int → Int → Bool → (List Int) → R) (a : Int) (b : Int) (limit : Int) (wasBalanced : Bool) (wasPartitioned : Bool) (length_10 : Int) (pivot : Int) (data_P : List Int) : R :=
  cond (decide (a > 0))
    (cond (decide (0 ≤ IntKind.i64.wrap (a - 1)) && decide (IntKind.i64.wrap (a - 1) < (data_P.length : Int)))
      (cond (decide (0 ≤ pivot) && decide (pivot < (data_P.length : Int)))
        (Option.bind (cmp_Less_int (data_P.getD ((IntKind.i64.wrap (a - 1)).toNat) 0) (data_P.getD pivot.toNat 0)) fun x1 =>
        kJ4 a b limit wasBalanced wasPartitioned length_10 pivot (!x1.1) data_P)
        none)
      none)
    (kJ4 a b limit wasBalanced wasPartitioned length_10 pivot false data_P)
noncomputable def SJ4 (self : (List Int) → Int → Int → Int → R) (kL0 : Int → Int → Int → Bool → Bool → (List Int) → R) (a : Int) (b : Int) (limit : Int) (wasBalanced : Bool) (wasPartitioned : Bool) (length_10 : Int) (pivot : Int) (v_87 : Bool) (data_P : List Int) : R :=
  cond v_87
    (Option.bind (slices_partitionEqualOrdered_int data_P a b pivot) fun x1 =>
    kL0 x1.1 b limit wasBalanced wasPartitioned x1.2.1)
    (Option.bind (slices_partitionOrdered_int data_P a b pivot) fun x2 =>
    cond (decide ((IntKind.i64.wrap (x2.1 - a)) < (IntKind.i64.wrap (b - x2.1))))
      (Option.bind (self x2.2.2.1 a x2.1 limit) fun x3 =>
      kL0 (IntKind.i64.wrap (x2.1 + 1)) b limit (decide ((IntKind.i64.wrap (x2.1 - a)) ≥ (IntKind.i64.wrap (Int.tdiv length_10 8)))) x2.2.1 x3.1)
      (Option.bind (self x2.2.2.1 (IntKind.i64.wrap (x2.1 + 1)) b limit) fun x4 =>
      kL0 a x2.1 limit (decide ((IntKind.i64.wrap (b - x2.1)) ≥ (IntKind.i64.wrap (Int.tdiv length_10 8)))) x2.2.1 x4.1))
noncomputable def Se (self : (List Int) → Int → Int → Int → R) (kL0 : Int → Int → Int → Bool → Bool → (List Int) → R) (data : List Int) (a : Int) (b : Int) (limit : Int) : R :=
  kL0 a b limit true true data
theorem sL0 (self : (List Int) → Int → Int → Int → R) (jmp : Tgt → ASt → R) (a : Int) (b : Int) (limit : Int) (wasBalanced : Bool) (wasPartitioned : Bool) (data_P : List Int) : run (E self) jmp fin depth c0 (.loop c0 K3) (tL0 a b limit wasBalanced wasPartitioned data_P) =
    SL0 self (fun a b limit wasBalanced wasPartitioned length_10 data_P => jmp (.code c2 K5) (tJ1 a b limit wasBalanced wasPartitioned length_10 data_P)) a b limit wasBalanced wasPartitioned data_P := by kernel_rfl
theorem sJ1 (self : (List Int) → Int → Int → Int → R) (jmp : Tgt → ASt → R) (a : Int) (b : Int) (limit : Int) (wasBalanced : Bool) (wasPartitioned : Bool) (length_10 : Int) (data_P : List Int) : run (E self) jmp fin depth c2 K5 (tJ1 a b limit wasBalanced wasPartitioned length_10 data_P) =
    SJ1 self (fun a b limit wasBalanced wasPartitioned length_10 pivot hint data_P => jmp (.code c3 K5) (tJ2 a b limit wasBalanced wasPartitioned length_10 pivot hint data_P)) a b limit wasBalanced wasPartitioned length_10 data_P := by kernel_rfl
theorem sJ2 (self : (List Int) → Int → Int → Int → R) (jmp : Tgt → ASt → R) (a : Int) (b : Int) (limit : Int) (wasBalanced : Bool) (wasPartitioned : Bool) (length_10 : Int) (pivot : Int) (hint : Int) (data_P : List Int) : run (E self) jmp fin depth c3 K5 (tJ2 a b limit wasBalanced wasPartitioned length_10 pivot hint data_P) =
    SJ2 self (fun a b limit wasBalanced wasPartitioned length_10 pivot data_P => jmp (.code c4 K5) (tJ3 a b limit wasBalanced wasPartitioned length_10 pivot data_P)) a b limit wasBalanced wasPartitioned length_10 pivot hint data_P := by kernel_rfl
theorem sJ3 (self : (List Int) → Int → Int → Int → R) (jmp : Tgt → ASt → R) (a : Int) (b : Int) (limit : Int) (wasBalanced : Bool) (wasPartitioned : Bool) (length_10 : Int) (pivot : Int) (data_P : List Int) : run (E self) jmp fin depth c4 K5 (tJ3 a b limit wasBalanced wasPartitioned length_10 pivot data_P) =
    SJ3 self (fun a b limit wasBalanced wasPartitioned length_10 pivot v_87 data_P => jmp (.code c5 K24) (tJ4 a b limit wasBalanced wasPartitioned length_10 pivot v_87 data_P)) a b limit wasBalanced wasPartitioned length_10 pivot data_P := by kernel_rfl
theorem sJ4 (self : (List Int) → Int → Int → Int → R) (jmp : Tgt → ASt → R) (a : Int) (b : Int) (limit : Int) (wasBalanced : Bool) (wasPartitioned : Bool) (length_10 : Int) (pivot : Int) (v_87 : Bool) (data_P : List Int) : run (E self) jmp fin depth c5 K24 (tJ4 a b limit wasBalanced wasPartitioned length_10 pivot v_87 data_P) =
    SJ4 self (fun a b limit wasBalanced wasPartitioned data_P => jmp (.loop c0 K3) (tL0 a b limit wasBalanced wasPartitioned data_P)) a b limit wasBalanced wasPartitioned length_10 pivot v_87 data_P := by kernel_rfl
theorem se (self : (List Int) → Int → Int → Int → R) (jmp : Tgt → ASt → R) (x : (argTy ps).den) : run (E self) jmp fin depth (bodyOf Try.f24) .ret (entryFrom 0 ps x) =
    Se self (fun a b limit wasBalanced wasPartitioned data_P => jmp (.loop c0 K3) (tL0 a b limit wasBalanced wasPartitioned data_P)) x.1 x.2.1 x.2.2.1 x.2.2.2.1 := by kernel_rfl
end slices_pdqsortOrdered_int
noncomputable def slices_pdqsortOrdered_int (data : List Int) (a : Int) (b : Int) (limit : Int) : slices_pdqsortOrdered_int.R :=
  recF slices_pdqsortOrdered_int.E0 slices_pdqsortOrdered_int.ctx0 24 slices_pdqsortOrdered_int.ps slices_pdqsortOrdered_int.rs slices_pdqsortOrdered_int.fin (bodyOf Try.f24) (data, a, b, limit, ())
namespace slices_pdqsortOrdered_int
noncomputable def L0 (a : Int) (b : Int) (limit : Int) (wasBalanced : Bool) (wasPartitioned : Bool) (data_P : List Int) : R := lim (E slices_pdqsortOrdered_int) fin (.loop c0 K3) (tL0 a b limit wasBalanced wasPartitioned data_P)
noncomputable def J1 (a : Int) (b : Int) (limit : Int) (wasBalanced : Bool) (wasPartitioned : Bool) (length_10 : Int) (data_P : List Int) : R := lim (E slices_pdqsortOrdered_int) fin (.code c2 K5) (tJ1 a b limit wasBalanced wasPartitioned length_10 data_P)
noncomputable def J2 (a : Int) (b : Int) (limit : Int) (wasBalanced : Bool) (wasPartitioned : Bool) (length_10 : Int) (pivot : Int) (hint : Int) (data_P : List Int) : R := lim (E slices_pdqsortOrdered_int) fin (.code c3 K5) (tJ2 a b limit wasBalanced wasPartitioned length_10 pivot hint data_P)
noncomputable def J3 (a : Int) (b : Int) (limit : Int) (wasBalanced : Bool) (wasPartitioned : Bool) (length_10 : Int) (pivot : Int) (data_P : List Int) : R := lim (E slices_pdqsortOrdered_int) fin (.code c4 K5) (tJ3 a b limit wasBalanced wasPartitioned length_10 pivot data_P)
noncomputable def J4 (a : Int) (b : Int) (limit : Int) (wasBalanced : Bool) (wasPartitioned : Bool) (length_10 : Int) (pivot : Int) (v_87 : Bool) (data_P : List Int) : R := lim (E slices_pdqsortOrdered_int) fin (.code c5 K24) (tJ4 a b limit wasBalanced wasPartitioned length_10 pivot v_87 data_P)
theorem L0_eq (a : Int) (b : Int) (limit : Int) (wasBalanced : Bool) (wasPartitioned : Bool) (data_P : List Int) : L0 a b limit wasBalanced wasPartitioned data_P = SL0 slices_pdqsortOrdered_int J1 a b limit wasBalanced wasPartitioned data_P :=
  (lim_eq (.loop c0 K3) (tL0 a b limit wasBalanced wasPartitioned data_P)).trans (sL0 slices_pdqsortOrdered_int (lim (E slices_pdqsortOrdered_int) fin) a b limit wasBalanced wasPartitioned data_P)
theorem J1_eq (a : Int) (b : Int) (limit : Int) (wasBalanced : Bool) (wasPartitioned : Bool) (length_10 : Int) (data_P : List Int) : J1 a b limit wasBalanced wasPartitioned length_10 data_P = SJ1 slices_pdqsortOrdered_int J2 a b limit wasBalanced wasPartitioned length_10 data_P :=
  (lim_eq (.code c2 K5) (tJ1 a b limit wasBalanced wasPartitioned length_10 data_P)).trans (sJ1 slices_pdqsortOrdered_int (lim (E slices_pdqsortOrdered_int) fin) a b limit wasBalanced wasPartitioned length_10 data_P)
theorem J2_eq (a : Int) (b : Int) (limit : Int) (wasBalanced : Bool) (wasPartitioned : Bool) (length_10 : Int) (pivot : Int) (hint : Int) (data_P : List Int) : J2 a b limit wasBalanced wasPartitioned length_10 pivot hint data_P = SJ2 slices_pdqsortOrdered_int J3 a b limit wasBalanced wasPartitioned length_10 pivot hint data_P :=
  (lim_eq (.code c3 K5) (tJ2 a b limit wasBalanced wasPartitioned length_10 pivot hint data_P)).trans (sJ2 slices_pdqsortOrdered_int (lim (E slices_pdqsortOrdered_int) fin) a b limit wasBalanced wasPartitioned length_10 pivot hint data_P)
theorem J3_eq (a : Int) (b : Int) (limit : Int) (wasBalanced : Bool) (wasPartitioned : Bool) (length_10 : Int) (pivot : Int) (data_P : List Int) : J3 a b limit wasBalanced wasPartitioned length_10 pivot data_P = SJ3 slices_pdqsortOrdered_int J4 a b limit wasBalanced wasPartitioned length_10 pivot data_P :=
  (lim_eq (.code c4 K5) (tJ3 a b limit wasBalanced wasPartitioned length_10 pivot data_P)).trans (sJ3 slices_pdqsortOrdered_int (lim (E slices_pdqsortOrdered_int) fin) a b limit wasBalanced wasPartitioned length_10 pivot data_P)
theorem J4_eq (a : Int) (b : Int) (limit : Int) (wasBalanced : Bool) (wasPartitioned : Bool) (length_10 : Int) (pivot : Int) (v_87 : Bool) (data_P : List Int) : J4 a b limit wasBalanced wasPartitioned length_10 pivot v_87 data_P = SJ4 slices_pdqsortOrdered_int L0 a b limit wasBalanced wasPartitioned length_10 pivot v_87 data_P :=
  (lim_eq (.code c5 K24) (tJ4 a b limit wasBalanced wasPartitioned length_10 pivot v_87 data_P)).trans (sJ4 slices_pdqsortOrdered_int (lim (E slices_pdqsortOrdered_int) fin) a b limit wasBalanced wasPartitioned length_10 pivot v_87 data_P)
theorem selfrun : (fun x : (argTy ps).den => slices_pdqsortOrdered_int x.1 x.2.1 x.2.2.1 x.2.2.2.1) = recF E0 ctx0 24 ps rs fin (bodyOf Try.f24) := by kernel_rfl
end slices_pdqsortOrdered_int
noncomputable def slices_pdqsortOrdered_int.sig : Sig := ⟨slices_pdqsortOrdered_int.ps, slices_pdqsortOrdered_int.rs, fun x => slices_pdqsortOrdered_int x.1 x.2.1 x.2.2.1 x.2.2.2.1⟩
theorem slices_pdqsortOrdered_int.val (x : (argTy slices_pdqsortOrdered_int.ps).den) : lim (slices_pdqsortOrdered_int.E slices_pdqsortOrdered_int) slices_pdqsortOrdered_int.fin (.code (bodyOf Try.f24) .ret) (entryFrom 0 slices_pdqsortOrdered_int.ps x) = slices_pdqsortOrdered_int.sig.run x := by
  have h := recF_eq (E := slices_pdqsortOrdered_int.E0) (ctx := slices_pdqsortOrdered_int.ctx0) (f := 24) (ps := slices_pdqsortOrdered_int.ps) (rs := slices_pdqsortOrdered_int.rs) (fin := slices_pdqsortOrdered_int.fin) (body := bodyOf Try.f24) x
  rw [← slices_pdqsortOrdered_int.selfrun] at h
  exact h.symm
theorem slices_pdqsortOrdered_int_eq (data : List Int) (a : Int) (b : Int) (limit : Int) : slices_pdqsortOrdered_int data a b limit = slices_pdqsortOrdered_int.Se slices_pdqsortOrdered_int slices_pdqsortOrdered_int.L0 data a b limit :=
  (slices_pdqsortOrdered_int.val (data, a, b, limit, ())).symm.trans ((lim_eq (.code (bodyOf Try.f24) .ret) (entryFrom 0 slices_pdqsortOrdered_int.ps (data, a, b, limit, ()))).trans (slices_pdqsortOrdered_int.se slices_pdqsortOrdered_int (lim (slices_pdqsortOrdered_int.E slices_pdqsortOrdered_int) slices_pdqsortOrdered_int.fin) (data, a, b, limit, ())))
theorem slices_pdqsortOrdered_int.ok : CallOK Try.prog 24 slices_pdqsortOrdered_int.sig := by
  have h := callOK_rec (E := slices_pdqsortOrdered_int.E0) (ctx := slices_pdqsortOrdered_int.ctx0) (f := 24) (ps := slices_pdqsortOrdered_int.ps) (rs := slices_pdqsortOrdered_int.rs) (fin := slices_pdqsortOrdered_int.fin) (body := bodyOf Try.f24) mixed tt_ok (ctxOk_cons (ctxOk_cons (ctxOk_cons (ctxOk_cons (ctxOk_cons (ctxOk_cons (ctxOk_cons (ctxOk_cons (ctxOk_cons ctxOk_nil slices_partitionOrdered_int.ok Try.func35 (by kernel_rfl) (by kernel_rfl)) slices_partitionEqualOrdered_int.ok Try.func34 (by kernel_rfl) (by kernel_rfl)) cmp_Less_int.ok Try.func33 (by kernel_rfl) (by kernel_rfl)) slices_partialInsertionSortOrdered_int.ok Try.func32 (by kernel_rfl) (by kernel_rfl)) slices_reverseRangeOrdered_int.ok Try.func31 (by kernel_rfl) (by kernel_rfl)) slices_choosePivotOrdered_int.ok Try.func30 (by kernel_rfl) (by kernel_rfl)) slices_breakPatternsOrdered_int.ok Try.func29 (by kernel_rfl) (by kernel_rfl)) slices_heapSortOrdered_int.ok Try.func28 (by kernel_rfl) (by kernel_rfl)) slices_insertionSortOrdered_int.ok Try.func27 (by kernel_rfl) (by kernel_rfl)) Try.func24 (by kernel_rfl : Try.f24.body = some (bodyOf Try.f24)) (by kernel_rfl) (by kernel_rfl) Try.ntmps24 (of_decide_eq_true (by kernel_rfl)) (of_decide_eq_true (by kernel_rfl)) rfl
  rw [← slices_pdqsortOrdered_int.selfrun] at h
  exact h
noncomputable def slices_pdqsortOrdered_int.ctxc (n : Nat) : List (Nat × Sig) := [(27, slices_insertionSortOrdered_int.sigc n), (28, slices_heapSortOrdered_int.sigc n), (29, slices_breakPatternsOrdered_int.sigc n), (30, slices_choosePivotOrdered_int.sigc n), (31, slices_reverseRangeOrdered_int.sigc n), (32, slices_partialInsertionSortOrdered_int.sigc n), (33, cmp_Less_int.sigc n), (34, slices_partitionEqualOrdered_int.sigc n), (35, slices_partitionOrdered_int.sigc n)]
noncomputable def slices_pdqsortOrdered_int.runc (n : Nat) : Nat → (argTy slices_pdqsortOrdered_int.ps).den → slices_pdqsortOrdered_int.R
  | 0, _ => none
  | d + 1, x => runs (withCtx slices_pdqsortOrdered_int.E0 ((24, ⟨slices_pdqsortOrdered_int.ps, slices_pdqsortOrdered_int.rs, slices_pdqsortOrdered_int.runc n d⟩) :: slices_pdqsortOrdered_int.ctxc n)) slices_pdqsortOrdered_int.fin n (.code (bodyOf Try.f24) .ret) (entryFrom 0 slices_pdqsortOrdered_int.ps x)
noncomputable def slices_pdqsortOrdered_int.sigc (n : Nat) : Sig := ⟨slices_pdqsortOrdered_int.ps, slices_pdqsortOrdered_int.rs, slices_pdqsortOrdered_int.runc n n⟩
theorem slices_pdqsortOrdered_int.runc_le (n : Nat) : ∀ d x y, slices_pdqsortOrdered_int.runc n d x = some y → slices_pdqsortOrdered_int.sig.run x = some y := by
  intro d
  induction d with
  | zero => intro x y h; cases h
  | succ d ih => exact fun x y h => (slices_pdqsortOrdered_int.val x).symm.trans (runs_lim (E := slices_pdqsortOrdered_int.E slices_pdqsortOrdered_int) (c := (24, ⟨slices_pdqsortOrdered_int.ps, slices_pdqsortOrdered_int.rs, slices_pdqsortOrdered_int.runc n d⟩) :: slices_pdqsortOrdered_int.ctxc n) (ctxLe_cons (ctxLe_cons (ctxLe_cons (ctxLe_cons (ctxLe_cons (ctxLe_cons (ctxLe_cons (ctxLe_cons (ctxLe_cons (ctxLe_cons ctxLe_nil (slices_partitionOrdered_int.sigc_le n)) (slices_partitionEqualOrdered_int.sigc_le n)) (cmp_Less_int.sigc_le n)) (slices_partialInsertionSortOrdered_int.sigc_le n)) (slices_reverseRangeOrdered_int.sigc_le n)) (slices_choosePivotOrdered_int.sigc_le n)) (slices_breakPatternsOrdered_int.sigc_le n)) (slices_heapSortOrdered_int.sigc_le n)) (slices_insertionSortOrdered_int.sigc_le n)) ih) h)
theorem slices_pdqsortOrdered_int.sigc_le (n : Nat) : ∀ x y, (slices_pdqsortOrdered_int.sigc n).run x = some y → slices_pdqsortOrdered_int.sig.run x = some y := slices_pdqsortOrdered_int.runc_le n n
namespace slices_Sort_int_int
abbrev ps : List PM := [.own (.int .i64)]
abbrev rs : List RM := []
abbrev R : Type := Option (List Int × Unit)
noncomputable def E : Env := { tt := tt, ctx := [(25, math_bits_Len.sig), (24, slices_pdqsortOrdered_int.sig)], nt := 11, ann := [] }
noncomputable def fin : ASt → R := Kret E Try.f19.results.toList ps rs
noncomputable def Se (x_0 : List Int) : R :=
  Option.bind (math_bits_Len (IntKind.u64.wrap (x_0.length : Int))) fun x1 =>
  Option.bind (slices_pdqsortOrdered_int x_0 0 (x_0.length : Int) x1.1) fun x2 =>
  some (x2.1, ())
theorem se (x : (argTy ps).den) : run E (lim E fin) fin depth (bodyOf Try.f19) .ret (entryFrom 0 ps x) = Se x.1 := by kernel_rfl
end slices_Sort_int_int
noncomputable def slices_Sort_int_int (x_0 : List Int) : slices_Sort_int_int.R :=
  slices_Sort_int_int.Se x_0
namespace slices_Sort_int_int
noncomputable def sig : Sig := ⟨ps, rs, fun x => slices_Sort_int_int x.1⟩
theorem val (x : (argTy ps).den) : lim E fin (.code (bodyOf Try.f19) .ret) (entryFrom 0 ps x) = sig.run x := (lim_eq (.code (bodyOf Try.f19) .ret) (entryFrom 0 ps x)).trans (se x)
theorem ok : CallOK Try.prog 19 sig :=
  callOK_of_lim (E := E) mixed tt_ok (ctxOk_cons (ctxOk_cons ctxOk_nil slices_pdqsortOrdered_int.ok Try.func24 (by kernel_rfl) (by kernel_rfl)) math_bits_Len.ok Try.func25 (by kernel_rfl) (by kernel_rfl)) Try.func19 (by kernel_rfl : Try.f19.body = some (bodyOf Try.f19)) Try.ntmps19 (of_decide_eq_true (by kernel_rfl)) (of_decide_eq_true (by kernel_rfl)) fun x y h => (val x).trans h
noncomputable def ctxc (n : Nat) : List (Nat × Sig) := [(25, math_bits_Len.sigc n), (24, slices_pdqsortOrdered_int.sigc n)]
noncomputable def sigc (n : Nat) : Sig := ⟨ps, rs, fun x => runs (withCtx E (ctxc n)) fin n (.code (bodyOf Try.f19) .ret) (entryFrom 0 ps x)⟩
theorem sigc_le (n : Nat) : ∀ x y, (sigc n).run x = some y → sig.run x = some y := fun x y h => (val x).symm.trans (runs_lim (E := E) (c := ctxc n) (ctxLe_cons (ctxLe_cons ctxLe_nil (slices_pdqsortOrdered_int.sigc_le n)) (math_bits_Len.sigc_le n)) h)
end slices_Sort_int_int
namespace slices_Compact_int_int
abbrev ps : List PM := [.give (.int .i64)]
abbrev rs : List RM := [.own (.int .i64)]
abbrev R : Type := Option (List Int × Unit)
noncomputable def E : Env := { tt := tt, ctx := [], nt := 61, ann := [(1000004, [(0, .keep), (3, .keep)]), (1000009, [(0, .keep), (3, .keep), (4, .keep), (5, .keep)])] }
noncomputable def c0 : Code := sub [1, 1, 1] (bodyOf Try.f20)
noncomputable def c1 : Code := sub [1, 1, 0, 1, 0, 0] (bodyOf Try.f20)
noncomputable def c2 : Code := sub [1, 1, 0, 1, 0, 0, 1, 1] (bodyOf Try.f20)
noncomputable def c3 : Code := sub [1, 1, 0, 1, 0, 0, 1, 0, 0, 1, 0, 1, 1] (bodyOf Try.f20)
noncomputable def c4 : Code := sub [1, 1, 0, 1, 0, 0, 1, 0, 0, 1, 0, 1, 0, 1, 0, 0] (bodyOf Try.f20)
noncomputable def K5 : Kont := .seq c0 .ret
noncomputable def K7 : Kont := .blk 0 K5
noncomputable def K8 : Kont := .loop c1 K7
noncomputable def K11 : Kont := .seq c2 K8
noncomputable def K12 : Kont := .blk 1 K11
noncomputable def K15 : Kont := .seq c3 K12
noncomputable def K17 : Kont := .blk 2 K15
noncomputable def fin : ASt → R := Kret E Try.f20.results.toList ps rs
def tL0 (s : List Int) (k : Int) : ASt := ⟨[(3, .one (.val (.int .i64) k)), (0, .one (.own 0))], [(0, some ⟨.free, .int .i64, s⟩)]⟩
def tL1 (s : List Int) (k : Int) (s2_lo : Nat) (s2_len : Nat) (k2 : Int) : ASt := ⟨[(5, .one (.val (.int .i64) k2)), (4, .one (.osub 0 s2_lo s2_len)), (3, .one (.val (.int .i64) k)), (0, .one (.own 0))], [(0, some ⟨.free, .int .i64, s⟩)]⟩
noncomputable def L0 (s : List Int) (k : Int) : R := lim E fin (.loop c1 K7) (tL0 s k)
noncomputable def L1 (s : List Int) (k : Int) (s2_lo : Nat) (s2_len : Nat) (k2 : Int) : R := lim E fin (.loop c4 K17) (tL1 s k s2_lo s2_len k2)
noncomputable def SL0 (s : List Int) (k : Int) : R :=
  cond (decide (k < (s.length : Int)))
    (cond (decide (0 ≤ k) && decide (k < (s.length : Int)))
      (cond (decide (0 ≤ IntKind.i64.wrap (k - 1)) && decide (IntKind.i64.wrap (k - 1) < (s.length : Int)))
        (cond ((s.getD k.toNat 0) == (s.getD ((IntKind.i64.wrap (k - 1)).toNat) 0))
          (cond (decide ((0 : Int) ≤ k) && (decide ((k : Int) ≤ (s.length : Int)) && decide ((s.length : Int) ≤ (s.length : Int))))
            (L1 s k k.toNat (s.length - k.toNat) 1)
            none)
          (L0 s (IntKind.i64.wrap (k + 1))))
        none)
      none)
    (some (s, ()))
noncomputable def SL1 (s : List Int) (k : Int) (s2_lo : Nat) (s2_len : Nat) (k2 : Int) : R :=
  cond (decide (k2 < (s2_len : Int)))
    (cond (decide (0 ≤ k2) && decide (k2 < ((s2_len : Nat) : Int)))
      (cond (decide (0 ≤ IntKind.i64.wrap (k2 - 1)) && decide (IntKind.i64.wrap (k2 - 1) < ((s2_len : Nat) : Int)))
        (cond ((s.getD (s2_lo + k2.toNat) 0) != (s.getD (s2_lo + (IntKind.i64.wrap (k2 - 1)).toNat) 0))
          (cond (decide (0 ≤ k2) && decide (k2 < ((s2_len : Nat) : Int)))
            (cond (decide (0 ≤ k) && decide (k < (s.length : Int)))
              (L1 (s.set k.toNat (s.getD (s2_lo + k2.toNat) 0)) (IntKind.i64.wrap (k + 1)) s2_lo s2_len (IntKind.i64.wrap (k2 + 1)))
              none)
            none)
          (L1 s k s2_lo s2_len (IntKind.i64.wrap (k2 + 1))))
        none)
      none)
    (cond (decide ((0 : Int) ≤ k) && (decide ((k : Int) ≤ (s.length : Int)) && decide ((s.length : Int) ≤ (s.length : Int))))
      (cond (decide (0 < (s.length - k.toNat)))
        (cond (decide ((0 : Int) ≤ 0) && (decide ((0 : Int) ≤ k) && decide (k ≤ ((s.take k.toNat ++ (List.replicate (s.length - k.toNat) 0 ++ s.drop (k.toNat + (s.length - k.toNat)))).length : Int))))
          (some (((s.take k.toNat ++ (List.replicate (s.length - k.toNat) 0 ++ s.drop (k.toNat + (s.length - k.toNat)))).take k.toNat), ()))
          none)
        none)
      none)
noncomputable def Se (s : List Int) : R :=
  cond (decide ((s.length : Int) < 2))
    (some (s, ()))
    (L0 s 1)
theorem L0_eq (s k) : L0 s k = SL0 s k := (lim_eq (.loop c1 K7) (tL0 s k)).trans (by kernel_rfl)
theorem L1_eq (s k s2_lo s2_len k2) : L1 s k s2_lo s2_len k2 = SL1 s k s2_lo s2_len k2 := (lim_eq (.loop c4 K17) (tL1 s k s2_lo s2_len k2)).trans (by kernel_rfl)
theorem se (x : (argTy ps).den) : run E (lim E fin) fin depth (bodyOf Try.f20) .ret (entryFrom 0 ps x) = Se x.1 := by kernel_rfl
end slices_Compact_int_int
noncomputable def slices_Compact_int_int (s : List Int) : slices_Compact_int_int.R :=
  slices_Compact_int_int.Se s
namespace slices_Compact_int_int
noncomputable def sig : Sig := ⟨ps, rs, fun x => slices_Compact_int_int x.1⟩
theorem val (x : (argTy ps).den) : lim E fin (.code (bodyOf Try.f20) .ret) (entryFrom 0 ps x) = sig.run x := (lim_eq (.code (bodyOf Try.f20) .ret) (entryFrom 0 ps x)).trans (se x)
theorem ok : CallOK Try.prog 20 sig :=
  callOK_of_lim (E := E) mixed tt_ok ctxOk_nil Try.func20 (by kernel_rfl : Try.f20.body = some (bodyOf Try.f20)) Try.ntmps20 (of_decide_eq_true (by kernel_rfl)) (of_decide_eq_true (by kernel_rfl)) fun x y h => (val x).trans h
noncomputable def ctxc (n : Nat) : List (Nat × Sig) := []
noncomputable def sigc (n : Nat) : Sig := ⟨ps, rs, fun x => runs (withCtx E (ctxc n)) fin n (.code (bodyOf Try.f20) .ret) (entryFrom 0 ps x)⟩
theorem sigc_le (n : Nat) : ∀ x y, (sigc n).run x = some y → sig.run x = some y := fun x y h => (val x).symm.trans (runs_lim (E := E) (c := ctxc n) ctxLe_nil h)
end slices_Compact_int_int
namespace ruling_StayedMonths
abbrev ps : List PM := [.pure (.sl api_Appeal)]
abbrev rs : List RM := [.own (.int .i64)]
abbrev R : Type := Option (List Int × Unit)
noncomputable def E : Env := { tt := tt, ctx := [(19, slices_Sort_int_int.sig), (20, slices_Compact_int_int.sig)], nt := 40, ann := [(1000003, [(3, .own (.int .i64)), (7, .keep), (8, .keep), (9, .keep)]), (6, [(3, .own (.int .i64)), (5, .keep), (7, .keep), (8, .keep), (9, .keep)]), (1000007, [(3, .own (.int .i64)), (5, .keep), (6, .keep), (7, .keep), (8, .keep), (9, .keep)])] }
noncomputable def c0 : Code := sub [1, 1, 1] (bodyOf Try.f10)
noncomputable def c1 : Code := sub [1, 1, 0, 1, 0, 0] (bodyOf Try.f10)
noncomputable def c2 : Code := sub [1, 1, 0, 1, 0, 0, 1, 1, 1] (bodyOf Try.f10)
noncomputable def c3 : Code := sub [1, 1, 0, 1, 0, 0, 1, 1, 0, 0, 1, 1] (bodyOf Try.f10)
noncomputable def c4 : Code := sub [1, 1, 0, 1, 0, 0, 1, 1, 0, 0, 1, 1, 1, 0, 0] (bodyOf Try.f10)
noncomputable def K3 : Kont := .seq c0 .ret
noncomputable def K5 : Kont := .blk 0 K3
noncomputable def K6 : Kont := .loop c1 K5
noncomputable def K9 : Kont := .seq c2 K6
noncomputable def K10 : Kont := .blk 1 K9
noncomputable def K16 : Kont := .blk 2 K10
noncomputable def fin : ASt → R := Kret E Try.f10.results.toList ps rs
def tL0 (out : List Int) (v_7 : List api_AppealV) (v_8 : Int) (v_9 : Int) : ASt := ⟨[(9, .one (.val (.int .i64) v_9)), (8, .one (.val (.int .i64) v_8)), (7, .one (.val (.sl api_Appeal) v_7)), (3, .one (.own 3))], [(3, some ⟨.free, .int .i64, out⟩)]⟩
def tJ1 (out : List Int) (a : api_AppealV) (v_7 : List api_AppealV) (v_8 : Int) (v_9 : Int) : ASt := ⟨[(9, .one (.val (.int .i64) v_9)), (8, .one (.val (.int .i64) v_8)), (7, .one (.val (.sl api_Appeal) v_7)), (5, .one (.optr 5 0 [])), (3, .one (.own 3))], [(5, some ⟨.free, api_Appeal, [a]⟩), (3, some ⟨.free, .int .i64, out⟩)]⟩
def tL2 (out : List Int) (a : api_AppealV) (m : Int) (v_7 : List api_AppealV) (v_8 : Int) (v_9 : Int) : ASt := ⟨[(9, .one (.val (.int .i64) v_9)), (8, .one (.val (.int .i64) v_8)), (7, .one (.val (.sl api_Appeal) v_7)), (6, .one (.val (.int .i64) m)), (5, .one (.optr 5 0 [])), (3, .one (.own 3))], [(5, some ⟨.free, api_Appeal, [a]⟩), (3, some ⟨.free, .int .i64, out⟩)]⟩
noncomputable def L0 (out : List Int) (v_7 : List api_AppealV) (v_8 : Int) (v_9 : Int) : R := lim E fin (.loop c1 K5) (tL0 out v_7 v_8 v_9)
noncomputable def J1 (out : List Int) (a : api_AppealV) (v_7 : List api_AppealV) (v_8 : Int) (v_9 : Int) : R := lim E fin (.code c3 K10) (tJ1 out a v_7 v_8 v_9)
noncomputable def L2 (out : List Int) (a : api_AppealV) (m : Int) (v_7 : List api_AppealV) (v_8 : Int) (v_9 : Int) : R := lim E fin (.loop c4 K16) (tL2 out a m v_7 v_8 v_9)
noncomputable def SL0 (out : List Int) (v_7 : List api_AppealV) (v_8 : Int) (v_9 : Int) : R :=
  cond (decide (v_9 < v_8))
    (Option.bind (idx v_7 v_9) fun x1 =>
    cond (x1.2.2.2.2.2.1 != 1)
      (cond (x1.2.2.2.2.2.1 != 2)
        (L0 out v_7 v_8 (IntKind.i64.wrap (v_9 + 1)))
        (J1 out x1 v_7 v_8 v_9))
      (J1 out x1 v_7 v_8 v_9))
    (Option.bind (slices_Sort_int_int out) fun x2 =>
    Option.bind (slices_Compact_int_int x2.1) fun x3 =>
    some (x3.1, ()))
noncomputable def SJ1 (out : List Int) (a : api_AppealV) (v_7 : List api_AppealV) (v_8 : Int) (v_9 : Int) : R :=
  L2 out a (cond (decide (0 > a.2.1)) 0 a.2.1) v_7 v_8 v_9
noncomputable def SL2 (out : List Int) (a : api_AppealV) (m : Int) (v_7 : List api_AppealV) (v_8 : Int) (v_9 : Int) : R :=
  cond (decide (m < (cond (decide (3600 < a.2.2.1)) 3600 a.2.2.1)))
    (cond (decide ((out.length + 1) * 8 ≤ room) && decide (0 < Ty.nc (.int .i64)))
      (L2 (out ++ [m]) a (IntKind.i64.wrap (m + 1)) v_7 v_8 v_9)
      none)
    (L0 out v_7 v_8 (IntKind.i64.wrap (v_9 + 1)))
noncomputable def Se (l : List api_AppealV) : R :=
  L0 [] l (l.length : Int) 0
theorem L0_eq (out v_7 v_8 v_9) : L0 out v_7 v_8 v_9 = SL0 out v_7 v_8 v_9 := (lim_eq (.loop c1 K5) (tL0 out v_7 v_8 v_9)).trans (by kernel_rfl)
theorem J1_eq (out a v_7 v_8 v_9) : J1 out a v_7 v_8 v_9 = SJ1 out a v_7 v_8 v_9 := (lim_eq (.code c3 K10) (tJ1 out a v_7 v_8 v_9)).trans (by kernel_rfl)
theorem L2_eq (out a m v_7 v_8 v_9) : L2 out a m v_7 v_8 v_9 = SL2 out a m v_7 v_8 v_9 := (lim_eq (.loop c4 K16) (tL2 out a m v_7 v_8 v_9)).trans (by kernel_rfl)
theorem se (x : (argTy ps).den) : run E (lim E fin) fin depth (bodyOf Try.f10) .ret (entryFrom 0 ps x) = Se x.1 := by kernel_rfl
end ruling_StayedMonths
noncomputable def ruling_StayedMonths (l : List api_AppealV) : ruling_StayedMonths.R :=
  ruling_StayedMonths.Se l
namespace ruling_StayedMonths
noncomputable def sig : Sig := ⟨ps, rs, fun x => ruling_StayedMonths x.1⟩
theorem val (x : (argTy ps).den) : lim E fin (.code (bodyOf Try.f10) .ret) (entryFrom 0 ps x) = sig.run x := (lim_eq (.code (bodyOf Try.f10) .ret) (entryFrom 0 ps x)).trans (se x)
theorem ok : CallOK Try.prog 10 sig :=
  callOK_of_lim (E := E) mixed tt_ok (ctxOk_cons (ctxOk_cons ctxOk_nil slices_Compact_int_int.ok Try.func20 (by kernel_rfl) (by kernel_rfl)) slices_Sort_int_int.ok Try.func19 (by kernel_rfl) (by kernel_rfl)) Try.func10 (by kernel_rfl : Try.f10.body = some (bodyOf Try.f10)) Try.ntmps10 (of_decide_eq_true (by kernel_rfl)) (of_decide_eq_true (by kernel_rfl)) fun x y h => (val x).trans h
noncomputable def ctxc (n : Nat) : List (Nat × Sig) := [(19, slices_Sort_int_int.sigc n), (20, slices_Compact_int_int.sigc n)]
noncomputable def sigc (n : Nat) : Sig := ⟨ps, rs, fun x => runs (withCtx E (ctxc n)) fin n (.code (bodyOf Try.f10) .ret) (entryFrom 0 ps x)⟩
theorem sigc_le (n : Nat) : ∀ x y, (sigc n).run x = some y → sig.run x = some y := fun x y h => (val x).symm.trans (runs_lim (E := E) (c := ctxc n) (ctxLe_cons (ctxLe_cons ctxLe_nil (slices_Compact_int_int.sigc_le n)) (slices_Sort_int_int.sigc_le n)) h)
end ruling_StayedMonths
namespace same_Ints
abbrev ps : List PM := [.pure (.sl (.int .i64)), .pure (.sl (.int .i64))]
abbrev rs : List RM := [.pure .bool]
abbrev R : Type := Option (Bool × Unit)
noncomputable def E : Env := { tt := tt, ctx := [], nt := 32, ann := [(1000004, [(0, .keep), (1, .keep), (5, .keep)]), (6, [(0, .keep), (1, .keep), (5, .keep)])] }
noncomputable def c0 : Code := sub [1, 1, 1] (bodyOf Try.f9)
noncomputable def c1 : Code := sub [1, 1, 0, 1, 0, 0] (bodyOf Try.f9)
noncomputable def c2 : Code := sub [1, 1, 0, 1, 0, 0, 1] (bodyOf Try.f9)
noncomputable def K5 : Kont := .seq c0 .ret
noncomputable def K7 : Kont := .blk 0 K5
noncomputable def K8 : Kont := .loop c1 K7
noncomputable def fin : ASt → R := Kret E Try.f9.results.toList ps rs
def tL0 (a : List Int) (b : List Int) (i : Int) : ASt := ⟨[(5, .one (.val (.int .i64) i)), (1, .one (.val (.sl (.int .i64)) b)), (0, .one (.val (.sl (.int .i64)) a))], []⟩
def tJ1 (a : List Int) (b : List Int) (i : Int) : ASt := ⟨[(5, .one (.val (.int .i64) i)), (1, .one (.val (.sl (.int .i64)) b)), (0, .one (.val (.sl (.int .i64)) a))], []⟩
noncomputable def L0 (a : List Int) (b : List Int) (i : Int) : R := lim E fin (.loop c1 K7) (tL0 a b i)
noncomputable def J1 (a : List Int) (b : List Int) (i : Int) : R := lim E fin (.code c2 K8) (tJ1 a b i)
noncomputable def SL0 (a : List Int) (b : List Int) (i : Int) : R :=
  cond (decide (i < (a.length : Int)))
    (cond (decide (i < (b.length : Int)))
      (J1 a b i)
      (some (true, ())))
    (some (true, ()))
noncomputable def SJ1 (a : List Int) (b : List Int) (i : Int) : R :=
  Option.bind (idx a i) fun x1 =>
  Option.bind (idx b i) fun x2 =>
  cond (x1 != x2)
    (some (false, ()))
    (L0 a b (IntKind.i64.wrap (i + 1)))
noncomputable def Se (a : List Int) (b : List Int) : R :=
  cond ((a.length : Int) != (b.length : Int))
    (some (false, ()))
    (L0 a b 0)
theorem L0_eq (a b i) : L0 a b i = SL0 a b i := (lim_eq (.loop c1 K7) (tL0 a b i)).trans (by kernel_rfl)
theorem J1_eq (a b i) : J1 a b i = SJ1 a b i := (lim_eq (.code c2 K8) (tJ1 a b i)).trans (by kernel_rfl)
theorem se (x : (argTy ps).den) : run E (lim E fin) fin depth (bodyOf Try.f9) .ret (entryFrom 0 ps x) = Se x.1 x.2.1 := by kernel_rfl
end same_Ints
noncomputable def same_Ints (a : List Int) (b : List Int) : same_Ints.R :=
  same_Ints.Se a b
namespace same_Ints
noncomputable def sig : Sig := ⟨ps, rs, fun x => same_Ints x.1 x.2.1⟩
theorem val (x : (argTy ps).den) : lim E fin (.code (bodyOf Try.f9) .ret) (entryFrom 0 ps x) = sig.run x := (lim_eq (.code (bodyOf Try.f9) .ret) (entryFrom 0 ps x)).trans (se x)
theorem ok : CallOK Try.prog 9 sig :=
  callOK_of_lim (E := E) mixed tt_ok ctxOk_nil Try.func9 (by kernel_rfl : Try.f9.body = some (bodyOf Try.f9)) Try.ntmps9 (of_decide_eq_true (by kernel_rfl)) (of_decide_eq_true (by kernel_rfl)) fun x y h => (val x).trans h
noncomputable def ctxc (n : Nat) : List (Nat × Sig) := []
noncomputable def sigc (n : Nat) : Sig := ⟨ps, rs, fun x => runs (withCtx E (ctxc n)) fin n (.code (bodyOf Try.f9) .ret) (entryFrom 0 ps x)⟩
theorem sigc_le (n : Nat) : ∀ x y, (sigc n).run x = some y → sig.run x = some y := fun x y h => (val x).symm.trans (runs_lim (E := E) (c := ctxc n) ctxLe_nil h)
end same_Ints
namespace same_Awards
abbrev ps : List PM := [.pure (.sl api_Award), .pure (.sl api_Award)]
abbrev rs : List RM := [.pure .bool]
abbrev R : Type := Option (Bool × Unit)
noncomputable def E : Env := { tt := tt, ctx := [], nt := 32, ann := [(1000004, [(0, .keep), (1, .keep), (5, .keep)]), (6, [(0, .keep), (1, .keep), (5, .keep)])] }
noncomputable def c0 : Code := sub [1, 1, 1] (bodyOf Try.f16)
noncomputable def c1 : Code := sub [1, 1, 0, 1, 0, 0] (bodyOf Try.f16)
noncomputable def c2 : Code := sub [1, 1, 0, 1, 0, 0, 1] (bodyOf Try.f16)
noncomputable def K5 : Kont := .seq c0 .ret
noncomputable def K7 : Kont := .blk 0 K5
noncomputable def K8 : Kont := .loop c1 K7
noncomputable def fin : ASt → R := Kret E Try.f16.results.toList ps rs
def tL0 (a : List api_AwardV) (b : List api_AwardV) (i : Int) : ASt := ⟨[(5, .one (.val (.int .i64) i)), (1, .one (.val (.sl api_Award) b)), (0, .one (.val (.sl api_Award) a))], []⟩
def tJ1 (a : List api_AwardV) (b : List api_AwardV) (i : Int) : ASt := ⟨[(5, .one (.val (.int .i64) i)), (1, .one (.val (.sl api_Award) b)), (0, .one (.val (.sl api_Award) a))], []⟩
noncomputable def L0 (a : List api_AwardV) (b : List api_AwardV) (i : Int) : R := lim E fin (.loop c1 K7) (tL0 a b i)
noncomputable def J1 (a : List api_AwardV) (b : List api_AwardV) (i : Int) : R := lim E fin (.code c2 K8) (tJ1 a b i)
noncomputable def SL0 (a : List api_AwardV) (b : List api_AwardV) (i : Int) : R :=
  cond (decide (i < (a.length : Int)))
    (cond (decide (i < (b.length : Int)))
      (J1 a b i)
      (some (true, ())))
    (some (true, ()))
noncomputable def SJ1 (a : List api_AwardV) (b : List api_AwardV) (i : Int) : R :=
  Option.bind (idx a i) fun x1 =>
  Option.bind (idx b i) fun x2 =>
  cond (!eqTy (.pair (.int .i64) (.pair (.int .i64) (.pair (.int .i64) .unit))) x1 x2)
    (some (false, ()))
    (L0 a b (IntKind.i64.wrap (i + 1)))
noncomputable def Se (a : List api_AwardV) (b : List api_AwardV) : R :=
  cond ((a.length : Int) != (b.length : Int))
    (some (false, ()))
    (L0 a b 0)
theorem L0_eq (a b i) : L0 a b i = SL0 a b i := (lim_eq (.loop c1 K7) (tL0 a b i)).trans (by kernel_rfl)
theorem J1_eq (a b i) : J1 a b i = SJ1 a b i := (lim_eq (.code c2 K8) (tJ1 a b i)).trans (by kernel_rfl)
theorem se (x : (argTy ps).den) : run E (lim E fin) fin depth (bodyOf Try.f16) .ret (entryFrom 0 ps x) = Se x.1 x.2.1 := by kernel_rfl
end same_Awards
noncomputable def same_Awards (a : List api_AwardV) (b : List api_AwardV) : same_Awards.R :=
  same_Awards.Se a b
namespace same_Awards
noncomputable def sig : Sig := ⟨ps, rs, fun x => same_Awards x.1 x.2.1⟩
theorem val (x : (argTy ps).den) : lim E fin (.code (bodyOf Try.f16) .ret) (entryFrom 0 ps x) = sig.run x := (lim_eq (.code (bodyOf Try.f16) .ret) (entryFrom 0 ps x)).trans (se x)
theorem ok : CallOK Try.prog 16 sig :=
  callOK_of_lim (E := E) mixed tt_ok ctxOk_nil Try.func16 (by kernel_rfl : Try.f16.body = some (bodyOf Try.f16)) Try.ntmps16 (of_decide_eq_true (by kernel_rfl)) (of_decide_eq_true (by kernel_rfl)) fun x y h => (val x).trans h
noncomputable def ctxc (n : Nat) : List (Nat × Sig) := []
noncomputable def sigc (n : Nat) : Sig := ⟨ps, rs, fun x => runs (withCtx E (ctxc n)) fin n (.code (bodyOf Try.f16) .ret) (entryFrom 0 ps x)⟩
theorem sigc_le (n : Nat) : ∀ x y, (sigc n).run x = some y → sig.run x = some y := fun x y h => (val x).symm.trans (runs_lim (E := E) (c := ctxc n) ctxLe_nil h)
end same_Awards
namespace law42_awake
abbrev ps : List PM := []
abbrev rs : List RM := [.pure .bool]
abbrev R : Type := Option (Bool × Unit)
noncomputable def E : Env := { tt := tt, ctx := [(14, ruling_Granted.sig), (17, ruling_Apply.sig), (10, ruling_StayedMonths.sig), (9, same_Ints.sig), (16, same_Awards.sig)], nt := 62, ann := [] }
noncomputable def fin : ASt → R := Kret E Try.f8.results.toList ps rs
noncomputable def Se : R :=
  Option.bind (ruling_Granted [(0, 3, 6, 0, 0, 3, 500, ()), (0, 5, 8, 0, 0, 3, 700, ()), (0, 5, 7, 0, 0, 2, 0, ())] 4) fun x1 =>
  Option.bind (ruling_Granted [(0, 3, 6, 0, 0, 3, 500, ()), (0, 5, 8, 0, 0, 3, 700, ()), (0, 5, 7, 0, 0, 2, 0, ())] 5) fun x2 =>
  Option.bind (ruling_Granted [(0, 3, 6, 0, 0, 3, 500, ()), (0, 5, 8, 0, 0, 3, 700, ()), (0, 5, 7, 0, 0, 2, 0, ())] 8) fun x3 =>
  Option.bind (ruling_Apply [(2, 100, 0, ()), (5, 0, 10, ())] [(0, 3, 6, 0, 0, 3, 500, ()), (0, 5, 8, 0, 0, 3, 700, ()), (0, 5, 7, 0, 0, 2, 0, ())]) fun x4 =>
  cond (x1.1 == 500)
    (cond x1.2.1
      (cond (x2.1 == 700)
        (cond x2.2.1
          (cond (!x3.2.1)
            (Option.bind (ruling_StayedMonths [(0, 3, 6, 0, 0, 3, 500, ()), (0, 5, 8, 0, 0, 3, 700, ()), (0, 5, 7, 0, 0, 2, 0, ())]) fun x5 =>
            Option.bind (same_Ints x5.1 [5, 6]) fun x6 =>
            cond x6.1
              (Option.bind (same_Awards x4.1 [(2, 100, 0, ()), (5, 700, 0, ())]) fun x7 =>
              some (x7.1, ()))
              (some (false, ())))
            (some (false, ())))
          (some (false, ())))
        (some (false, ())))
      (some (false, ())))
    (some (false, ()))
theorem se (x : (argTy ps).den) : run E (lim E fin) fin depth (bodyOf Try.f8) .ret (entryFrom 0 ps x) = Se := by kernel_rfl
end law42_awake
noncomputable def law42_awake : law42_awake.R :=
  law42_awake.Se 
namespace law42_awake
noncomputable def sig : Sig := ⟨ps, rs, fun x => law42_awake⟩
theorem val (x : (argTy ps).den) : lim E fin (.code (bodyOf Try.f8) .ret) (entryFrom 0 ps x) = sig.run x := (lim_eq (.code (bodyOf Try.f8) .ret) (entryFrom 0 ps x)).trans (se x)
theorem ok : CallOK Try.prog 8 sig :=
  callOK_of_lim (E := E) mixed tt_ok (ctxOk_cons (ctxOk_cons (ctxOk_cons (ctxOk_cons (ctxOk_cons ctxOk_nil same_Awards.ok Try.func16 (by kernel_rfl) (by kernel_rfl)) same_Ints.ok Try.func9 (by kernel_rfl) (by kernel_rfl)) ruling_StayedMonths.ok Try.func10 (by kernel_rfl) (by kernel_rfl)) ruling_Apply.ok Try.func17 (by kernel_rfl) (by kernel_rfl)) ruling_Granted.ok Try.func14 (by kernel_rfl) (by kernel_rfl)) Try.func8 (by kernel_rfl : Try.f8.body = some (bodyOf Try.f8)) Try.ntmps8 (of_decide_eq_true (by kernel_rfl)) (of_decide_eq_true (by kernel_rfl)) fun x y h => (val x).trans h
noncomputable def ctxc (n : Nat) : List (Nat × Sig) := [(14, ruling_Granted.sigc n), (17, ruling_Apply.sigc n), (10, ruling_StayedMonths.sigc n), (9, same_Ints.sigc n), (16, same_Awards.sigc n)]
noncomputable def sigc (n : Nat) : Sig := ⟨ps, rs, fun x => runs (withCtx E (ctxc n)) fin n (.code (bodyOf Try.f8) .ret) (entryFrom 0 ps x)⟩
theorem sigc_le (n : Nat) : ∀ x y, (sigc n).run x = some y → sig.run x = some y := fun x y h => (val x).symm.trans (runs_lim (E := E) (c := ctxc n) (ctxLe_cons (ctxLe_cons (ctxLe_cons (ctxLe_cons (ctxLe_cons ctxLe_nil (same_Awards.sigc_le n)) (same_Ints.sigc_le n)) (ruling_StayedMonths.sigc_le n)) (ruling_Apply.sigc_le n)) (ruling_Granted.sigc_le n)) h)
end law42_awake
namespace ref42_Pending
abbrev ps : List PM := [.pure api_Appeal]
abbrev rs : List RM := [.pure .bool]
abbrev R : Type := Option (Bool × Unit)
noncomputable def E : Env := { tt := tt, ctx := [], nt := 11, ann := [] }
noncomputable def fin : ASt → R := Kret E Try.f12.results.toList ps rs
noncomputable def Se (x_0 : api_AppealV) : R :=
  cond (x_0.2.2.2.2.2.1 == 1)
    (some (true, ()))
    (some ((x_0.2.2.2.2.2.1 == 2), ()))
theorem se (x : (argTy ps).den) : run E (lim E fin) fin depth (bodyOf Try.f12) .ret (entryFrom 0 ps x) = Se x.1 := by kernel_rfl
end ref42_Pending
noncomputable def ref42_Pending (x_0 : api_AppealV) : ref42_Pending.R :=
  ref42_Pending.Se x_0
namespace ref42_Pending
noncomputable def sig : Sig := ⟨ps, rs, fun x => ref42_Pending x.1⟩
theorem val (x : (argTy ps).den) : lim E fin (.code (bodyOf Try.f12) .ret) (entryFrom 0 ps x) = sig.run x := (lim_eq (.code (bodyOf Try.f12) .ret) (entryFrom 0 ps x)).trans (se x)
theorem ok : CallOK Try.prog 12 sig :=
  callOK_of_lim (E := E) mixed tt_ok ctxOk_nil Try.func12 (by kernel_rfl : Try.f12.body = some (bodyOf Try.f12)) Try.ntmps12 (of_decide_eq_true (by kernel_rfl)) (of_decide_eq_true (by kernel_rfl)) fun x y h => (val x).trans h
noncomputable def ctxc (n : Nat) : List (Nat × Sig) := []
noncomputable def sigc (n : Nat) : Sig := ⟨ps, rs, fun x => runs (withCtx E (ctxc n)) fin n (.code (bodyOf Try.f12) .ret) (entryFrom 0 ps x)⟩
theorem sigc_le (n : Nat) : ∀ x y, (sigc n).run x = some y → sig.run x = some y := fun x y h => (val x).symm.trans (runs_lim (E := E) (c := ctxc n) ctxLe_nil h)
end ref42_Pending
namespace ref42_Covers
abbrev ps : List PM := [.pure api_Appeal, .pure (.int .i64)]
abbrev rs : List RM := [.pure .bool]
abbrev R : Type := Option (Bool × Unit)
noncomputable def E : Env := { tt := tt, ctx := [], nt := 15, ann := [] }
noncomputable def fin : ASt → R := Kret E Try.f13.results.toList ps rs
noncomputable def Se (x_0 : api_AppealV) (m : Int) : R :=
  cond (decide (x_0.2.1 ≤ m))
    (some (decide (m < x_0.2.2.1), ()))
    (some (false, ()))
theorem se (x : (argTy ps).den) : run E (lim E fin) fin depth (bodyOf Try.f13) .ret (entryFrom 0 ps x) = Se x.1 x.2.1 := by kernel_rfl
end ref42_Covers
noncomputable def ref42_Covers (x_0 : api_AppealV) (m : Int) : ref42_Covers.R :=
  ref42_Covers.Se x_0 m
namespace ref42_Covers
noncomputable def sig : Sig := ⟨ps, rs, fun x => ref42_Covers x.1 x.2.1⟩
theorem val (x : (argTy ps).den) : lim E fin (.code (bodyOf Try.f13) .ret) (entryFrom 0 ps x) = sig.run x := (lim_eq (.code (bodyOf Try.f13) .ret) (entryFrom 0 ps x)).trans (se x)
theorem ok : CallOK Try.prog 13 sig :=
  callOK_of_lim (E := E) mixed tt_ok ctxOk_nil Try.func13 (by kernel_rfl : Try.f13.body = some (bodyOf Try.f13)) Try.ntmps13 (of_decide_eq_true (by kernel_rfl)) (of_decide_eq_true (by kernel_rfl)) fun x y h => (val x).trans h
noncomputable def ctxc (n : Nat) : List (Nat × Sig) := []
noncomputable def sigc (n : Nat) : Sig := ⟨ps, rs, fun x => runs (withCtx E (ctxc n)) fin n (.code (bodyOf Try.f13) .ret) (entryFrom 0 ps x)⟩
theorem sigc_le (n : Nat) : ∀ x y, (sigc n).run x = some y → sig.run x = some y := fun x y h => (val x).symm.trans (runs_lim (E := E) (c := ctxc n) ctxLe_nil h)
end ref42_Covers
namespace law42_RulingStayedMonth
abbrev ps : List PM := [.pure (.sl api_Appeal), .pure (.int .i64)]
abbrev rs : List RM := [.pure .bool]
abbrev R : Type := Option (Bool × Unit)
noncomputable def E : Env := { tt := tt, ctx := [(8, law42_awake.sig), (10, ruling_StayedMonths.sig), (12, ref42_Pending.sig), (13, ref42_Covers.sig)], nt := 81, ann := [(1000006, [(0, .keep), (1, .keep), (5, .keep), (6, .keep), (7, .keep), (8, .keep)]), (9, [(0, .keep), (1, .keep), (5, .keep), (6, .keep), (7, .keep), (8, .keep)]), (1000012, [(0, .keep), (1, .keep), (6, .keep), (7, .keep), (9, .keep)])] }
noncomputable def c0 : Code := sub [1, 1, 1, 1, 1] (bodyOf Try.f4)
noncomputable def c1 : Code := sub [1, 1, 1, 1, 0, 1, 0, 0] (bodyOf Try.f4)
noncomputable def c2 : Code := sub [1, 1, 1, 1, 0, 1, 0, 0, 1, 1] (bodyOf Try.f4)
noncomputable def c3 : Code := sub [1, 1, 1, 1, 1, 1] (bodyOf Try.f4)
noncomputable def c4 : Code := sub [1, 1, 1, 1, 0, 1, 0, 0, 1, 0, 0, 1] (bodyOf Try.f4)
noncomputable def c5 : Code := sub [1, 1, 1, 1, 1, 0, 1, 0, 0] (bodyOf Try.f4)
noncomputable def K7 : Kont := .seq c0 .ret
noncomputable def K9 : Kont := .blk 0 K7
noncomputable def K10 : Kont := .loop c1 K9
noncomputable def K13 : Kont := .seq c2 K10
noncomputable def K14 : Kont := .blk 1 K13
noncomputable def K16 : Kont := .seq c3 .ret
noncomputable def K18 : Kont := .blk 2 K16
noncomputable def fin : ASt → R := Kret E Try.f4.results.toList ps rs
def tL0 (l : List api_AppealV) (m : Int) (x_5 : List Int) (in_6 : Bool) (stayed : Bool) (i : Int) : ASt := ⟨[(8, .one (.val (.int .i64) i)), (7, .one (.val .bool stayed)), (6, .one (.val .bool in_6)), (5, .one (.own 5)), (1, .one (.val (.int .i64) m)), (0, .one (.val (.sl api_Appeal) l))], [(5, some ⟨.free, .int .i64, x_5⟩)]⟩
def tJ1 (l : List api_AppealV) (m : Int) (x_5 : List Int) (in_6 : Bool) (stayed : Bool) (i : Int) : ASt := ⟨[(8, .one (.val (.int .i64) i)), (7, .one (.val .bool stayed)), (6, .one (.val .bool in_6)), (5, .one (.own 5)), (1, .one (.val (.int .i64) m)), (0, .one (.val (.sl api_Appeal) l))], [(5, some ⟨.free, .int .i64, x_5⟩)]⟩
def tL2 (l : List api_AppealV) (m : Int) (in_6 : Bool) (stayed : Bool) (i : Int) : ASt := ⟨[(9, .one (.val (.int .i64) i)), (7, .one (.val .bool stayed)), (6, .one (.val .bool in_6)), (1, .one (.val (.int .i64) m)), (0, .one (.val (.sl api_Appeal) l))], []⟩
noncomputable def L0 (l : List api_AppealV) (m : Int) (x_5 : List Int) (in_6 : Bool) (stayed : Bool) (i : Int) : R := lim E fin (.loop c1 K9) (tL0 l m x_5 in_6 stayed i)
noncomputable def J1 (l : List api_AppealV) (m : Int) (x_5 : List Int) (in_6 : Bool) (stayed : Bool) (i : Int) : R := lim E fin (.code c4 K14) (tJ1 l m x_5 in_6 stayed i)
noncomputable def L2 (l : List api_AppealV) (m : Int) (in_6 : Bool) (stayed : Bool) (i : Int) : R := lim E fin (.loop c5 K18) (tL2 l m in_6 stayed i)
noncomputable def SL0 (l : List api_AppealV) (m : Int) (x_5 : List Int) (in_6 : Bool) (stayed : Bool) (i : Int) : R :=
  cond (decide (i < (x_5.length : Int)))
    (cond in_6
      (J1 l m x_5 true stayed i)
      (cond (decide (0 ≤ i) && decide (i < (x_5.length : Int)))
        (J1 l m x_5 ((x_5.getD i.toNat 0) == m) stayed i)
        none))
    (L2 l m in_6 stayed 0)
noncomputable def SJ1 (l : List api_AppealV) (m : Int) (x_5 : List Int) (in_6 : Bool) (stayed : Bool) (i : Int) : R :=
  cond (decide (i > 0))
    (cond (decide (0 ≤ IntKind.i64.wrap (i - 1)) && decide (IntKind.i64.wrap (i - 1) < (x_5.length : Int)))
      (cond (decide (0 ≤ i) && decide (i < (x_5.length : Int)))
        (cond (decide ((x_5.getD ((IntKind.i64.wrap (i - 1)).toNat) 0) ≥ (x_5.getD i.toNat 0)))
          (some (false, ()))
          (L0 l m x_5 in_6 stayed (IntKind.i64.wrap (i + 1))))
        none)
      none)
    (L0 l m x_5 in_6 stayed (IntKind.i64.wrap (i + 1)))
noncomputable def SL2 (l : List api_AppealV) (m : Int) (in_6 : Bool) (stayed : Bool) (i : Int) : R :=
  cond (decide (i < (l.length : Int)))
    (cond stayed
      (L2 l m in_6 true (IntKind.i64.wrap (i + 1)))
      (Option.bind (idx l i) fun x1 =>
      Option.bind (ref42_Pending x1) fun x2 =>
      cond x2.1
        (Option.bind (idx l i) fun x3 =>
        Option.bind (ref42_Covers x3 m) fun x4 =>
        L2 l m in_6 x4.1 (IntKind.i64.wrap (i + 1)))
        (L2 l m in_6 false (IntKind.i64.wrap (i + 1)))))
    (cond stayed
      (cond (decide (m ≥ 0))
        (cond (in_6 == (decide (m ≤ 3599)))
          (Option.bind law42_awake fun x5 =>
          some (x5.1, ()))
          (some (false, ())))
        (cond (in_6 == false)
          (Option.bind law42_awake fun x6 =>
          some (x6.1, ()))
          (some (false, ()))))
      (cond (in_6 == false)
        (Option.bind law42_awake fun x7 =>
        some (x7.1, ()))
        (some (false, ()))))
noncomputable def Se (l : List api_AppealV) (m : Int) : R :=
  cond (decide ((l.length : Int) > 30))
    (Option.bind law42_awake fun x1 =>
    some (x1.1, ()))
    (Option.bind (ruling_StayedMonths l) fun x2 =>
    L0 l m x2.1 false false 0)
theorem L0_eq (l m x_5 in_6 stayed i) : L0 l m x_5 in_6 stayed i = SL0 l m x_5 in_6 stayed i := (lim_eq (.loop c1 K9) (tL0 l m x_5 in_6 stayed i)).trans (by kernel_rfl)
theorem J1_eq (l m x_5 in_6 stayed i) : J1 l m x_5 in_6 stayed i = SJ1 l m x_5 in_6 stayed i := (lim_eq (.code c4 K14) (tJ1 l m x_5 in_6 stayed i)).trans (by kernel_rfl)
theorem L2_eq (l m in_6 stayed i) : L2 l m in_6 stayed i = SL2 l m in_6 stayed i := (lim_eq (.loop c5 K18) (tL2 l m in_6 stayed i)).trans (by kernel_rfl)
theorem se (x : (argTy ps).den) : run E (lim E fin) fin depth (bodyOf Try.f4) .ret (entryFrom 0 ps x) = Se x.1 x.2.1 := by kernel_rfl
end law42_RulingStayedMonth
noncomputable def law42_RulingStayedMonth (l : List api_AppealV) (m : Int) : law42_RulingStayedMonth.R :=
  law42_RulingStayedMonth.Se l m
namespace law42_RulingStayedMonth
noncomputable def sig : Sig := ⟨ps, rs, fun x => law42_RulingStayedMonth x.1 x.2.1⟩
theorem val (x : (argTy ps).den) : lim E fin (.code (bodyOf Try.f4) .ret) (entryFrom 0 ps x) = sig.run x := (lim_eq (.code (bodyOf Try.f4) .ret) (entryFrom 0 ps x)).trans (se x)
theorem ok : CallOK Try.prog 4 sig :=
  callOK_of_lim (E := E) mixed tt_ok (ctxOk_cons (ctxOk_cons (ctxOk_cons (ctxOk_cons ctxOk_nil ref42_Covers.ok Try.func13 (by kernel_rfl) (by kernel_rfl)) ref42_Pending.ok Try.func12 (by kernel_rfl) (by kernel_rfl)) ruling_StayedMonths.ok Try.func10 (by kernel_rfl) (by kernel_rfl)) law42_awake.ok Try.func8 (by kernel_rfl) (by kernel_rfl)) Try.func4 (by kernel_rfl : Try.f4.body = some (bodyOf Try.f4)) Try.ntmps4 (of_decide_eq_true (by kernel_rfl)) (of_decide_eq_true (by kernel_rfl)) fun x y h => (val x).trans h
noncomputable def ctxc (n : Nat) : List (Nat × Sig) := [(8, law42_awake.sigc n), (10, ruling_StayedMonths.sigc n), (12, ref42_Pending.sigc n), (13, ref42_Covers.sigc n)]
noncomputable def sigc (n : Nat) : Sig := ⟨ps, rs, fun x => runs (withCtx E (ctxc n)) fin n (.code (bodyOf Try.f4) .ret) (entryFrom 0 ps x)⟩
theorem sigc_le (n : Nat) : ∀ x y, (sigc n).run x = some y → sig.run x = some y := fun x y h => (val x).symm.trans (runs_lim (E := E) (c := ctxc n) (ctxLe_cons (ctxLe_cons (ctxLe_cons (ctxLe_cons ctxLe_nil (ref42_Covers.sigc_le n)) (ref42_Pending.sigc_le n)) (ruling_StayedMonths.sigc_le n)) (law42_awake.sigc_le n)) h)
end law42_RulingStayedMonth
end Go.Proofs.Ytfifnmmihekldaa
