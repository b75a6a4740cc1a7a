/- The functions of the program as typed Lean functions, with the proof that they are what the code computes. -/
import Derived.Test.YtbfckejaihblmaaCode3
set_option maxRecDepth 100000
set_option linter.unusedVariables false
namespace Go.Proofs.Ytbfckejaihblmaa
open Go Go.Lift

/-! ### slices.partitionEqualOrdered[int] -/
namespace slices_partitionEqualOrdered_int
abbrev ps : List PM := [.own (.int .i64), .pure (.int .i64), .pure (.int .i64), .pure (.int .i64)]
abbrev rs : List RM := [.pure (.int .i64)]
abbrev R : Type := Option (Int × List Int × Unit)
noncomputable def E : Env := { tt := tt, ctx := [(66, cmp_Less_int.sig)], nt := 84, ann := [(1000003, [(0, .keep), (1, .keep), (9, .keep), (10, .keep)]), (5, [(0, .keep), (1, .keep), (9, .keep), (10, .keep)]), (1000003, [(0, .keep), (1, .keep), (9, .keep), (10, .keep)]), (7, [(0, .keep), (1, .keep), (9, .keep), (10, .keep)]), (1000005, [(0, .keep), (1, .keep), (9, .keep), (10, .keep)])] }
noncomputable def c0 : Code := sub [1, 1, 1, 1] (bodyOf Try.f67)
noncomputable def c1 : Code := sub [1, 1, 1, 0, 0, 0] (bodyOf Try.f67)
noncomputable def c2 : Code := sub [1, 1, 1, 0, 0, 0, 0, 1] (bodyOf Try.f67)
noncomputable def c3 : Code := sub [1, 1, 1, 0, 0, 0, 0, 1, 1] (bodyOf Try.f67)
noncomputable def c4 : Code := sub [1, 1, 1, 0, 0, 0, 0, 0, 0, 0] (bodyOf Try.f67)
noncomputable def c5 : Code := sub [1, 1, 1, 0, 0, 0, 0, 1, 0, 0, 0] (bodyOf Try.f67)
noncomputable def K4 : Kont := .seq c0 .ret
noncomputable def K5 : Kont := .blk 0 K4
noncomputable def K6 : Kont := .loop c1 K5
noncomputable def K7 : Kont := .blk 1 K6
noncomputable def K8 : Kont := .seq c2 K7
noncomputable def K9 : Kont := .blk 2 K8
noncomputable def K14 : Kont := .seq c3 K7
noncomputable def K15 : Kont := .blk 4 K14
noncomputable def fin : ASt → R := Kret E Try.f67.results.toList ps rs
def tL0 (a : Int) (i : Int) (j : Int) (data_P : List Int) : ASt := ⟨[(10, .one (.val (.int .i64) j)), (9, .one (.val (.int .i64) i)), (1, .one (.val (.int .i64) a)), (0, .one (.own 10000))], [(10000, some ⟨.fixed, .int .i64, data_P⟩)]⟩
def tJ1 (a : Int) (i : Int) (j : Int) (data_P : List Int) : ASt := ⟨[(10, .one (.val (.int .i64) j)), (9, .one (.val (.int .i64) i)), (1, .one (.val (.int .i64) a)), (0, .one (.own 10000))], [(10000, some ⟨.fixed, .int .i64, data_P⟩)]⟩
def tL2 (a : Int) (i : Int) (j : Int) (data_P : List Int) : ASt := ⟨[(10, .one (.val (.int .i64) j)), (9, .one (.val (.int .i64) i)), (1, .one (.val (.int .i64) a)), (0, .one (.own 10000))], [(10000, some ⟨.fixed, .int .i64, data_P⟩)]⟩
def tJ3 (a : Int) (i : Int) (j : Int) (data_P : List Int) : ASt := ⟨[(10, .one (.val (.int .i64) j)), (9, .one (.val (.int .i64) i)), (1, .one (.val (.int .i64) a)), (0, .one (.own 10000))], [(10000, some ⟨.fixed, .int .i64, data_P⟩)]⟩
def tL4 (a : Int) (i : Int) (j : Int) (data_P : List Int) : ASt := ⟨[(10, .one (.val (.int .i64) j)), (9, .one (.val (.int .i64) i)), (1, .one (.val (.int .i64) a)), (0, .one (.own 10000))], [(10000, some ⟨.fixed, .int .i64, data_P⟩)]⟩
noncomputable def SL0 (kL2 : Int → Int → Int → (List Int) → R) (a : Int) (i : Int) (j : Int) (data_P : List Int) : R :=
  kL2 a i j data_P
noncomputable def SJ1 (kL4 : Int → Int → Int → (List Int) → R) (a : Int) (i : Int) (j : Int) (data_P : List Int) : R :=
  kL4 a i j data_P
noncomputable def SL2 (kL2 : Int → Int → Int → (List Int) → R) (kJ1 : Int → Int → Int → (List Int) → R) (a : Int) (i : Int) (j : Int) (data_P : List Int) : R :=
  cond (decide (i ≤ j))
    (cond (decide (0 ≤ a) && decide (a < (data_P.length : Int)))
      (cond (decide (0 ≤ i) && decide (i < (data_P.length : Int)))
        (Option.bind (cmp_Less_int (data_P.getD a.toNat 0) (data_P.getD i.toNat 0)) fun x1 =>
        cond (!x1.1)
          (kL2 a (IntKind.i64.wrap (i + 1)) j data_P)
          (kJ1 a i j data_P))
        none)
      none)
    (kJ1 a i j data_P)
noncomputable def SJ3 (kL0 : Int → Int → Int → (List Int) → R) (a : Int) (i : Int) (j : Int) (data_P : List Int) : R :=
  cond (decide (i > j))
    (some (i, data_P, ()))
    (cond (decide (0 ≤ j) && decide (j < (data_P.length : Int)))
      (cond (decide (0 ≤ i) && decide (i < (data_P.length : Int)))
        (cond (decide (0 ≤ i) && decide (i < (data_P.length : Int)))
          (cond (decide (0 ≤ j) && decide (j < ((data_P.set i.toNat (data_P.getD j.toNat 0)).length : Int)))
            (kL0 a (IntKind.i64.wrap (i + 1)) (IntKind.i64.wrap (j - 1)) ((data_P.set i.toNat (data_P.getD j.toNat 0)).set j.toNat (data_P.getD i.toNat 0)))
            none)
          none)
        none)
      none)
noncomputable def SL4 (kL4 : Int → Int → Int → (List Int) → R) (kJ3 : Int → Int → Int → (List Int) → R) (a : Int) (i : Int) (j : Int) (data_P : List Int) : R :=
  cond (decide (i ≤ j))
    (cond (decide (0 ≤ a) && decide (a < (data_P.length : Int)))
      (cond (decide (0 ≤ j) && decide (j < (data_P.length : Int)))
        (Option.bind (cmp_Less_int (data_P.getD a.toNat 0) (data_P.getD j.toNat 0)) fun x1 =>
        cond x1.1
          (kL4 a i (IntKind.i64.wrap (j - 1)) data_P)
          (kJ3 a i j data_P))
        none)
      none)
    (kJ3 a i j data_P)
noncomputable def Se (kL0 : Int → Int → Int → (List Int) → R) (data : List Int) (a : Int) (b : Int) (pivot : Int) : R :=
  cond (decide (0 ≤ pivot) && decide (pivot < (data.length : Int)))
    (cond (decide (0 ≤ a) && decide (a < (data.length : Int)))
      (cond (decide (0 ≤ a) && decide (a < (data.length : Int)))
        (cond (decide (0 ≤ pivot) && decide (pivot < ((data.set a.toNat (data.getD pivot.toNat 0)).length : Int)))
          (kL0 a (IntKind.i64.wrap (a + 1)) (IntKind.i64.wrap (b - 1)) ((data.set a.toNat (data.getD pivot.toNat 0)).set pivot.toNat (data.getD a.toNat 0)))
          none)
        none)
      none)
    none
theorem sL0 (jmp : Tgt → ASt → R) (a : Int) (i : Int) (j : Int) (data_P : List Int) : run E jmp fin depth c1 (.loop c1 K5) (tL0 a i j data_P) =
    SL0 (fun a i j data_P => jmp (.loop c4 K9) (tL2 a i j data_P)) a i j data_P := by kernel_rfl
theorem sJ1 (jmp : Tgt → ASt → R) (a : Int) (i : Int) (j : Int) (data_P : List Int) : run E jmp fin depth c2 K7 (tJ1 a i j data_P) =
    SJ1 (fun a i j data_P => jmp (.loop c5 K15) (tL4 a i j data_P)) a i j data_P := by kernel_rfl
theorem sL2 (jmp : Tgt → ASt → R) (a : Int) (i : Int) (j : Int) (data_P : List Int) : run E jmp fin depth c4 (.loop c4 K9) (tL2 a i j data_P) =
    SL2 (fun a i j data_P => jmp (.loop c4 K9) (tL2 a i j data_P)) (fun a i j data_P => jmp (.code c2 K7) (tJ1 a i j data_P)) a i j data_P := by kernel_rfl
theorem sJ3 (jmp : Tgt → ASt → R) (a : Int) (i : Int) (j : Int) (data_P : List Int) : run E jmp fin depth c3 K7 (tJ3 a i j data_P) =
    SJ3 (fun a i j data_P => jmp (.loop c1 K5) (tL0 a i j data_P)) a i j data_P := by kernel_rfl
theorem sL4 (jmp : Tgt → ASt → R) (a : Int) (i : Int) (j : Int) (data_P : List Int) : run E jmp fin depth c5 (.loop c5 K15) (tL4 a i j data_P) =
    SL4 (fun a i j data_P => jmp (.loop c5 K15) (tL4 a i j data_P)) (fun a i j data_P => jmp (.code c3 K7) (tJ3 a i j data_P)) a i j data_P := by kernel_rfl
theorem se (jmp : Tgt → ASt → R) (x : (argTy ps).den) : run E jmp fin depth (bodyOf Try.f67) .ret (entryFrom 0 ps x) =
    Se (fun a i j data_P => jmp (.loop c1 K5) (tL0 a i j data_P)) x.1 x.2.1 x.2.2.1 x.2.2.2.1 := by kernel_rfl
noncomputable def L0 (a : Int) (i : Int) (j : Int) (data_P : List Int) : R := lim E fin (.loop c1 K5) (tL0 a i j data_P)
noncomputable def J1 (a : Int) (i : Int) (j : Int) (data_P : List Int) : R := lim E fin (.code c2 K7) (tJ1 a i j data_P)
noncomputable def L2 (a : Int) (i : Int) (j : Int) (data_P : List Int) : R := lim E fin (.loop c4 K9) (tL2 a i j data_P)
noncomputable def J3 (a : Int) (i : Int) (j : Int) (data_P : List Int) : R := lim E fin (.code c3 K7) (tJ3 a i j data_P)
noncomputable def L4 (a : Int) (i : Int) (j : Int) (data_P : List Int) : R := lim E fin (.loop c5 K15) (tL4 a i j data_P)
theorem L0_eq (a : Int) (i : Int) (j : Int) (data_P : List Int) : L0 a i j data_P = SL0 L2 a i j data_P :=
  (lim_eq (.loop c1 K5) (tL0 a i j data_P)).trans (sL0 (lim E fin) a i j data_P)
theorem J1_eq (a : Int) (i : Int) (j : Int) (data_P : List Int) : J1 a i j data_P = SJ1 L4 a i j data_P :=
  (lim_eq (.code c2 K7) (tJ1 a i j data_P)).trans (sJ1 (lim E fin) a i j data_P)
theorem L2_eq (a : Int) (i : Int) (j : Int) (data_P : List Int) : L2 a i j data_P = SL2 L2 J1 a i j data_P :=
  (lim_eq (.loop c4 K9) (tL2 a i j data_P)).trans (sL2 (lim E fin) a i j data_P)
theorem J3_eq (a : Int) (i : Int) (j : Int) (data_P : List Int) : J3 a i j data_P = SJ3 L0 a i j data_P :=
  (lim_eq (.code c3 K7) (tJ3 a i j data_P)).trans (sJ3 (lim E fin) a i j data_P)
theorem L4_eq (a : Int) (i : Int) (j : Int) (data_P : List Int) : L4 a i j data_P = SL4 L4 J3 a i j data_P :=
  (lim_eq (.loop c5 K15) (tL4 a i j data_P)).trans (sL4 (lim E fin) a i j data_P)
end slices_partitionEqualOrdered_int
noncomputable def slices_partitionEqualOrdered_int (data : List Int) (a : Int) (b : Int) (pivot : Int) : slices_partitionEqualOrdered_int.R :=
  slices_partitionEqualOrdered_int.Se slices_partitionEqualOrdered_int.L0 data a b pivot
noncomputable def slices_partitionEqualOrdered_int.sig : Sig := ⟨slices_partitionEqualOrdered_int.ps, slices_partitionEqualOrdered_int.rs, fun x => slices_partitionEqualOrdered_int x.1 x.2.1 x.2.2.1 x.2.2.2.1⟩
theorem slices_partitionEqualOrdered_int.ok : CallOK Try.prog 67 slices_partitionEqualOrdered_int.sig :=
  callOK_of_lim (E := slices_partitionEqualOrdered_int.E) mixed tt_ok (ctxOk_cons ctxOk_nil cmp_Less_int.ok Try.func66 (by kernel_rfl) (by kernel_rfl)) Try.func67 (by kernel_rfl : Try.f67.body = some (bodyOf Try.f67)) Try.ntmps67 (of_decide_eq_true (by kernel_rfl)) (of_decide_eq_true (by kernel_rfl))
    fun x y h => ((lim_eq (.code (bodyOf Try.f67) .ret) (entryFrom 0 slices_partitionEqualOrdered_int.ps x)).trans (slices_partitionEqualOrdered_int.se (lim slices_partitionEqualOrdered_int.E slices_partitionEqualOrdered_int.fin) x)).trans h
theorem slices_partitionEqualOrdered_int.val (x : (argTy slices_partitionEqualOrdered_int.ps).den) : lim slices_partitionEqualOrdered_int.E slices_partitionEqualOrdered_int.fin (.code (bodyOf Try.f67) .ret) (entryFrom 0 slices_partitionEqualOrdered_int.ps x) = slices_partitionEqualOrdered_int.sig.run x :=
  (lim_eq (.code (bodyOf Try.f67) .ret) (entryFrom 0 slices_partitionEqualOrdered_int.ps x)).trans (slices_partitionEqualOrdered_int.se (lim slices_partitionEqualOrdered_int.E slices_partitionEqualOrdered_int.fin) x)
noncomputable def slices_partitionEqualOrdered_int.ctxc (n : Nat) : List (Nat × Sig) := [(66, cmp_Less_int.sigc n)]
noncomputable def slices_partitionEqualOrdered_int.sigc (n : Nat) : Sig := ⟨slices_partitionEqualOrdered_int.ps, slices_partitionEqualOrdered_int.rs, fun x => runs (withCtx slices_partitionEqualOrdered_int.E (slices_partitionEqualOrdered_int.ctxc n)) slices_partitionEqualOrdered_int.fin n (.code (bodyOf Try.f67) .ret) (entryFrom 0 slices_partitionEqualOrdered_int.ps x)⟩
theorem slices_partitionEqualOrdered_int.sigc_le (n : Nat) : ∀ x y, (slices_partitionEqualOrdered_int.sigc n).run x = some y → slices_partitionEqualOrdered_int.sig.run x = some y :=
  fun x y h => (slices_partitionEqualOrdered_int.val x).symm.trans (runs_lim (E := slices_partitionEqualOrdered_int.E) (c := slices_partitionEqualOrdered_int.ctxc n) (ctxLe_cons ctxLe_nil (cmp_Less_int.sigc_le n)) h)

/-! ### slices.partitionOrdered[int] -/
namespace slices_partitionOrdered_int
abbrev ps : List PM := [.own (.int .i64), .pure (.int .i64), .pure (.int .i64), .pure (.int .i64)]
abbrev rs : List RM := [.pure (.int .i64), .pure .bool]
abbrev R : Type := Option (Int × Bool × List Int × Unit)
noncomputable def E : Env := { tt := tt, ctx := [(66, cmp_Less_int.sig)], nt := 168, ann := [(5, [(0, .keep), (1, .keep), (10, .keep), (11, .keep)]), (1000003, [(0, .keep), (1, .keep), (10, .keep), (11, .keep)]), (7, [(0, .keep), (1, .keep), (10, .keep), (11, .keep)]), (1000005, [(0, .keep), (1, .keep), (10, .keep), (11, .keep)]), (1000013, [(0, .keep), (1, .keep), (10, .keep), (11, .keep)]), (15, [(0, .keep), (1, .keep), (10, .keep), (11, .keep)]), (1000013, [(0, .keep), (1, .keep), (10, .keep), (11, .keep)]), (17, [(0, .keep), (1, .keep), (10, .keep), (11, .keep)]), (1000015, [(0, .keep), (1, .keep), (10, .keep), (11, .keep)])] }
noncomputable def c0 : Code := sub [1, 1, 1, 1] (bodyOf Try.f68)
noncomputable def c1 : Code := sub [1, 1, 1, 1, 1] (bodyOf Try.f68)
noncomputable def c2 : Code := sub [1, 1, 1, 1, 1, 1, 1, 1, 1, 1] (bodyOf Try.f68)
noncomputable def c3 : Code := sub [1, 1, 1, 1, 1, 1, 1, 1, 1, 0, 0, 0] (bodyOf Try.f68)
noncomputable def c4 : Code := sub [1, 1, 1, 1, 1, 1, 1, 1, 1, 0, 0, 0, 0, 1] (bodyOf Try.f68)
noncomputable def c5 : Code := sub [1, 1, 1, 1, 1, 1, 1, 1, 1, 0, 0, 0, 0, 1, 1] (bodyOf Try.f68)
noncomputable def c6 : Code := sub [1, 1, 1, 0, 0, 0] (bodyOf Try.f68)
noncomputable def c7 : Code := sub [1, 1, 1, 1, 0, 0, 0] (bodyOf Try.f68)
noncomputable def c8 : Code := sub [1, 1, 1, 1, 1, 1, 1, 1, 1, 0, 0, 0, 0, 0, 0, 0] (bodyOf Try.f68)
noncomputable def c9 : Code := sub [1, 1, 1, 1, 1, 1, 1, 1, 1, 0, 0, 0, 0, 1, 0, 0, 0] (bodyOf Try.f68)
noncomputable def K4 : Kont := .seq c0 .ret
noncomputable def K5 : Kont := .blk 0 K4
noncomputable def K10 : Kont := .seq c1 .ret
noncomputable def K11 : Kont := .blk 2 K10
noncomputable def K23 : Kont := .seq c2 .ret
noncomputable def K24 : Kont := .blk 4 K23
noncomputable def K25 : Kont := .loop c3 K24
noncomputable def K26 : Kont := .blk 5 K25
noncomputable def K27 : Kont := .seq c4 K26
noncomputable def K28 : Kont := .blk 6 K27
noncomputable def K33 : Kont := .seq c5 K26
noncomputable def K34 : Kont := .blk 8 K33
noncomputable def fin : ASt → R := Kret E Try.f68.results.toList ps rs
def tJ0 (a : Int) (i : Int) (j : Int) (data_P : List Int) : ASt := ⟨[(11, .one (.val (.int .i64) j)), (10, .one (.val (.int .i64) i)), (1, .one (.val (.int .i64) a)), (0, .one (.own 10000))], [(10000, some ⟨.fixed, .int .i64, data_P⟩)]⟩
def tL1 (a : Int) (i : Int) (j : Int) (data_P : List Int) : ASt := ⟨[(11, .one (.val (.int .i64) j)), (10, .one (.val (.int .i64) i)), (1, .one (.val (.int .i64) a)), (0, .one (.own 10000))], [(10000, some ⟨.fixed, .int .i64, data_P⟩)]⟩
def tJ2 (a : Int) (i : Int) (j : Int) (data_P : List Int) : ASt := ⟨[(11, .one (.val (.int .i64) j)), (10, .one (.val (.int .i64) i)), (1, .one (.val (.int .i64) a)), (0, .one (.own 10000))], [(10000, some ⟨.fixed, .int .i64, data_P⟩)]⟩
def tL3 (a : Int) (i : Int) (j : Int) (data_P : List Int) : ASt := ⟨[(11, .one (.val (.int .i64) j)), (10, .one (.val (.int .i64) i)), (1, .one (.val (.int .i64) a)), (0, .one (.own 10000))], [(10000, some ⟨.fixed, .int .i64, data_P⟩)]⟩
def tL4 (a : Int) (i : Int) (j : Int) (data_P : List Int) : ASt := ⟨[(11, .one (.val (.int .i64) j)), (10, .one (.val (.int .i64) i)), (1, .one (.val (.int .i64) a)), (0, .one (.own 10000))], [(10000, some ⟨.fixed, .int .i64, data_P⟩)]⟩
def tJ5 (a : Int) (i : Int) (j : Int) (data_P : List Int) : ASt := ⟨[(11, .one (.val (.int .i64) j)), (10, .one (.val (.int .i64) i)), (1, .one (.val (.int .i64) a)), (0, .one (.own 10000))], [(10000, some ⟨.fixed, .int .i64, data_P⟩)]⟩
def tL6 (a : Int) (i : Int) (j : Int) (data_P : List Int) : ASt := ⟨[(11, .one (.val (.int .i64) j)), (10, .one (.val (.int .i64) i)), (1, .one (.val (.int .i64) a)), (0, .one (.own 10000))], [(10000, some ⟨.fixed, .int .i64, data_P⟩)]⟩
def tJ7 (a : Int) (i : Int) (j : Int) (data_P : List Int) : ASt := ⟨[(11, .one (.val (.int .i64) j)), (10, .one (.val (.int .i64) i)), (1, .one (.val (.int .i64) a)), (0, .one (.own 10000))], [(10000, some ⟨.fixed, .int .i64, data_P⟩)]⟩
def tL8 (a : Int) (i : Int) (j : Int) (data_P : List Int) : ASt := ⟨[(11, .one (.val (.int .i64) j)), (10, .one (.val (.int .i64) i)), (1, .one (.val (.int .i64) a)), (0, .one (.own 10000))], [(10000, some ⟨.fixed, .int .i64, data_P⟩)]⟩
noncomputable def SJ0 (kL3 : Int → Int → Int → (List Int) → R) (a : Int) (i : Int) (j : Int) (data_P : List Int) : R :=
  kL3 a i j data_P
noncomputable def SL1 (kL1 : Int → Int → Int → (List Int) → R) (kJ0 : Int → Int → Int → (List Int) → R) (a : Int) (i : Int) (j : Int) (data_P : List Int) : R :=
  cond (decide (i ≤ j))
    (cond (decide (0 ≤ i) && decide (i < (data_P.length : Int)))
      (cond (decide (0 ≤ a) && decide (a < (data_P.length : Int)))
        (Option.bind (cmp_Less_int (data_P.getD i.toNat 0) (data_P.getD a.toNat 0)) fun x1 =>
        cond x1.1
          (kL1 a (IntKind.i64.wrap (i + 1)) j data_P)
          (kJ0 a i j data_P))
        none)
      none)
    (kJ0 a i j data_P)
noncomputable def SJ2 (kL4 : Int → Int → Int → (List Int) → R) (a : Int) (i : Int) (j : Int) (data_P : List Int) : R :=
  cond (decide (i > j))
    (cond (decide (0 ≤ a) && decide (a < (data_P.length : Int)))
      (cond (decide (0 ≤ j) && decide (j < (data_P.length : Int)))
        (cond (decide (0 ≤ j) && decide (j < (data_P.length : Int)))
          (cond (decide (0 ≤ a) && decide (a < ((data_P.set j.toNat (data_P.getD a.toNat 0)).length : Int)))
            (some (j, true, ((data_P.set j.toNat (data_P.getD a.toNat 0)).set a.toNat (data_P.getD j.toNat 0)), ()))
            none)
          none)
        none)
      none)
    (cond (decide (0 ≤ j) && decide (j < (data_P.length : Int)))
      (cond (decide (0 ≤ i) && decide (i < (data_P.length : Int)))
        (cond (decide (0 ≤ i) && decide (i < (data_P.length : Int)))
          (cond (decide (0 ≤ j) && decide (j < ((data_P.set i.toNat (data_P.getD j.toNat 0)).length : Int)))
            (kL4 a (IntKind.i64.wrap (i + 1)) (IntKind.i64.wrap (j - 1)) ((data_P.set i.toNat (data_P.getD j.toNat 0)).set j.toNat (data_P.getD i.toNat 0)))
            none)
          none)
        none)
      none)
noncomputable def SL3 (kL3 : Int → Int → Int → (List Int) → R) (kJ2 : Int → Int → Int → (List Int) → R) (a : Int) (i : Int) (j : Int) (data_P : List Int) : R :=
  cond (decide (i ≤ j))
    (cond (decide (0 ≤ j) && decide (j < (data_P.length : Int)))
      (cond (decide (0 ≤ a) && decide (a < (data_P.length : Int)))
        (Option.bind (cmp_Less_int (data_P.getD j.toNat 0) (data_P.getD a.toNat 0)) fun x1 =>
        cond (!x1.1)
          (kL3 a i (IntKind.i64.wrap (j - 1)) data_P)
          (kJ2 a i j data_P))
        none)
      none)
    (kJ2 a i j data_P)
noncomputable def SL4 (kL6 : Int → Int → Int → (List Int) → R) (a : Int) (i : Int) (j : Int) (data_P : List Int) : R :=
  kL6 a i j data_P
noncomputable def SJ5 (kL8 : Int → Int → Int → (List Int) → R) (a : Int) (i : Int) (j : Int) (data_P : List Int) : R :=
  kL8 a i j data_P
noncomputable def SL6 (kL6 : Int → Int → Int → (List Int) → R) (kJ5 : Int → Int → Int → (List Int) → R) (a : Int) (i : Int) (j : Int) (data_P : List Int) : R :=
  cond (decide (i ≤ j))
    (cond (decide (0 ≤ i) && decide (i < (data_P.length : Int)))
      (cond (decide (0 ≤ a) && decide (a < (data_P.length : Int)))
        (Option.bind (cmp_Less_int (data_P.getD i.toNat 0) (data_P.getD a.toNat 0)) fun x1 =>
        cond x1.1
          (kL6 a (IntKind.i64.wrap (i + 1)) j data_P)
          (kJ5 a i j data_P))
        none)
      none)
    (kJ5 a i j data_P)
noncomputable def SJ7 (kL4 : Int → Int → Int → (List Int) → R) (a : Int) (i : Int) (j : Int) (data_P : List Int) : R :=
  cond (decide (i > j))
    (cond (decide (0 ≤ a) && decide (a < (data_P.length : Int)))
      (cond (decide (0 ≤ j) && decide (j < (data_P.length : Int)))
        (cond (decide (0 ≤ j) && decide (j < (data_P.length : Int)))
          (cond (decide (0 ≤ a) && decide (a < ((data_P.set j.toNat (data_P.getD a.toNat 0)).length : Int)))
            (some (j, false, ((data_P.set j.toNat (data_P.getD a.toNat 0)).set a.toNat (data_P.getD j.toNat 0)), ()))
            none)
          none)
        none)
      none)
    (cond (decide (0 ≤ j) && decide (j < (data_P.length : Int)))
      (cond (decide (0 ≤ i) && decide (i < (data_P.length : Int)))
        (cond (decide (0 ≤ i) && decide (i < (data_P.length : Int)))
          (cond (decide (0 ≤ j) && decide (j < ((data_P.set i.toNat (data_P.getD j.toNat 0)).length : Int)))
            (kL4 a (IntKind.i64.wrap (i + 1)) (IntKind.i64.wrap (j - 1)) ((data_P.set i.toNat (data_P.getD j.toNat 0)).set j.toNat (data_P.getD i.toNat 0)))
            none)
          none)
        none)
      none)
noncomputable def SL8 (kL8 : Int → Int → Int → (List Int) → R) (kJ7 : Int → Int → Int → (List Int) → R) (a : Int) (i : Int) (j : Int) (data_P : List Int) : R :=
  cond (decide (i ≤ j))
    (cond (decide (0 ≤ j) && decide (j < (data_P.length : Int)))
      (cond (decide (0 ≤ a) && decide (a < (data_P.length : Int)))
        (Option.bind (cmp_Less_int (data_P.getD j.toNat 0) (data_P.getD a.toNat 0)) fun x1 =>
        cond (!x1.1)
          (kL8 a i (IntKind.i64.wrap (j - 1)) data_P)
          (kJ7 a i j data_P))
        none)
      none)
    (kJ7 a i j data_P)
noncomputable def Se (kL1 : Int → Int → Int → (List Int) → R) (data : List Int) (a : Int) (b : Int) (pivot : Int) : R :=
  cond (decide (0 ≤ pivot) && decide (pivot < (data.length : Int)))
    (cond (decide (0 ≤ a) && decide (a < (data.length : Int)))
      (cond (decide (0 ≤ a) && decide (a < (data.length : Int)))
        (cond (decide (0 ≤ pivot) && decide (pivot < ((data.set a.toNat (data.getD pivot.toNat 0)).length : Int)))
          (kL1 a (IntKind.i64.wrap (a + 1)) (IntKind.i64.wrap (b - 1)) ((data.set a.toNat (data.getD pivot.toNat 0)).set pivot.toNat (data.getD a.toNat 0)))
          none)
        none)
      none)
    none
theorem sJ0 (jmp : Tgt → ASt → R) (a : Int) (i : Int) (j : Int) (data_P : List Int) : run E jmp fin depth c0 .ret (tJ0 a i j data_P) =
    SJ0 (fun a i j data_P => jmp (.loop c7 K11) (tL3 a i j data_P)) a i j data_P := by kernel_rfl
theorem sL1 (jmp : Tgt → ASt → R) (a : Int) (i : Int) (j : Int) (data_P : List Int) : run E jmp fin depth c6 (.loop c6 K5) (tL1 a i j data_P) =
    SL1 (fun a i j data_P => jmp (.loop c6 K5) (tL1 a i j data_P)) (fun a i j data_P => jmp (.code c0 .ret) (tJ0 a i j data_P)) a i j data_P := by kernel_rfl
theorem sJ2 (jmp : Tgt → ASt → R) (a : Int) (i : Int) (j : Int) (data_P : List Int) : run E jmp fin depth c1 .ret (tJ2 a i j data_P) =
    SJ2 (fun a i j data_P => jmp (.loop c3 K24) (tL4 a i j data_P)) a i j data_P := by kernel_rfl
theorem sL3 (jmp : Tgt → ASt → R) (a : Int) (i : Int) (j : Int) (data_P : List Int) : run E jmp fin depth c7 (.loop c7 K11) (tL3 a i j data_P) =
    SL3 (fun a i j data_P => jmp (.loop c7 K11) (tL3 a i j data_P)) (fun a i j data_P => jmp (.code c1 .ret) (tJ2 a i j data_P)) a i j data_P := by kernel_rfl
theorem sL4 (jmp : Tgt → ASt → R) (a : Int) (i : Int) (j : Int) (data_P : List Int) : run E jmp fin depth c3 (.loop c3 K24) (tL4 a i j data_P) =
    SL4 (fun a i j data_P => jmp (.loop c8 K28) (tL6 a i j data_P)) a i j data_P := by kernel_rfl
theorem sJ5 (jmp : Tgt → ASt → R) (a : Int) (i : Int) (j : Int) (data_P : List Int) : run E jmp fin depth c4 K26 (tJ5 a i j data_P) =
    SJ5 (fun a i j data_P => jmp (.loop c9 K34) (tL8 a i j data_P)) a i j data_P := by kernel_rfl
theorem sL6 (jmp : Tgt → ASt → R) (a : Int) (i : Int) (j : Int) (data_P : List Int) : run E jmp fin depth c8 (.loop c8 K28) (tL6 a i j data_P) =
    SL6 (fun a i j data_P => jmp (.loop c8 K28) (tL6 a i j data_P)) (fun a i j data_P => jmp (.code c4 K26) (tJ5 a i j data_P)) a i j data_P := by kernel_rfl
theorem sJ7 (jmp : Tgt → ASt → R) (a : Int) (i : Int) (j : Int) (data_P : List Int) : run E jmp fin depth c5 K26 (tJ7 a i j data_P) =
    SJ7 (fun a i j data_P => jmp (.loop c3 K24) (tL4 a i j data_P)) a i j data_P := by kernel_rfl
theorem sL8 (jmp : Tgt → ASt → R) (a : Int) (i : Int) (j : Int) (data_P : List Int) : run E jmp fin depth c9 (.loop c9 K34) (tL8 a i j data_P) =
    SL8 (fun a i j data_P => jmp (.loop c9 K34) (tL8 a i j data_P)) (fun a i j data_P => jmp (.code c5 K26) (tJ7 a i j data_P)) a i j data_P := by kernel_rfl
theorem se (jmp : Tgt → ASt → R) (x : (argTy ps).den) : run E jmp fin depth (bodyOf Try.f68) .ret (entryFrom 0 ps x) =
    Se (fun a i j data_P => jmp (.loop c6 K5) (tL1 a i j data_P)) x.1 x.2.1 x.2.2.1 x.2.2.2.1 := by kernel_rfl
noncomputable def J0 (a : Int) (i : Int) (j : Int) (data_P : List Int) : R := lim E fin (.code c0 .ret) (tJ0 a i j data_P)
noncomputable def L1 (a : Int) (i : Int) (j : Int) (data_P : List Int) : R := lim E fin (.loop c6 K5) (tL1 a i j data_P)
noncomputable def J2 (a : Int) (i : Int) (j : Int) (data_P : List Int) : R := lim E fin (.code c1 .ret) (tJ2 a i j data_P)
noncomputable def L3 (a : Int) (i : Int) (j : Int) (data_P : List Int) : R := lim E fin (.loop c7 K11) (tL3 a i j data_P)
noncomputable def L4 (a : Int) (i : Int) (j : Int) (data_P : List Int) : R := lim E fin (.loop c3 K24) (tL4 a i j data_P)
noncomputable def J5 (a : Int) (i : Int) (j : Int) (data_P : List Int) : R := lim E fin (.code c4 K26) (tJ5 a i j data_P)
noncomputable def L6 (a : Int) (i : Int) (j : Int) (data_P : List Int) : R := lim E fin (.loop c8 K28) (tL6 a i j data_P)
noncomputable def J7 (a : Int) (i : Int) (j : Int) (data_P : List Int) : R := lim E fin (.code c5 K26) (tJ7 a i j data_P)
noncomputable def L8 (a : Int) (i : Int) (j : Int) (data_P : List Int) : R := lim E fin (.loop c9 K34) (tL8 a i j data_P)
theorem J0_eq (a : Int) (i : Int) (j : Int) (data_P : List Int) : J0 a i j data_P = SJ0 L3 a i j data_P :=
  (lim_eq (.code c0 .ret) (tJ0 a i j data_P)).trans (sJ0 (lim E fin) a i j data_P)
theorem L1_eq (a : Int) (i : Int) (j : Int) (data_P : List Int) : L1 a i j data_P = SL1 L1 J0 a i j data_P :=
  (lim_eq (.loop c6 K5) (tL1 a i j data_P)).trans (sL1 (lim E fin) a i j data_P)
theorem J2_eq (a : Int) (i : Int) (j : Int) (data_P : List Int) : J2 a i j data_P = SJ2 L4 a i j data_P :=
  (lim_eq (.code c1 .ret) (tJ2 a i j data_P)).trans (sJ2 (lim E fin) a i j data_P)
theorem L3_eq (a : Int) (i : Int) (j : Int) (data_P : List Int) : L3 a i j data_P = SL3 L3 J2 a i j data_P :=
  (lim_eq (.loop c7 K11) (tL3 a i j data_P)).trans (sL3 (lim E fin) a i j data_P)
theorem L4_eq (a : Int) (i : Int) (j : Int) (data_P : List Int) : L4 a i j data_P = SL4 L6 a i j data_P :=
  (lim_eq (.loop c3 K24) (tL4 a i j data_P)).trans (sL4 (lim E fin) a i j data_P)
theorem J5_eq (a : Int) (i : Int) (j : Int) (data_P : List Int) : J5 a i j data_P = SJ5 L8 a i j data_P :=
  (lim_eq (.code c4 K26) (tJ5 a i j data_P)).trans (sJ5 (lim E fin) a i j data_P)
theorem L6_eq (a : Int) (i : Int) (j : Int) (data_P : List Int) : L6 a i j data_P = SL6 L6 J5 a i j data_P :=
  (lim_eq (.loop c8 K28) (tL6 a i j data_P)).trans (sL6 (lim E fin) a i j data_P)
theorem J7_eq (a : Int) (i : Int) (j : Int) (data_P : List Int) : J7 a i j data_P = SJ7 L4 a i j data_P :=
  (lim_eq (.code c5 K26) (tJ7 a i j data_P)).trans (sJ7 (lim E fin) a i j data_P)
theorem L8_eq (a : Int) (i : Int) (j : Int) (data_P : List Int) : L8 a i j data_P = SL8 L8 J7 a i j data_P :=
  (lim_eq (.loop c9 K34) (tL8 a i j data_P)).trans (sL8 (lim E fin) a i j data_P)
end slices_partitionOrdered_int
noncomputable def slices_partitionOrdered_int (data : List Int) (a : Int) (b : Int) (pivot : Int) : slices_partitionOrdered_int.R :=
  slices_partitionOrdered_int.Se slices_partitionOrdered_int.L1 data a b pivot
noncomputable def slices_partitionOrdered_int.sig : Sig := ⟨slices_partitionOrdered_int.ps, slices_partitionOrdered_int.rs, fun x => slices_partitionOrdered_int x.1 x.2.1 x.2.2.1 x.2.2.2.1⟩
theorem slices_partitionOrdered_int.ok : CallOK Try.prog 68 slices_partitionOrdered_int.sig :=
  callOK_of_lim (E := slices_partitionOrdered_int.E) mixed tt_ok (ctxOk_cons ctxOk_nil cmp_Less_int.ok Try.func66 (by kernel_rfl) (by kernel_rfl)) Try.func68 (by kernel_rfl : Try.f68.body = some (bodyOf Try.f68)) Try.ntmps68 (of_decide_eq_true (by kernel_rfl)) (of_decide_eq_true (by kernel_rfl))
    fun x y h => ((lim_eq (.code (bodyOf Try.f68) .ret) (entryFrom 0 slices_partitionOrdered_int.ps x)).trans (slices_partitionOrdered_int.se (lim slices_partitionOrdered_int.E slices_partitionOrdered_int.fin) x)).trans h
theorem slices_partitionOrdered_int.val (x : (argTy slices_partitionOrdered_int.ps).den) : lim slices_partitionOrdered_int.E slices_partitionOrdered_int.fin (.code (bodyOf Try.f68) .ret) (entryFrom 0 slices_partitionOrdered_int.ps x) = slices_partitionOrdered_int.sig.run x :=
  (lim_eq (.code (bodyOf Try.f68) .ret) (entryFrom 0 slices_partitionOrdered_int.ps x)).trans (slices_partitionOrdered_int.se (lim slices_partitionOrdered_int.E slices_partitionOrdered_int.fin) x)
noncomputable def slices_partitionOrdered_int.ctxc (n : Nat) : List (Nat × Sig) := [(66, cmp_Less_int.sigc n)]
noncomputable def slices_partitionOrdered_int.sigc (n : Nat) : Sig := ⟨slices_partitionOrdered_int.ps, slices_partitionOrdered_int.rs, fun x => runs (withCtx slices_partitionOrdered_int.E (slices_partitionOrdered_int.ctxc n)) slices_partitionOrdered_int.fin n (.code (bodyOf Try.f68) .ret) (entryFrom 0 slices_partitionOrdered_int.ps x)⟩
theorem slices_partitionOrdered_int.sigc_le (n : Nat) : ∀ x y, (slices_partitionOrdered_int.sigc n).run x = some y → slices_partitionOrdered_int.sig.run x = some y :=
  fun x y h => (slices_partitionOrdered_int.val x).symm.trans (runs_lim (E := slices_partitionOrdered_int.E) (c := slices_partitionOrdered_int.ctxc n) (ctxLe_cons ctxLe_nil (cmp_Less_int.sigc_le n)) h)

/-! ### slices.pdqsortOrdered[int] -/
namespace slices_pdqsortOrdered_int
abbrev ps : List PM := [.own (.int .i64), .pure (.int .i64), .pure (.int .i64), .pure (.int .i64)]
abbrev rs : List RM := []
abbrev R : Type := Option (List Int × Unit)
noncomputable def E0 : Env := { tt := tt, ctx := [], nt := 134, ann := [(1000002, [(0, .keep), (1, .keep), (2, .keep), (3, .keep), (8, .keep), (9, .keep)]), (10, [(0, .keep), (1, .keep), (2, .keep), (3, .keep), (8, .keep), (9, .keep), (10, .keep)]), (15, [(0, .keep), (1, .keep), (2, .keep), (3, .keep), (8, .keep), (9, .keep), (10, .keep), (11, .keep), (12, .keep)]), (17, [(0, .keep), (1, .keep), (2, .keep), (3, .keep), (8, .keep), (9, .keep), (10, .keep), (11, .keep)]), (18, [(0, .keep), (1, .keep), (2, .keep), (3, .keep), (8, .keep), (9, .keep), (10, .keep), (11, .keep), (87, .keep)])] }
noncomputable def ctx0 : List (Nat × Sig) := [(60, slices_insertionSortOrdered_int.sig), (61, slices_heapSortOrdered_int.sig), (62, slices_breakPatternsOrdered_int.sig), (63, slices_choosePivotOrdered_int.sig), (64, slices_reverseRangeOrdered_int.sig), (65, slices_partialInsertionSortOrdered_int.sig), (66, cmp_Less_int.sig), (67, slices_partitionEqualOrdered_int.sig), (68, slices_partitionOrdered_int.sig)]
noncomputable def E (self : (List Int) → Int → Int → Int → R) : Env := withCtx E0 ((41, ⟨ps, rs, fun x => self x.1 x.2.1 x.2.2.1 x.2.2.2.1⟩) :: ctx0)
noncomputable def c0 : Code := sub [1, 1, 0, 0] (bodyOf Try.f41)
noncomputable def c1 : Code := sub [1, 1, 0, 0, 0, 1, 1, 1, 1, 1, 1, 1, 1] (bodyOf Try.f41)
noncomputable def c2 : Code := sub [1, 1, 0, 0, 0, 1, 1, 1, 1] (bodyOf Try.f41)
noncomputable def c3 : Code := sub [1, 1, 0, 0, 0, 1, 1, 1, 1, 1, 1] (bodyOf Try.f41)
noncomputable def c4 : Code := sub [1, 1, 0, 0, 0, 1, 1, 1, 1, 1, 1, 1] (bodyOf Try.f41)
noncomputable def c5 : Code := sub [1, 1, 0, 0, 0, 1, 1, 1, 1, 1, 1, 1, 0, 1] (bodyOf Try.f41)
noncomputable def K3 : Kont := .blk 0 .ret
noncomputable def K4 : Kont := .loop c0 K3
noncomputable def K5 : Kont := .blk 1 K4
noncomputable def K24 : Kont := .seq c1 K5
noncomputable def fin : ASt → R := Kret E0 Try.f41.results.toList ps rs
def tL0 (a : Int) (b : Int) (limit : Int) (wasBalanced : Bool) (wasPartitioned : Bool) (data_P : List Int) : ASt := ⟨[(9, .one (.val .bool wasPartitioned)), (8, .one (.val .bool wasBalanced)), (3, .one (.val (.int .i64) limit)), (2, .one (.val (.int .i64) b)), (1, .one (.val (.int .i64) a)), (0, .one (.own 10000))], [(10000, some ⟨.fixed, .int .i64, data_P⟩)]⟩
def tJ1 (a : Int) (b : Int) (limit : Int) (wasBalanced : Bool) (wasPartitioned : Bool) (length_10 : Int) (data_P : List Int) : ASt := ⟨[(10, .one (.val (.int .i64) length_10)), (9, .one (.val .bool wasPartitioned)), (8, .one (.val .bool wasBalanced)), (3, .one (.val (.int .i64) limit)), (2, .one (.val (.int .i64) b)), (1, .one (.val (.int .i64) a)), (0, .one (.own 10000))], [(10000, some ⟨.fixed, .int .i64, data_P⟩)]⟩
def tJ2 (a : Int) (b : Int) (limit : Int) (wasBalanced : Bool) (wasPartitioned : Bool) (length_10 : Int) (pivot : Int) (hint : Int) (data_P : List Int) : ASt := ⟨[(12, .one (.val (.int .i64) hint)), (11, .one (.val (.int .i64) pivot)), (10, .one (.val (.int .i64) length_10)), (9, .one (.val .bool wasPartitioned)), (8, .one (.val .bool wasBalanced)), (3, .one (.val (.int .i64) limit)), (2, .one (.val (.int .i64) b)), (1, .one (.val (.int .i64) a)), (0, .one (.own 10000))], [(10000, some ⟨.fixed, .int .i64, data_P⟩)]⟩
def tJ3 (a : Int) (b : Int) (limit : Int) (wasBalanced : Bool) (wasPartitioned : Bool) (length_10 : Int) (pivot : Int) (data_P : List Int) : ASt := ⟨[(11, .one (.val (.int .i64) pivot)), (10, .one (.val (.int .i64) length_10)), (9, .one (.val .bool wasPartitioned)), (8, .one (.val .bool wasBalanced)), (3, .one (.val (.int .i64) limit)), (2, .one (.val (.int .i64) b)), (1, .one (.val (.int .i64) a)), (0, .one (.own 10000))], [(10000, some ⟨.fixed, .int .i64, data_P⟩)]⟩
def tJ4 (a : Int) (b : Int) (limit : Int) (wasBalanced : Bool) (wasPartitioned : Bool) (length_10 : Int) (pivot : Int) (v_87 : Bool) (data_P : List Int) : ASt := ⟨[(87, .one (.val .bool v_87)), (11, .one (.val (.int .i64) pivot)), (10, .one (.val (.int .i64) length_10)), (9, .one (.val .bool wasPartitioned)), (8, .one (.val .bool wasBalanced)), (3, .one (.val (.int .i64) limit)), (2, .one (.val (.int .i64) b)), (1, .one (.val (.int .i64) a)), (0, .one (.own 10000))], [(10000, some ⟨.fixed, .int .i64, data_P⟩)]⟩
noncomputable def SL0 (self : (List Int) → Int → Int → Int → R) (kJ1 : Int → Int → Int → Bool → Bool → Int → (List Int) → R) (a : Int) (b : Int) (limit : Int) (wasBalanced : Bool) (wasPartitioned : Bool) (data_P : List Int) : R :=
  cond (decide ((IntKind.i64.wrap (b - a)) ≤ 12))
    (Option.bind (slices_insertionSortOrdered_int data_P a b) fun x1 =>
    some (x1.1, ()))
    (cond (limit == 0)
      (Option.bind (slices_heapSortOrdered_int data_P a b) fun x2 =>
      some (x2.1, ()))
      (cond (!wasBalanced)
        (Option.bind (slices_breakPatternsOrdered_int data_P a b) fun x3 =>
        kJ1 a b (IntKind.i64.wrap (limit - 1)) wasBalanced wasPartitioned (IntKind.i64.wrap (b - a)) x3.1)
        (kJ1 a b limit wasBalanced wasPartitioned (IntKind.i64.wrap (b - a)) data_P)))
noncomputable def SJ1 (self : (List Int) → Int → Int → Int → R) (kJ2 : Int → Int → Int → Bool → Bool → Int → Int → Int → (List Int) → R) (a : Int) (b : Int) (limit : Int) (wasBalanced : Bool) (wasPartitioned : Bool) (length_10 : Int) (data_P : List Int) : R :=
  Option.bind (slices_choosePivotOrdered_int data_P a b) fun x1 =>
  cond (x1.2.1 == 2)
    (Option.bind (slices_reverseRangeOrdered_int data_P a b) fun x2 =>
    kJ2 a b limit wasBalanced wasPartitioned length_10 (IntKind.i64.wrap ((IntKind.i64.wrap (b - 1)) - (IntKind.i64.wrap (x1.1 - a)))) 1 x2.1)
    (kJ2 a b limit wasBalanced wasPartitioned length_10 x1.1 x1.2.1 data_P)
noncomputable def SJ2 (self : (List Int) → Int → Int → Int → R) (kJ3 : Int → Int → Int → Bool → Bool → Int → Int → (List Int) → R) (a : Int) (b : Int) (limit : Int) (wasBalanced : Bool) (wasPartitioned : Bool) (length_10 : Int) (pivot : Int) (hint : Int) (data_P : List Int) : R :=
  cond wasBalanced
    (cond wasPartitioned
      (cond (hint == 1)
        (Option.bind (slices_partialInsertionSortOrdered_int data_P a b) fun x1 =>
        cond x1.1
          (some (x1.2.1, ()))
          (kJ3 a b limit wasBalanced wasPartitioned length_10 pivot x1.2.1))
        (kJ3 a b limit wasBalanced wasPartitioned length_10 pivot data_P))
      (kJ3 a b limit wasBalanced wasPartitioned length_10 pivot data_P))
    (kJ3 a b limit wasBalanced wasPartitioned length_10 pivot data_P)
noncomputable def SJ3 (self : (List Int) → Int → Int → Int → R) (kJ4 : Int → Int → Int → Bool → Bool → Int → Int → Bool → (List Int) → R) (a : Int) (b : Int) (limit : Int) (wasBalanced : Bool) (wasPartitioned : Bool) (length_10 : Int) (pivot : Int) (data_P : List Int) : R :=
  cond (decide (a > 0))
    (cond (decide (0 ≤ IntKind.i64.wrap (a - 1)) && decide (IntKind.i64.wrap (a - 1) < (data_P.length : Int)))
      (cond (decide (0 ≤ pivot) && decide (pivot < (data_P.length : Int)))
        (Option.bind (cmp_Less_int (data_P.getD ((IntKind.i64.wrap (a - 1)).toNat) 0) (data_P.getD pivot.toNat 0)) fun x1 =>
        kJ4 a b limit wasBalanced wasPartitioned length_10 pivot (!x1.1) data_P)
        none)
      none)
    (kJ4 a b limit wasBalanced wasPartitioned length_10 pivot false data_P)
noncomputable def SJ4 (self : (List Int) → Int → Int → Int → R) (kL0 : Int → Int → Int → Bool → Bool → (List Int) → R) (a : Int) (b : Int) (limit : Int) (wasBalanced : Bool) (wasPartitioned : Bool) (length_10 : Int) (pivot : Int) (v_87 : Bool) (data_P : List Int) : R :=
  cond v_87
    (Option.bind (slices_partitionEqualOrdered_int data_P a b pivot) fun x1 =>
    kL0 x1.1 b limit wasBalanced wasPartitioned x1.2.1)
    (Option.bind (slices_partitionOrdered_int data_P a b pivot) fun x2 =>
    cond (decide ((IntKind.i64.wrap (x2.1 - a)) < (IntKind.i64.wrap (b - x2.1))))
      (Option.bind (self x2.2.2.1 a x2.1 limit) fun x3 =>
      kL0 (IntKind.i64.wrap (x2.1 + 1)) b limit (decide ((IntKind.i64.wrap (x2.1 - a)) ≥ (IntKind.i64.wrap (Int.tdiv length_10 8)))) x2.2.1 x3.1)
      (Option.bind (self x2.2.2.1 (IntKind.i64.wrap (x2.1 + 1)) b limit) fun x4 =>
      kL0 a x2.1 limit (decide ((IntKind.i64.wrap (b - x2.1)) ≥ (IntKind.i64.wrap (Int.tdiv length_10 8)))) x2.2.1 x4.1))
noncomputable def Se (self : (List Int) → Int → Int → Int → R) (kL0 : Int → Int → Int → Bool → Bool → (List Int) → R) (data : List Int) (a : Int) (b : Int) (limit : Int) : R :=
  kL0 a b limit true true data
theorem sL0 (self : (List Int) → Int → Int → Int → R) (jmp : Tgt → ASt → R) (a : Int) (b : Int) (limit : Int) (wasBalanced : Bool) (wasPartitioned : Bool) (data_P : List Int) : run (E self) jmp fin depth c0 (.loop c0 K3) (tL0 a b limit wasBalanced wasPartitioned data_P) =
    SL0 self (fun a b limit wasBalanced wasPartitioned length_10 data_P => jmp (.code c2 K5) (tJ1 a b limit wasBalanced wasPartitioned length_10 data_P)) a b limit wasBalanced wasPartitioned data_P := by kernel_rfl
theorem sJ1 (self : (List Int) → Int → Int → Int → R) (jmp : Tgt → ASt → R) (a : Int) (b : Int) (limit : Int) (wasBalanced : Bool) (wasPartitioned : Bool) (length_10 : Int) (data_P : List Int) : run (E self) jmp fin depth c2 K5 (tJ1 a b limit wasBalanced wasPartitioned length_10 data_P) =
    SJ1 self (fun a b limit wasBalanced wasPartitioned length_10 pivot hint data_P => jmp (.code c3 K5) (tJ2 a b limit wasBalanced wasPartitioned length_10 pivot hint data_P)) a b limit wasBalanced wasPartitioned length_10 data_P := by kernel_rfl
theorem sJ2 (self : (List Int) → Int → Int → Int → R) (jmp : Tgt → ASt → R) (a : Int) (b : Int) (limit : Int) (wasBalanced : Bool) (wasPartitioned : Bool) (length_10 : Int) (pivot : Int) (hint : Int) (data_P : List Int) : run (E self) jmp fin depth c3 K5 (tJ2 a b limit wasBalanced wasPartitioned length_10 pivot hint data_P) =
    SJ2 self (fun a b limit wasBalanced wasPartitioned length_10 pivot data_P => jmp (.code c4 K5) (tJ3 a b limit wasBalanced wasPartitioned length_10 pivot data_P)) a b limit wasBalanced wasPartitioned length_10 pivot hint data_P := by kernel_rfl
theorem sJ3 (self : (List Int) → Int → Int → Int → R) (jmp : Tgt → ASt → R) (a : Int) (b : Int) (limit : Int) (wasBalanced : Bool) (wasPartitioned : Bool) (length_10 : Int) (pivot : Int) (data_P : List Int) : run (E self) jmp fin depth c4 K5 (tJ3 a b limit wasBalanced wasPartitioned length_10 pivot data_P) =
    SJ3 self (fun a b limit wasBalanced wasPartitioned length_10 pivot v_87 data_P => jmp (.code c5 K24) (tJ4 a b limit wasBalanced wasPartitioned length_10 pivot v_87 data_P)) a b limit wasBalanced wasPartitioned length_10 pivot data_P := by kernel_rfl
theorem sJ4 (self : (List Int) → Int → Int → Int → R) (jmp : Tgt → ASt → R) (a : Int) (b : Int) (limit : Int) (wasBalanced : Bool) (wasPartitioned : Bool) (length_10 : Int) (pivot : Int) (v_87 : Bool) (data_P : List Int) : run (E self) jmp fin depth c5 K24 (tJ4 a b limit wasBalanced wasPartitioned length_10 pivot v_87 data_P) =
    SJ4 self (fun a b limit wasBalanced wasPartitioned data_P => jmp (.loop c0 K3) (tL0 a b limit wasBalanced wasPartitioned data_P)) a b limit wasBalanced wasPartitioned length_10 pivot v_87 data_P := by kernel_rfl
theorem se (self : (List Int) → Int → Int → Int → R) (jmp : Tgt → ASt → R) (x : (argTy ps).den) : run (E self) jmp fin depth (bodyOf Try.f41) .ret (entryFrom 0 ps x) =
    Se self (fun a b limit wasBalanced wasPartitioned data_P => jmp (.loop c0 K3) (tL0 a b limit wasBalanced wasPartitioned data_P)) x.1 x.2.1 x.2.2.1 x.2.2.2.1 := by kernel_rfl
end slices_pdqsortOrdered_int
noncomputable def slices_pdqsortOrdered_int (data : List Int) (a : Int) (b : Int) (limit : Int) : slices_pdqsortOrdered_int.R :=
  recF slices_pdqsortOrdered_int.E0 slices_pdqsortOrdered_int.ctx0 41 slices_pdqsortOrdered_int.ps slices_pdqsortOrdered_int.rs slices_pdqsortOrdered_int.fin (bodyOf Try.f41) (data, a, b, limit, ())
namespace slices_pdqsortOrdered_int
noncomputable def L0 (a : Int) (b : Int) (limit : Int) (wasBalanced : Bool) (wasPartitioned : Bool) (data_P : List Int) : R := lim (E slices_pdqsortOrdered_int) fin (.loop c0 K3) (tL0 a b limit wasBalanced wasPartitioned data_P)
noncomputable def J1 (a : Int) (b : Int) (limit : Int) (wasBalanced : Bool) (wasPartitioned : Bool) (length_10 : Int) (data_P : List Int) : R := lim (E slices_pdqsortOrdered_int) fin (.code c2 K5) (tJ1 a b limit wasBalanced wasPartitioned length_10 data_P)
noncomputable def J2 (a : Int) (b : Int) (limit : Int) (wasBalanced : Bool) (wasPartitioned : Bool) (length_10 : Int) (pivot : Int) (hint : Int) (data_P : List Int) : R := lim (E slices_pdqsortOrdered_int) fin (.code c3 K5) (tJ2 a b limit wasBalanced wasPartitioned length_10 pivot hint data_P)
noncomputable def J3 (a : Int) (b : Int) (limit : Int) (wasBalanced : Bool) (wasPartitioned : Bool) (length_10 : Int) (pivot : Int) (data_P : List Int) : R := lim (E slices_pdqsortOrdered_int) fin (.code c4 K5) (tJ3 a b limit wasBalanced wasPartitioned length_10 pivot data_P)
noncomputable def J4 (a : Int) (b : Int) (limit : Int) (wasBalanced : Bool) (wasPartitioned : Bool) (length_10 : Int) (pivot : Int) (v_87 : Bool) (data_P : List Int) : R := lim (E slices_pdqsortOrdered_int) fin (.code c5 K24) (tJ4 a b limit wasBalanced wasPartitioned length_10 pivot v_87 data_P)
theorem L0_eq (a : Int) (b : Int) (limit : Int) (wasBalanced : Bool) (wasPartitioned : Bool) (data_P : List Int) : L0 a b limit wasBalanced wasPartitioned data_P = SL0 slices_pdqsortOrdered_int J1 a b limit wasBalanced wasPartitioned data_P :=
  (lim_eq (.loop c0 K3) (tL0 a b limit wasBalanced wasPartitioned data_P)).trans (sL0 slices_pdqsortOrdered_int (lim (E slices_pdqsortOrdered_int) fin) a b limit wasBalanced wasPartitioned data_P)
theorem J1_eq (a : Int) (b : Int) (limit : Int) (wasBalanced : Bool) (wasPartitioned : Bool) (length_10 : Int) (data_P : List Int) : J1 a b limit wasBalanced wasPartitioned length_10 data_P = SJ1 slices_pdqsortOrdered_int J2 a b limit wasBalanced wasPartitioned length_10 data_P :=
  (lim_eq (.code c2 K5) (tJ1 a b limit wasBalanced wasPartitioned length_10 data_P)).trans (sJ1 slices_pdqsortOrdered_int (lim (E slices_pdqsortOrdered_int) fin) a b limit wasBalanced wasPartitioned length_10 data_P)
theorem J2_eq (a : Int) (b : Int) (limit : Int) (wasBalanced : Bool) (wasPartitioned : Bool) (length_10 : Int) (pivot : Int) (hint : Int) (data_P : List Int) : J2 a b limit wasBalanced wasPartitioned length_10 pivot hint data_P = SJ2 slices_pdqsortOrdered_int J3 a b limit wasBalanced wasPartitioned length_10 pivot hint data_P :=
  (lim_eq (.code c3 K5) (tJ2 a b limit wasBalanced wasPartitioned length_10 pivot hint data_P)).trans (sJ2 slices_pdqsortOrdered_int (lim (E slices_pdqsortOrdered_int) fin) a b limit wasBalanced wasPartitioned length_10 pivot hint data_P)
theorem J3_eq (a : Int) (b : Int) (limit : Int) (wasBalanced : Bool) (wasPartitioned : Bool) (length_10 : Int) (pivot : Int) (data_P : List Int) : J3 a b limit wasBalanced wasPartitioned length_10 pivot data_P = SJ3 slices_pdqsortOrdered_int J4 a b limit wasBalanced wasPartitioned length_10 pivot data_P :=
  (lim_eq (.code c4 K5) (tJ3 a b limit wasBalanced wasPartitioned length_10 pivot data_P)).trans (sJ3 slices_pdqsortOrdered_int (lim (E slices_pdqsortOrdered_int) fin) a b limit wasBalanced wasPartitioned length_10 pivot data_P)
theorem J4_eq (a : Int) (b : Int) (limit : Int) (wasBalanced : Bool) (wasPartitioned : Bool) (length_10 : Int) (pivot : Int) (v_87 : Bool) (data_P : List Int) : J4 a b limit wasBalanced wasPartitioned length_10 pivot v_87 data_P = SJ4 slices_pdqsortOrdered_int L0 a b limit wasBalanced wasPartitioned length_10 pivot v_87 data_P :=
  (lim_eq (.code c5 K24) (tJ4 a b limit wasBalanced wasPartitioned length_10 pivot v_87 data_P)).trans (sJ4 slices_pdqsortOrdered_int (lim (E slices_pdqsortOrdered_int) fin) a b limit wasBalanced wasPartitioned length_10 pivot v_87 data_P)
theorem selfrun : (fun x : (argTy ps).den => slices_pdqsortOrdered_int x.1 x.2.1 x.2.2.1 x.2.2.2.1) = recF E0 ctx0 41 ps rs fin (bodyOf Try.f41) := by kernel_rfl
end slices_pdqsortOrdered_int
noncomputable def slices_pdqsortOrdered_int.sig : Sig := ⟨slices_pdqsortOrdered_int.ps, slices_pdqsortOrdered_int.rs, fun x => slices_pdqsortOrdered_int x.1 x.2.1 x.2.2.1 x.2.2.2.1⟩
theorem slices_pdqsortOrdered_int.val (x : (argTy slices_pdqsortOrdered_int.ps).den) : lim (slices_pdqsortOrdered_int.E slices_pdqsortOrdered_int) slices_pdqsortOrdered_int.fin (.code (bodyOf Try.f41) .ret) (entryFrom 0 slices_pdqsortOrdered_int.ps x) = slices_pdqsortOrdered_int.sig.run x := by
  have h := recF_eq (E := slices_pdqsortOrdered_int.E0) (ctx := slices_pdqsortOrdered_int.ctx0) (f := 41) (ps := slices_pdqsortOrdered_int.ps) (rs := slices_pdqsortOrdered_int.rs) (fin := slices_pdqsortOrdered_int.fin) (body := bodyOf Try.f41) x
  rw [← slices_pdqsortOrdered_int.selfrun] at h
  exact h.symm
theorem slices_pdqsortOrdered_int_eq (data : List Int) (a : Int) (b : Int) (limit : Int) : slices_pdqsortOrdered_int data a b limit = slices_pdqsortOrdered_int.Se slices_pdqsortOrdered_int slices_pdqsortOrdered_int.L0 data a b limit :=
  (slices_pdqsortOrdered_int.val (data, a, b, limit, ())).symm.trans ((lim_eq (.code (bodyOf Try.f41) .ret) (entryFrom 0 slices_pdqsortOrdered_int.ps (data, a, b, limit, ()))).trans (slices_pdqsortOrdered_int.se slices_pdqsortOrdered_int (lim (slices_pdqsortOrdered_int.E slices_pdqsortOrdered_int) slices_pdqsortOrdered_int.fin) (data, a, b, limit, ())))
theorem slices_pdqsortOrdered_int.ok : CallOK Try.prog 41 slices_pdqsortOrdered_int.sig := by
  have h := callOK_rec (E := slices_pdqsortOrdered_int.E0) (ctx := slices_pdqsortOrdered_int.ctx0) (f := 41) (ps := slices_pdqsortOrdered_int.ps) (rs := slices_pdqsortOrdered_int.rs) (fin := slices_pdqsortOrdered_int.fin) (body := bodyOf Try.f41) mixed tt_ok (ctxOk_cons (ctxOk_cons (ctxOk_cons (ctxOk_cons (ctxOk_cons (ctxOk_cons (ctxOk_cons (ctxOk_cons (ctxOk_cons ctxOk_nil slices_partitionOrdered_int.ok Try.func68 (by kernel_rfl) (by kernel_rfl)) slices_partitionEqualOrdered_int.ok Try.func67 (by kernel_rfl) (by kernel_rfl)) cmp_Less_int.ok Try.func66 (by kernel_rfl) (by kernel_rfl)) slices_partialInsertionSortOrdered_int.ok Try.func65 (by kernel_rfl) (by kernel_rfl)) slices_reverseRangeOrdered_int.ok Try.func64 (by kernel_rfl) (by kernel_rfl)) slices_choosePivotOrdered_int.ok Try.func63 (by kernel_rfl) (by kernel_rfl)) slices_breakPatternsOrdered_int.ok Try.func62 (by kernel_rfl) (by kernel_rfl)) slices_heapSortOrdered_int.ok Try.func61 (by kernel_rfl) (by kernel_rfl)) slices_insertionSortOrdered_int.ok Try.func60 (by kernel_rfl) (by kernel_rfl)) Try.func41 (by kernel_rfl : Try.f41.body = some (bodyOf Try.f41)) (by kernel_rfl) (by kernel_rfl) Try.ntmps41 (of_decide_eq_true (by kernel_rfl)) (of_decide_eq_true (by kernel_rfl)) rfl
  rw [← slices_pdqsortOrdered_int.selfrun] at h
  exact h
noncomputable def slices_pdqsortOrdered_int.ctxc (n : Nat) : List (Nat × Sig) := [(60, slices_insertionSortOrdered_int.sigc n), (61, slices_heapSortOrdered_int.sigc n), (62, slices_breakPatternsOrdered_int.sigc n), (63, slices_choosePivotOrdered_int.sigc n), (64, slices_reverseRangeOrdered_int.sigc n), (65, slices_partialInsertionSortOrdered_int.sigc n), (66, cmp_Less_int.sigc n), (67, slices_partitionEqualOrdered_int.sigc n), (68, slices_partitionOrdered_int.sigc n)]
noncomputable def slices_pdqsortOrdered_int.runc (n : Nat) : Nat → (argTy slices_pdqsortOrdered_int.ps).den → slices_pdqsortOrdered_int.R
  | 0, _ => none
  | d + 1, x => runs (withCtx slices_pdqsortOrdered_int.E0 ((41, ⟨slices_pdqsortOrdered_int.ps, slices_pdqsortOrdered_int.rs, slices_pdqsortOrdered_int.runc n d⟩) :: slices_pdqsortOrdered_int.ctxc n)) slices_pdqsortOrdered_int.fin n (.code (bodyOf Try.f41) .ret) (entryFrom 0 slices_pdqsortOrdered_int.ps x)
noncomputable def slices_pdqsortOrdered_int.sigc (n : Nat) : Sig := ⟨slices_pdqsortOrdered_int.ps, slices_pdqsortOrdered_int.rs, slices_pdqsortOrdered_int.runc n n⟩
theorem slices_pdqsortOrdered_int.runc_le (n : Nat) : ∀ d x y, slices_pdqsortOrdered_int.runc n d x = some y → slices_pdqsortOrdered_int.sig.run x = some y := by
  intro d
  induction d with
  | zero => intro x y h; cases h
  | succ d ih => exact fun x y h => (slices_pdqsortOrdered_int.val x).symm.trans (runs_lim (E := slices_pdqsortOrdered_int.E slices_pdqsortOrdered_int) (c := (41, ⟨slices_pdqsortOrdered_int.ps, slices_pdqsortOrdered_int.rs, slices_pdqsortOrdered_int.runc n d⟩) :: slices_pdqsortOrdered_int.ctxc n) (ctxLe_cons (ctxLe_cons (ctxLe_cons (ctxLe_cons (ctxLe_cons (ctxLe_cons (ctxLe_cons (ctxLe_cons (ctxLe_cons (ctxLe_cons ctxLe_nil (slices_partitionOrdered_int.sigc_le n)) (slices_partitionEqualOrdered_int.sigc_le n)) (cmp_Less_int.sigc_le n)) (slices_partialInsertionSortOrdered_int.sigc_le n)) (slices_reverseRangeOrdered_int.sigc_le n)) (slices_choosePivotOrdered_int.sigc_le n)) (slices_breakPatternsOrdered_int.sigc_le n)) (slices_heapSortOrdered_int.sigc_le n)) (slices_insertionSortOrdered_int.sigc_le n)) ih) h)
theorem slices_pdqsortOrdered_int.sigc_le (n : Nat) : ∀ x y, (slices_pdqsortOrdered_int.sigc n).run x = some y → slices_pdqsortOrdered_int.sig.run x = some y := slices_pdqsortOrdered_int.runc_le n n

/-! ### slices.Sort[[]int,int] -/
namespace slices_Sort_int_int
abbrev ps : List PM := [.own (.int .i64)]
abbrev rs : List RM := []
abbrev R : Type := Option (List Int × Unit)
noncomputable def E : Env := { tt := tt, ctx := [(42, math_bits_Len.sig), (41, slices_pdqsortOrdered_int.sig)], nt := 11, ann := [] }
noncomputable def fin : ASt → R := Kret E Try.f27.results.toList ps rs
noncomputable def Se (x_0 : List Int) : R :=
  Option.bind (math_bits_Len (IntKind.u64.wrap (x_0.length : Int))) fun x1 =>
  Option.bind (slices_pdqsortOrdered_int x_0 0 (x_0.length : Int) x1.1) fun x2 =>
  some (x2.1, ())
theorem se (jmp : Tgt → ASt → R) (x : (argTy ps).den) : run E jmp fin depth (bodyOf Try.f27) .ret (entryFrom 0 ps x) =
    Se x.1 := by kernel_rfl
end slices_Sort_int_int
noncomputable def slices_Sort_int_int (x_0 : List Int) : slices_Sort_int_int.R :=
  slices_Sort_int_int.Se x_0
noncomputable def slices_Sort_int_int.sig : Sig := ⟨slices_Sort_int_int.ps, slices_Sort_int_int.rs, fun x => slices_Sort_int_int x.1⟩
theorem slices_Sort_int_int.ok : CallOK Try.prog 27 slices_Sort_int_int.sig :=
  callOK_of_lim (E := slices_Sort_int_int.E) mixed tt_ok (ctxOk_cons (ctxOk_cons ctxOk_nil slices_pdqsortOrdered_int.ok Try.func41 (by kernel_rfl) (by kernel_rfl)) math_bits_Len.ok Try.func42 (by kernel_rfl) (by kernel_rfl)) Try.func27 (by kernel_rfl : Try.f27.body = some (bodyOf Try.f27)) Try.ntmps27 (of_decide_eq_true (by kernel_rfl)) (of_decide_eq_true (by kernel_rfl))
    fun x y h => ((lim_eq (.code (bodyOf Try.f27) .ret) (entryFrom 0 slices_Sort_int_int.ps x)).trans (slices_Sort_int_int.se (lim slices_Sort_int_int.E slices_Sort_int_int.fin) x)).trans h
theorem slices_Sort_int_int.val (x : (argTy slices_Sort_int_int.ps).den) : lim slices_Sort_int_int.E slices_Sort_int_int.fin (.code (bodyOf Try.f27) .ret) (entryFrom 0 slices_Sort_int_int.ps x) = slices_Sort_int_int.sig.run x :=
  (lim_eq (.code (bodyOf Try.f27) .ret) (entryFrom 0 slices_Sort_int_int.ps x)).trans (slices_Sort_int_int.se (lim slices_Sort_int_int.E slices_Sort_int_int.fin) x)
noncomputable def slices_Sort_int_int.ctxc (n : Nat) : List (Nat × Sig) := [(42, math_bits_Len.sigc n), (41, slices_pdqsortOrdered_int.sigc n)]
noncomputable def slices_Sort_int_int.sigc (n : Nat) : Sig := ⟨slices_Sort_int_int.ps, slices_Sort_int_int.rs, fun x => runs (withCtx slices_Sort_int_int.E (slices_Sort_int_int.ctxc n)) slices_Sort_int_int.fin n (.code (bodyOf Try.f27) .ret) (entryFrom 0 slices_Sort_int_int.ps x)⟩
theorem slices_Sort_int_int.sigc_le (n : Nat) : ∀ x y, (slices_Sort_int_int.sigc n).run x = some y → slices_Sort_int_int.sig.run x = some y :=
  fun x y h => (slices_Sort_int_int.val x).symm.trans (runs_lim (E := slices_Sort_int_int.E) (c := slices_Sort_int_int.ctxc n) (ctxLe_cons (ctxLe_cons ctxLe_nil (slices_pdqsortOrdered_int.sigc_le n)) (math_bits_Len.sigc_le n)) h)

/-! ### slices.Compact[[]int,int] -/
namespace slices_Compact_int_int
abbrev ps : List PM := [.give (.int .i64)]
abbrev rs : List RM := [.own (.int .i64)]
abbrev R : Type := Option (List Int × Unit)
noncomputable def E : Env := { tt := tt, ctx := [], nt := 61, ann := [(1000004, [(0, .keep), (3, .keep)]), (1000009, [(0, .keep), (3, .keep), (4, .keep), (5, .keep)])] }
noncomputable def c0 : Code := sub [1, 1, 1] (bodyOf Try.f28)
noncomputable def c1 : Code := sub [1, 1, 0, 1, 0, 0] (bodyOf Try.f28)
noncomputable def c2 : Code := sub [1, 1, 0, 1, 0, 0, 1, 1] (bodyOf Try.f28)
noncomputable def c3 : Code := sub [1, 1, 0, 1, 0, 0, 1, 0, 0, 1, 0, 1, 1] (bodyOf Try.f28)
noncomputable def c4 : Code := sub [1, 1, 0, 1, 0, 0, 1, 0, 0, 1, 0, 1, 0, 1, 0, 0] (bodyOf Try.f28)
noncomputable def K5 : Kont := .seq c0 .ret
noncomputable def K7 : Kont := .blk 0 K5
noncomputable def K8 : Kont := .loop c1 K7
noncomputable def K11 : Kont := .seq c2 K8
noncomputable def K12 : Kont := .blk 1 K11
noncomputable def K15 : Kont := .seq c3 K12
noncomputable def K17 : Kont := .blk 2 K15
noncomputable def fin : ASt → R := Kret E Try.f28.results.toList ps rs
def tL0 (s : List Int) (k : Int) : ASt := ⟨[(3, .one (.val (.int .i64) k)), (0, .one (.own 0))], [(0, some ⟨.free, .int .i64, s⟩)]⟩
def tL1 (s : List Int) (k : Int) (s2_lo : Nat) (s2_len : Nat) (k2 : Int) : ASt := ⟨[(5, .one (.val (.int .i64) k2)), (4, .one (.osub 0 s2_lo s2_len)), (3, .one (.val (.int .i64) k)), (0, .one (.own 0))], [(0, some ⟨.free, .int .i64, s⟩)]⟩
noncomputable def SL0 (kL1 : (List Int) → Int → Nat → Nat → Int → R) (kL0 : (List Int) → Int → R) (s : List Int) (k : Int) : R :=
  cond (decide (k < (s.length : Int)))
    (cond (decide (0 ≤ k) && decide (k < (s.length : Int)))
      (cond (decide (0 ≤ IntKind.i64.wrap (k - 1)) && decide (IntKind.i64.wrap (k - 1) < (s.length : Int)))
        (cond ((s.getD k.toNat 0) == (s.getD ((IntKind.i64.wrap (k - 1)).toNat) 0))
          (cond (decide ((0 : Int) ≤ k) && (decide ((k : Int) ≤ (s.length : Int)) && decide ((s.length : Int) ≤ (s.length : Int))))
            (kL1 s k k.toNat (s.length - k.toNat) 1)
            none)
          (kL0 s (IntKind.i64.wrap (k + 1))))
        none)
      none)
    (some (s, ()))
noncomputable def SL1 (kL1 : (List Int) → Int → Nat → Nat → Int → R) (s : List Int) (k : Int) (s2_lo : Nat) (s2_len : Nat) (k2 : Int) : R :=
  cond (decide (k2 < (s2_len : Int)))
    (cond (decide (0 ≤ k2) && decide (k2 < ((s2_len : Nat) : Int)))
      (cond (decide (0 ≤ IntKind.i64.wrap (k2 - 1)) && decide (IntKind.i64.wrap (k2 - 1) < ((s2_len : Nat) : Int)))
        (cond ((s.getD (s2_lo + k2.toNat) 0) != (s.getD (s2_lo + (IntKind.i64.wrap (k2 - 1)).toNat) 0))
          (cond (decide (0 ≤ k2) && decide (k2 < ((s2_len : Nat) : Int)))
            (cond (decide (0 ≤ k) && decide (k < (s.length : Int)))
              (kL1 (s.set k.toNat (s.getD (s2_lo + k2.toNat) 0)) (IntKind.i64.wrap (k + 1)) s2_lo s2_len (IntKind.i64.wrap (k2 + 1)))
              none)
            none)
          (kL1 s k s2_lo s2_len (IntKind.i64.wrap (k2 + 1))))
        none)
      none)
    (cond (decide ((0 : Int) ≤ k) && (decide ((k : Int) ≤ (s.length : Int)) && decide ((s.length : Int) ≤ (s.length : Int))))
      (cond (decide (0 < (s.length - k.toNat)))
        (cond (decide ((0 : Int) ≤ 0) && (decide ((0 : Int) ≤ k) && decide (k ≤ ((s.take k.toNat ++ (List.replicate (s.length - k.toNat) 0 ++ s.drop (k.toNat + (s.length - k.toNat)))).length : Int))))
          (some (((s.take k.toNat ++ (List.replicate (s.length - k.toNat) 0 ++ s.drop (k.toNat + (s.length - k.toNat)))).take k.toNat), ()))
          none)
        none)
      none)
noncomputable def Se (kL0 : (List Int) → Int → R) (s : List Int) : R :=
  cond (decide ((s.length : Int) < 2))
    (some (s, ()))
    (kL0 s 1)
theorem sL0 (jmp : Tgt → ASt → R) (s : List Int) (k : Int) : run E jmp fin depth c1 (.loop c1 K7) (tL0 s k) =
    SL0 (fun s k s2_lo s2_len k2 => jmp (.loop c4 K17) (tL1 s k s2_lo s2_len k2)) (fun s k => jmp (.loop c1 K7) (tL0 s k)) s k := by kernel_rfl
theorem sL1 (jmp : Tgt → ASt → R) (s : List Int) (k : Int) (s2_lo : Nat) (s2_len : Nat) (k2 : Int) : run E jmp fin depth c4 (.loop c4 K17) (tL1 s k s2_lo s2_len k2) =
    SL1 (fun s k s2_lo s2_len k2 => jmp (.loop c4 K17) (tL1 s k s2_lo s2_len k2)) s k s2_lo s2_len k2 := by kernel_rfl
theorem se (jmp : Tgt → ASt → R) (x : (argTy ps).den) : run E jmp fin depth (bodyOf Try.f28) .ret (entryFrom 0 ps x) =
    Se (fun s k => jmp (.loop c1 K7) (tL0 s k)) x.1 := by kernel_rfl
noncomputable def L0 (s : List Int) (k : Int) : R := lim E fin (.loop c1 K7) (tL0 s k)
noncomputable def L1 (s : List Int) (k : Int) (s2_lo : Nat) (s2_len : Nat) (k2 : Int) : R := lim E fin (.loop c4 K17) (tL1 s k s2_lo s2_len k2)
theorem L0_eq (s : List Int) (k : Int) : L0 s k = SL0 L1 L0 s k :=
  (lim_eq (.loop c1 K7) (tL0 s k)).trans (sL0 (lim E fin) s k)
theorem L1_eq (s : List Int) (k : Int) (s2_lo : Nat) (s2_len : Nat) (k2 : Int) : L1 s k s2_lo s2_len k2 = SL1 L1 s k s2_lo s2_len k2 :=
  (lim_eq (.loop c4 K17) (tL1 s k s2_lo s2_len k2)).trans (sL1 (lim E fin) s k s2_lo s2_len k2)
end slices_Compact_int_int
noncomputable def slices_Compact_int_int (s : List Int) : slices_Compact_int_int.R :=
  slices_Compact_int_int.Se slices_Compact_int_int.L0 s
noncomputable def slices_Compact_int_int.sig : Sig := ⟨slices_Compact_int_int.ps, slices_Compact_int_int.rs, fun x => slices_Compact_int_int x.1⟩
theorem slices_Compact_int_int.ok : CallOK Try.prog 28 slices_Compact_int_int.sig :=
  callOK_of_lim (E := slices_Compact_int_int.E) mixed tt_ok ctxOk_nil Try.func28 (by kernel_rfl : Try.f28.body = some (bodyOf Try.f28)) Try.ntmps28 (of_decide_eq_true (by kernel_rfl)) (of_decide_eq_true (by kernel_rfl))
    fun x y h => ((lim_eq (.code (bodyOf Try.f28) .ret) (entryFrom 0 slices_Compact_int_int.ps x)).trans (slices_Compact_int_int.se (lim slices_Compact_int_int.E slices_Compact_int_int.fin) x)).trans h
theorem slices_Compact_int_int.val (x : (argTy slices_Compact_int_int.ps).den) : lim slices_Compact_int_int.E slices_Compact_int_int.fin (.code (bodyOf Try.f28) .ret) (entryFrom 0 slices_Compact_int_int.ps x) = slices_Compact_int_int.sig.run x :=
  (lim_eq (.code (bodyOf Try.f28) .ret) (entryFrom 0 slices_Compact_int_int.ps x)).trans (slices_Compact_int_int.se (lim slices_Compact_int_int.E slices_Compact_int_int.fin) x)
noncomputable def slices_Compact_int_int.ctxc (n : Nat) : List (Nat × Sig) := []
noncomputable def slices_Compact_int_int.sigc (n : Nat) : Sig := ⟨slices_Compact_int_int.ps, slices_Compact_int_int.rs, fun x => runs (withCtx slices_Compact_int_int.E (slices_Compact_int_int.ctxc n)) slices_Compact_int_int.fin n (.code (bodyOf Try.f28) .ret) (entryFrom 0 slices_Compact_int_int.ps x)⟩
theorem slices_Compact_int_int.sigc_le (n : Nat) : ∀ x y, (slices_Compact_int_int.sigc n).run x = some y → slices_Compact_int_int.sig.run x = some y :=
  fun x y h => (slices_Compact_int_int.val x).symm.trans (runs_lim (E := slices_Compact_int_int.E) (c := slices_Compact_int_int.ctxc n) ctxLe_nil h)

/-! ### guerdon/expr.References$1 -/
namespace expr_References_1
abbrev ps : List PM := [.give (.int .i64)]
abbrev rs : List RM := [.own (.int .i64)]
abbrev R : Type := Option (List Int × Unit)
noncomputable def E : Env := { tt := tt, ctx := [(27, slices_Sort_int_int.sig), (28, slices_Compact_int_int.sig)], nt := 7, ann := [] }
noncomputable def fin : ASt → R := Kret E Try.f26.results.toList ps rs
noncomputable def Se (l : List Int) : R :=
  Option.bind (slices_Sort_int_int l) fun x1 =>
  Option.bind (slices_Compact_int_int x1.1) fun x2 =>
  some (x2.1, ())
theorem se (jmp : Tgt → ASt → R) (x : (argTy ps).den) : run E jmp fin depth (bodyOf Try.f26) .ret (entryFrom 0 ps x) =
    Se x.1 := by kernel_rfl
end expr_References_1
noncomputable def expr_References_1 (l : List Int) : expr_References_1.R :=
  expr_References_1.Se l
noncomputable def expr_References_1.sig : Sig := ⟨expr_References_1.ps, expr_References_1.rs, fun x => expr_References_1 x.1⟩
theorem expr_References_1.ok : CallOK Try.prog 26 expr_References_1.sig :=
  callOK_of_lim (E := expr_References_1.E) mixed tt_ok (ctxOk_cons (ctxOk_cons ctxOk_nil slices_Compact_int_int.ok Try.func28 (by kernel_rfl) (by kernel_rfl)) slices_Sort_int_int.ok Try.func27 (by kernel_rfl) (by kernel_rfl)) Try.func26 (by kernel_rfl : Try.f26.body = some (bodyOf Try.f26)) Try.ntmps26 (of_decide_eq_true (by kernel_rfl)) (of_decide_eq_true (by kernel_rfl))
    fun x y h => ((lim_eq (.code (bodyOf Try.f26) .ret) (entryFrom 0 expr_References_1.ps x)).trans (expr_References_1.se (lim expr_References_1.E expr_References_1.fin) x)).trans h
theorem expr_References_1.val (x : (argTy expr_References_1.ps).den) : lim expr_References_1.E expr_References_1.fin (.code (bodyOf Try.f26) .ret) (entryFrom 0 expr_References_1.ps x) = expr_References_1.sig.run x :=
  (lim_eq (.code (bodyOf Try.f26) .ret) (entryFrom 0 expr_References_1.ps x)).trans (expr_References_1.se (lim expr_References_1.E expr_References_1.fin) x)
noncomputable def expr_References_1.ctxc (n : Nat) : List (Nat × Sig) := [(27, slices_Sort_int_int.sigc n), (28, slices_Compact_int_int.sigc n)]
noncomputable def expr_References_1.sigc (n : Nat) : Sig := ⟨expr_References_1.ps, expr_References_1.rs, fun x => runs (withCtx expr_References_1.E (expr_References_1.ctxc n)) expr_References_1.fin n (.code (bodyOf Try.f26) .ret) (entryFrom 0 expr_References_1.ps x)⟩
theorem expr_References_1.sigc_le (n : Nat) : ∀ x y, (expr_References_1.sigc n).run x = some y → expr_References_1.sig.run x = some y :=
  fun x y h => (expr_References_1.val x).symm.trans (runs_lim (E := expr_References_1.E) (c := expr_References_1.ctxc n) (ctxLe_cons (ctxLe_cons ctxLe_nil (slices_Compact_int_int.sigc_le n)) (slices_Sort_int_int.sigc_le n)) h)

/-! ### guerdon/expr.References -/
namespace expr_References
abbrev ps : List PM := [.pure (.sl api_Type)]
abbrev rs : List RM := [.own (.int .i64), .own (.int .i64), .own (.int .i64)]
abbrev R : Type := Option (List Int × List Int × List Int × Unit)
noncomputable def E : Env := { tt := tt, ctx := [(26, expr_References_1.sig)], nt := 53, ann := [(1000003, [(5, .own (.int .i64)), (6, .own (.int .i64)), (7, .own (.int .i64)), (11, .keep), (12, .keep), (13, .keep)])] }
noncomputable def c0 : Code := sub [1, 1, 1] (bodyOf Try.f19)
noncomputable def c1 : Code := sub [1, 1, 0, 1, 0, 0] (bodyOf Try.f19)
noncomputable def K3 : Kont := .seq c0 .ret
noncomputable def K5 : Kont := .blk 0 K3
noncomputable def fin : ASt → R := Kret E Try.f19.results.toList ps rs
def tL0 (inputs : List Int) (defs : List Int) (members : List Int) (v_11 : List api_TypeV) (v_12 : Int) (v_13 : Int) : ASt := ⟨[(13, .one (.val (.int .i64) v_13)), (12, .one (.val (.int .i64) v_12)), (11, .one (.val (.sl api_Type) v_11)), (7, .one (.own 7)), (6, .one (.own 6)), (5, .one (.own 5))], [(7, some ⟨.free, .int .i64, members⟩), (6, some ⟨.free, .int .i64, defs⟩), (5, some ⟨.free, .int .i64, inputs⟩)]⟩
noncomputable def SL0 (kL0 : (List Int) → (List Int) → (List Int) → (List api_TypeV) → Int → Int → R) (inputs : List Int) (defs : List Int) (members : List Int) (v_11 : List api_TypeV) (v_12 : Int) (v_13 : Int) : R :=
  cond (decide (v_13 < v_12))
    (Option.bind (idx v_11 v_13) fun x1 =>
    cond (x1.1 == 7)
      (cond (decide ((inputs.length + 1) * 8 ≤ room) && decide (0 < Ty.nc (.int .i64)))
        (kL0 (inputs ++ [x1.2.1]) defs members v_11 v_12 (IntKind.i64.wrap (v_13 + 1)))
        none)
      (cond (x1.1 == 8)
        (cond (decide ((defs.length + 1) * 8 ≤ room) && decide (0 < Ty.nc (.int .i64)))
          (kL0 inputs (defs ++ [x1.2.1]) members v_11 v_12 (IntKind.i64.wrap (v_13 + 1)))
          none)
        (cond (x1.1 == 36)
          (cond (x1.1 == 36)
            (cond (decide ((members.length + 1) * 8 ≤ room) && decide (0 < Ty.nc (.int .i64)))
              (kL0 inputs defs (members ++ [x1.2.1]) v_11 v_12 (IntKind.i64.wrap (v_13 + 1)))
              none)
            (kL0 inputs defs members v_11 v_12 (IntKind.i64.wrap (v_13 + 1))))
          (cond (x1.1 == 37)
            (cond (x1.1 == 37)
              (cond (decide ((members.length + 1) * 8 ≤ room) && decide (0 < Ty.nc (.int .i64)))
                (kL0 inputs defs (members ++ [x1.2.1]) v_11 v_12 (IntKind.i64.wrap (v_13 + 1)))
                none)
              (kL0 inputs defs members v_11 v_12 (IntKind.i64.wrap (v_13 + 1))))
            (cond (x1.1 == 38)
              (cond (x1.1 == 38)
                (cond (decide ((members.length + 1) * 8 ≤ room) && decide (0 < Ty.nc (.int .i64)))
                  (kL0 inputs defs (members ++ [x1.2.1]) v_11 v_12 (IntKind.i64.wrap (v_13 + 1)))
                  none)
                (kL0 inputs defs members v_11 v_12 (IntKind.i64.wrap (v_13 + 1))))
              (cond (x1.1 == 39)
                (cond (decide ((members.length + 1) * 8 ≤ room) && decide (0 < Ty.nc (.int .i64)))
                  (kL0 inputs defs (members ++ [x1.2.1]) v_11 v_12 (IntKind.i64.wrap (v_13 + 1)))
                  none)
                (kL0 inputs defs members v_11 v_12 (IntKind.i64.wrap (v_13 + 1)))))))))
    (Option.bind (expr_References_1 inputs) fun x2 =>
    Option.bind (expr_References_1 defs) fun x3 =>
    Option.bind (expr_References_1 members) fun x4 =>
    some (x2.1, x3.1, x4.1, ()))
noncomputable def Se (kL0 : (List Int) → (List Int) → (List Int) → (List api_TypeV) → Int → Int → R) (e : List api_TypeV) : R :=
  kL0 [] [] [] e (e.length : Int) 0
theorem sL0 (jmp : Tgt → ASt → R) (inputs : List Int) (defs : List Int) (members : List Int) (v_11 : List api_TypeV) (v_12 : Int) (v_13 : Int) : run E jmp fin depth c1 (.loop c1 K5) (tL0 inputs defs members v_11 v_12 v_13) =
    SL0 (fun inputs defs members v_11 v_12 v_13 => jmp (.loop c1 K5) (tL0 inputs defs members v_11 v_12 v_13)) inputs defs members v_11 v_12 v_13 := by kernel_rfl
theorem se (jmp : Tgt → ASt → R) (x : (argTy ps).den) : run E jmp fin depth (bodyOf Try.f19) .ret (entryFrom 0 ps x) =
    Se (fun inputs defs members v_11 v_12 v_13 => jmp (.loop c1 K5) (tL0 inputs defs members v_11 v_12 v_13)) x.1 := by kernel_rfl
noncomputable def L0 (inputs : List Int) (defs : List Int) (members : List Int) (v_11 : List api_TypeV) (v_12 : Int) (v_13 : Int) : R := lim E fin (.loop c1 K5) (tL0 inputs defs members v_11 v_12 v_13)
theorem L0_eq (inputs : List Int) (defs : List Int) (members : List Int) (v_11 : List api_TypeV) (v_12 : Int) (v_13 : Int) : L0 inputs defs members v_11 v_12 v_13 = SL0 L0 inputs defs members v_11 v_12 v_13 :=
  (lim_eq (.loop c1 K5) (tL0 inputs defs members v_11 v_12 v_13)).trans (sL0 (lim E fin) inputs defs members v_11 v_12 v_13)
end expr_References
noncomputable def expr_References (e : List api_TypeV) : expr_References.R :=
  expr_References.Se expr_References.L0 e
noncomputable def expr_References.sig : Sig := ⟨expr_References.ps, expr_References.rs, fun x => expr_References x.1⟩
theorem expr_References.ok : CallOK Try.prog 19 expr_References.sig :=
  callOK_of_lim (E := expr_References.E) mixed tt_ok (ctxOk_cons ctxOk_nil expr_References_1.ok Try.func26 (by kernel_rfl) (by kernel_rfl)) Try.func19 (by kernel_rfl : Try.f19.body = some (bodyOf Try.f19)) Try.ntmps19 (of_decide_eq_true (by kernel_rfl)) (of_decide_eq_true (by kernel_rfl))
    fun x y h => ((lim_eq (.code (bodyOf Try.f19) .ret) (entryFrom 0 expr_References.ps x)).trans (expr_References.se (lim expr_References.E expr_References.fin) x)).trans h
theorem expr_References.val (x : (argTy expr_References.ps).den) : lim expr_References.E expr_References.fin (.code (bodyOf Try.f19) .ret) (entryFrom 0 expr_References.ps x) = expr_References.sig.run x :=
  (lim_eq (.code (bodyOf Try.f19) .ret) (entryFrom 0 expr_References.ps x)).trans (expr_References.se (lim expr_References.E expr_References.fin) x)
noncomputable def expr_References.ctxc (n : Nat) : List (Nat × Sig) := [(26, expr_References_1.sigc n)]
noncomputable def expr_References.sigc (n : Nat) : Sig := ⟨expr_References.ps, expr_References.rs, fun x => runs (withCtx expr_References.E (expr_References.ctxc n)) expr_References.fin n (.code (bodyOf Try.f19) .ret) (entryFrom 0 expr_References.ps x)⟩
theorem expr_References.sigc_le (n : Nat) : ∀ x y, (expr_References.sigc n).run x = some y → expr_References.sig.run x = some y :=
  fun x y h => (expr_References.val x).symm.trans (runs_lim (E := expr_References.E) (c := expr_References.ctxc n) (ctxLe_cons ctxLe_nil (expr_References_1.sigc_le n)) h)

/-! ### guerdon/guerdonref10.insert -/
namespace ref10_insert
abbrev ps : List PM := [.pure (.sl (.int .i64)), .pure (.int .i64)]
abbrev rs : List RM := [.own (.int .i64)]
abbrev R : Type := Option (List Int × Unit)
noncomputable def E : Env := { tt := tt, ctx := [], nt := 48, ann := [(1000004, [(0, .keep), (1, .keep), (5, .own (.int .i64)), (6, .keep), (7, .keep)]), (10, [(0, .keep), (1, .keep), (5, .own (.int .i64)), (6, .keep), (7, .keep)]), (7, [(0, .keep), (1, .keep), (5, .own (.int .i64)), (6, .keep), (7, .keep), (23, .keep)])] }
noncomputable def c0 : Code := sub [1, 1, 1, 1] (bodyOf Try.f29)
noncomputable def c1 : Code := sub [1, 1, 1, 0, 1, 0, 0] (bodyOf Try.f29)
noncomputable def c2 : Code := sub [1, 1, 1, 0, 1, 0, 0, 1, 1] (bodyOf Try.f29)
noncomputable def c3 : Code := sub [1, 1, 1, 0, 1, 0, 0, 1, 0, 0, 1] (bodyOf Try.f29)
noncomputable def c4 : Code := sub [1, 1, 1, 0, 1, 0, 0, 1, 0, 0, 0, 1] (bodyOf Try.f29)
noncomputable def K4 : Kont := .seq c0 .ret
noncomputable def K6 : Kont := .blk 0 K4
noncomputable def K7 : Kont := .loop c1 K6
noncomputable def K10 : Kont := .seq c2 K7
noncomputable def K11 : Kont := .blk 1 K10
noncomputable def K12 : Kont := .seq c3 K11
noncomputable def fin : ASt → R := Kret E Try.f29.results.toList ps rs
def tL0 (l : List Int) (n_1 : Int) (out : List Int) (done : Bool) (i : Int) : ASt := ⟨[(7, .one (.val (.int .i64) i)), (6, .one (.val .bool done)), (5, .one (.own 5)), (1, .one (.val (.int .i64) n_1)), (0, .one (.val (.sl (.int .i64)) l))], [(5, some ⟨.free, .int .i64, out⟩)]⟩
def tJ1 (l : List Int) (n_1 : Int) (out : List Int) (done : Bool) (i : Int) : ASt := ⟨[(7, .one (.val (.int .i64) i)), (6, .one (.val .bool done)), (5, .one (.own 5)), (1, .one (.val (.int .i64) n_1)), (0, .one (.val (.sl (.int .i64)) l))], [(5, some ⟨.free, .int .i64, out⟩)]⟩
def tJ2 (l : List Int) (n_1 : Int) (out : List Int) (done : Bool) (i : Int) (v_23 : Bool) : ASt := ⟨[(23, .one (.val .bool v_23)), (7, .one (.val (.int .i64) i)), (6, .one (.val .bool done)), (5, .one (.own 5)), (1, .one (.val (.int .i64) n_1)), (0, .one (.val (.sl (.int .i64)) l))], [(5, some ⟨.free, .int .i64, out⟩)]⟩
noncomputable def SL0 (kJ2 : (List Int) → Int → (List Int) → Bool → Int → Bool → R) (l : List Int) (n_1 : Int) (out : List Int) (done : Bool) (i : Int) : R :=
  cond (decide (i < (l.length : Int)))
    (cond (!done)
      (Option.bind (idx l i) fun x1 =>
      kJ2 l n_1 out done i (decide (x1 ≥ n_1)))
      (kJ2 l n_1 out done i false))
    (cond (!done)
      (cond (decide ((out.length + 1) * 8 ≤ room) && decide (0 < Ty.nc (.int .i64)))
        (some ((out ++ [n_1]), ()))
        none)
      (some (out, ())))
noncomputable def SJ1 (kL0 : (List Int) → Int → (List Int) → Bool → Int → R) (l : List Int) (n_1 : Int) (out : List Int) (done : Bool) (i : Int) : R :=
  Option.bind (idx l i) fun x1 =>
  cond (decide ((out.length + 1) * 8 ≤ room) && decide (0 < Ty.nc (.int .i64)))
    (kL0 l n_1 (out ++ [x1]) done (IntKind.i64.wrap (i + 1)))
    none
noncomputable def SJ2 (kJ1 : (List Int) → Int → (List Int) → Bool → Int → R) (l : List Int) (n_1 : Int) (out : List Int) (done : Bool) (i : Int) (v_23 : Bool) : R :=
  cond v_23
    (Option.bind (idx l i) fun x1 =>
    cond (decide (x1 > n_1))
      (cond (decide ((out.length + 1) * 8 ≤ room) && decide (0 < Ty.nc (.int .i64)))
        (kJ1 l n_1 (out ++ [n_1]) true i)
        none)
      (kJ1 l n_1 out true i))
    (kJ1 l n_1 out done i)
noncomputable def Se (kL0 : (List Int) → Int → (List Int) → Bool → Int → R) (l : List Int) (n_1 : Int) : R :=
  kL0 l n_1 [] false 0
theorem sL0 (jmp : Tgt → ASt → R) (l : List Int) (n_1 : Int) (out : List Int) (done : Bool) (i : Int) : run E jmp fin depth c1 (.loop c1 K6) (tL0 l n_1 out done i) =
    SL0 (fun l n_1 out done i v_23 => jmp (.code c4 K12) (tJ2 l n_1 out done i v_23)) l n_1 out done i := by kernel_rfl
theorem sJ1 (jmp : Tgt → ASt → R) (l : List Int) (n_1 : Int) (out : List Int) (done : Bool) (i : Int) : run E jmp fin depth c3 K11 (tJ1 l n_1 out done i) =
    SJ1 (fun l n_1 out done i => jmp (.loop c1 K6) (tL0 l n_1 out done i)) l n_1 out done i := by kernel_rfl
theorem sJ2 (jmp : Tgt → ASt → R) (l : List Int) (n_1 : Int) (out : List Int) (done : Bool) (i : Int) (v_23 : Bool) : run E jmp fin depth c4 K12 (tJ2 l n_1 out done i v_23) =
    SJ2 (fun l n_1 out done i => jmp (.code c3 K11) (tJ1 l n_1 out done i)) l n_1 out done i v_23 := by kernel_rfl
theorem se (jmp : Tgt → ASt → R) (x : (argTy ps).den) : run E jmp fin depth (bodyOf Try.f29) .ret (entryFrom 0 ps x) =
    Se (fun l n_1 out done i => jmp (.loop c1 K6) (tL0 l n_1 out done i)) x.1 x.2.1 := by kernel_rfl
noncomputable def L0 (l : List Int) (n_1 : Int) (out : List Int) (done : Bool) (i : Int) : R := lim E fin (.loop c1 K6) (tL0 l n_1 out done i)
noncomputable def J1 (l : List Int) (n_1 : Int) (out : List Int) (done : Bool) (i : Int) : R := lim E fin (.code c3 K11) (tJ1 l n_1 out done i)
noncomputable def J2 (l : List Int) (n_1 : Int) (out : List Int) (done : Bool) (i : Int) (v_23 : Bool) : R := lim E fin (.code c4 K12) (tJ2 l n_1 out done i v_23)
theorem L0_eq (l : List Int) (n_1 : Int) (out : List Int) (done : Bool) (i : Int) : L0 l n_1 out done i = SL0 J2 l n_1 out done i :=
  (lim_eq (.loop c1 K6) (tL0 l n_1 out done i)).trans (sL0 (lim E fin) l n_1 out done i)
theorem J1_eq (l : List Int) (n_1 : Int) (out : List Int) (done : Bool) (i : Int) : J1 l n_1 out done i = SJ1 L0 l n_1 out done i :=
  (lim_eq (.code c3 K11) (tJ1 l n_1 out done i)).trans (sJ1 (lim E fin) l n_1 out done i)
theorem J2_eq (l : List Int) (n_1 : Int) (out : List Int) (done : Bool) (i : Int) (v_23 : Bool) : J2 l n_1 out done i v_23 = SJ2 J1 l n_1 out done i v_23 :=
  (lim_eq (.code c4 K12) (tJ2 l n_1 out done i v_23)).trans (sJ2 (lim E fin) l n_1 out done i v_23)
end ref10_insert
noncomputable def ref10_insert (l : List Int) (n_1 : Int) : ref10_insert.R :=
  ref10_insert.Se ref10_insert.L0 l n_1
noncomputable def ref10_insert.sig : Sig := ⟨ref10_insert.ps, ref10_insert.rs, fun x => ref10_insert x.1 x.2.1⟩
theorem ref10_insert.ok : CallOK Try.prog 29 ref10_insert.sig :=
  callOK_of_lim (E := ref10_insert.E) mixed tt_ok ctxOk_nil Try.func29 (by kernel_rfl : Try.f29.body = some (bodyOf Try.f29)) Try.ntmps29 (of_decide_eq_true (by kernel_rfl)) (of_decide_eq_true (by kernel_rfl))
    fun x y h => ((lim_eq (.code (bodyOf Try.f29) .ret) (entryFrom 0 ref10_insert.ps x)).trans (ref10_insert.se (lim ref10_insert.E ref10_insert.fin) x)).trans h
theorem ref10_insert.val (x : (argTy ref10_insert.ps).den) : lim ref10_insert.E ref10_insert.fin (.code (bodyOf Try.f29) .ret) (entryFrom 0 ref10_insert.ps x) = ref10_insert.sig.run x :=
  (lim_eq (.code (bodyOf Try.f29) .ret) (entryFrom 0 ref10_insert.ps x)).trans (ref10_insert.se (lim ref10_insert.E ref10_insert.fin) x)
noncomputable def ref10_insert.ctxc (n : Nat) : List (Nat × Sig) := []
noncomputable def ref10_insert.sigc (n : Nat) : Sig := ⟨ref10_insert.ps, ref10_insert.rs, fun x => runs (withCtx ref10_insert.E (ref10_insert.ctxc n)) ref10_insert.fin n (.code (bodyOf Try.f29) .ret) (entryFrom 0 ref10_insert.ps x)⟩
theorem ref10_insert.sigc_le (n : Nat) : ∀ x y, (ref10_insert.sigc n).run x = some y → ref10_insert.sig.run x = some y :=
  fun x y h => (ref10_insert.val x).symm.trans (runs_lim (E := ref10_insert.E) (c := ref10_insert.ctxc n) ctxLe_nil h)

/-! ### guerdon/guerdonref10.References -/
namespace ref10_References
abbrev ps : List PM := [.pure (.sl api_Type)]
abbrev rs : List RM := [.own (.int .i64), .own (.int .i64), .own (.int .i64)]
abbrev R : Type := Option (List Int × List Int × List Int × Unit)
noncomputable def E : Env := { tt := tt, ctx := [(29, ref10_insert.sig)], nt := 55, ann := [(1000003, [(0, .keep), (5, .own (.int .i64)), (6, .own (.int .i64)), (7, .own (.int .i64)), (8, .keep)]), (8, [(0, .keep), (5, .own (.int .i64)), (6, .own (.int .i64)), (7, .own (.int .i64)), (8, .keep), (9, .keep)]), (10, [(0, .keep), (5, .keep), (6, .own (.int .i64)), (7, .own (.int .i64)), (8, .keep), (9, .keep)]), (11, [(0, .keep), (5, .keep), (6, .keep), (7, .own (.int .i64)), (8, .keep), (44, .keep)])] }
noncomputable def c0 : Code := sub [1, 1, 1] (bodyOf Try.f20)
noncomputable def c1 : Code := sub [1, 1, 0, 1, 0, 0] (bodyOf Try.f20)
noncomputable def c2 : Code := sub [1, 1, 0, 1, 0, 0, 1, 1] (bodyOf Try.f20)
noncomputable def c3 : Code := sub [1, 1, 0, 1, 0, 0, 1, 0, 0, 1, 1] (bodyOf Try.f20)
noncomputable def c4 : Code := sub [1, 1, 0, 1, 0, 0, 1, 0, 0, 1, 1, 1] (bodyOf Try.f20)
noncomputable def c5 : Code := sub [1, 1, 0, 1, 0, 0, 1, 0, 0, 1, 1, 1, 1] (bodyOf Try.f20)
noncomputable def K3 : Kont := .seq c0 .ret
noncomputable def K5 : Kont := .blk 0 K3
noncomputable def K6 : Kont := .loop c1 K5
noncomputable def K9 : Kont := .seq c2 K6
noncomputable def K10 : Kont := .blk 1 K9
noncomputable def fin : ASt → R := Kret E Try.f20.results.toList ps rs
def tL0 (e : List api_TypeV) (a : List Int) (b : List Int) (c_7 : List Int) (i : Int) : ASt := ⟨[(8, .one (.val (.int .i64) i)), (7, .one (.own 7)), (6, .one (.own 6)), (5, .one (.own 5)), (0, .one (.val (.sl api_Type) e))], [(7, some ⟨.free, .int .i64, c_7⟩), (6, some ⟨.free, .int .i64, b⟩), (5, some ⟨.free, .int .i64, a⟩)]⟩
def tJ1 (e : List api_TypeV) (a : List Int) (b : List Int) (c_7 : List Int) (i : Int) (op : Int) : ASt := ⟨[(9, .one (.val (.int .i64) op)), (8, .one (.val (.int .i64) i)), (7, .one (.own 7)), (6, .one (.own 6)), (5, .one (.own 5)), (0, .one (.val (.sl api_Type) e))], [(7, some ⟨.free, .int .i64, c_7⟩), (6, some ⟨.free, .int .i64, b⟩), (5, some ⟨.free, .int .i64, a⟩)]⟩
def tJ2 (e : List api_TypeV) (a : List Int) (b : List Int) (c_7 : List Int) (i : Int) (op : Int) : ASt := ⟨[(9, .one (.val (.int .i64) op)), (8, .one (.val (.int .i64) i)), (7, .one (.own 7)), (6, .one (.own 6)), (5, .one (.own 5)), (0, .one (.val (.sl api_Type) e))], [(7, some ⟨.free, .int .i64, c_7⟩), (6, some ⟨.free, .int .i64, b⟩), (5, some ⟨.free, .int .i64, a⟩)]⟩
def tJ3 (e : List api_TypeV) (a : List Int) (b : List Int) (c_7 : List Int) (i : Int) (v_44 : Bool) : ASt := ⟨[(44, .one (.val .bool v_44)), (8, .one (.val (.int .i64) i)), (7, .one (.own 7)), (6, .one (.own 6)), (5, .one (.own 5)), (0, .one (.val (.sl api_Type) e))], [(7, some ⟨.free, .int .i64, c_7⟩), (6, some ⟨.free, .int .i64, b⟩), (5, some ⟨.free, .int .i64, a⟩)]⟩
noncomputable def SL0 (kJ1 : (List api_TypeV) → (List Int) → (List Int) → (List Int) → Int → Int → R) (e : List api_TypeV) (a : List Int) (b : List Int) (c_7 : List Int) (i : Int) : R :=
  cond (decide (i < (e.length : Int)))
    (Option.bind (idx e i) fun x1 =>
    cond (x1.1 == 7)
      (Option.bind (idx e i) fun x2 =>
      Option.bind (ref10_insert a x2.2.1) fun x3 =>
      kJ1 e x3.1 b c_7 i x1.1)
      (kJ1 e a b c_7 i x1.1))
    (some (a, b, c_7, ()))
noncomputable def SJ1 (kJ2 : (List api_TypeV) → (List Int) → (List Int) → (List Int) → Int → Int → R) (e : List api_TypeV) (a : List Int) (b : List Int) (c_7 : List Int) (i : Int) (op : Int) : R :=
  cond (op == 8)
    (Option.bind (idx e i) fun x1 =>
    Option.bind (ref10_insert b x1.2.1) fun x2 =>
    kJ2 e a x2.1 c_7 i op)
    (kJ2 e a b c_7 i op)
noncomputable def SJ2 (kJ3 : (List api_TypeV) → (List Int) → (List Int) → (List Int) → Int → Bool → R) (e : List api_TypeV) (a : List Int) (b : List Int) (c_7 : List Int) (i : Int) (op : Int) : R :=
  cond (decide (op ≥ 36))
    (kJ3 e a b c_7 i (decide (op ≤ 39)))
    (kJ3 e a b c_7 i false)
noncomputable def SJ3 (kL0 : (List api_TypeV) → (List Int) → (List Int) → (List Int) → Int → R) (e : List api_TypeV) (a : List Int) (b : List Int) (c_7 : List Int) (i : Int) (v_44 : Bool) : R :=
  cond v_44
    (Option.bind (idx e i) fun x1 =>
    Option.bind (ref10_insert c_7 x1.2.1) fun x2 =>
    kL0 e a b x2.1 (IntKind.i64.wrap (i + 1)))
    (kL0 e a b c_7 (IntKind.i64.wrap (i + 1)))
noncomputable def Se (kL0 : (List api_TypeV) → (List Int) → (List Int) → (List Int) → Int → R) (e : List api_TypeV) : R :=
  kL0 e [] [] [] 0
theorem sL0 (jmp : Tgt → ASt → R) (e : List api_TypeV) (a : List Int) (b : List Int) (c_7 : List Int) (i : Int) : run E jmp fin depth c1 (.loop c1 K5) (tL0 e a b c_7 i) =
    SL0 (fun e a b c_7 i op => jmp (.code c3 K10) (tJ1 e a b c_7 i op)) e a b c_7 i := by kernel_rfl
theorem sJ1 (jmp : Tgt → ASt → R) (e : List api_TypeV) (a : List Int) (b : List Int) (c_7 : List Int) (i : Int) (op : Int) : run E jmp fin depth c3 K10 (tJ1 e a b c_7 i op) =
    SJ1 (fun e a b c_7 i op => jmp (.code c4 K10) (tJ2 e a b c_7 i op)) e a b c_7 i op := by kernel_rfl
theorem sJ2 (jmp : Tgt → ASt → R) (e : List api_TypeV) (a : List Int) (b : List Int) (c_7 : List Int) (i : Int) (op : Int) : run E jmp fin depth c4 K10 (tJ2 e a b c_7 i op) =
    SJ2 (fun e a b c_7 i v_44 => jmp (.code c5 K10) (tJ3 e a b c_7 i v_44)) e a b c_7 i op := by kernel_rfl
theorem sJ3 (jmp : Tgt → ASt → R) (e : List api_TypeV) (a : List Int) (b : List Int) (c_7 : List Int) (i : Int) (v_44 : Bool) : run E jmp fin depth c5 K10 (tJ3 e a b c_7 i v_44) =
    SJ3 (fun e a b c_7 i => jmp (.loop c1 K5) (tL0 e a b c_7 i)) e a b c_7 i v_44 := by kernel_rfl
theorem se (jmp : Tgt → ASt → R) (x : (argTy ps).den) : run E jmp fin depth (bodyOf Try.f20) .ret (entryFrom 0 ps x) =
    Se (fun e a b c_7 i => jmp (.loop c1 K5) (tL0 e a b c_7 i)) x.1 := by kernel_rfl
noncomputable def L0 (e : List api_TypeV) (a : List Int) (b : List Int) (c_7 : List Int) (i : Int) : R := lim E fin (.loop c1 K5) (tL0 e a b c_7 i)
noncomputable def J1 (e : List api_TypeV) (a : List Int) (b : List Int) (c_7 : List Int) (i : Int) (op : Int) : R := lim E fin (.code c3 K10) (tJ1 e a b c_7 i op)
noncomputable def J2 (e : List api_TypeV) (a : List Int) (b : List Int) (c_7 : List Int) (i : Int) (op : Int) : R := lim E fin (.code c4 K10) (tJ2 e a b c_7 i op)
noncomputable def J3 (e : List api_TypeV) (a : List Int) (b : List Int) (c_7 : List Int) (i : Int) (v_44 : Bool) : R := lim E fin (.code c5 K10) (tJ3 e a b c_7 i v_44)
theorem L0_eq (e : List api_TypeV) (a : List Int) (b : List Int) (c_7 : List Int) (i : Int) : L0 e a b c_7 i = SL0 J1 e a b c_7 i :=
  (lim_eq (.loop c1 K5) (tL0 e a b c_7 i)).trans (sL0 (lim E fin) e a b c_7 i)
theorem J1_eq (e : List api_TypeV) (a : List Int) (b : List Int) (c_7 : List Int) (i : Int) (op : Int) : J1 e a b c_7 i op = SJ1 J2 e a b c_7 i op :=
  (lim_eq (.code c3 K10) (tJ1 e a b c_7 i op)).trans (sJ1 (lim E fin) e a b c_7 i op)
theorem J2_eq (e : List api_TypeV) (a : List Int) (b : List Int) (c_7 : List Int) (i : Int) (op : Int) : J2 e a b c_7 i op = SJ2 J3 e a b c_7 i op :=
  (lim_eq (.code c4 K10) (tJ2 e a b c_7 i op)).trans (sJ2 (lim E fin) e a b c_7 i op)
theorem J3_eq (e : List api_TypeV) (a : List Int) (b : List Int) (c_7 : List Int) (i : Int) (v_44 : Bool) : J3 e a b c_7 i v_44 = SJ3 L0 e a b c_7 i v_44 :=
  (lim_eq (.code c5 K10) (tJ3 e a b c_7 i v_44)).trans (sJ3 (lim E fin) e a b c_7 i v_44)
end ref10_References
noncomputable def ref10_References (e : List api_TypeV) : ref10_References.R :=
  ref10_References.Se ref10_References.L0 e
noncomputable def ref10_References.sig : Sig := ⟨ref10_References.ps, ref10_References.rs, fun x => ref10_References x.1⟩
theorem ref10_References.ok : CallOK Try.prog 20 ref10_References.sig :=
  callOK_of_lim (E := ref10_References.E) mixed tt_ok (ctxOk_cons ctxOk_nil ref10_insert.ok Try.func29 (by kernel_rfl) (by kernel_rfl)) Try.func20 (by kernel_rfl : Try.f20.body = some (bodyOf Try.f20)) Try.ntmps20 (of_decide_eq_true (by kernel_rfl)) (of_decide_eq_true (by kernel_rfl))
    fun x y h => ((lim_eq (.code (bodyOf Try.f20) .ret) (entryFrom 0 ref10_References.ps x)).trans (ref10_References.se (lim ref10_References.E ref10_References.fin) x)).trans h
theorem ref10_References.val (x : (argTy ref10_References.ps).den) : lim ref10_References.E ref10_References.fin (.code (bodyOf Try.f20) .ret) (entryFrom 0 ref10_References.ps x) = ref10_References.sig.run x :=
  (lim_eq (.code (bodyOf Try.f20) .ret) (entryFrom 0 ref10_References.ps x)).trans (ref10_References.se (lim ref10_References.E ref10_References.fin) x)
noncomputable def ref10_References.ctxc (n : Nat) : List (Nat × Sig) := [(29, ref10_insert.sigc n)]
noncomputable def ref10_References.sigc (n : Nat) : Sig := ⟨ref10_References.ps, ref10_References.rs, fun x => runs (withCtx ref10_References.E (ref10_References.ctxc n)) ref10_References.fin n (.code (bodyOf Try.f20) .ret) (entryFrom 0 ref10_References.ps x)⟩
theorem ref10_References.sigc_le (n : Nat) : ∀ x y, (ref10_References.sigc n).run x = some y → ref10_References.sig.run x = some y :=
  fun x y h => (ref10_References.val x).symm.trans (runs_lim (E := ref10_References.E) (c := ref10_References.ctxc n) (ctxLe_cons ctxLe_nil (ref10_insert.sigc_le n)) h)

/-! ### guerdon/guerdonlaw10.ExprReferences -/
namespace law10_ExprReferences
abbrev ps : List PM := [.pure (.sl api_Type)]
abbrev rs : List RM := [.pure .bool]
abbrev R : Type := Option (Bool × Unit)
noncomputable def E : Env := { tt := tt, ctx := [(8, law10_awake.sig), (19, expr_References.sig), (20, ref10_References.sig), (13, same_Ints.sig)], nt := 41, ann := [] }
noncomputable def fin : ASt → R := Kret E Try.f7.results.toList ps rs
noncomputable def Se (e : List api_TypeV) : R :=
  cond (decide ((e.length : Int) > 100))
    (Option.bind law10_awake fun x1 =>
    some (x1.1, ()))
    (Option.bind (expr_References e) fun x2 =>
    Option.bind (ref10_References e) fun x3 =>
    Option.bind (same_Ints x2.1 x3.1) fun x4 =>
    cond x4.1
      (Option.bind (same_Ints x2.2.1 x3.2.1) fun x5 =>
      cond x5.1
        (Option.bind (same_Ints x2.2.2.1 x3.2.2.1) fun x6 =>
        cond x6.1
          (Option.bind law10_awake fun x7 =>
          some (x7.1, ()))
          (some (false, ())))
        (some (false, ())))
      (some (false, ())))
theorem se (jmp : Tgt → ASt → R) (x : (argTy ps).den) : run E jmp fin depth (bodyOf Try.f7) .ret (entryFrom 0 ps x) =
    Se x.1 := by kernel_rfl
end law10_ExprReferences
noncomputable def law10_ExprReferences (e : List api_TypeV) : law10_ExprReferences.R :=
  law10_ExprReferences.Se e
noncomputable def law10_ExprReferences.sig : Sig := ⟨law10_ExprReferences.ps, law10_ExprReferences.rs, fun x => law10_ExprReferences x.1⟩
theorem law10_ExprReferences.ok : CallOK Try.prog 7 law10_ExprReferences.sig :=
  callOK_of_lim (E := law10_ExprReferences.E) mixed tt_ok (ctxOk_cons (ctxOk_cons (ctxOk_cons (ctxOk_cons ctxOk_nil same_Ints.ok Try.func13 (by kernel_rfl) (by kernel_rfl)) ref10_References.ok Try.func20 (by kernel_rfl) (by kernel_rfl)) expr_References.ok Try.func19 (by kernel_rfl) (by kernel_rfl)) law10_awake.ok Try.func8 (by kernel_rfl) (by kernel_rfl)) Try.func7 (by kernel_rfl : Try.f7.body = some (bodyOf Try.f7)) Try.ntmps7 (of_decide_eq_true (by kernel_rfl)) (of_decide_eq_true (by kernel_rfl))
    fun x y h => ((lim_eq (.code (bodyOf Try.f7) .ret) (entryFrom 0 law10_ExprReferences.ps x)).trans (law10_ExprReferences.se (lim law10_ExprReferences.E law10_ExprReferences.fin) x)).trans h
theorem law10_ExprReferences.val (x : (argTy law10_ExprReferences.ps).den) : lim law10_ExprReferences.E law10_ExprReferences.fin (.code (bodyOf Try.f7) .ret) (entryFrom 0 law10_ExprReferences.ps x) = law10_ExprReferences.sig.run x :=
  (lim_eq (.code (bodyOf Try.f7) .ret) (entryFrom 0 law10_ExprReferences.ps x)).trans (law10_ExprReferences.se (lim law10_ExprReferences.E law10_ExprReferences.fin) x)
noncomputable def law10_ExprReferences.ctxc (n : Nat) : List (Nat × Sig) := [(8, law10_awake.sigc n), (19, expr_References.sigc n), (20, ref10_References.sigc n), (13, same_Ints.sigc n)]
noncomputable def law10_ExprReferences.sigc (n : Nat) : Sig := ⟨law10_ExprReferences.ps, law10_ExprReferences.rs, fun x => runs (withCtx law10_ExprReferences.E (law10_ExprReferences.ctxc n)) law10_ExprReferences.fin n (.code (bodyOf Try.f7) .ret) (entryFrom 0 law10_ExprReferences.ps x)⟩
theorem law10_ExprReferences.sigc_le (n : Nat) : ∀ x y, (law10_ExprReferences.sigc n).run x = some y → law10_ExprReferences.sig.run x = some y :=
  fun x y h => (law10_ExprReferences.val x).symm.trans (runs_lim (E := law10_ExprReferences.E) (c := law10_ExprReferences.ctxc n) (ctxLe_cons (ctxLe_cons (ctxLe_cons (ctxLe_cons ctxLe_nil (same_Ints.sigc_le n)) (ref10_References.sigc_le n)) (expr_References.sigc_le n)) (law10_awake.sigc_le n)) h)

end Go.Proofs.Ytbfckejaihblmaa
