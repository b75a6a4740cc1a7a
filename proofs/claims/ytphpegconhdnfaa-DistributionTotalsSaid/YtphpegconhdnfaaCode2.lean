import Derived.Test.YtphpegconhdnfaaCode1
set_option maxRecDepth 100000
set_option linter.unusedVariables false
namespace Go.Proofs.Ytphpegconhdnfaa
open Go Go.Lift
namespace slices_pdqsortOrdered_int
abbrev ps : List PM := [.own (.int .i64), .pure (.int .i64), .pure (.int .i64), .pure (.int .i64)]
abbrev rs : List RM := []
abbrev R : Type := Option (List Int × Unit)
noncomputable def E0 : Env := { tt := tt, ctx := [], nt := 134, ann := [(1000002, [(0, .keep), (1, .keep), (2, .keep), (3, .keep), (8, .keep), (9, .keep)]), (10, [(0, .keep), (1, .keep), (2, .keep), (3, .keep), (8, .keep), (9, .keep), (10, .keep)]), (15, [(0, .keep), (1, .keep), (2, .keep), (3, .keep), (8, .keep), (9, .keep), (10, .keep), (11, .keep), (12, .keep)]), (17, [(0, .keep), (1, .keep), (2, .keep), (3, .keep), (8, .keep), (9, .keep), (10, .keep), (11, .keep)]), (18, [(0, .keep), (1, .keep), (2, .keep), (3, .keep), (8, .keep), (9, .keep), (10, .keep), (11, .keep), (87, .keep)])] }
noncomputable def ctx0 : List (Nat × Sig) := [(59, slices_insertionSortOrdered_int.sig), (60, slices_heapSortOrdered_int.sig), (61, slices_breakPatternsOrdered_int.sig), (62, slices_choosePivotOrdered_int.sig), (63, slices_reverseRangeOrdered_int.sig), (64, slices_partialInsertionSortOrdered_int.sig), (39, cmp_Less_int.sig), (65, slices_partitionEqualOrdered_int.sig), (66, slices_partitionOrdered_int.sig)]
noncomputable def E (self : (List Int) → Int → Int → Int → R) : Env := withCtx E0 ((50, ⟨ps, rs, fun x => self x.1 x.2.1 x.2.2.1 x.2.2.2.1⟩) :: ctx0)
noncomputable def c0 : Code := sub [1, 1, 0, 0] (bodyOf Try.f50)
noncomputable def c1 : Code := sub [1, 1, 0, 0, 0, 1, 1, 1, 1, 1, 1, 1, 1] (bodyOf Try.f50)
noncomputable def c2 : Code := sub [1, 1, 0, 0, 0, 1, 1, 1, 1] (bodyOf Try.f50)
noncomputable def c3 : Code := sub [1, 1, 0, 0, 0, 1, 1, 1, 1, 1, 1] (bodyOf Try.f50)
noncomputable def c4 : Code := sub [1, 1, 0, 0, 0, 1, 1, 1, 1, 1, 1, 1] (bodyOf Try.f50)
noncomputable def c5 : Code := sub [1, 1, 0, 0, 0, 1, 1, 1, 1, 1, 1, 1, 0, 1] (bodyOf Try.f50)
noncomputable def K3 : Kont := .blk 0 .ret
noncomputable def K4 : Kont := .loop c0 K3
noncomputable def K5 : Kont := .blk 1 K4
noncomputable def K24 : Kont := .seq c1 K5
noncomputable def fin : ASt → R := Kret E0 Try.f50.results.toList ps rs
def tL0 (a : Int) (b : Int) (limit : Int) (wasBalanced : Bool) (wasPartitioned : Bool) (data_P : List Int) : ASt := ⟨[(9, .one (.val .bool wasPartitioned)), (8, .one (.val .bool wasBalanced)), (3, .one (.val (.int .i64) limit)), (2, .one (.val (.int .i64) b)), (1, .one (.val (.int .i64) a)), (0, .one (.own 10000))], [(10000, some ⟨.fixed, .int .i64, data_P⟩)]⟩
def tJ1 (a : Int) (b : Int) (limit : Int) (wasBalanced : Bool) (wasPartitioned : Bool) (length_10 : Int) (data_P : List Int) : ASt := ⟨[(10, .one (.val (.int .i64) length_10)), (9, .one (.val .bool wasPartitioned)), (8, .one (.val .bool wasBalanced)), (3, .one (.val (.int .i64) limit)), (2, .one (.val (.int .i64) b)), (1, .one (.val (.int .i64) a)), (0, .one (.own 10000))], [(10000, some ⟨.fixed, .int .i64, data_P⟩)]⟩
def tJ2 (a : Int) (b : Int) (limit : Int) (wasBalanced : Bool) (wasPartitioned : Bool) (length_10 : Int) (pivot : Int) (hint : Int) (data_P : List Int) : ASt := ⟨[(12, .one (.val (.int .i64) hint)), (11, .one (.val (.int .i64) pivot)), (10, .one (.val (.int .i64) length_10)), (9, .one (.val .bool wasPartitioned)), (8, .one (.val .bool wasBalanced)), (3, .one (.val (.int .i64) limit)), (2, .one (.val (.int .i64) b)), (1, .one (.val (.int .i64) a)), (0, .one (.own 10000))], [(10000, some ⟨.fixed, .int .i64, data_P⟩)]⟩
def tJ3 (a : Int) (b : Int) (limit : Int) (wasBalanced : Bool) (wasPartitioned : Bool) (length_10 : Int) (pivot : Int) (data_P : List Int) : ASt := ⟨[(11, .one (.val (.int .i64) pivot)), (10, .one (.val (.int .i64) length_10)), (9, .one (.val .bool wasPartitioned)), (8, .one (.val .bool wasBalanced)), (3, .one (.val (.int .i64) limit)), (2, .one (.val (.int .i64) b)), (1, .one (.val (.int .i64) a)), (0, .one (.own 10000))], [(10000, some ⟨.fixed, .int .i64, data_P⟩)]⟩
def tJ4 (a : Int) (b : Int) (limit : Int) (wasBalanced : Bool) (wasPartitioned : Bool) (length_10 : Int) (pivot : Int) (v_87 : Bool) (data_P : List Int) : ASt := ⟨[(87, .one (.val .bool v_87)), (11, .one (.val (.int .i64) pivot)), (10, .one (.val (.int .i64) length_10)), (9, .one (.val .bool wasPartitioned)), (8, .one (.val .bool wasBalanced)), (3, .one (.val (.int .i64) limit)), (2, .one (.val (.int .i64) b)), (1, .one (.val (.int .i64) a)), (0, .one (.own 10000))], [(10000, some ⟨.fixed, .int .i64, data_P⟩)]⟩
noncomputable def SL0 (self : (List Int) → Int → Int → Int → R) (kJ1 : Int → Int → Int → Bool → Bool → Int → (List Int) → R) (a : Int) (b : Int) (limit : Int) (wasBalanced : Bool) (wasPartitioned : Bool) (data_P : List Int) : R :=
  cond (decide ((IntKind.i64.wrap (b - a)) ≤ 12))
    (Option.bind (slices_insertionSortOrdered_int data_P a b) fun x1 =>
    some (x1.1, ()))
    (cond (limit == 0)
      (Option.bind (slices_heapSortOrdered_int data_P a b) fun x2 =>
      some (x2.1, ()))
      (cond (!wasBalanced)
        (Option.bind (slices_breakPatternsOrdered_int data_P a b) fun x3 =>
        kJ1 a b (IntKind.i64.wrap (limit - 1)) wasBalanced wasPartitioned (IntKind.i64.wrap (b - a)) x3.1)
        (kJ1 a b limit wasBalanced wasPartitioned (IntKind.i64.wrap (b - a)) data_P)))
noncomputable def SJ1 (self : (List Int) → Int → Int → Int → R) (kJ2 : Int → Int → Int → Bool → Bool → Int → Int → Int → (List Int) → R) (a : Int) (b : Int) (limit : Int) (wasBalanced : Bool) (wasPartitioned : Bool) (length_10 : Int) (data_P : List Int) : R :=
  Option.bind (slices_choosePivotOrdered_int data_P a b) fun x1 =>
  cond (x1.2.1 == 2)
    (Option.bind (slices_reverseRangeOrdered_int data_P a b) fun x2 =>
    kJ2 a b limit wasBalanced wasPartitioned length_10 (IntKind.i64.wrap ((IntKind.i64.wrap (b - 1)) - (IntKind.i64.wrap (x1.1 - a)))) 1 x2.1)
    (kJ2 a b limit wasBalanced wasPartitioned length_10 x1.1 x1.2.1 data_P)
noncomputable def SJ2 (self : (List Int) → Int → Int → Int → R) (kJ3 : Int → Int → Int → Bool → Bool → Int → Int → (List Int) → R) (a : Int) (b : Int) (limit : Int) (wasBalanced : Bool) (wasPartitioned : Bool) (length_10 : Int) (pivot : Int) (hint : Int) (data_P : List Int) : R :=
  cond wasBalanced
    (cond wasPartitioned
      (cond (hint == 1)
        (Option.bind (slices_partialInsertionSortOrdered_int data_P a b) fun x1 =>
        cond x1.1
          (some (x1.2.1, ()))
          (kJ3 a b limit wasBalanced wasPartitioned length_10 pivot x1.2.1))
        (kJ3 a b limit wasBalanced wasPartitioned length_10 pivot data_P))
      (kJ3 a b limit wasBalanced wasPartitioned length_10 pivot data_P))
    (kJ3 a b limit wasBalanced wasPartitioned length_10 pivot data_P)
noncomputable def SJ3 (self : (List Int) → Int → Int → Int → R) (kJ4 : Int → Int → Int → Bool → Bool → Int → Int → Bool → (List Int) → R) (a : Int) (b : Int) (limit : Int) (wasBalanced : Bool) (wasPartitioned : Bool) (length_10 : Int) (pivot : Int) (data_P : List Int) : R :=
  cond (decide (a > 0))
    (cond (decide (0 ≤ IntKind.i64.wrap (a - 1)) && decide (IntKind.i64.wrap (a - 1) < (data_P.length : Int)))
      (cond (decide (0 ≤ pivot) && decide (pivot < (data_P.length : Int)))
        (Option.bind (cmp_Less_int (data_P.getD ((IntKind.i64.wrap (a - 1)).toNat) 0) (data_P.getD pivot.toNat 0)) fun x1 =>
        kJ4 a b limit wasBalanced wasPartitioned length_10 pivot (!x1.1) data_P)
        none)
      none)
    (kJ4 a b limit wasBalanced wasPartitioned length_10 pivot false data_P)
noncomputable def SJ4 (self : (List Int) → Int → Int → Int → R) (kL0 : Int → Int → Int → Bool → Bool → (List Int) → R) (a : Int) (b : Int) (limit : Int) (wasBalanced : Bool) (wasPartitioned : Bool) (length_10 : Int) (pivot : Int) (v_87 : Bool) (data_P : List Int) : R :=
  cond v_87
    (Option.bind (slices_partitionEqualOrdered_int data_P a b pivot) fun x1 =>
    kL0 x1.1 b limit wasBalanced wasPartitioned x1.2.1)
    (Option.bind (slices_partitionOrdered_int data_P a b pivot) fun x2 =>
    cond (decide ((IntKind.i64.wrap (x2.1 - a)) < (IntKind.i64.wrap (b - x2.1))))
      (Option.bind (self x2.2.2.1 a x2.1 limit) fun x3 =>
      kL0 (IntKind.i64.wrap (x2.1 + 1)) b limit (decide ((IntKind.i64.wrap (x2.1 - a)) ≥ (IntKind.i64.wrap (Int.tdiv length_10 8)))) x2.2.1 x3.1)
      (Option.bind (self x2.2.2.1 (IntKind.i64.wrap (x2.1 + 1)) b limit) fun x4 =>
      kL0 a x2.1 limit (decide ((IntKind.i64.wrap (b - x2.1)) ≥ (IntKind.i64.wrap (Int.tdiv length_10 8)))) x2.2.1 x4.1))
noncomputable def Se (self : (List Int) → Int → Int → Int → R) (kL0 : Int → Int → Int → Bool → Bool → (List Int) → R) (data : List Int) (a : Int) (b : Int) (limit : Int) : R :=
  kL0 a b limit true true data
theorem sL0 (self : (List Int) → Int → Int → Int → R) (jmp : Tgt → ASt → R) (a : Int) (b : Int) (limit : Int) (wasBalanced : Bool) (wasPartitioned : Bool) (data_P : List Int) : run (E self) jmp fin depth c0 (.loop c0 K3) (tL0 a b limit wasBalanced wasPartitioned data_P) =
    SL0 self (fun a b limit wasBalanced wasPartitioned length_10 data_P => jmp (.code c2 K5) (tJ1 a b limit wasBalanced wasPartitioned length_10 data_P)) a b limit wasBalanced wasPartitioned data_P := by kernel_rfl
theorem sJ1 (self : (List Int) → Int → Int → Int → R) (jmp : Tgt → ASt → R) (a : Int) (b : Int) (limit : Int) (wasBalanced : Bool) (wasPartitioned : Bool) (length_10 : Int) (data_P : List Int) : run (E self) jmp fin depth c2 K5 (tJ1 a b limit wasBalanced wasPartitioned length_10 data_P) =
    SJ1 self (fun a b limit wasBalanced wasPartitioned length_10 pivot hint data_P => jmp (.code c3 K5) (tJ2 a b limit wasBalanced wasPartitioned length_10 pivot hint data_P)) a b limit wasBalanced wasPartitioned length_10 data_P := by kernel_rfl
theorem sJ2 (self : (List Int) → Int → Int → Int → R) (jmp : Tgt → ASt → R) (a : Int) (b : Int) (limit : Int) (wasBalanced : Bool) (wasPartitioned : Bool) (length_10 : Int) (pivot : Int) (hint : Int) (data_P : List Int) : run (E self) jmp fin depth c3 K5 (tJ2 a b limit wasBalanced wasPartitioned length_10 pivot hint data_P) =
    SJ2 self (fun a b limit wasBalanced wasPartitioned length_10 pivot data_P => jmp (.code c4 K5) (tJ3 a b limit wasBalanced wasPartitioned length_10 pivot data_P)) a b limit wasBalanced wasPartitioned length_10 pivot hint data_P := by kernel_rfl
theorem sJ3 (self : (List Int) → Int → Int → Int → R) (jmp : Tgt → ASt → R) (a : Int) (b : Int) (limit : Int) (wasBalanced : Bool) (wasPartitioned : Bool) (length_10 : Int) (pivot : Int) (data_P : List Int) : run (E self) jmp fin depth c4 K5 (tJ3 a b limit wasBalanced wasPartitioned length_10 pivot data_P) =
    SJ3 self (fun a b limit wasBalanced wasPartitioned length_10 pivot v_87 data_P => jmp (.code c5 K24) (tJ4 a b limit wasBalanced wasPartitioned length_10 pivot v_87 data_P)) a b limit wasBalanced wasPartitioned length_10 pivot data_P := by kernel_rfl
theorem sJ4 (self : (List Int) → Int → Int → Int → R) (jmp : Tgt → ASt → R) (a : Int) (b : Int) (limit : Int) (wasBalanced : Bool) (wasPartitioned : Bool) (length_10 : Int) (pivot : Int) (v_87 : Bool) (data_P : List Int) : run (E self) jmp fin depth c5 K24 (tJ4 a b limit wasBalanced wasPartitioned length_10 pivot v_87 data_P) =
    SJ4 self (fun a b limit wasBalanced wasPartitioned data_P => jmp (.loop c0 K3) (tL0 a b limit wasBalanced wasPartitioned data_P)) a b limit wasBalanced wasPartitioned length_10 pivot v_87 data_P := by kernel_rfl
theorem se (self : (List Int) → Int → Int → Int → R) (jmp : Tgt → ASt → R) (x : (argTy ps).den) : run (E self) jmp fin depth (bodyOf Try.f50) .ret (entryFrom 0 ps x) =
    Se self (fun a b limit wasBalanced wasPartitioned data_P => jmp (.loop c0 K3) (tL0 a b limit wasBalanced wasPartitioned data_P)) x.1 x.2.1 x.2.2.1 x.2.2.2.1 := by kernel_rfl
end slices_pdqsortOrdered_int
noncomputable def slices_pdqsortOrdered_int (data : List Int) (a : Int) (b : Int) (limit : Int) : slices_pdqsortOrdered_int.R :=
  recF slices_pdqsortOrdered_int.E0 slices_pdqsortOrdered_int.ctx0 50 slices_pdqsortOrdered_int.ps slices_pdqsortOrdered_int.rs slices_pdqsortOrdered_int.fin (bodyOf Try.f50) (data, a, b, limit, ())
namespace slices_pdqsortOrdered_int
noncomputable def L0 (a : Int) (b : Int) (limit : Int) (wasBalanced : Bool) (wasPartitioned : Bool) (data_P : List Int) : R := lim (E slices_pdqsortOrdered_int) fin (.loop c0 K3) (tL0 a b limit wasBalanced wasPartitioned data_P)
noncomputable def J1 (a : Int) (b : Int) (limit : Int) (wasBalanced : Bool) (wasPartitioned : Bool) (length_10 : Int) (data_P : List Int) : R := lim (E slices_pdqsortOrdered_int) fin (.code c2 K5) (tJ1 a b limit wasBalanced wasPartitioned length_10 data_P)
noncomputable def J2 (a : Int) (b : Int) (limit : Int) (wasBalanced : Bool) (wasPartitioned : Bool) (length_10 : Int) (pivot : Int) (hint : Int) (data_P : List Int) : R := lim (E slices_pdqsortOrdered_int) fin (.code c3 K5) (tJ2 a b limit wasBalanced wasPartitioned length_10 pivot hint data_P)
noncomputable def J3 (a : Int) (b : Int) (limit : Int) (wasBalanced : Bool) (wasPartitioned : Bool) (length_10 : Int) (pivot : Int) (data_P : List Int) : R := lim (E slices_pdqsortOrdered_int) fin (.code c4 K5) (tJ3 a b limit wasBalanced wasPartitioned length_10 pivot data_P)
noncomputable def J4 (a : Int) (b : Int) (limit : Int) (wasBalanced : Bool) (wasPartitioned : Bool) (length_10 : Int) (pivot : Int) (v_87 : Bool) (data_P : List Int) : R := lim (E slices_pdqsortOrdered_int) fin (.code c5 K24) (tJ4 a b limit wasBalanced wasPartitioned length_10 pivot v_87 data_P)
theorem L0_eq (a : Int) (b : Int) (limit : Int) (wasBalanced : Bool) (wasPartitioned : Bool) (data_P : List Int) : L0 a b limit wasBalanced wasPartitioned data_P = SL0 slices_pdqsortOrdered_int J1 a b limit wasBalanced wasPartitioned data_P :=
  (lim_eq (.loop c0 K3) (tL0 a b limit wasBalanced wasPartitioned data_P)).trans (sL0 slices_pdqsortOrdered_int (lim (E slices_pdqsortOrdered_int) fin) a b limit wasBalanced wasPartitioned data_P)
theorem J1_eq (a : Int) (b : Int) (limit : Int) (wasBalanced : Bool) (wasPartitioned : Bool) (length_10 : Int) (data_P : List Int) : J1 a b limit wasBalanced wasPartitioned length_10 data_P = SJ1 slices_pdqsortOrdered_int J2 a b limit wasBalanced wasPartitioned length_10 data_P :=
  (lim_eq (.code c2 K5) (tJ1 a b limit wasBalanced wasPartitioned length_10 data_P)).trans (sJ1 slices_pdqsortOrdered_int (lim (E slices_pdqsortOrdered_int) fin) a b limit wasBalanced wasPartitioned length_10 data_P)
theorem J2_eq (a : Int) (b : Int) (limit : Int) (wasBalanced : Bool) (wasPartitioned : Bool) (length_10 : Int) (pivot : Int) (hint : Int) (data_P : List Int) : J2 a b limit wasBalanced wasPartitioned length_10 pivot hint data_P = SJ2 slices_pdqsortOrdered_int J3 a b limit wasBalanced wasPartitioned length_10 pivot hint data_P :=
  (lim_eq (.code c3 K5) (tJ2 a b limit wasBalanced wasPartitioned length_10 pivot hint data_P)).trans (sJ2 slices_pdqsortOrdered_int (lim (E slices_pdqsortOrdered_int) fin) a b limit wasBalanced wasPartitioned length_10 pivot hint data_P)
theorem J3_eq (a : Int) (b : Int) (limit : Int) (wasBalanced : Bool) (wasPartitioned : Bool) (length_10 : Int) (pivot : Int) (data_P : List Int) : J3 a b limit wasBalanced wasPartitioned length_10 pivot data_P = SJ3 slices_pdqsortOrdered_int J4 a b limit wasBalanced wasPartitioned length_10 pivot data_P :=
  (lim_eq (.code c4 K5) (tJ3 a b limit wasBalanced wasPartitioned length_10 pivot data_P)).trans (sJ3 slices_pdqsortOrdered_int (lim (E slices_pdqsortOrdered_int) fin) a b limit wasBalanced wasPartitioned length_10 pivot data_P)
theorem J4_eq (a : Int) (b : Int) (limit : Int) (wasBalanced : Bool) (wasPartitioned : Bool) (length_10 : Int) (pivot : Int) (v_87 : Bool) (data_P : List Int) : J4 a b limit wasBalanced wasPartitioned length_10 pivot v_87 data_P = SJ4 slices_pdqsortOrdered_int L0 a b limit wasBalanced wasPartitioned length_10 pivot v_87 data_P :=
  (lim_eq (.code c5 K24) (tJ4 a b limit wasBalanced wasPartitioned length_10 pivot v_87 data_P)).trans (sJ4 slices_pdqsortOrdered_int (lim (E slices_pdqsortOrdered_int) fin) a b limit wasBalanced wasPartitioned length_10 pivot v_87 data_P)
theorem selfrun : (fun x : (argTy ps).den => slices_pdqsortOrdered_int x.1 x.2.1 x.2.2.1 x.2.2.2.1) = recF E0 ctx0 50 ps rs fin (bodyOf Try.f50) := by kernel_rfl
end slices_pdqsortOrdered_int
noncomputable def slices_pdqsortOrdered_int.sig : Sig := ⟨slices_pdqsortOrdered_int.ps, slices_pdqsortOrdered_int.rs, fun x => slices_pdqsortOrdered_int x.1 x.2.1 x.2.2.1 x.2.2.2.1⟩
theorem slices_pdqsortOrdered_int.val (x : (argTy slices_pdqsortOrdered_int.ps).den) : lim (slices_pdqsortOrdered_int.E slices_pdqsortOrdered_int) slices_pdqsortOrdered_int.fin (.code (bodyOf Try.f50) .ret) (entryFrom 0 slices_pdqsortOrdered_int.ps x) = slices_pdqsortOrdered_int.sig.run x := by
  have h := recF_eq (E := slices_pdqsortOrdered_int.E0) (ctx := slices_pdqsortOrdered_int.ctx0) (f := 50) (ps := slices_pdqsortOrdered_int.ps) (rs := slices_pdqsortOrdered_int.rs) (fin := slices_pdqsortOrdered_int.fin) (body := bodyOf Try.f50) x
  rw [← slices_pdqsortOrdered_int.selfrun] at h
  exact h.symm
theorem slices_pdqsortOrdered_int_eq (data : List Int) (a : Int) (b : Int) (limit : Int) : slices_pdqsortOrdered_int data a b limit = slices_pdqsortOrdered_int.Se slices_pdqsortOrdered_int slices_pdqsortOrdered_int.L0 data a b limit :=
  (slices_pdqsortOrdered_int.val (data, a, b, limit, ())).symm.trans ((lim_eq (.code (bodyOf Try.f50) .ret) (entryFrom 0 slices_pdqsortOrdered_int.ps (data, a, b, limit, ()))).trans (slices_pdqsortOrdered_int.se slices_pdqsortOrdered_int (lim (slices_pdqsortOrdered_int.E slices_pdqsortOrdered_int) slices_pdqsortOrdered_int.fin) (data, a, b, limit, ())))
theorem slices_pdqsortOrdered_int.ok : CallOK Try.prog 50 slices_pdqsortOrdered_int.sig := by
  have h := callOK_rec (E := slices_pdqsortOrdered_int.E0) (ctx := slices_pdqsortOrdered_int.ctx0) (f := 50) (ps := slices_pdqsortOrdered_int.ps) (rs := slices_pdqsortOrdered_int.rs) (fin := slices_pdqsortOrdered_int.fin) (body := bodyOf Try.f50) mixed tt_ok (ctxOk_cons (ctxOk_cons (ctxOk_cons (ctxOk_cons (ctxOk_cons (ctxOk_cons (ctxOk_cons (ctxOk_cons (ctxOk_cons ctxOk_nil slices_partitionOrdered_int.ok Try.func66 (by kernel_rfl) (by kernel_rfl)) slices_partitionEqualOrdered_int.ok Try.func65 (by kernel_rfl) (by kernel_rfl)) cmp_Less_int.ok Try.func39 (by kernel_rfl) (by kernel_rfl)) slices_partialInsertionSortOrdered_int.ok Try.func64 (by kernel_rfl) (by kernel_rfl)) slices_reverseRangeOrdered_int.ok Try.func63 (by kernel_rfl) (by kernel_rfl)) slices_choosePivotOrdered_int.ok Try.func62 (by kernel_rfl) (by kernel_rfl)) slices_breakPatternsOrdered_int.ok Try.func61 (by kernel_rfl) (by kernel_rfl)) slices_heapSortOrdered_int.ok Try.func60 (by kernel_rfl) (by kernel_rfl)) slices_insertionSortOrdered_int.ok Try.func59 (by kernel_rfl) (by kernel_rfl)) Try.func50 (by kernel_rfl : Try.f50.body = some (bodyOf Try.f50)) (by kernel_rfl) (by kernel_rfl) Try.ntmps50 (of_decide_eq_true (by kernel_rfl)) (of_decide_eq_true (by kernel_rfl)) rfl
  rw [← slices_pdqsortOrdered_int.selfrun] at h
  exact h
noncomputable def slices_pdqsortOrdered_int.ctxc (n : Nat) : List (Nat × Sig) := [(59, slices_insertionSortOrdered_int.sigc n), (60, slices_heapSortOrdered_int.sigc n), (61, slices_breakPatternsOrdered_int.sigc n), (62, slices_choosePivotOrdered_int.sigc n), (63, slices_reverseRangeOrdered_int.sigc n), (64, slices_partialInsertionSortOrdered_int.sigc n), (39, cmp_Less_int.sigc n), (65, slices_partitionEqualOrdered_int.sigc n), (66, slices_partitionOrdered_int.sigc n)]
noncomputable def slices_pdqsortOrdered_int.runc (n : Nat) : Nat → (argTy slices_pdqsortOrdered_int.ps).den → slices_pdqsortOrdered_int.R
  | 0, _ => none
  | d + 1, x => runs (withCtx slices_pdqsortOrdered_int.E0 ((50, ⟨slices_pdqsortOrdered_int.ps, slices_pdqsortOrdered_int.rs, slices_pdqsortOrdered_int.runc n d⟩) :: slices_pdqsortOrdered_int.ctxc n)) slices_pdqsortOrdered_int.fin n (.code (bodyOf Try.f50) .ret) (entryFrom 0 slices_pdqsortOrdered_int.ps x)
noncomputable def slices_pdqsortOrdered_int.sigc (n : Nat) : Sig := ⟨slices_pdqsortOrdered_int.ps, slices_pdqsortOrdered_int.rs, slices_pdqsortOrdered_int.runc n n⟩
theorem slices_pdqsortOrdered_int.runc_le (n : Nat) : ∀ d x y, slices_pdqsortOrdered_int.runc n d x = some y → slices_pdqsortOrdered_int.sig.run x = some y := by
  intro d
  induction d with
  | zero => intro x y h; cases h
  | succ d ih => exact fun x y h => (slices_pdqsortOrdered_int.val x).symm.trans (runs_lim (E := slices_pdqsortOrdered_int.E slices_pdqsortOrdered_int) (c := (50, ⟨slices_pdqsortOrdered_int.ps, slices_pdqsortOrdered_int.rs, slices_pdqsortOrdered_int.runc n d⟩) :: slices_pdqsortOrdered_int.ctxc n) (ctxLe_cons (ctxLe_cons (ctxLe_cons (ctxLe_cons (ctxLe_cons (ctxLe_cons (ctxLe_cons (ctxLe_cons (ctxLe_cons (ctxLe_cons ctxLe_nil (slices_partitionOrdered_int.sigc_le n)) (slices_partitionEqualOrdered_int.sigc_le n)) (cmp_Less_int.sigc_le n)) (slices_partialInsertionSortOrdered_int.sigc_le n)) (slices_reverseRangeOrdered_int.sigc_le n)) (slices_choosePivotOrdered_int.sigc_le n)) (slices_breakPatternsOrdered_int.sigc_le n)) (slices_heapSortOrdered_int.sigc_le n)) (slices_insertionSortOrdered_int.sigc_le n)) ih) h)
theorem slices_pdqsortOrdered_int.sigc_le (n : Nat) : ∀ x y, (slices_pdqsortOrdered_int.sigc n).run x = some y → slices_pdqsortOrdered_int.sig.run x = some y := slices_pdqsortOrdered_int.runc_le n n
namespace slices_Sort_int_int
abbrev ps : List PM := [.own (.int .i64)]
abbrev rs : List RM := []
abbrev R : Type := Option (List Int × Unit)
noncomputable def E : Env := { tt := tt, ctx := [(51, math_bits_Len.sig), (50, slices_pdqsortOrdered_int.sig)], nt := 11, ann := [] }
noncomputable def fin : ASt → R := Kret E Try.f35.results.toList ps rs
noncomputable def Se (x_0 : List Int) : R :=
  Option.bind (math_bits_Len (IntKind.u64.wrap (x_0.length : Int))) fun x1 =>
  Option.bind (slices_pdqsortOrdered_int x_0 0 (x_0.length : Int) x1.1) fun x2 =>
  some (x2.1, ())
theorem se (x : (argTy ps).den) : run E (lim E fin) fin depth (bodyOf Try.f35) .ret (entryFrom 0 ps x) = Se x.1 := by kernel_rfl
end slices_Sort_int_int
noncomputable def slices_Sort_int_int (x_0 : List Int) : slices_Sort_int_int.R :=
  slices_Sort_int_int.Se x_0
namespace slices_Sort_int_int
noncomputable def sig : Sig := ⟨ps, rs, fun x => slices_Sort_int_int x.1⟩
theorem val (x : (argTy ps).den) : lim E fin (.code (bodyOf Try.f35) .ret) (entryFrom 0 ps x) = sig.run x := (lim_eq (.code (bodyOf Try.f35) .ret) (entryFrom 0 ps x)).trans (se x)
theorem ok : CallOK Try.prog 35 sig :=
  callOK_of_lim (E := E) mixed tt_ok (ctxOk_cons (ctxOk_cons ctxOk_nil slices_pdqsortOrdered_int.ok Try.func50 (by kernel_rfl) (by kernel_rfl)) math_bits_Len.ok Try.func51 (by kernel_rfl) (by kernel_rfl)) Try.func35 (by kernel_rfl : Try.f35.body = some (bodyOf Try.f35)) Try.ntmps35 (of_decide_eq_true (by kernel_rfl)) (of_decide_eq_true (by kernel_rfl)) fun x y h => (val x).trans h
noncomputable def ctxc (n : Nat) : List (Nat × Sig) := [(51, math_bits_Len.sigc n), (50, slices_pdqsortOrdered_int.sigc n)]
noncomputable def sigc (n : Nat) : Sig := ⟨ps, rs, fun x => runs (withCtx E (ctxc n)) fin n (.code (bodyOf Try.f35) .ret) (entryFrom 0 ps x)⟩
theorem sigc_le (n : Nat) : ∀ x y, (sigc n).run x = some y → sig.run x = some y := fun x y h => (val x).symm.trans (runs_lim (E := E) (c := ctxc n) (ctxLe_cons (ctxLe_cons ctxLe_nil (slices_pdqsortOrdered_int.sigc_le n)) (math_bits_Len.sigc_le n)) h)
end slices_Sort_int_int
namespace slices_Sorted_int_slices_Values_int_int_1
abbrev ps : List PM := [.rfn 36 [.sl (.int .i64)]]
abbrev rs : List RM := [.own (.int .i64)]
abbrev R : Type := Option (List Int × Unit)
noncomputable def E : Env := { tt := tt, ctx := [(34, slices_Collect_int_slices_Values_int_int_1.sig), (35, slices_Sort_int_int.sig)], nt := 9, ann := [] }
noncomputable def fin : ASt → R := Kret E Try.f23.results.toList ps rs
noncomputable def Se (seq : List Int × Unit) : R :=
  Option.bind (slices_Collect_int_slices_Values_int_int_1 (seq.1, ())) fun x1 =>
  Option.bind (slices_Sort_int_int x1.1) fun x2 =>
  some (x2.1, ())
theorem se (x : (argTy ps).den) : run E (lim E fin) fin depth (bodyOf Try.f23) .ret (entryFrom 0 ps x) = Se x.1 := by kernel_rfl
end slices_Sorted_int_slices_Values_int_int_1
noncomputable def slices_Sorted_int_slices_Values_int_int_1 (seq : List Int × Unit) : slices_Sorted_int_slices_Values_int_int_1.R :=
  slices_Sorted_int_slices_Values_int_int_1.Se seq
namespace slices_Sorted_int_slices_Values_int_int_1
noncomputable def sig : Sig := ⟨ps, rs, fun x => slices_Sorted_int_slices_Values_int_int_1 x.1⟩
theorem val (x : (argTy ps).den) : lim E fin (.code (bodyOf Try.f23) .ret) (entryFrom 0 ps x) = sig.run x := (lim_eq (.code (bodyOf Try.f23) .ret) (entryFrom 0 ps x)).trans (se x)
theorem ok : CallOK Try.prog 23 sig :=
  callOK_of_lim (E := E) mixed tt_ok (ctxOk_cons (ctxOk_cons ctxOk_nil slices_Sort_int_int.ok Try.func35 (by kernel_rfl) (by kernel_rfl)) slices_Collect_int_slices_Values_int_int_1.ok Try.func34 (by kernel_rfl) (by kernel_rfl)) Try.func23 (by kernel_rfl : Try.f23.body = some (bodyOf Try.f23)) Try.ntmps23 (of_decide_eq_true (by kernel_rfl)) (of_decide_eq_true (by kernel_rfl)) fun x y h => (val x).trans h
noncomputable def ctxc (n : Nat) : List (Nat × Sig) := [(34, slices_Collect_int_slices_Values_int_int_1.sigc n), (35, slices_Sort_int_int.sigc n)]
noncomputable def sigc (n : Nat) : Sig := ⟨ps, rs, fun x => runs (withCtx E (ctxc n)) fin n (.code (bodyOf Try.f23) .ret) (entryFrom 0 ps x)⟩
theorem sigc_le (n : Nat) : ∀ x y, (sigc n).run x = some y → sig.run x = some y := fun x y h => (val x).symm.trans (runs_lim (E := E) (c := ctxc n) (ctxLe_cons (ctxLe_cons ctxLe_nil (slices_Sort_int_int.sigc_le n)) (slices_Collect_int_slices_Values_int_int_1.sigc_le n)) h)
end slices_Sorted_int_slices_Values_int_int_1
namespace distribution_Quantile
abbrev ps : List PM := [.pure (.sl (.int .i64)), .pure (.int .i64), .pure (.int .i64)]
abbrev rs : List RM := [.pure (.int .i64), .pure .bool]
abbrev R : Type := Option (Int × Bool × Unit)
noncomputable def E : Env := { tt := tt, ctx := [(24, slices_Values_int_int.sig), (23, slices_Sorted_int_slices_Values_int_int_1.sig)], nt := 51, ann := [(4, [(0, .keep), (1, .keep), (2, .keep), (8, .keep)])] }
noncomputable def c0 : Code := sub [1, 1, 1] (bodyOf Try.f12)
noncomputable def fin : ASt → R := Kret E Try.f12.results.toList ps rs
def tJ0 (values : List Int) (k : Int) (n_2 : Int) (m : Int) : ASt := ⟨[(8, .one (.val (.int .i64) m)), (2, .one (.val (.int .i64) n_2)), (1, .one (.val (.int .i64) k)), (0, .one (.val (.sl (.int .i64)) values))], []⟩
noncomputable def J0 (values : List Int) (k : Int) (n_2 : Int) (m : Int) : R := lim E fin (.code c0 .ret) (tJ0 values k n_2 m)
noncomputable def SJ0 (values : List Int) (k : Int) (n_2 : Int) (m : Int) : R :=
  cond (decide (n_2 = 0))
    none
    (Option.bind (slices_Values_int_int values) fun x1 =>
    Option.bind (slices_Sorted_int_slices_Values_int_int_1 (x1.1.1, ())) fun x2 =>
    cond (decide (0 ≤ (cond (decide (0 > (IntKind.i64.wrap ((IntKind.i64.wrap (Int.tdiv (IntKind.i64.wrap ((IntKind.i64.wrap ((IntKind.i64.wrap (k * m)) + n_2)) - 1)) n_2)) - 1)))) 0 (IntKind.i64.wrap ((IntKind.i64.wrap (Int.tdiv (IntKind.i64.wrap ((IntKind.i64.wrap ((IntKind.i64.wrap (k * m)) + n_2)) - 1)) n_2)) - 1)))) && decide ((cond (decide (0 > (IntKind.i64.wrap ((IntKind.i64.wrap (Int.tdiv (IntKind.i64.wrap ((IntKind.i64.wrap ((IntKind.i64.wrap (k * m)) + n_2)) - 1)) n_2)) - 1)))) 0 (IntKind.i64.wrap ((IntKind.i64.wrap (Int.tdiv (IntKind.i64.wrap ((IntKind.i64.wrap ((IntKind.i64.wrap (k * m)) + n_2)) - 1)) n_2)) - 1))) < (x2.1.length : Int)))
      (some ((x2.1.getD ((cond (decide (0 > (IntKind.i64.wrap ((IntKind.i64.wrap (Int.tdiv (IntKind.i64.wrap ((IntKind.i64.wrap ((IntKind.i64.wrap (k * m)) + n_2)) - 1)) n_2)) - 1)))) 0 (IntKind.i64.wrap ((IntKind.i64.wrap (Int.tdiv (IntKind.i64.wrap ((IntKind.i64.wrap ((IntKind.i64.wrap (k * m)) + n_2)) - 1)) n_2)) - 1))).toNat) 0), true, ()))
      none)
noncomputable def Se (values : List Int) (k : Int) (n_2 : Int) : R :=
  cond ((values.length : Int) == 0)
    (some (0, false, ()))
    (cond (decide ((values.length : Int) > 4096))
      (some (0, false, ()))
      (cond (decide (n_2 < 1))
        (some (0, false, ()))
        (cond (decide (n_2 > 1000))
          (some (0, false, ()))
          (cond (decide (k < 0))
            (some (0, false, ()))
            (cond (decide (k > n_2))
              (some (0, false, ()))
              (J0 values k n_2 (values.length : Int)))))))
theorem J0_eq (values k n_2 m) : J0 values k n_2 m = SJ0 values k n_2 m := (lim_eq (.code c0 .ret) (tJ0 values k n_2 m)).trans (by kernel_rfl)
theorem se (x : (argTy ps).den) : run E (lim E fin) fin depth (bodyOf Try.f12) .ret (entryFrom 0 ps x) = Se x.1 x.2.1 x.2.2.1 := by kernel_rfl
end distribution_Quantile
noncomputable def distribution_Quantile (values : List Int) (k : Int) (n_2 : Int) : distribution_Quantile.R :=
  distribution_Quantile.Se values k n_2
namespace distribution_Quantile
noncomputable def sig : Sig := ⟨ps, rs, fun x => distribution_Quantile x.1 x.2.1 x.2.2.1⟩
theorem val (x : (argTy ps).den) : lim E fin (.code (bodyOf Try.f12) .ret) (entryFrom 0 ps x) = sig.run x := (lim_eq (.code (bodyOf Try.f12) .ret) (entryFrom 0 ps x)).trans (se x)
theorem ok : CallOK Try.prog 12 sig :=
  callOK_of_lim (E := E) mixed tt_ok (ctxOk_cons (ctxOk_cons ctxOk_nil slices_Sorted_int_slices_Values_int_int_1.ok Try.func23 (by kernel_rfl) (by kernel_rfl)) slices_Values_int_int.ok Try.func24 (by kernel_rfl) (by kernel_rfl)) Try.func12 (by kernel_rfl : Try.f12.body = some (bodyOf Try.f12)) Try.ntmps12 (of_decide_eq_true (by kernel_rfl)) (of_decide_eq_true (by kernel_rfl)) fun x y h => (val x).trans h
noncomputable def ctxc (n : Nat) : List (Nat × Sig) := [(24, slices_Values_int_int.sigc n), (23, slices_Sorted_int_slices_Values_int_int_1.sigc n)]
noncomputable def sigc (n : Nat) : Sig := ⟨ps, rs, fun x => runs (withCtx E (ctxc n)) fin n (.code (bodyOf Try.f12) .ret) (entryFrom 0 ps x)⟩
theorem sigc_le (n : Nat) : ∀ x y, (sigc n).run x = some y → sig.run x = some y := fun x y h => (val x).symm.trans (runs_lim (E := E) (c := ctxc n) (ctxLe_cons (ctxLe_cons ctxLe_nil (slices_Sorted_int_slices_Values_int_int_1.sigc_le n)) (slices_Values_int_int.sigc_le n)) h)
end distribution_Quantile
namespace distribution_within
abbrev ps : List PM := [.pure (.int .i64)]
abbrev rs : List RM := [.pure .bool]
abbrev R : Type := Option (Bool × Unit)
noncomputable def E : Env := { tt := tt, ctx := [], nt := 9, ann := [] }
noncomputable def fin : ASt → R := Kret E Try.f38.results.toList ps rs
noncomputable def Se (n_0 : Int) : R :=
  cond (decide (n_0 ≥ (-1000000000000000)))
    (some (decide (n_0 ≤ 1000000000000000), ()))
    (some (false, ()))
theorem se (x : (argTy ps).den) : run E (lim E fin) fin depth (bodyOf Try.f38) .ret (entryFrom 0 ps x) = Se x.1 := by kernel_rfl
end distribution_within
noncomputable def distribution_within (n_0 : Int) : distribution_within.R :=
  distribution_within.Se n_0
namespace distribution_within
noncomputable def sig : Sig := ⟨ps, rs, fun x => distribution_within x.1⟩
theorem val (x : (argTy ps).den) : lim E fin (.code (bodyOf Try.f38) .ret) (entryFrom 0 ps x) = sig.run x := (lim_eq (.code (bodyOf Try.f38) .ret) (entryFrom 0 ps x)).trans (se x)
theorem ok : CallOK Try.prog 38 sig :=
  callOK_of_lim (E := E) mixed tt_ok ctxOk_nil Try.func38 (by kernel_rfl : Try.f38.body = some (bodyOf Try.f38)) Try.ntmps38 (of_decide_eq_true (by kernel_rfl)) (of_decide_eq_true (by kernel_rfl)) fun x y h => (val x).trans h
noncomputable def ctxc (n : Nat) : List (Nat × Sig) := []
noncomputable def sigc (n : Nat) : Sig := ⟨ps, rs, fun x => runs (withCtx E (ctxc n)) fin n (.code (bodyOf Try.f38) .ret) (entryFrom 0 ps x)⟩
theorem sigc_le (n : Nat) : ∀ x y, (sigc n).run x = some y → sig.run x = some y := fun x y h => (val x).symm.trans (runs_lim (E := E) (c := ctxc n) ctxLe_nil h)
end distribution_within
namespace distribution_allWithin_1
abbrev ps : List PM := [.pure (.int .i64)]
abbrev rs : List RM := [.pure .bool]
abbrev R : Type := Option (Bool × Unit)
noncomputable def E : Env := { tt := tt, ctx := [(38, distribution_within.sig)], nt := 6, ann := [] }
noncomputable def fin : ASt → R := Kret E Try.f37.results.toList ps rs
noncomputable def Se (n_0 : Int) : R :=
  Option.bind (distribution_within n_0) fun x1 =>
  some ((!x1.1), ())
theorem se (x : (argTy ps).den) : run E (lim E fin) fin depth (bodyOf Try.f37) .ret (entryFrom 0 ps x) = Se x.1 := by kernel_rfl
end distribution_allWithin_1
noncomputable def distribution_allWithin_1 (n_0 : Int) : distribution_allWithin_1.R :=
  distribution_allWithin_1.Se n_0
namespace distribution_allWithin_1
noncomputable def sig : Sig := ⟨ps, rs, fun x => distribution_allWithin_1 x.1⟩
theorem val (x : (argTy ps).den) : lim E fin (.code (bodyOf Try.f37) .ret) (entryFrom 0 ps x) = sig.run x := (lim_eq (.code (bodyOf Try.f37) .ret) (entryFrom 0 ps x)).trans (se x)
theorem ok : CallOK Try.prog 37 sig :=
  callOK_of_lim (E := E) mixed tt_ok (ctxOk_cons ctxOk_nil distribution_within.ok Try.func38 (by kernel_rfl) (by kernel_rfl)) Try.func37 (by kernel_rfl : Try.f37.body = some (bodyOf Try.f37)) Try.ntmps37 (of_decide_eq_true (by kernel_rfl)) (of_decide_eq_true (by kernel_rfl)) fun x y h => (val x).trans h
noncomputable def ctxc (n : Nat) : List (Nat × Sig) := [(38, distribution_within.sigc n)]
noncomputable def sigc (n : Nat) : Sig := ⟨ps, rs, fun x => runs (withCtx E (ctxc n)) fin n (.code (bodyOf Try.f37) .ret) (entryFrom 0 ps x)⟩
theorem sigc_le (n : Nat) : ∀ x y, (sigc n).run x = some y → sig.run x = some y := fun x y h => (val x).symm.trans (runs_lim (E := E) (c := ctxc n) (ctxLe_cons ctxLe_nil (distribution_within.sigc_le n)) h)
end distribution_allWithin_1
namespace slices_IndexFunc_int_int_distribution_allWithin_1
abbrev ps : List PM := [.pure (.sl (.int .i64)), .fn 37]
abbrev rs : List RM := [.pure (.int .i64)]
abbrev R : Type := Option (Int × Unit)
noncomputable def E : Env := { tt := tt, ctx := [(37, distribution_allWithin_1.sig)], nt := 19, ann := [(1000002, [(0, .keep), (1, .keep), (7, .keep), (8, .keep)])] }
noncomputable def c0 : Code := sub [1, 1] (bodyOf Try.f42)
noncomputable def c1 : Code := sub [1, 0, 1, 0, 0] (bodyOf Try.f42)
noncomputable def K2 : Kont := .seq c0 .ret
noncomputable def K4 : Kont := .blk 0 K2
noncomputable def fin : ASt → R := Kret E Try.f42.results.toList ps rs
def tL0 (s : List Int) (v_7 : Int) (v_8 : Int) : ASt := ⟨[(8, .one (.val (.int .i64) v_8)), (7, .one (.val (.int .i64) v_7)), (1, .one (.fn 37 [])), (0, .one (.val (.sl (.int .i64)) s))], []⟩
noncomputable def L0 (s : List Int) (v_7 : Int) (v_8 : Int) : R := lim E fin (.loop c1 K4) (tL0 s v_7 v_8)
noncomputable def SL0 (s : List Int) (v_7 : Int) (v_8 : Int) : R :=
  cond (decide (v_8 < v_7))
    (Option.bind (idx s v_8) fun x1 =>
    Option.bind (distribution_allWithin_1 x1) fun x2 =>
    cond x2.1
      (some (v_8, ()))
      (L0 s v_7 (IntKind.i64.wrap (v_8 + 1))))
    (some ((-1), ()))
noncomputable def Se (s : List Int) : R :=
  L0 s (s.length : Int) 0
theorem L0_eq (s v_7 v_8) : L0 s v_7 v_8 = SL0 s v_7 v_8 := (lim_eq (.loop c1 K4) (tL0 s v_7 v_8)).trans (by kernel_rfl)
theorem se (x : (argTy ps).den) : run E (lim E fin) fin depth (bodyOf Try.f42) .ret (entryFrom 0 ps x) = Se x.1 := by kernel_rfl
end slices_IndexFunc_int_int_distribution_allWithin_1
noncomputable def slices_IndexFunc_int_int_distribution_allWithin_1 (s : List Int) : slices_IndexFunc_int_int_distribution_allWithin_1.R :=
  slices_IndexFunc_int_int_distribution_allWithin_1.Se s
namespace slices_IndexFunc_int_int_distribution_allWithin_1
noncomputable def sig : Sig := ⟨ps, rs, fun x => slices_IndexFunc_int_int_distribution_allWithin_1 x.1⟩
theorem val (x : (argTy ps).den) : lim E fin (.code (bodyOf Try.f42) .ret) (entryFrom 0 ps x) = sig.run x := (lim_eq (.code (bodyOf Try.f42) .ret) (entryFrom 0 ps x)).trans (se x)
theorem ok : CallOK Try.prog 42 sig :=
  callOK_of_lim (E := E) mixed tt_ok (ctxOk_cons ctxOk_nil distribution_allWithin_1.ok Try.func37 (by kernel_rfl) (by kernel_rfl)) Try.func42 (by kernel_rfl : Try.f42.body = some (bodyOf Try.f42)) Try.ntmps42 (of_decide_eq_true (by kernel_rfl)) (of_decide_eq_true (by kernel_rfl)) fun x y h => (val x).trans h
noncomputable def ctxc (n : Nat) : List (Nat × Sig) := [(37, distribution_allWithin_1.sigc n)]
noncomputable def sigc (n : Nat) : Sig := ⟨ps, rs, fun x => runs (withCtx E (ctxc n)) fin n (.code (bodyOf Try.f42) .ret) (entryFrom 0 ps x)⟩
theorem sigc_le (n : Nat) : ∀ x y, (sigc n).run x = some y → sig.run x = some y := fun x y h => (val x).symm.trans (runs_lim (E := E) (c := ctxc n) (ctxLe_cons ctxLe_nil (distribution_allWithin_1.sigc_le n)) h)
end slices_IndexFunc_int_int_distribution_allWithin_1
namespace slices_ContainsFunc_int_int_distribution_allWithin_1
abbrev ps : List PM := [.pure (.sl (.int .i64)), .fn 37]
abbrev rs : List RM := [.pure .bool]
abbrev R : Type := Option (Bool × Unit)
noncomputable def E : Env := { tt := tt, ctx := [(42, slices_IndexFunc_int_int_distribution_allWithin_1.sig)], nt := 9, ann := [] }
noncomputable def fin : ASt → R := Kret E Try.f29.results.toList ps rs
noncomputable def Se (s : List Int) : R :=
  Option.bind (slices_IndexFunc_int_int_distribution_allWithin_1 s) fun x1 =>
  some (decide (x1.1 ≥ 0), ())
theorem se (x : (argTy ps).den) : run E (lim E fin) fin depth (bodyOf Try.f29) .ret (entryFrom 0 ps x) = Se x.1 := by kernel_rfl
end slices_ContainsFunc_int_int_distribution_allWithin_1
noncomputable def slices_ContainsFunc_int_int_distribution_allWithin_1 (s : List Int) : slices_ContainsFunc_int_int_distribution_allWithin_1.R :=
  slices_ContainsFunc_int_int_distribution_allWithin_1.Se s
namespace slices_ContainsFunc_int_int_distribution_allWithin_1
noncomputable def sig : Sig := ⟨ps, rs, fun x => slices_ContainsFunc_int_int_distribution_allWithin_1 x.1⟩
theorem val (x : (argTy ps).den) : lim E fin (.code (bodyOf Try.f29) .ret) (entryFrom 0 ps x) = sig.run x := (lim_eq (.code (bodyOf Try.f29) .ret) (entryFrom 0 ps x)).trans (se x)
theorem ok : CallOK Try.prog 29 sig :=
  callOK_of_lim (E := E) mixed tt_ok (ctxOk_cons ctxOk_nil slices_IndexFunc_int_int_distribution_allWithin_1.ok Try.func42 (by kernel_rfl) (by kernel_rfl)) Try.func29 (by kernel_rfl : Try.f29.body = some (bodyOf Try.f29)) Try.ntmps29 (of_decide_eq_true (by kernel_rfl)) (of_decide_eq_true (by kernel_rfl)) fun x y h => (val x).trans h
noncomputable def ctxc (n : Nat) : List (Nat × Sig) := [(42, slices_IndexFunc_int_int_distribution_allWithin_1.sigc n)]
noncomputable def sigc (n : Nat) : Sig := ⟨ps, rs, fun x => runs (withCtx E (ctxc n)) fin n (.code (bodyOf Try.f29) .ret) (entryFrom 0 ps x)⟩
theorem sigc_le (n : Nat) : ∀ x y, (sigc n).run x = some y → sig.run x = some y := fun x y h => (val x).symm.trans (runs_lim (E := E) (c := ctxc n) (ctxLe_cons ctxLe_nil (slices_IndexFunc_int_int_distribution_allWithin_1.sigc_le n)) h)
end slices_ContainsFunc_int_int_distribution_allWithin_1
namespace distribution_allWithin
abbrev ps : List PM := [.pure (.sl (.int .i64))]
abbrev rs : List RM := [.pure .bool]
abbrev R : Type := Option (Bool × Unit)
noncomputable def E : Env := { tt := tt, ctx := [(29, slices_ContainsFunc_int_int_distribution_allWithin_1.sig)], nt := 6, ann := [] }
noncomputable def fin : ASt → R := Kret E Try.f26.results.toList ps rs
noncomputable def Se (l : List Int) : R :=
  Option.bind (slices_ContainsFunc_int_int_distribution_allWithin_1 l) fun x1 =>
  some ((!x1.1), ())
theorem se (x : (argTy ps).den) : run E (lim E fin) fin depth (bodyOf Try.f26) .ret (entryFrom 0 ps x) = Se x.1 := by kernel_rfl
end distribution_allWithin
noncomputable def distribution_allWithin (l : List Int) : distribution_allWithin.R :=
  distribution_allWithin.Se l
namespace distribution_allWithin
noncomputable def sig : Sig := ⟨ps, rs, fun x => distribution_allWithin x.1⟩
theorem val (x : (argTy ps).den) : lim E fin (.code (bodyOf Try.f26) .ret) (entryFrom 0 ps x) = sig.run x := (lim_eq (.code (bodyOf Try.f26) .ret) (entryFrom 0 ps x)).trans (se x)
theorem ok : CallOK Try.prog 26 sig :=
  callOK_of_lim (E := E) mixed tt_ok (ctxOk_cons ctxOk_nil slices_ContainsFunc_int_int_distribution_allWithin_1.ok Try.func29 (by kernel_rfl) (by kernel_rfl)) Try.func26 (by kernel_rfl : Try.f26.body = some (bodyOf Try.f26)) Try.ntmps26 (of_decide_eq_true (by kernel_rfl)) (of_decide_eq_true (by kernel_rfl)) fun x y h => (val x).trans h
noncomputable def ctxc (n : Nat) : List (Nat × Sig) := [(29, slices_ContainsFunc_int_int_distribution_allWithin_1.sigc n)]
noncomputable def sigc (n : Nat) : Sig := ⟨ps, rs, fun x => runs (withCtx E (ctxc n)) fin n (.code (bodyOf Try.f26) .ret) (entryFrom 0 ps x)⟩
theorem sigc_le (n : Nat) : ∀ x y, (sigc n).run x = some y → sig.run x = some y := fun x y h => (val x).symm.trans (runs_lim (E := E) (c := ctxc n) (ctxLe_cons ctxLe_nil (slices_ContainsFunc_int_int_distribution_allWithin_1.sigc_le n)) h)
end distribution_allWithin
namespace slices_isNaN_int
abbrev ps : List PM := [.pure (.int .i64)]
abbrev rs : List RM := [.pure .bool]
abbrev R : Type := Option (Bool × Unit)
noncomputable def E : Env := { tt := tt, ctx := [], nt := 6, ann := [] }
noncomputable def fin : ASt → R := Kret E Try.f40.results.toList ps rs
noncomputable def Se (x_0 : Int) : R :=
  some ((x_0 != x_0), ())
theorem se (x : (argTy ps).den) : run E (lim E fin) fin depth (bodyOf Try.f40) .ret (entryFrom 0 ps x) = Se x.1 := by kernel_rfl
end slices_isNaN_int
noncomputable def slices_isNaN_int (x_0 : Int) : slices_isNaN_int.R :=
  slices_isNaN_int.Se x_0
namespace slices_isNaN_int
noncomputable def sig : Sig := ⟨ps, rs, fun x => slices_isNaN_int x.1⟩
theorem val (x : (argTy ps).den) : lim E fin (.code (bodyOf Try.f40) .ret) (entryFrom 0 ps x) = sig.run x := (lim_eq (.code (bodyOf Try.f40) .ret) (entryFrom 0 ps x)).trans (se x)
theorem ok : CallOK Try.prog 40 sig :=
  callOK_of_lim (E := E) mixed tt_ok ctxOk_nil Try.func40 (by kernel_rfl : Try.f40.body = some (bodyOf Try.f40)) Try.ntmps40 (of_decide_eq_true (by kernel_rfl)) (of_decide_eq_true (by kernel_rfl)) fun x y h => (val x).trans h
noncomputable def ctxc (n : Nat) : List (Nat × Sig) := []
noncomputable def sigc (n : Nat) : Sig := ⟨ps, rs, fun x => runs (withCtx E (ctxc n)) fin n (.code (bodyOf Try.f40) .ret) (entryFrom 0 ps x)⟩
theorem sigc_le (n : Nat) : ∀ x y, (sigc n).run x = some y → sig.run x = some y := fun x y h => (val x).symm.trans (runs_lim (E := E) (c := ctxc n) ctxLe_nil h)
end slices_isNaN_int
namespace slices_BinarySearch_int_int
abbrev ps : List PM := [.pure (.sl (.int .i64)), .pure (.int .i64)]
abbrev rs : List RM := [.pure (.int .i64), .pure .bool]
abbrev R : Type := Option (Int × Bool × Unit)
noncomputable def E : Env := { tt := tt, ctx := [(39, cmp_Less_int.sig), (40, slices_isNaN_int.sig)], nt := 54, ann := [(1000003, [(0, .keep), (1, .keep), (6, .keep), (7, .keep), (8, .keep)])] }
noncomputable def c0 : Code := sub [1, 1, 1, 1] (bodyOf Try.f27)
noncomputable def c1 : Code := sub [1, 1, 1, 0, 0, 0] (bodyOf Try.f27)
noncomputable def K4 : Kont := .seq c0 .ret
noncomputable def K5 : Kont := .blk 0 K4
noncomputable def fin : ASt → R := Kret E Try.f27.results.toList ps rs
def tL0 (x_0 : List Int) (target : Int) (n_6 : Int) (i : Int) (j : Int) : ASt := ⟨[(8, .one (.val (.int .i64) j)), (7, .one (.val (.int .i64) i)), (6, .one (.val (.int .i64) n_6)), (1, .one (.val (.int .i64) target)), (0, .one (.val (.sl (.int .i64)) x_0))], []⟩
noncomputable def L0 (x_0 : List Int) (target : Int) (n_6 : Int) (i : Int) (j : Int) : R := lim E fin (.loop c1 K5) (tL0 x_0 target n_6 i j)
noncomputable def SL0 (x_0 : List Int) (target : Int) (n_6 : Int) (i : Int) (j : Int) : R :=
  cond (decide (i < j))
    (Option.bind (idx x_0 (IntKind.i64.wrap (Int.fdiv (IntKind.u64.wrap (IntKind.i64.wrap (i + j))) (2 ^ (min 1 IntKind.u64.bits))))) fun x1 =>
    Option.bind (cmp_Less_int x1 target) fun x2 =>
    cond x2.1
      (L0 x_0 target n_6 (IntKind.i64.wrap ((IntKind.i64.wrap (Int.fdiv (IntKind.u64.wrap (IntKind.i64.wrap (i + j))) (2 ^ (min 1 IntKind.u64.bits)))) + 1)) j)
      (L0 x_0 target n_6 i (IntKind.i64.wrap (Int.fdiv (IntKind.u64.wrap (IntKind.i64.wrap (i + j))) (2 ^ (min 1 IntKind.u64.bits))))))
    (cond (decide (i < n_6))
      (Option.bind (idx x_0 i) fun x3 =>
      cond (x3 == target)
        (some (i, true, ()))
        (Option.bind (idx x_0 i) fun x4 =>
        Option.bind (slices_isNaN_int x4) fun x5 =>
        cond x5.1
          (Option.bind (slices_isNaN_int target) fun x6 =>
          some (i, x6.1, ()))
          (some (i, false, ()))))
      (some (i, false, ())))
noncomputable def Se (x_0 : List Int) (target : Int) : R :=
  L0 x_0 target (x_0.length : Int) 0 (x_0.length : Int)
theorem L0_eq (x_0 target n_6 i j) : L0 x_0 target n_6 i j = SL0 x_0 target n_6 i j := (lim_eq (.loop c1 K5) (tL0 x_0 target n_6 i j)).trans (by kernel_rfl)
theorem se (x : (argTy ps).den) : run E (lim E fin) fin depth (bodyOf Try.f27) .ret (entryFrom 0 ps x) = Se x.1 x.2.1 := by kernel_rfl
end slices_BinarySearch_int_int
noncomputable def slices_BinarySearch_int_int (x_0 : List Int) (target : Int) : slices_BinarySearch_int_int.R :=
  slices_BinarySearch_int_int.Se x_0 target
namespace slices_BinarySearch_int_int
noncomputable def sig : Sig := ⟨ps, rs, fun x => slices_BinarySearch_int_int x.1 x.2.1⟩
theorem val (x : (argTy ps).den) : lim E fin (.code (bodyOf Try.f27) .ret) (entryFrom 0 ps x) = sig.run x := (lim_eq (.code (bodyOf Try.f27) .ret) (entryFrom 0 ps x)).trans (se x)
theorem ok : CallOK Try.prog 27 sig :=
  callOK_of_lim (E := E) mixed tt_ok (ctxOk_cons (ctxOk_cons ctxOk_nil slices_isNaN_int.ok Try.func40 (by kernel_rfl) (by kernel_rfl)) cmp_Less_int.ok Try.func39 (by kernel_rfl) (by kernel_rfl)) Try.func27 (by kernel_rfl : Try.f27.body = some (bodyOf Try.f27)) Try.ntmps27 (of_decide_eq_true (by kernel_rfl)) (of_decide_eq_true (by kernel_rfl)) fun x y h => (val x).trans h
noncomputable def ctxc (n : Nat) : List (Nat × Sig) := [(39, cmp_Less_int.sigc n), (40, slices_isNaN_int.sigc n)]
noncomputable def sigc (n : Nat) : Sig := ⟨ps, rs, fun x => runs (withCtx E (ctxc n)) fin n (.code (bodyOf Try.f27) .ret) (entryFrom 0 ps x)⟩
theorem sigc_le (n : Nat) : ∀ x y, (sigc n).run x = some y → sig.run x = some y := fun x y h => (val x).symm.trans (runs_lim (E := E) (c := ctxc n) (ctxLe_cons (ctxLe_cons ctxLe_nil (slices_isNaN_int.sigc_le n)) (cmp_Less_int.sigc_le n)) h)
end slices_BinarySearch_int_int
namespace distribution_Histogram
abbrev ps : List PM := [.pure (.sl (.int .i64)), .pure (.sl (.int .i64))]
abbrev rs : List RM := [.own api_Bucket, .pure (.int .i64)]
abbrev R : Type := Option (List api_BucketV × Int × Unit)
noncomputable def E : Env := { tt := tt, ctx := [(26, distribution_allWithin.sig), (27, slices_BinarySearch_int_int.sig)], nt := 110, ann := [(7, [(0, .keep), (1, .keep)]), (3, [(0, .keep), (1, .keep), (14, .keep)]), (1000008, [(0, .keep), (1, .keep), (6, .keep)]), (1000015, [(0, .keep), (1, .keep), (7, .keep), (8, .keep), (49, .keep), (50, .keep)]), (1000024, [(1, .keep), (7, .keep), (76, .keep), (77, .keep), (78, .keep)]), (29, [(1, .keep), (7, .keep), (11, .keep), (12, .keep), (76, .keep), (77, .keep), (78, .keep)])] }
noncomputable def c0 : Code := sub [1, 1] (bodyOf Try.f14)
noncomputable def c1 : Code := sub [1, 1, 1] (bodyOf Try.f14)
noncomputable def c2 : Code := sub [1, 1, 1, 1, 1, 1] (bodyOf Try.f14)
noncomputable def c3 : Code := sub [1, 1, 1, 1, 1, 1, 1] (bodyOf Try.f14)
noncomputable def c4 : Code := sub [1, 1, 1, 1, 1, 1, 0, 1, 0, 0] (bodyOf Try.f14)
noncomputable def c5 : Code := sub [1, 1, 1, 1, 1, 1, 0, 1, 0, 0, 1, 1, 1] (bodyOf Try.f14)
noncomputable def c6 : Code := sub [1, 0, 0, 1] (bodyOf Try.f14)
noncomputable def c7 : Code := sub [1, 1, 0, 1, 0, 0] (bodyOf Try.f14)
noncomputable def c8 : Code := sub [1, 1, 1, 1, 1, 0, 1, 0, 0] (bodyOf Try.f14)
noncomputable def c9 : Code := sub [1, 1, 1, 1, 1, 1, 0, 1, 0, 0, 1, 1, 0, 0, 1, 1, 1] (bodyOf Try.f14)
noncomputable def K2 : Kont := .seq c0 .ret
noncomputable def K3 : Kont := .blk 0 K2
noncomputable def K10 : Kont := .seq c1 .ret
noncomputable def K12 : Kont := .blk 1 K10
noncomputable def K22 : Kont := .seq c2 .ret
noncomputable def K24 : Kont := .blk 3 K22
noncomputable def K35 : Kont := .seq c3 .ret
noncomputable def K37 : Kont := .blk 5 K35
noncomputable def K38 : Kont := .loop c4 K37
noncomputable def K41 : Kont := .seq c5 K38
noncomputable def K42 : Kont := .blk 6 K41
noncomputable def fin : ASt → R := Kret E Try.f14.results.toList ps rs
def tJ0 (values : List Int) (bounds : List Int) : ASt := ⟨[(1, .one (.val (.sl (.int .i64)) bounds)), (0, .one (.val (.sl (.int .i64)) values))], []⟩
def tJ1 (values : List Int) (bounds : List Int) (v_14 : Bool) : ASt := ⟨[(14, .one (.val .bool v_14)), (1, .one (.val (.sl (.int .i64)) bounds)), (0, .one (.val (.sl (.int .i64)) values))], []⟩
def tL2 (values : List Int) (bounds : List Int) (i : Int) : ASt := ⟨[(6, .one (.val (.int .i64) i)), (1, .one (.val (.sl (.int .i64)) bounds)), (0, .one (.val (.sl (.int .i64)) values))], []⟩
def tL3 (values : List Int) (bounds : List Int) (out : List api_BucketV) (lo : Int) (v_49 : Int) (v_50 : Int) : ASt := ⟨[(50, .one (.val (.int .i64) v_50)), (49, .one (.val (.int .i64) v_49)), (8, .one (.val (.int .i64) lo)), (7, .one (.own 7)), (1, .one (.val (.sl (.int .i64)) bounds)), (0, .one (.val (.sl (.int .i64)) values))], [(7, some ⟨.free, api_Bucket, out⟩)]⟩
def tL4 (bounds : List Int) (out : List api_BucketV) (v_76 : List Int) (v_77 : Int) (v_78 : Int) : ASt := ⟨[(78, .one (.val (.int .i64) v_78)), (77, .one (.val (.int .i64) v_77)), (76, .one (.val (.sl (.int .i64)) v_76)), (7, .one (.own 7)), (1, .one (.val (.sl (.int .i64)) bounds))], [(7, some ⟨.free, api_Bucket, out⟩)]⟩
def tJ5 (bounds : List Int) (out : List api_BucketV) (v_11 : Int) (i : Int) (v_76 : List Int) (v_77 : Int) (v_78 : Int) : ASt := ⟨[(78, .one (.val (.int .i64) v_78)), (77, .one (.val (.int .i64) v_77)), (76, .one (.val (.sl (.int .i64)) v_76)), (12, .one (.val (.int .i64) i)), (11, .one (.val (.int .i64) v_11)), (7, .one (.own 7)), (1, .one (.val (.sl (.int .i64)) bounds))], [(7, some ⟨.free, api_Bucket, out⟩)]⟩
noncomputable def J0 (values : List Int) (bounds : List Int) : R := lim E fin (.code c0 .ret) (tJ0 values bounds)
noncomputable def J1 (values : List Int) (bounds : List Int) (v_14 : Bool) : R := lim E fin (.code c6 K3) (tJ1 values bounds v_14)
noncomputable def L2 (values : List Int) (bounds : List Int) (i : Int) : R := lim E fin (.loop c7 K12) (tL2 values bounds i)
noncomputable def L3 (values : List Int) (bounds : List Int) (out : List api_BucketV) (lo : Int) (v_49 : Int) (v_50 : Int) : R := lim E fin (.loop c8 K24) (tL3 values bounds out lo v_49 v_50)
noncomputable def L4 (bounds : List Int) (out : List api_BucketV) (v_76 : List Int) (v_77 : Int) (v_78 : Int) : R := lim E fin (.loop c4 K37) (tL4 bounds out v_76 v_77 v_78)
noncomputable def J5 (bounds : List Int) (out : List api_BucketV) (v_11 : Int) (i : Int) (v_76 : List Int) (v_77 : Int) (v_78 : Int) : R := lim E fin (.code c9 K42) (tJ5 bounds out v_11 i v_76 v_77 v_78)
noncomputable def SJ0 (values : List Int) (bounds : List Int) : R :=
  L2 values bounds 1
noncomputable def SJ1 (values : List Int) (bounds : List Int) (v_14 : Bool) : R :=
  cond v_14
    (some ([], 4, ()))
    (Option.bind (distribution_allWithin values) fun x1 =>
    cond (!x1.1)
      (cond (!x1.1)
        (some ([], 3, ()))
        (J0 values bounds))
      (Option.bind (distribution_allWithin bounds) fun x2 =>
      cond (!x2.1)
        (some ([], 3, ()))
        (J0 values bounds)))
noncomputable def SL2 (values : List Int) (bounds : List Int) (i : Int) : R :=
  cond (decide (i < (bounds.length : Int)))
    (Option.bind (idx bounds i) fun x1 =>
    Option.bind (idx bounds (IntKind.i64.wrap (i - 1))) fun x2 =>
    cond (decide (x1 ≤ x2))
      (some ([], 9, ()))
      (L2 values bounds (IntKind.i64.wrap (i + 1))))
    (cond (decide (0 ≤ (IntKind.i64.wrap ((bounds.length : Int) + 1) : Int)) && (decide ((IntKind.i64.wrap ((bounds.length : Int) + 1) : Int) ≤ IntKind.i64.wrap ((bounds.length : Int) + 1)) && (decide ((IntKind.i64.wrap ((bounds.length : Int) + 1) : Int) * 32 ≤ room) && (decide ((IntKind.i64.wrap ((bounds.length : Int) + 1) : Int) ≤ maxLen) && decide (0 < Ty.nc (.pair (.int .i64) (.pair (.int .i64) (.pair (.int .i64) (.pair (.int .i64) .unit)))))))))
      (L3 values bounds (List.replicate (IntKind.i64.wrap ((bounds.length : Int) + 1)).toNat ((0, 0, 0, 0, ()) : Int × Int × Int × Int × Unit)) (-1000000000000000) ((List.replicate (IntKind.i64.wrap ((bounds.length : Int) + 1)).toNat ((0, 0, 0, 0, ()) : Int × Int × Int × Int × Unit)).length : Int) 0)
      none)
noncomputable def SL3 (values : List Int) (bounds : List Int) (out : List api_BucketV) (lo : Int) (v_49 : Int) (v_50 : Int) : R :=
  cond (decide (v_50 < v_49))
    (cond (decide (0 ≤ v_50) && decide (v_50 < (out.length : Int)))
      (cond (decide (0 ≤ v_50) && decide (v_50 < ((out.set v_50.toNat (lo, (out.getD v_50.toNat (0, 0, 0, 0, ())).2.1, (out.getD v_50.toNat (0, 0, 0, 0, ())).2.2.1, (out.getD v_50.toNat (0, 0, 0, 0, ())).2.2.2.1, ())).length : Int)))
        (cond (decide (v_50 < (bounds.length : Int)))
          (Option.bind (idx bounds v_50) fun x1 =>
          cond (decide (0 ≤ v_50) && decide (v_50 < (((out.set v_50.toNat (lo, (out.getD v_50.toNat (0, 0, 0, 0, ())).2.1, (out.getD v_50.toNat (0, 0, 0, 0, ())).2.2.1, (out.getD v_50.toNat (0, 0, 0, 0, ())).2.2.2.1, ())).set v_50.toNat (((out.set v_50.toNat (lo, (out.getD v_50.toNat (0, 0, 0, 0, ())).2.1, (out.getD v_50.toNat (0, 0, 0, 0, ())).2.2.1, (out.getD v_50.toNat (0, 0, 0, 0, ())).2.2.2.1, ())).getD v_50.toNat (0, 0, 0, 0, ())).1, 1000000000000001, ((out.set v_50.toNat (lo, (out.getD v_50.toNat (0, 0, 0, 0, ())).2.1, (out.getD v_50.toNat (0, 0, 0, 0, ())).2.2.1, (out.getD v_50.toNat (0, 0, 0, 0, ())).2.2.2.1, ())).getD v_50.toNat (0, 0, 0, 0, ())).2.2.1, ((out.set v_50.toNat (lo, (out.getD v_50.toNat (0, 0, 0, 0, ())).2.1, (out.getD v_50.toNat (0, 0, 0, 0, ())).2.2.1, (out.getD v_50.toNat (0, 0, 0, 0, ())).2.2.2.1, ())).getD v_50.toNat (0, 0, 0, 0, ())).2.2.2.1, ())).length : Int)))
            (L3 values bounds (((out.set v_50.toNat (lo, (out.getD v_50.toNat (0, 0, 0, 0, ())).2.1, (out.getD v_50.toNat (0, 0, 0, 0, ())).2.2.1, (out.getD v_50.toNat (0, 0, 0, 0, ())).2.2.2.1, ())).set v_50.toNat (((out.set v_50.toNat (lo, (out.getD v_50.toNat (0, 0, 0, 0, ())).2.1, (out.getD v_50.toNat (0, 0, 0, 0, ())).2.2.1, (out.getD v_50.toNat (0, 0, 0, 0, ())).2.2.2.1, ())).getD v_50.toNat (0, 0, 0, 0, ())).1, 1000000000000001, ((out.set v_50.toNat (lo, (out.getD v_50.toNat (0, 0, 0, 0, ())).2.1, (out.getD v_50.toNat (0, 0, 0, 0, ())).2.2.1, (out.getD v_50.toNat (0, 0, 0, 0, ())).2.2.2.1, ())).getD v_50.toNat (0, 0, 0, 0, ())).2.2.1, ((out.set v_50.toNat (lo, (out.getD v_50.toNat (0, 0, 0, 0, ())).2.1, (out.getD v_50.toNat (0, 0, 0, 0, ())).2.2.1, (out.getD v_50.toNat (0, 0, 0, 0, ())).2.2.2.1, ())).getD v_50.toNat (0, 0, 0, 0, ())).2.2.2.1, ())).set v_50.toNat ((((out.set v_50.toNat (lo, (out.getD v_50.toNat (0, 0, 0, 0, ())).2.1, (out.getD v_50.toNat (0, 0, 0, 0, ())).2.2.1, (out.getD v_50.toNat (0, 0, 0, 0, ())).2.2.2.1, ())).set v_50.toNat (((out.set v_50.toNat (lo, (out.getD v_50.toNat (0, 0, 0, 0, ())).2.1, (out.getD v_50.toNat (0, 0, 0, 0, ())).2.2.1, (out.getD v_50.toNat (0, 0, 0, 0, ())).2.2.2.1, ())).getD v_50.toNat (0, 0, 0, 0, ())).1, 1000000000000001, ((out.set v_50.toNat (lo, (out.getD v_50.toNat (0, 0, 0, 0, ())).2.1, (out.getD v_50.toNat (0, 0, 0, 0, ())).2.2.1, (out.getD v_50.toNat (0, 0, 0, 0, ())).2.2.2.1, ())).getD v_50.toNat (0, 0, 0, 0, ())).2.2.1, ((out.set v_50.toNat (lo, (out.getD v_50.toNat (0, 0, 0, 0, ())).2.1, (out.getD v_50.toNat (0, 0, 0, 0, ())).2.2.1, (out.getD v_50.toNat (0, 0, 0, 0, ())).2.2.2.1, ())).getD v_50.toNat (0, 0, 0, 0, ())).2.2.2.1, ())).getD v_50.toNat (0, 0, 0, 0, ())).1, x1, (((out.set v_50.toNat (lo, (out.getD v_50.toNat (0, 0, 0, 0, ())).2.1, (out.getD v_50.toNat (0, 0, 0, 0, ())).2.2.1, (out.getD v_50.toNat (0, 0, 0, 0, ())).2.2.2.1, ())).set v_50.toNat (((out.set v_50.toNat (lo, (out.getD v_50.toNat (0, 0, 0, 0, ())).2.1, (out.getD v_50.toNat (0, 0, 0, 0, ())).2.2.1, (out.getD v_50.toNat (0, 0, 0, 0, ())).2.2.2.1, ())).getD v_50.toNat (0, 0, 0, 0, ())).1, 1000000000000001, ((out.set v_50.toNat (lo, (out.getD v_50.toNat (0, 0, 0, 0, ())).2.1, (out.getD v_50.toNat (0, 0, 0, 0, ())).2.2.1, (out.getD v_50.toNat (0, 0, 0, 0, ())).2.2.2.1, ())).getD v_50.toNat (0, 0, 0, 0, ())).2.2.1, ((out.set v_50.toNat (lo, (out.getD v_50.toNat (0, 0, 0, 0, ())).2.1, (out.getD v_50.toNat (0, 0, 0, 0, ())).2.2.1, (out.getD v_50.toNat (0, 0, 0, 0, ())).2.2.2.1, ())).getD v_50.toNat (0, 0, 0, 0, ())).2.2.2.1, ())).getD v_50.toNat (0, 0, 0, 0, ())).2.2.1, (((out.set v_50.toNat (lo, (out.getD v_50.toNat (0, 0, 0, 0, ())).2.1, (out.getD v_50.toNat (0, 0, 0, 0, ())).2.2.1, (out.getD v_50.toNat (0, 0, 0, 0, ())).2.2.2.1, ())).set v_50.toNat (((out.set v_50.toNat (lo, (out.getD v_50.toNat (0, 0, 0, 0, ())).2.1, (out.getD v_50.toNat (0, 0, 0, 0, ())).2.2.1, (out.getD v_50.toNat (0, 0, 0, 0, ())).2.2.2.1, ())).getD v_50.toNat (0, 0, 0, 0, ())).1, 1000000000000001, ((out.set v_50.toNat (lo, (out.getD v_50.toNat (0, 0, 0, 0, ())).2.1, (out.getD v_50.toNat (0, 0, 0, 0, ())).2.2.1, (out.getD v_50.toNat (0, 0, 0, 0, ())).2.2.2.1, ())).getD v_50.toNat (0, 0, 0, 0, ())).2.2.1, ((out.set v_50.toNat (lo, (out.getD v_50.toNat (0, 0, 0, 0, ())).2.1, (out.getD v_50.toNat (0, 0, 0, 0, ())).2.2.1, (out.getD v_50.toNat (0, 0, 0, 0, ())).2.2.2.1, ())).getD v_50.toNat (0, 0, 0, 0, ())).2.2.2.1, ())).getD v_50.toNat (0, 0, 0, 0, ())).2.2.2.1, ())) x1 v_49 (IntKind.i64.wrap (v_50 + 1)))
            none)
          (L3 values bounds ((out.set v_50.toNat (lo, (out.getD v_50.toNat (0, 0, 0, 0, ())).2.1, (out.getD v_50.toNat (0, 0, 0, 0, ())).2.2.1, (out.getD v_50.toNat (0, 0, 0, 0, ())).2.2.2.1, ())).set v_50.toNat (((out.set v_50.toNat (lo, (out.getD v_50.toNat (0, 0, 0, 0, ())).2.1, (out.getD v_50.toNat (0, 0, 0, 0, ())).2.2.1, (out.getD v_50.toNat (0, 0, 0, 0, ())).2.2.2.1, ())).getD v_50.toNat (0, 0, 0, 0, ())).1, 1000000000000001, ((out.set v_50.toNat (lo, (out.getD v_50.toNat (0, 0, 0, 0, ())).2.1, (out.getD v_50.toNat (0, 0, 0, 0, ())).2.2.1, (out.getD v_50.toNat (0, 0, 0, 0, ())).2.2.2.1, ())).getD v_50.toNat (0, 0, 0, 0, ())).2.2.1, ((out.set v_50.toNat (lo, (out.getD v_50.toNat (0, 0, 0, 0, ())).2.1, (out.getD v_50.toNat (0, 0, 0, 0, ())).2.2.1, (out.getD v_50.toNat (0, 0, 0, 0, ())).2.2.2.1, ())).getD v_50.toNat (0, 0, 0, 0, ())).2.2.2.1, ())) lo v_49 (IntKind.i64.wrap (v_50 + 1))))
        none)
      none)
    (L4 bounds out values (values.length : Int) 0)
noncomputable def SL4 (bounds : List Int) (out : List api_BucketV) (v_76 : List Int) (v_77 : Int) (v_78 : Int) : R :=
  cond (decide (v_78 < v_77))
    (Option.bind (idx v_76 v_78) fun x1 =>
    Option.bind (slices_BinarySearch_int_int bounds x1) fun x2 =>
    cond x2.2.1
      (J5 bounds out x1 (IntKind.i64.wrap (x2.1 + 1)) v_76 v_77 v_78)
      (J5 bounds out x1 x2.1 v_76 v_77 v_78))
    (some (out, 0, ()))
noncomputable def SJ5 (bounds : List Int) (out : List api_BucketV) (v_11 : Int) (i : Int) (v_76 : List Int) (v_77 : Int) (v_78 : Int) : R :=
  cond (decide (0 ≤ i) && decide (i < (out.length : Int)))
    (cond (decide (0 ≤ i) && decide (i < (out.length : Int)))
      (cond (decide (0 ≤ i) && decide (i < ((out.set i.toNat ((out.getD i.toNat (0, 0, 0, 0, ())).1, (out.getD i.toNat (0, 0, 0, 0, ())).2.1, IntKind.i64.wrap (((out.getD i.toNat (0, 0, 0, 0, ())).2.2.1) + 1), (out.getD i.toNat (0, 0, 0, 0, ())).2.2.2.1, ())).length : Int)))
        (cond (decide (0 ≤ i) && decide (i < ((out.set i.toNat ((out.getD i.toNat (0, 0, 0, 0, ())).1, (out.getD i.toNat (0, 0, 0, 0, ())).2.1, IntKind.i64.wrap (((out.getD i.toNat (0, 0, 0, 0, ())).2.2.1) + 1), (out.getD i.toNat (0, 0, 0, 0, ())).2.2.2.1, ())).length : Int)))
          (L4 bounds ((out.set i.toNat ((out.getD i.toNat (0, 0, 0, 0, ())).1, (out.getD i.toNat (0, 0, 0, 0, ())).2.1, IntKind.i64.wrap (((out.getD i.toNat (0, 0, 0, 0, ())).2.2.1) + 1), (out.getD i.toNat (0, 0, 0, 0, ())).2.2.2.1, ())).set i.toNat (((out.set i.toNat ((out.getD i.toNat (0, 0, 0, 0, ())).1, (out.getD i.toNat (0, 0, 0, 0, ())).2.1, IntKind.i64.wrap (((out.getD i.toNat (0, 0, 0, 0, ())).2.2.1) + 1), (out.getD i.toNat (0, 0, 0, 0, ())).2.2.2.1, ())).getD i.toNat (0, 0, 0, 0, ())).1, ((out.set i.toNat ((out.getD i.toNat (0, 0, 0, 0, ())).1, (out.getD i.toNat (0, 0, 0, 0, ())).2.1, IntKind.i64.wrap (((out.getD i.toNat (0, 0, 0, 0, ())).2.2.1) + 1), (out.getD i.toNat (0, 0, 0, 0, ())).2.2.2.1, ())).getD i.toNat (0, 0, 0, 0, ())).2.1, ((out.set i.toNat ((out.getD i.toNat (0, 0, 0, 0, ())).1, (out.getD i.toNat (0, 0, 0, 0, ())).2.1, IntKind.i64.wrap (((out.getD i.toNat (0, 0, 0, 0, ())).2.2.1) + 1), (out.getD i.toNat (0, 0, 0, 0, ())).2.2.2.1, ())).getD i.toNat (0, 0, 0, 0, ())).2.2.1, IntKind.i64.wrap ((((out.set i.toNat ((out.getD i.toNat (0, 0, 0, 0, ())).1, (out.getD i.toNat (0, 0, 0, 0, ())).2.1, IntKind.i64.wrap (((out.getD i.toNat (0, 0, 0, 0, ())).2.2.1) + 1), (out.getD i.toNat (0, 0, 0, 0, ())).2.2.2.1, ())).getD i.toNat (0, 0, 0, 0, ())).2.2.2.1) + v_11), ())) v_76 v_77 (IntKind.i64.wrap (v_78 + 1)))
          none)
        none)
      none)
    none
noncomputable def Se (values : List Int) (bounds : List Int) : R :=
  cond (decide ((values.length : Int) > 4096))
    (J1 values bounds (decide ((values.length : Int) > 4096)))
    (J1 values bounds (decide ((bounds.length : Int) > 64)))
theorem J0_eq (values bounds) : J0 values bounds = SJ0 values bounds := (lim_eq (.code c0 .ret) (tJ0 values bounds)).trans (by kernel_rfl)
theorem J1_eq (values bounds v_14) : J1 values bounds v_14 = SJ1 values bounds v_14 := (lim_eq (.code c6 K3) (tJ1 values bounds v_14)).trans (by kernel_rfl)
theorem L2_eq (values bounds i) : L2 values bounds i = SL2 values bounds i := (lim_eq (.loop c7 K12) (tL2 values bounds i)).trans (by kernel_rfl)
theorem L3_eq (values bounds out lo v_49 v_50) : L3 values bounds out lo v_49 v_50 = SL3 values bounds out lo v_49 v_50 := (lim_eq (.loop c8 K24) (tL3 values bounds out lo v_49 v_50)).trans (by kernel_rfl)
theorem L4_eq (bounds out v_76 v_77 v_78) : L4 bounds out v_76 v_77 v_78 = SL4 bounds out v_76 v_77 v_78 := (lim_eq (.loop c4 K37) (tL4 bounds out v_76 v_77 v_78)).trans (by kernel_rfl)
theorem J5_eq (bounds out v_11 i v_76 v_77 v_78) : J5 bounds out v_11 i v_76 v_77 v_78 = SJ5 bounds out v_11 i v_76 v_77 v_78 := (lim_eq (.code c9 K42) (tJ5 bounds out v_11 i v_76 v_77 v_78)).trans (by kernel_rfl)
theorem se (x : (argTy ps).den) : run E (lim E fin) fin depth (bodyOf Try.f14) .ret (entryFrom 0 ps x) = Se x.1 x.2.1 := by kernel_rfl
end distribution_Histogram
noncomputable def distribution_Histogram (values : List Int) (bounds : List Int) : distribution_Histogram.R :=
  distribution_Histogram.Se values bounds
namespace distribution_Histogram
noncomputable def sig : Sig := ⟨ps, rs, fun x => distribution_Histogram x.1 x.2.1⟩
theorem val (x : (argTy ps).den) : lim E fin (.code (bodyOf Try.f14) .ret) (entryFrom 0 ps x) = sig.run x := (lim_eq (.code (bodyOf Try.f14) .ret) (entryFrom 0 ps x)).trans (se x)
theorem ok : CallOK Try.prog 14 sig :=
  callOK_of_lim (E := E) mixed tt_ok (ctxOk_cons (ctxOk_cons ctxOk_nil slices_BinarySearch_int_int.ok Try.func27 (by kernel_rfl) (by kernel_rfl)) distribution_allWithin.ok Try.func26 (by kernel_rfl) (by kernel_rfl)) Try.func14 (by kernel_rfl : Try.f14.body = some (bodyOf Try.f14)) Try.ntmps14 (of_decide_eq_true (by kernel_rfl)) (of_decide_eq_true (by kernel_rfl)) fun x y h => (val x).trans h
noncomputable def ctxc (n : Nat) : List (Nat × Sig) := [(26, distribution_allWithin.sigc n), (27, slices_BinarySearch_int_int.sigc n)]
noncomputable def sigc (n : Nat) : Sig := ⟨ps, rs, fun x => runs (withCtx E (ctxc n)) fin n (.code (bodyOf Try.f14) .ret) (entryFrom 0 ps x)⟩
theorem sigc_le (n : Nat) : ∀ x y, (sigc n).run x = some y → sig.run x = some y := fun x y h => (val x).symm.trans (runs_lim (E := E) (c := ctxc n) (ctxLe_cons (ctxLe_cons ctxLe_nil (slices_BinarySearch_int_int.sigc_le n)) (distribution_allWithin.sigc_le n)) h)
end distribution_Histogram
namespace distribution_Groups_1
abbrev ps : List PM := [.pure (.int .i64), .ptr (.int .i64)]
abbrev rs : List RM := [.pure .bool]
abbrev R : Type := Option (Bool × Int × Unit)
noncomputable def E : Env := { tt := tt, ctx := [], nt := 11, ann := [] }
noncomputable def fin : ASt → R := Kret E Try.f30.results.toList ps rs
noncomputable def Se (g_0 : Int) (p1 : Int) : R :=
  cond (decide (g_0 < 0))
    (some (true, p1, ()))
    (some (decide (g_0 ≥ p1), p1, ()))
theorem se (x : (argTy ps).den) : run E (lim E fin) fin depth (bodyOf Try.f30) .ret (entryFrom 0 ps x) = Se x.1 x.2.1 := by kernel_rfl
end distribution_Groups_1
noncomputable def distribution_Groups_1 (g_0 : Int) (p1 : Int) : distribution_Groups_1.R :=
  distribution_Groups_1.Se g_0 p1
namespace distribution_Groups_1
noncomputable def sig : Sig := ⟨ps, rs, fun x => distribution_Groups_1 x.1 x.2.1⟩
theorem val (x : (argTy ps).den) : lim E fin (.code (bodyOf Try.f30) .ret) (entryFrom 0 ps x) = sig.run x := (lim_eq (.code (bodyOf Try.f30) .ret) (entryFrom 0 ps x)).trans (se x)
theorem ok : CallOK Try.prog 30 sig :=
  callOK_of_lim (E := E) mixed tt_ok ctxOk_nil Try.func30 (by kernel_rfl : Try.f30.body = some (bodyOf Try.f30)) Try.ntmps30 (of_decide_eq_true (by kernel_rfl)) (of_decide_eq_true (by kernel_rfl)) fun x y h => (val x).trans h
noncomputable def ctxc (n : Nat) : List (Nat × Sig) := []
noncomputable def sigc (n : Nat) : Sig := ⟨ps, rs, fun x => runs (withCtx E (ctxc n)) fin n (.code (bodyOf Try.f30) .ret) (entryFrom 0 ps x)⟩
theorem sigc_le (n : Nat) : ∀ x y, (sigc n).run x = some y → sig.run x = some y := fun x y h => (val x).symm.trans (runs_lim (E := E) (c := ctxc n) ctxLe_nil h)
end distribution_Groups_1
namespace slices_IndexFunc_int_int_distribution_Groups_1
abbrev ps : List PM := [.pure (.sl (.int .i64)), .ptr (.int .i64) (some 30)]
abbrev rs : List RM := [.pure (.int .i64)]
abbrev R : Type := Option (Int × Int × Unit)
noncomputable def E : Env := { tt := tt, ctx := [(30, distribution_Groups_1.sig)], nt := 19, ann := [(1000002, [(0, .keep), (1, .keep), (7, .keep), (8, .keep)])] }
noncomputable def c0 : Code := sub [1, 1] (bodyOf Try.f42)
noncomputable def c1 : Code := sub [1, 0, 1, 0, 0] (bodyOf Try.f42)
noncomputable def K2 : Kont := .seq c0 .ret
noncomputable def K4 : Kont := .blk 0 K2
noncomputable def fin : ASt → R := Kret E Try.f42.results.toList ps rs
def tL0 (s : List Int) (v_7 : Int) (v_8 : Int) (f_P : Int) : ASt := ⟨[(8, .one (.val (.int .i64) v_8)), (7, .one (.val (.int .i64) v_7)), (1, .one (.fn 30 [10001])), (0, .one (.val (.sl (.int .i64)) s))], [(10001, some ⟨.fixed, .int .i64, [f_P]⟩)]⟩
noncomputable def L0 (s : List Int) (v_7 : Int) (v_8 : Int) (f_P : Int) : R := lim E fin (.loop c1 K4) (tL0 s v_7 v_8 f_P)
noncomputable def SL0 (s : List Int) (v_7 : Int) (v_8 : Int) (f_P : Int) : R :=
  cond (decide (v_8 < v_7))
    (Option.bind (idx s v_8) fun x1 =>
    Option.bind (distribution_Groups_1 x1 f_P) fun x2 =>
    cond x2.1
      (some (v_8, x2.2.1, ()))
      (L0 s v_7 (IntKind.i64.wrap (v_8 + 1)) x2.2.1))
    (some ((-1), f_P, ()))
noncomputable def Se (s : List Int) (f : Int) : R :=
  L0 s (s.length : Int) 0 f
theorem L0_eq (s v_7 v_8 f_P) : L0 s v_7 v_8 f_P = SL0 s v_7 v_8 f_P := (lim_eq (.loop c1 K4) (tL0 s v_7 v_8 f_P)).trans (by kernel_rfl)
theorem se (x : (argTy ps).den) : run E (lim E fin) fin depth (bodyOf Try.f42) .ret (entryFrom 0 ps x) = Se x.1 x.2.1 := by kernel_rfl
end slices_IndexFunc_int_int_distribution_Groups_1
noncomputable def slices_IndexFunc_int_int_distribution_Groups_1 (s : List Int) (f : Int) : slices_IndexFunc_int_int_distribution_Groups_1.R :=
  slices_IndexFunc_int_int_distribution_Groups_1.Se s f
namespace slices_IndexFunc_int_int_distribution_Groups_1
noncomputable def sig : Sig := ⟨ps, rs, fun x => slices_IndexFunc_int_int_distribution_Groups_1 x.1 x.2.1⟩
theorem val (x : (argTy ps).den) : lim E fin (.code (bodyOf Try.f42) .ret) (entryFrom 0 ps x) = sig.run x := (lim_eq (.code (bodyOf Try.f42) .ret) (entryFrom 0 ps x)).trans (se x)
theorem ok : CallOK Try.prog 42 sig :=
  callOK_of_lim (E := E) mixed tt_ok (ctxOk_cons ctxOk_nil distribution_Groups_1.ok Try.func30 (by kernel_rfl) (by kernel_rfl)) Try.func42 (by kernel_rfl : Try.f42.body = some (bodyOf Try.f42)) Try.ntmps42 (of_decide_eq_true (by kernel_rfl)) (of_decide_eq_true (by kernel_rfl)) fun x y h => (val x).trans h
noncomputable def ctxc (n : Nat) : List (Nat × Sig) := [(30, distribution_Groups_1.sigc n)]
noncomputable def sigc (n : Nat) : Sig := ⟨ps, rs, fun x => runs (withCtx E (ctxc n)) fin n (.code (bodyOf Try.f42) .ret) (entryFrom 0 ps x)⟩
theorem sigc_le (n : Nat) : ∀ x y, (sigc n).run x = some y → sig.run x = some y := fun x y h => (val x).symm.trans (runs_lim (E := E) (c := ctxc n) (ctxLe_cons ctxLe_nil (distribution_Groups_1.sigc_le n)) h)
end slices_IndexFunc_int_int_distribution_Groups_1
namespace slices_ContainsFunc_int_int_distribution_Groups_1
abbrev ps : List PM := [.pure (.sl (.int .i64)), .ptr (.int .i64) (some 30)]
abbrev rs : List RM := [.pure .bool]
abbrev R : Type := Option (Bool × Int × Unit)
noncomputable def E : Env := { tt := tt, ctx := [(42, slices_IndexFunc_int_int_distribution_Groups_1.sig)], nt := 9, ann := [] }
noncomputable def fin : ASt → R := Kret E Try.f29.results.toList ps rs
noncomputable def Se (s : List Int) (f : Int) : R :=
  Option.bind (slices_IndexFunc_int_int_distribution_Groups_1 s f) fun x1 =>
  some (decide (x1.1 ≥ 0), x1.2.1, ())
theorem se (x : (argTy ps).den) : run E (lim E fin) fin depth (bodyOf Try.f29) .ret (entryFrom 0 ps x) = Se x.1 x.2.1 := by kernel_rfl
end slices_ContainsFunc_int_int_distribution_Groups_1
noncomputable def slices_ContainsFunc_int_int_distribution_Groups_1 (s : List Int) (f : Int) : slices_ContainsFunc_int_int_distribution_Groups_1.R :=
  slices_ContainsFunc_int_int_distribution_Groups_1.Se s f
namespace slices_ContainsFunc_int_int_distribution_Groups_1
noncomputable def sig : Sig := ⟨ps, rs, fun x => slices_ContainsFunc_int_int_distribution_Groups_1 x.1 x.2.1⟩
theorem val (x : (argTy ps).den) : lim E fin (.code (bodyOf Try.f29) .ret) (entryFrom 0 ps x) = sig.run x := (lim_eq (.code (bodyOf Try.f29) .ret) (entryFrom 0 ps x)).trans (se x)
theorem ok : CallOK Try.prog 29 sig :=
  callOK_of_lim (E := E) mixed tt_ok (ctxOk_cons ctxOk_nil slices_IndexFunc_int_int_distribution_Groups_1.ok Try.func42 (by kernel_rfl) (by kernel_rfl)) Try.func29 (by kernel_rfl : Try.f29.body = some (bodyOf Try.f29)) Try.ntmps29 (of_decide_eq_true (by kernel_rfl)) (of_decide_eq_true (by kernel_rfl)) fun x y h => (val x).trans h
noncomputable def ctxc (n : Nat) : List (Nat × Sig) := [(42, slices_IndexFunc_int_int_distribution_Groups_1.sigc n)]
noncomputable def sigc (n : Nat) : Sig := ⟨ps, rs, fun x => runs (withCtx E (ctxc n)) fin n (.code (bodyOf Try.f29) .ret) (entryFrom 0 ps x)⟩
theorem sigc_le (n : Nat) : ∀ x y, (sigc n).run x = some y → sig.run x = some y := fun x y h => (val x).symm.trans (runs_lim (E := E) (c := ctxc n) (ctxLe_cons ctxLe_nil (slices_IndexFunc_int_int_distribution_Groups_1.sigc_le n)) h)
end slices_ContainsFunc_int_int_distribution_Groups_1
namespace distribution_Groups
abbrev ps : List PM := [.pure (.sl (.int .i64)), .pure (.sl (.int .i64)), .pure (.int .i64)]
abbrev rs : List RM := [.own api_Bucket, .pure (.int .i64)]
abbrev R : Type := Option (List api_BucketV × Int × Unit)
noncomputable def E : Env := { tt := tt, ctx := [(26, distribution_allWithin.sig), (29, slices_ContainsFunc_int_int_distribution_Groups_1.sig)], nt := 84, ann := [(10, [(0, .keep), (1, .keep), (5, .keep)]), (5, [(0, .keep), (1, .keep), (5, .keep), (18, .keep)]), (1000012, [(0, .keep), (1, .keep), (8, .keep), (36, .keep), (37, .keep)]), (1000017, [(1, .keep), (8, .keep), (52, .keep), (53, .keep), (54, .keep)])] }
noncomputable def c0 : Code := sub [1, 1] (bodyOf Try.f17)
noncomputable def c1 : Code := sub [1, 1, 1, 1] (bodyOf Try.f17)
noncomputable def c2 : Code := sub [1, 1, 1, 1, 1] (bodyOf Try.f17)
noncomputable def c3 : Code := sub [1, 0, 0, 1, 1, 1] (bodyOf Try.f17)
noncomputable def c4 : Code := sub [1, 1, 1, 0, 1, 0, 0] (bodyOf Try.f17)
noncomputable def c5 : Code := sub [1, 1, 1, 1, 0, 1, 0, 0] (bodyOf Try.f17)
noncomputable def K2 : Kont := .seq c0 .ret
noncomputable def K3 : Kont := .blk 0 K2
noncomputable def K14 : Kont := .seq c1 .ret
noncomputable def K16 : Kont := .blk 1 K14
noncomputable def K23 : Kont := .seq c2 .ret
noncomputable def K25 : Kont := .blk 3 K23
noncomputable def fin : ASt → R := Kret E Try.f17.results.toList ps rs
def tJ0 (values : List Int) (groups : List Int) (n_5 : Int) : ASt := ⟨[(5, .one (.optr 5 0 [])), (1, .one (.val (.sl (.int .i64)) groups)), (0, .one (.val (.sl (.int .i64)) values))], [(5, some ⟨.free, .int .i64, [n_5]⟩)]⟩
def tJ1 (values : List Int) (groups : List Int) (n_5 : Int) (v_18 : Bool) : ASt := ⟨[(18, .one (.val .bool v_18)), (5, .one (.optr 5 0 [])), (1, .one (.val (.sl (.int .i64)) groups)), (0, .one (.val (.sl (.int .i64)) values))], [(5, some ⟨.free, .int .i64, [n_5]⟩)]⟩
def tL2 (values : List Int) (groups : List Int) (out : List api_BucketV) (v_36 : Int) (v_37 : Int) : ASt := ⟨[(37, .one (.val (.int .i64) v_37)), (36, .one (.val (.int .i64) v_36)), (8, .one (.own 8)), (1, .one (.val (.sl (.int .i64)) groups)), (0, .one (.val (.sl (.int .i64)) values))], [(8, some ⟨.free, api_Bucket, out⟩)]⟩
def tL3 (groups : List Int) (out : List api_BucketV) (v_52 : List Int) (v_53 : Int) (v_54 : Int) : ASt := ⟨[(54, .one (.val (.int .i64) v_54)), (53, .one (.val (.int .i64) v_53)), (52, .one (.val (.sl (.int .i64)) v_52)), (8, .one (.own 8)), (1, .one (.val (.sl (.int .i64)) groups))], [(8, some ⟨.free, api_Bucket, out⟩)]⟩
noncomputable def J0 (values : List Int) (groups : List Int) (n_5 : Int) : R := lim E fin (.code c0 .ret) (tJ0 values groups n_5)
noncomputable def J1 (values : List Int) (groups : List Int) (n_5 : Int) (v_18 : Bool) : R := lim E fin (.code c3 K3) (tJ1 values groups n_5 v_18)
noncomputable def L2 (values : List Int) (groups : List Int) (out : List api_BucketV) (v_36 : Int) (v_37 : Int) : R := lim E fin (.loop c4 K16) (tL2 values groups out v_36 v_37)
noncomputable def L3 (groups : List Int) (out : List api_BucketV) (v_52 : List Int) (v_53 : Int) (v_54 : Int) : R := lim E fin (.loop c5 K25) (tL3 groups out v_52 v_53 v_54)
noncomputable def SJ0 (values : List Int) (groups : List Int) (n_5 : Int) : R :=
  cond (decide (0 ≤ (n_5 : Int)) && (decide ((n_5 : Int) ≤ n_5) && (decide ((n_5 : Int) * 32 ≤ room) && (decide ((n_5 : Int) ≤ maxLen) && decide (0 < Ty.nc (.pair (.int .i64) (.pair (.int .i64) (.pair (.int .i64) (.pair (.int .i64) .unit)))))))))
    (L2 values groups (List.replicate n_5.toNat ((0, 0, 0, 0, ()) : Int × Int × Int × Int × Unit)) ((List.replicate n_5.toNat ((0, 0, 0, 0, ()) : Int × Int × Int × Int × Unit)).length : Int) 0)
    none
noncomputable def SJ1 (values : List Int) (groups : List Int) (n_5 : Int) (v_18 : Bool) : R :=
  cond v_18
    (some ([], 4, ()))
    (cond (decide (n_5 < 1))
      (cond (decide (n_5 < 1))
        (some ([], 3, ()))
        (J0 values groups n_5))
      (Option.bind (distribution_allWithin values) fun x1 =>
      cond (!x1.1)
        (cond (!x1.1)
          (some ([], 3, ()))
          (J0 values groups n_5))
        (Option.bind (slices_ContainsFunc_int_int_distribution_Groups_1 groups n_5) fun x2 =>
        cond x2.1
          (some ([], 3, ()))
          (J0 values groups x2.2.1))))
noncomputable def SL2 (values : List Int) (groups : List Int) (out : List api_BucketV) (v_36 : Int) (v_37 : Int) : R :=
  cond (decide (v_37 < v_36))
    (cond (decide (0 ≤ v_37) && decide (v_37 < (out.length : Int)))
      (cond (decide (0 ≤ v_37) && decide (v_37 < ((out.set v_37.toNat (v_37, (out.getD v_37.toNat (0, 0, 0, 0, ())).2.1, (out.getD v_37.toNat (0, 0, 0, 0, ())).2.2.1, (out.getD v_37.toNat (0, 0, 0, 0, ())).2.2.2.1, ())).length : Int)))
        (L2 values groups ((out.set v_37.toNat (v_37, (out.getD v_37.toNat (0, 0, 0, 0, ())).2.1, (out.getD v_37.toNat (0, 0, 0, 0, ())).2.2.1, (out.getD v_37.toNat (0, 0, 0, 0, ())).2.2.2.1, ())).set v_37.toNat (((out.set v_37.toNat (v_37, (out.getD v_37.toNat (0, 0, 0, 0, ())).2.1, (out.getD v_37.toNat (0, 0, 0, 0, ())).2.2.1, (out.getD v_37.toNat (0, 0, 0, 0, ())).2.2.2.1, ())).getD v_37.toNat (0, 0, 0, 0, ())).1, IntKind.i64.wrap (v_37 + 1), ((out.set v_37.toNat (v_37, (out.getD v_37.toNat (0, 0, 0, 0, ())).2.1, (out.getD v_37.toNat (0, 0, 0, 0, ())).2.2.1, (out.getD v_37.toNat (0, 0, 0, 0, ())).2.2.2.1, ())).getD v_37.toNat (0, 0, 0, 0, ())).2.2.1, ((out.set v_37.toNat (v_37, (out.getD v_37.toNat (0, 0, 0, 0, ())).2.1, (out.getD v_37.toNat (0, 0, 0, 0, ())).2.2.1, (out.getD v_37.toNat (0, 0, 0, 0, ())).2.2.2.1, ())).getD v_37.toNat (0, 0, 0, 0, ())).2.2.2.1, ())) v_36 (IntKind.i64.wrap (v_37 + 1)))
        none)
      none)
    (L3 groups out values (values.length : Int) 0)
noncomputable def SL3 (groups : List Int) (out : List api_BucketV) (v_52 : List Int) (v_53 : Int) (v_54 : Int) : R :=
  cond (decide (v_54 < v_53))
    (Option.bind (idx v_52 v_54) fun x1 =>
    Option.bind (idx groups v_54) fun x2 =>
    cond (decide (0 ≤ x2) && decide (x2 < (out.length : Int)))
      (cond (decide (0 ≤ x2) && decide (x2 < (out.length : Int)))
        (Option.bind (idx groups v_54) fun x3 =>
        cond (decide (0 ≤ x3) && decide (x3 < ((out.set x2.toNat ((out.getD x2.toNat (0, 0, 0, 0, ())).1, (out.getD x2.toNat (0, 0, 0, 0, ())).2.1, IntKind.i64.wrap (((out.getD x2.toNat (0, 0, 0, 0, ())).2.2.1) + 1), (out.getD x2.toNat (0, 0, 0, 0, ())).2.2.2.1, ())).length : Int)))
          (cond (decide (0 ≤ x3) && decide (x3 < ((out.set x2.toNat ((out.getD x2.toNat (0, 0, 0, 0, ())).1, (out.getD x2.toNat (0, 0, 0, 0, ())).2.1, IntKind.i64.wrap (((out.getD x2.toNat (0, 0, 0, 0, ())).2.2.1) + 1), (out.getD x2.toNat (0, 0, 0, 0, ())).2.2.2.1, ())).length : Int)))
            (L3 groups ((out.set x2.toNat ((out.getD x2.toNat (0, 0, 0, 0, ())).1, (out.getD x2.toNat (0, 0, 0, 0, ())).2.1, IntKind.i64.wrap (((out.getD x2.toNat (0, 0, 0, 0, ())).2.2.1) + 1), (out.getD x2.toNat (0, 0, 0, 0, ())).2.2.2.1, ())).set x3.toNat (((out.set x2.toNat ((out.getD x2.toNat (0, 0, 0, 0, ())).1, (out.getD x2.toNat (0, 0, 0, 0, ())).2.1, IntKind.i64.wrap (((out.getD x2.toNat (0, 0, 0, 0, ())).2.2.1) + 1), (out.getD x2.toNat (0, 0, 0, 0, ())).2.2.2.1, ())).getD x3.toNat (0, 0, 0, 0, ())).1, ((out.set x2.toNat ((out.getD x2.toNat (0, 0, 0, 0, ())).1, (out.getD x2.toNat (0, 0, 0, 0, ())).2.1, IntKind.i64.wrap (((out.getD x2.toNat (0, 0, 0, 0, ())).2.2.1) + 1), (out.getD x2.toNat (0, 0, 0, 0, ())).2.2.2.1, ())).getD x3.toNat (0, 0, 0, 0, ())).2.1, ((out.set x2.toNat ((out.getD x2.toNat (0, 0, 0, 0, ())).1, (out.getD x2.toNat (0, 0, 0, 0, ())).2.1, IntKind.i64.wrap (((out.getD x2.toNat (0, 0, 0, 0, ())).2.2.1) + 1), (out.getD x2.toNat (0, 0, 0, 0, ())).2.2.2.1, ())).getD x3.toNat (0, 0, 0, 0, ())).2.2.1, IntKind.i64.wrap ((((out.set x2.toNat ((out.getD x2.toNat (0, 0, 0, 0, ())).1, (out.getD x2.toNat (0, 0, 0, 0, ())).2.1, IntKind.i64.wrap (((out.getD x2.toNat (0, 0, 0, 0, ())).2.2.1) + 1), (out.getD x2.toNat (0, 0, 0, 0, ())).2.2.2.1, ())).getD x3.toNat (0, 0, 0, 0, ())).2.2.2.1) + x1), ())) v_52 v_53 (IntKind.i64.wrap (v_54 + 1)))
            none)
          none)
        none)
      none)
    (some (out, 0, ()))
noncomputable def Se (values : List Int) (groups : List Int) (n_2 : Int) : R :=
  cond ((values.length : Int) != (groups.length : Int))
    (some ([], 2, ()))
    (cond (decide ((values.length : Int) > 4096))
      (J1 values groups n_2 (decide ((values.length : Int) > 4096)))
      (J1 values groups n_2 (decide (n_2 > 64))))
theorem J0_eq (values groups n_5) : J0 values groups n_5 = SJ0 values groups n_5 := (lim_eq (.code c0 .ret) (tJ0 values groups n_5)).trans (by kernel_rfl)
theorem J1_eq (values groups n_5 v_18) : J1 values groups n_5 v_18 = SJ1 values groups n_5 v_18 := (lim_eq (.code c3 K3) (tJ1 values groups n_5 v_18)).trans (by kernel_rfl)
theorem L2_eq (values groups out v_36 v_37) : L2 values groups out v_36 v_37 = SL2 values groups out v_36 v_37 := (lim_eq (.loop c4 K16) (tL2 values groups out v_36 v_37)).trans (by kernel_rfl)
theorem L3_eq (groups out v_52 v_53 v_54) : L3 groups out v_52 v_53 v_54 = SL3 groups out v_52 v_53 v_54 := (lim_eq (.loop c5 K25) (tL3 groups out v_52 v_53 v_54)).trans (by kernel_rfl)
theorem se (x : (argTy ps).den) : run E (lim E fin) fin depth (bodyOf Try.f17) .ret (entryFrom 0 ps x) = Se x.1 x.2.1 x.2.2.1 := by kernel_rfl
end distribution_Groups
noncomputable def distribution_Groups (values : List Int) (groups : List Int) (n_2 : Int) : distribution_Groups.R :=
  distribution_Groups.Se values groups n_2
namespace distribution_Groups
noncomputable def sig : Sig := ⟨ps, rs, fun x => distribution_Groups x.1 x.2.1 x.2.2.1⟩
theorem val (x : (argTy ps).den) : lim E fin (.code (bodyOf Try.f17) .ret) (entryFrom 0 ps x) = sig.run x := (lim_eq (.code (bodyOf Try.f17) .ret) (entryFrom 0 ps x)).trans (se x)
theorem ok : CallOK Try.prog 17 sig :=
  callOK_of_lim (E := E) mixed tt_ok (ctxOk_cons (ctxOk_cons ctxOk_nil slices_ContainsFunc_int_int_distribution_Groups_1.ok Try.func29 (by kernel_rfl) (by kernel_rfl)) distribution_allWithin.ok Try.func26 (by kernel_rfl) (by kernel_rfl)) Try.func17 (by kernel_rfl : Try.f17.body = some (bodyOf Try.f17)) Try.ntmps17 (of_decide_eq_true (by kernel_rfl)) (of_decide_eq_true (by kernel_rfl)) fun x y h => (val x).trans h
noncomputable def ctxc (n : Nat) : List (Nat × Sig) := [(26, distribution_allWithin.sigc n), (29, slices_ContainsFunc_int_int_distribution_Groups_1.sigc n)]
noncomputable def sigc (n : Nat) : Sig := ⟨ps, rs, fun x => runs (withCtx E (ctxc n)) fin n (.code (bodyOf Try.f17) .ret) (entryFrom 0 ps x)⟩
theorem sigc_le (n : Nat) : ∀ x y, (sigc n).run x = some y → sig.run x = some y := fun x y h => (val x).symm.trans (runs_lim (E := E) (c := ctxc n) (ctxLe_cons (ctxLe_cons ctxLe_nil (slices_ContainsFunc_int_int_distribution_Groups_1.sigc_le n)) (distribution_allWithin.sigc_le n)) h)
end distribution_Groups
namespace math_bits_Mul64
abbrev ps : List PM := [.pure (.int .u64), .pure (.int .u64)]
abbrev rs : List RM := [.pure (.int .u64), .pure (.int .u64)]
abbrev R : Type := Option (Int × Int × Unit)
noncomputable def E : Env := { tt := tt, ctx := [], nt := 51, ann := [] }
noncomputable def fin : ASt → R := Kret E Try.f53.results.toList ps rs
noncomputable def Se (x_0 : Int) (y : Int) : R :=
  some (IntKind.u64.wrap ((IntKind.u64.wrap ((IntKind.u64.wrap ((Int.fdiv x_0 (2 ^ (min 32 IntKind.u64.bits))) * (Int.fdiv y (2 ^ (min 32 IntKind.u64.bits))))) + (Int.fdiv (IntKind.u64.wrap ((IntKind.u64.wrap ((Int.fdiv x_0 (2 ^ (min 32 IntKind.u64.bits))) * (IntKind.u64.wrap (BitVec.ofInt IntKind.u64.bits y &&& BitVec.ofInt IntKind.u64.bits 4294967295).toNat))) + (Int.fdiv (IntKind.u64.wrap ((IntKind.u64.wrap (BitVec.ofInt IntKind.u64.bits x_0 &&& BitVec.ofInt IntKind.u64.bits 4294967295).toNat) * (IntKind.u64.wrap (BitVec.ofInt IntKind.u64.bits y &&& BitVec.ofInt IntKind.u64.bits 4294967295).toNat))) (2 ^ (min 32 IntKind.u64.bits))))) (2 ^ (min 32 IntKind.u64.bits))))) + (Int.fdiv (IntKind.u64.wrap ((IntKind.u64.wrap (BitVec.ofInt IntKind.u64.bits (IntKind.u64.wrap ((IntKind.u64.wrap ((Int.fdiv x_0 (2 ^ (min 32 IntKind.u64.bits))) * (IntKind.u64.wrap (BitVec.ofInt IntKind.u64.bits y &&& BitVec.ofInt IntKind.u64.bits 4294967295).toNat))) + (Int.fdiv (IntKind.u64.wrap ((IntKind.u64.wrap (BitVec.ofInt IntKind.u64.bits x_0 &&& BitVec.ofInt IntKind.u64.bits 4294967295).toNat) * (IntKind.u64.wrap (BitVec.ofInt IntKind.u64.bits y &&& BitVec.ofInt IntKind.u64.bits 4294967295).toNat))) (2 ^ (min 32 IntKind.u64.bits))))) &&& BitVec.ofInt IntKind.u64.bits 4294967295).toNat) + (IntKind.u64.wrap ((IntKind.u64.wrap (BitVec.ofInt IntKind.u64.bits x_0 &&& BitVec.ofInt IntKind.u64.bits 4294967295).toNat) * (Int.fdiv y (2 ^ (min 32 IntKind.u64.bits))))))) (2 ^ (min 32 IntKind.u64.bits)))), IntKind.u64.wrap (x_0 * y), ())
theorem se (x : (argTy ps).den) : run E (lim E fin) fin depth (bodyOf Try.f53) .ret (entryFrom 0 ps x) = Se x.1 x.2.1 := by kernel_rfl
end math_bits_Mul64
noncomputable def math_bits_Mul64 (x_0 : Int) (y : Int) : math_bits_Mul64.R :=
  math_bits_Mul64.Se x_0 y
namespace math_bits_Mul64
noncomputable def sig : Sig := ⟨ps, rs, fun x => math_bits_Mul64 x.1 x.2.1⟩
theorem val (x : (argTy ps).den) : lim E fin (.code (bodyOf Try.f53) .ret) (entryFrom 0 ps x) = sig.run x := (lim_eq (.code (bodyOf Try.f53) .ret) (entryFrom 0 ps x)).trans (se x)
theorem ok : CallOK Try.prog 53 sig :=
  callOK_of_lim (E := E) mixed tt_ok ctxOk_nil Try.func53 (by kernel_rfl : Try.f53.body = some (bodyOf Try.f53)) Try.ntmps53 (of_decide_eq_true (by kernel_rfl)) (of_decide_eq_true (by kernel_rfl)) fun x y h => (val x).trans h
noncomputable def ctxc (n : Nat) : List (Nat × Sig) := []
noncomputable def sigc (n : Nat) : Sig := ⟨ps, rs, fun x => runs (withCtx E (ctxc n)) fin n (.code (bodyOf Try.f53) .ret) (entryFrom 0 ps x)⟩
theorem sigc_le (n : Nat) : ∀ x y, (sigc n).run x = some y → sig.run x = some y := fun x y h => (val x).symm.trans (runs_lim (E := E) (c := ctxc n) ctxLe_nil h)
end math_bits_Mul64
namespace math_bits_Mul
abbrev ps : List PM := [.pure (.int .u64), .pure (.int .u64)]
abbrev rs : List RM := [.pure (.int .u64), .pure (.int .u64)]
abbrev R : Type := Option (Int × Int × Unit)
noncomputable def E : Env := { tt := tt, ctx := [(53, math_bits_Mul64.sig)], nt := 30, ann := [] }
noncomputable def fin : ASt → R := Kret E Try.f45.results.toList ps rs
noncomputable def Se (x_0 : Int) (y : Int) : R :=
  Option.bind (math_bits_Mul64 x_0 y) fun x1 =>
  some (x1.1, x1.2.1, ())
theorem se (x : (argTy ps).den) : run E (lim E fin) fin depth (bodyOf Try.f45) .ret (entryFrom 0 ps x) = Se x.1 x.2.1 := by kernel_rfl
end math_bits_Mul
noncomputable def math_bits_Mul (x_0 : Int) (y : Int) : math_bits_Mul.R :=
  math_bits_Mul.Se x_0 y
namespace math_bits_Mul
noncomputable def sig : Sig := ⟨ps, rs, fun x => math_bits_Mul x.1 x.2.1⟩
theorem val (x : (argTy ps).den) : lim E fin (.code (bodyOf Try.f45) .ret) (entryFrom 0 ps x) = sig.run x := (lim_eq (.code (bodyOf Try.f45) .ret) (entryFrom 0 ps x)).trans (se x)
theorem ok : CallOK Try.prog 45 sig :=
  callOK_of_lim (E := E) mixed tt_ok (ctxOk_cons ctxOk_nil math_bits_Mul64.ok Try.func53 (by kernel_rfl) (by kernel_rfl)) Try.func45 (by kernel_rfl : Try.f45.body = some (bodyOf Try.f45)) Try.ntmps45 (of_decide_eq_true (by kernel_rfl)) (of_decide_eq_true (by kernel_rfl)) fun x y h => (val x).trans h
noncomputable def ctxc (n : Nat) : List (Nat × Sig) := [(53, math_bits_Mul64.sigc n)]
noncomputable def sigc (n : Nat) : Sig := ⟨ps, rs, fun x => runs (withCtx E (ctxc n)) fin n (.code (bodyOf Try.f45) .ret) (entryFrom 0 ps x)⟩
theorem sigc_le (n : Nat) : ∀ x y, (sigc n).run x = some y → sig.run x = some y := fun x y h => (val x).symm.trans (runs_lim (E := E) (c := ctxc n) (ctxLe_cons ctxLe_nil (math_bits_Mul64.sigc_le n)) h)
end math_bits_Mul
namespace slices_Repeat_int_int
abbrev ps : List PM := [.pure (.sl (.int .i64)), .pure (.int .i64)]
abbrev rs : List RM := [.own (.int .i64)]
abbrev R : Type := Option (List Int × Unit)
noncomputable def E : Env := { tt := tt, ctx := [(45, math_bits_Mul.sig)], nt := 48, ann := [(3, [(0, .keep), (1, .keep)]), (6, [(0, .keep), (6, .keep)]), (1000008, [(7, .keep), (8, .keep)])] }
noncomputable def c0 : Code := sub [1, 1, 1, 1, 1, 1, 1] (bodyOf Try.f32)
noncomputable def c1 : Code := sub [1, 1] (bodyOf Try.f32)
noncomputable def c2 : Code := sub [1, 1, 1, 1] (bodyOf Try.f32)
noncomputable def c3 : Code := sub [1, 1, 1, 1, 1, 1, 0, 0, 0] (bodyOf Try.f32)
noncomputable def K9 : Kont := .seq c0 .ret
noncomputable def K10 : Kont := .blk 0 K9
noncomputable def fin : ASt → R := Kret E Try.f32.results.toList ps rs
def tJ0 (x_0 : List Int) (count : Int) : ASt := ⟨[(1, .one (.val (.int .i64) count)), (0, .one (.val (.sl (.int .i64)) x_0))], []⟩
def tJ1 (x_0 : List Int) (lo : Int) : ASt := ⟨[(6, .one (.val (.int .u64) lo)), (0, .one (.val (.sl (.int .i64)) x_0))], []⟩
def tL2 (newslice : List Int) (n_8 : Int) : ASt := ⟨[(8, .one (.val (.int .i64) n_8)), (7, .one (.own 7))], [(7, some ⟨.free, .int .i64, newslice⟩)]⟩
noncomputable def J0 (x_0 : List Int) (count : Int) : R := lim E fin (.code c1 .ret) (tJ0 x_0 count)
noncomputable def J1 (x_0 : List Int) (lo : Int) : R := lim E fin (.code c2 .ret) (tJ1 x_0 lo)
noncomputable def L2 (newslice : List Int) (n_8 : Int) : R := lim E fin (.loop c3 K10) (tL2 newslice n_8)
noncomputable def SJ0 (x_0 : List Int) (count : Int) : R :=
  Option.bind (math_bits_Mul (IntKind.u64.wrap (x_0.length : Int)) (IntKind.u64.wrap count)) fun x1 =>
  cond (decide (x1.1 > 0))
    none
    (cond (decide (x1.2.1 > 9223372036854775807))
      none
      (J1 x_0 x1.2.1))
noncomputable def SJ1 (x_0 : List Int) (lo : Int) : R :=
  cond (decide (0 ≤ (IntKind.i64.wrap lo : Int)) && (decide ((IntKind.i64.wrap lo : Int) ≤ IntKind.i64.wrap lo) && (decide ((IntKind.i64.wrap lo : Int) * 8 ≤ room) && (decide ((IntKind.i64.wrap lo : Int) ≤ maxLen) && decide (0 < Ty.nc (.int .i64))))))
    (L2 ((List.replicate (IntKind.i64.wrap lo).toNat (0 : Int)).take 0 ++ (x_0.take ((List.replicate (IntKind.i64.wrap lo).toNat (0 : Int)).length) ++ (List.replicate (IntKind.i64.wrap lo).toNat (0 : Int)).drop (0 + (min ((List.replicate (IntKind.i64.wrap lo).toNat (0 : Int)).length) x_0.length)))) (((min ((List.replicate (IntKind.i64.wrap lo).toNat (0 : Int)).length) x_0.length) : Nat) : Int))
    none
noncomputable def SL2 (newslice : List Int) (n_8 : Int) : R :=
  cond (decide (n_8 < (newslice.length : Int)))
    (cond (decide ((0 : Int) ≤ n_8) && (decide ((n_8 : Int) ≤ (newslice.length : Int)) && decide ((newslice.length : Int) ≤ (newslice.length : Int))))
      (cond (decide ((0 : Int) ≤ 0) && (decide ((0 : Int) ≤ n_8) && decide (n_8 ≤ (newslice.length : Int))))
        (L2 (newslice.take n_8.toNat ++ ((newslice.take n_8.toNat).take (newslice.length - n_8.toNat) ++ newslice.drop (n_8.toNat + (min (newslice.length - n_8.toNat) ((newslice.take n_8.toNat).length))))) (IntKind.i64.wrap (n_8 + (((min (newslice.length - n_8.toNat) ((newslice.take n_8.toNat).length)) : Nat) : Int))))
        none)
      none)
    (some (newslice, ()))
noncomputable def Se (x_0 : List Int) (count : Int) : R :=
  cond (decide (count < 0))
    none
    (J0 x_0 count)
theorem J0_eq (x_0 count) : J0 x_0 count = SJ0 x_0 count := (lim_eq (.code c1 .ret) (tJ0 x_0 count)).trans (by kernel_rfl)
theorem J1_eq (x_0 lo) : J1 x_0 lo = SJ1 x_0 lo := (lim_eq (.code c2 .ret) (tJ1 x_0 lo)).trans (by kernel_rfl)
theorem L2_eq (newslice n_8) : L2 newslice n_8 = SL2 newslice n_8 := (lim_eq (.loop c3 K10) (tL2 newslice n_8)).trans (by kernel_rfl)
theorem se (x : (argTy ps).den) : run E (lim E fin) fin depth (bodyOf Try.f32) .ret (entryFrom 0 ps x) = Se x.1 x.2.1 := by kernel_rfl
end slices_Repeat_int_int
noncomputable def slices_Repeat_int_int (x_0 : List Int) (count : Int) : slices_Repeat_int_int.R :=
  slices_Repeat_int_int.Se x_0 count
namespace slices_Repeat_int_int
noncomputable def sig : Sig := ⟨ps, rs, fun x => slices_Repeat_int_int x.1 x.2.1⟩
theorem val (x : (argTy ps).den) : lim E fin (.code (bodyOf Try.f32) .ret) (entryFrom 0 ps x) = sig.run x := (lim_eq (.code (bodyOf Try.f32) .ret) (entryFrom 0 ps x)).trans (se x)
theorem ok : CallOK Try.prog 32 sig :=
  callOK_of_lim (E := E) mixed tt_ok (ctxOk_cons ctxOk_nil math_bits_Mul.ok Try.func45 (by kernel_rfl) (by kernel_rfl)) Try.func32 (by kernel_rfl : Try.f32.body = some (bodyOf Try.f32)) Try.ntmps32 (of_decide_eq_true (by kernel_rfl)) (of_decide_eq_true (by kernel_rfl)) fun x y h => (val x).trans h
noncomputable def ctxc (n : Nat) : List (Nat × Sig) := [(45, math_bits_Mul.sigc n)]
noncomputable def sigc (n : Nat) : Sig := ⟨ps, rs, fun x => runs (withCtx E (ctxc n)) fin n (.code (bodyOf Try.f32) .ret) (entryFrom 0 ps x)⟩
theorem sigc_le (n : Nat) : ∀ x y, (sigc n).run x = some y → sig.run x = some y := fun x y h => (val x).symm.trans (runs_lim (E := E) (c := ctxc n) (ctxLe_cons ctxLe_nil (math_bits_Mul.sigc_le n)) h)
end slices_Repeat_int_int
namespace money_abs
abbrev ps : List PM := [.pure (.int .i64)]
abbrev rs : List RM := [.pure (.int .u64)]
abbrev R : Type := Option (Int × Unit)
noncomputable def E : Env := { tt := tt, ctx := [], nt := 10, ann := [] }
noncomputable def fin : ASt → R := Kret E Try.f43.results.toList ps rs
noncomputable def Se (n_0 : Int) : R :=
  cond (decide (n_0 < 0))
    (some (IntKind.u64.wrap (0 - IntKind.u64.wrap n_0), ()))
    (some (IntKind.u64.wrap n_0, ()))
theorem se (x : (argTy ps).den) : run E (lim E fin) fin depth (bodyOf Try.f43) .ret (entryFrom 0 ps x) = Se x.1 := by kernel_rfl
end money_abs
noncomputable def money_abs (n_0 : Int) : money_abs.R :=
  money_abs.Se n_0
namespace money_abs
noncomputable def sig : Sig := ⟨ps, rs, fun x => money_abs x.1⟩
theorem val (x : (argTy ps).den) : lim E fin (.code (bodyOf Try.f43) .ret) (entryFrom 0 ps x) = sig.run x := (lim_eq (.code (bodyOf Try.f43) .ret) (entryFrom 0 ps x)).trans (se x)
theorem ok : CallOK Try.prog 43 sig :=
  callOK_of_lim (E := E) mixed tt_ok ctxOk_nil Try.func43 (by kernel_rfl : Try.f43.body = some (bodyOf Try.f43)) Try.ntmps43 (of_decide_eq_true (by kernel_rfl)) (of_decide_eq_true (by kernel_rfl)) fun x y h => (val x).trans h
noncomputable def ctxc (n : Nat) : List (Nat × Sig) := []
noncomputable def sigc (n : Nat) : Sig := ⟨ps, rs, fun x => runs (withCtx E (ctxc n)) fin n (.code (bodyOf Try.f43) .ret) (entryFrom 0 ps x)⟩
theorem sigc_le (n : Nat) : ∀ x y, (sigc n).run x = some y → sig.run x = some y := fun x y h => (val x).symm.trans (runs_lim (E := E) (c := ctxc n) ctxLe_nil h)
end money_abs
namespace math_bits_LeadingZeros64
abbrev ps : List PM := [.pure (.int .u64)]
abbrev rs : List RM := [.pure (.int .i64)]
abbrev R : Type := Option (Int × Unit)
noncomputable def E : Env := { tt := tt, ctx := [(68, math_bits_Len64.sig)], nt := 6, ann := [] }
noncomputable def fin : ASt → R := Kret E Try.f69.results.toList ps rs
noncomputable def Se (x_0 : Int) : R :=
  Option.bind (math_bits_Len64 x_0) fun x1 =>
  some (IntKind.i64.wrap (64 - x1.1), ())
theorem se (x : (argTy ps).den) : run E (lim E fin) fin depth (bodyOf Try.f69) .ret (entryFrom 0 ps x) = Se x.1 := by kernel_rfl
end math_bits_LeadingZeros64
noncomputable def math_bits_LeadingZeros64 (x_0 : Int) : math_bits_LeadingZeros64.R :=
  math_bits_LeadingZeros64.Se x_0
namespace math_bits_LeadingZeros64
noncomputable def sig : Sig := ⟨ps, rs, fun x => math_bits_LeadingZeros64 x.1⟩
theorem val (x : (argTy ps).den) : lim E fin (.code (bodyOf Try.f69) .ret) (entryFrom 0 ps x) = sig.run x := (lim_eq (.code (bodyOf Try.f69) .ret) (entryFrom 0 ps x)).trans (se x)
theorem ok : CallOK Try.prog 69 sig :=
  callOK_of_lim (E := E) mixed tt_ok (ctxOk_cons ctxOk_nil math_bits_Len64.ok Try.func68 (by kernel_rfl) (by kernel_rfl)) Try.func69 (by kernel_rfl : Try.f69.body = some (bodyOf Try.f69)) Try.ntmps69 (of_decide_eq_true (by kernel_rfl)) (of_decide_eq_true (by kernel_rfl)) fun x y h => (val x).trans h
noncomputable def ctxc (n : Nat) : List (Nat × Sig) := [(68, math_bits_Len64.sigc n)]
noncomputable def sigc (n : Nat) : Sig := ⟨ps, rs, fun x => runs (withCtx E (ctxc n)) fin n (.code (bodyOf Try.f69) .ret) (entryFrom 0 ps x)⟩
theorem sigc_le (n : Nat) : ∀ x y, (sigc n).run x = some y → sig.run x = some y := fun x y h => (val x).symm.trans (runs_lim (E := E) (c := ctxc n) (ctxLe_cons ctxLe_nil (math_bits_Len64.sigc_le n)) h)
end math_bits_LeadingZeros64
namespace math_bits_Div64
abbrev ps : List PM := [.pure (.int .u64), .pure (.int .u64), .pure (.int .u64)]
abbrev rs : List RM := [.pure (.int .u64), .pure (.int .u64)]
abbrev R : Type := Option (Int × Int × Unit)
noncomputable def E : Env := { tt := tt, ctx := [(69, math_bits_LeadingZeros64.sig)], nt := 135, ann := [(3, [(0, .keep), (1, .keep), (2, .keep)]), (5, [(0, .keep), (1, .keep), (2, .keep)]), (21, [(2, .keep), (8, .keep), (9, .keep), (10, .keep), (11, .keep), (13, .keep), (14, .keep), (15, .keep)]), (1000017, [(2, .keep), (8, .keep), (9, .keep), (10, .keep), (11, .keep), (13, .keep), (14, .keep), (15, .keep), (16, .keep)]), (18, [(2, .keep), (8, .keep), (9, .keep), (10, .keep), (11, .keep), (13, .keep), (14, .keep), (15, .keep), (16, .keep)]), (28, [(2, .keep), (8, .keep), (14, .keep), (15, .keep), (17, .keep), (18, .keep)]), (1000024, [(2, .keep), (8, .keep), (9, .keep), (10, .keep), (14, .keep), (15, .keep), (16, .keep), (17, .keep), (18, .keep)]), (25, [(2, .keep), (8, .keep), (9, .keep), (10, .keep), (14, .keep), (15, .keep), (16, .keep), (17, .keep), (18, .keep)])] }
noncomputable def c0 : Code := sub [1, 1, 1, 1, 1, 1, 1, 1, 1, 1, 1, 1, 1, 1, 1] (bodyOf Try.f54)
noncomputable def c1 : Code := sub [1, 1, 1, 1, 1, 1, 1, 1, 1, 1, 1, 1, 1, 1, 0, 0, 0] (bodyOf Try.f54)
noncomputable def c2 : Code := sub [1, 1, 1, 1, 1, 1, 1, 1, 1, 1, 1, 1, 1, 1, 1, 1, 1, 1, 1] (bodyOf Try.f54)
noncomputable def c3 : Code := sub [1, 1, 1, 1, 1, 1, 1, 1, 1, 1, 1, 1, 1, 1, 1, 1, 1, 1, 0, 0, 0] (bodyOf Try.f54)
noncomputable def c4 : Code := sub [1, 1] (bodyOf Try.f54)
noncomputable def c5 : Code := sub [1, 1, 1] (bodyOf Try.f54)
noncomputable def c6 : Code := sub [1, 1, 1, 1, 1, 1, 1, 1, 1, 1, 1, 1, 1, 1, 0, 0, 0, 1] (bodyOf Try.f54)
noncomputable def c7 : Code := sub [1, 1, 1, 1, 1, 1, 1, 1, 1, 1, 1, 1, 1, 1, 1, 1, 1, 1, 0, 0, 0, 1] (bodyOf Try.f54)
noncomputable def K19 : Kont := .seq c0 .ret
noncomputable def K20 : Kont := .blk 0 K19
noncomputable def K21 : Kont := .loop c1 K20
noncomputable def K27 : Kont := .seq c2 .ret
noncomputable def K28 : Kont := .blk 2 K27
noncomputable def K29 : Kont := .loop c3 K28
noncomputable def fin : ASt → R := Kret E Try.f54.results.toList ps rs
def tJ0 (hi : Int) (lo : Int) (y : Int) : ASt := ⟨[(2, .one (.val (.int .u64) y)), (1, .one (.val (.int .u64) lo)), (0, .one (.val (.int .u64) hi))], []⟩
def tJ1 (hi : Int) (lo : Int) (y : Int) : ASt := ⟨[(2, .one (.val (.int .u64) y)), (1, .one (.val (.int .u64) lo)), (0, .one (.val (.int .u64) hi))], []⟩
def tJ2 (y : Int) (s : Int) (yn1 : Int) (yn0 : Int) (un32 : Int) (un1 : Int) (un0 : Int) (q1 : Int) : ASt := ⟨[(15, .one (.val (.int .u64) q1)), (14, .one (.val (.int .u64) un0)), (13, .one (.val (.int .u64) un1)), (11, .one (.val (.int .u64) un32)), (10, .one (.val (.int .u64) yn0)), (9, .one (.val (.int .u64) yn1)), (8, .one (.val (.int .u64) s)), (2, .one (.val (.int .u64) y))], []⟩
def tL3 (y : Int) (s : Int) (yn1 : Int) (yn0 : Int) (un32 : Int) (un1 : Int) (un0 : Int) (q1 : Int) (rhat : Int) : ASt := ⟨[(16, .one (.val (.int .u64) rhat)), (15, .one (.val (.int .u64) q1)), (14, .one (.val (.int .u64) un0)), (13, .one (.val (.int .u64) un1)), (11, .one (.val (.int .u64) un32)), (10, .one (.val (.int .u64) yn0)), (9, .one (.val (.int .u64) yn1)), (8, .one (.val (.int .u64) s)), (2, .one (.val (.int .u64) y))], []⟩
def tJ4 (y : Int) (s : Int) (yn1 : Int) (yn0 : Int) (un32 : Int) (un1 : Int) (un0 : Int) (q1 : Int) (rhat : Int) : ASt := ⟨[(16, .one (.val (.int .u64) rhat)), (15, .one (.val (.int .u64) q1)), (14, .one (.val (.int .u64) un0)), (13, .one (.val (.int .u64) un1)), (11, .one (.val (.int .u64) un32)), (10, .one (.val (.int .u64) yn0)), (9, .one (.val (.int .u64) yn1)), (8, .one (.val (.int .u64) s)), (2, .one (.val (.int .u64) y))], []⟩
def tJ5 (y : Int) (s : Int) (un0 : Int) (q1 : Int) (un21 : Int) (q0 : Int) : ASt := ⟨[(18, .one (.val (.int .u64) q0)), (17, .one (.val (.int .u64) un21)), (15, .one (.val (.int .u64) q1)), (14, .one (.val (.int .u64) un0)), (8, .one (.val (.int .u64) s)), (2, .one (.val (.int .u64) y))], []⟩
def tL6 (y : Int) (s : Int) (yn1 : Int) (yn0 : Int) (un0 : Int) (q1 : Int) (rhat : Int) (un21 : Int) (q0 : Int) : ASt := ⟨[(18, .one (.val (.int .u64) q0)), (17, .one (.val (.int .u64) un21)), (16, .one (.val (.int .u64) rhat)), (15, .one (.val (.int .u64) q1)), (14, .one (.val (.int .u64) un0)), (10, .one (.val (.int .u64) yn0)), (9, .one (.val (.int .u64) yn1)), (8, .one (.val (.int .u64) s)), (2, .one (.val (.int .u64) y))], []⟩
def tJ7 (y : Int) (s : Int) (yn1 : Int) (yn0 : Int) (un0 : Int) (q1 : Int) (rhat : Int) (un21 : Int) (q0 : Int) : ASt := ⟨[(18, .one (.val (.int .u64) q0)), (17, .one (.val (.int .u64) un21)), (16, .one (.val (.int .u64) rhat)), (15, .one (.val (.int .u64) q1)), (14, .one (.val (.int .u64) un0)), (10, .one (.val (.int .u64) yn0)), (9, .one (.val (.int .u64) yn1)), (8, .one (.val (.int .u64) s)), (2, .one (.val (.int .u64) y))], []⟩
noncomputable def J0 (hi : Int) (lo : Int) (y : Int) : R := lim E fin (.code c4 .ret) (tJ0 hi lo y)
noncomputable def J1 (hi : Int) (lo : Int) (y : Int) : R := lim E fin (.code c5 .ret) (tJ1 hi lo y)
noncomputable def J2 (y : Int) (s : Int) (yn1 : Int) (yn0 : Int) (un32 : Int) (un1 : Int) (un0 : Int) (q1 : Int) : R := lim E fin (.code c0 .ret) (tJ2 y s yn1 yn0 un32 un1 un0 q1)
noncomputable def L3 (y : Int) (s : Int) (yn1 : Int) (yn0 : Int) (un32 : Int) (un1 : Int) (un0 : Int) (q1 : Int) (rhat : Int) : R := lim E fin (.loop c1 K20) (tL3 y s yn1 yn0 un32 un1 un0 q1 rhat)
noncomputable def J4 (y : Int) (s : Int) (yn1 : Int) (yn0 : Int) (un32 : Int) (un1 : Int) (un0 : Int) (q1 : Int) (rhat : Int) : R := lim E fin (.code c6 K21) (tJ4 y s yn1 yn0 un32 un1 un0 q1 rhat)
noncomputable def J5 (y : Int) (s : Int) (un0 : Int) (q1 : Int) (un21 : Int) (q0 : Int) : R := lim E fin (.code c2 .ret) (tJ5 y s un0 q1 un21 q0)
noncomputable def L6 (y : Int) (s : Int) (yn1 : Int) (yn0 : Int) (un0 : Int) (q1 : Int) (rhat : Int) (un21 : Int) (q0 : Int) : R := lim E fin (.loop c3 K28) (tL6 y s yn1 yn0 un0 q1 rhat un21 q0)
noncomputable def J7 (y : Int) (s : Int) (yn1 : Int) (yn0 : Int) (un0 : Int) (q1 : Int) (rhat : Int) (un21 : Int) (q0 : Int) : R := lim E fin (.code c7 K29) (tJ7 y s yn1 yn0 un0 q1 rhat un21 q0)
noncomputable def SJ0 (hi : Int) (lo : Int) (y : Int) : R :=
  cond (decide (y ≤ hi))
    none
    (J1 hi lo y)
noncomputable def SJ1 (hi : Int) (lo : Int) (y : Int) : R :=
  cond (hi == 0)
    (cond (decide (y = 0))
      none
      (cond (decide (y = 0))
        none
        (some (IntKind.u64.wrap (Int.tdiv lo y), (Int.tmod lo y), ()))))
    (Option.bind (math_bits_LeadingZeros64 y) fun x1 =>
    cond (decide (IntKind.u64.wrap x1.1 < 0))
      none
      (cond (decide (IntKind.u64.wrap x1.1 < 0))
        none
        (cond (decide (IntKind.u64.wrap (64 - (IntKind.u64.wrap x1.1)) < 0))
          none
          (cond (decide (IntKind.u64.wrap x1.1 < 0))
            none
            (cond (decide ((Int.fdiv (IntKind.u64.wrap (y * 2 ^ (min (IntKind.u64.wrap x1.1).toNat IntKind.u64.bits))) (2 ^ (min 32 IntKind.u64.bits))) = 0))
              none
              (L3 (IntKind.u64.wrap (y * 2 ^ (min (IntKind.u64.wrap x1.1).toNat IntKind.u64.bits))) (IntKind.u64.wrap x1.1) (Int.fdiv (IntKind.u64.wrap (y * 2 ^ (min (IntKind.u64.wrap x1.1).toNat IntKind.u64.bits))) (2 ^ (min 32 IntKind.u64.bits))) (IntKind.u64.wrap (BitVec.ofInt IntKind.u64.bits (IntKind.u64.wrap (y * 2 ^ (min (IntKind.u64.wrap x1.1).toNat IntKind.u64.bits))) &&& BitVec.ofInt IntKind.u64.bits 4294967295).toNat) (IntKind.u64.wrap (BitVec.ofInt IntKind.u64.bits (IntKind.u64.wrap (hi * 2 ^ (min (IntKind.u64.wrap x1.1).toNat IntKind.u64.bits))) ||| BitVec.ofInt IntKind.u64.bits (Int.fdiv lo (2 ^ (min (IntKind.u64.wrap (64 - (IntKind.u64.wrap x1.1))).toNat IntKind.u64.bits)))).toNat) (Int.fdiv (IntKind.u64.wrap (lo * 2 ^ (min (IntKind.u64.wrap x1.1).toNat IntKind.u64.bits))) (2 ^ (min 32 IntKind.u64.bits))) (IntKind.u64.wrap (BitVec.ofInt IntKind.u64.bits (IntKind.u64.wrap (lo * 2 ^ (min (IntKind.u64.wrap x1.1).toNat IntKind.u64.bits))) &&& BitVec.ofInt IntKind.u64.bits 4294967295).toNat) (IntKind.u64.wrap (Int.tdiv (IntKind.u64.wrap (BitVec.ofInt IntKind.u64.bits (IntKind.u64.wrap (hi * 2 ^ (min (IntKind.u64.wrap x1.1).toNat IntKind.u64.bits))) ||| BitVec.ofInt IntKind.u64.bits (Int.fdiv lo (2 ^ (min (IntKind.u64.wrap (64 - (IntKind.u64.wrap x1.1))).toNat IntKind.u64.bits)))).toNat) (Int.fdiv (IntKind.u64.wrap (y * 2 ^ (min (IntKind.u64.wrap x1.1).toNat IntKind.u64.bits))) (2 ^ (min 32 IntKind.u64.bits))))) (IntKind.u64.wrap ((IntKind.u64.wrap (BitVec.ofInt IntKind.u64.bits (IntKind.u64.wrap (hi * 2 ^ (min (IntKind.u64.wrap x1.1).toNat IntKind.u64.bits))) ||| BitVec.ofInt IntKind.u64.bits (Int.fdiv lo (2 ^ (min (IntKind.u64.wrap (64 - (IntKind.u64.wrap x1.1))).toNat IntKind.u64.bits)))).toNat) - (IntKind.u64.wrap ((IntKind.u64.wrap (Int.tdiv (IntKind.u64.wrap (BitVec.ofInt IntKind.u64.bits (IntKind.u64.wrap (hi * 2 ^ (min (IntKind.u64.wrap x1.1).toNat IntKind.u64.bits))) ||| BitVec.ofInt IntKind.u64.bits (Int.fdiv lo (2 ^ (min (IntKind.u64.wrap (64 - (IntKind.u64.wrap x1.1))).toNat IntKind.u64.bits)))).toNat) (Int.fdiv (IntKind.u64.wrap (y * 2 ^ (min (IntKind.u64.wrap x1.1).toNat IntKind.u64.bits))) (2 ^ (min 32 IntKind.u64.bits))))) * (Int.fdiv (IntKind.u64.wrap (y * 2 ^ (min (IntKind.u64.wrap x1.1).toNat IntKind.u64.bits))) (2 ^ (min 32 IntKind.u64.bits)))))))))))))
noncomputable def SJ2 (y : Int) (s : Int) (yn1 : Int) (yn0 : Int) (un32 : Int) (un1 : Int) (un0 : Int) (q1 : Int) : R :=
  cond (decide (yn1 = 0))
    none
    (L6 y s yn1 yn0 un0 q1 (IntKind.u64.wrap ((IntKind.u64.wrap ((IntKind.u64.wrap ((IntKind.u64.wrap (un32 * 4294967296)) + un1)) - (IntKind.u64.wrap (q1 * y)))) - (IntKind.u64.wrap ((IntKind.u64.wrap (Int.tdiv (IntKind.u64.wrap ((IntKind.u64.wrap ((IntKind.u64.wrap (un32 * 4294967296)) + un1)) - (IntKind.u64.wrap (q1 * y)))) yn1)) * yn1)))) (IntKind.u64.wrap ((IntKind.u64.wrap ((IntKind.u64.wrap (un32 * 4294967296)) + un1)) - (IntKind.u64.wrap (q1 * y)))) (IntKind.u64.wrap (Int.tdiv (IntKind.u64.wrap ((IntKind.u64.wrap ((IntKind.u64.wrap (un32 * 4294967296)) + un1)) - (IntKind.u64.wrap (q1 * y)))) yn1)))
noncomputable def SL3 (y : Int) (s : Int) (yn1 : Int) (yn0 : Int) (un32 : Int) (un1 : Int) (un0 : Int) (q1 : Int) (rhat : Int) : R :=
  cond (decide (q1 ≥ 4294967296))
    (J4 y s yn1 yn0 un32 un1 un0 q1 rhat)
    (cond (decide ((IntKind.u64.wrap (q1 * yn0)) > (IntKind.u64.wrap ((IntKind.u64.wrap (4294967296 * rhat)) + un1))))
      (J4 y s yn1 yn0 un32 un1 un0 q1 rhat)
      (J2 y s yn1 yn0 un32 un1 un0 q1))
noncomputable def SJ4 (y : Int) (s : Int) (yn1 : Int) (yn0 : Int) (un32 : Int) (un1 : Int) (un0 : Int) (q1 : Int) (rhat : Int) : R :=
  cond (decide ((IntKind.u64.wrap (rhat + yn1)) ≥ 4294967296))
    (J2 y s yn1 yn0 un32 un1 un0 (IntKind.u64.wrap (q1 - 1)))
    (L3 y s yn1 yn0 un32 un1 un0 (IntKind.u64.wrap (q1 - 1)) (IntKind.u64.wrap (rhat + yn1)))
noncomputable def SJ5 (y : Int) (s : Int) (un0 : Int) (q1 : Int) (un21 : Int) (q0 : Int) : R :=
  cond (decide (s < 0))
    none
    (some (IntKind.u64.wrap ((IntKind.u64.wrap (q1 * 4294967296)) + q0), (Int.fdiv (IntKind.u64.wrap ((IntKind.u64.wrap ((IntKind.u64.wrap (un21 * 4294967296)) + un0)) - (IntKind.u64.wrap (q0 * y)))) (2 ^ (min s.toNat IntKind.u64.bits))), ()))
noncomputable def SL6 (y : Int) (s : Int) (yn1 : Int) (yn0 : Int) (un0 : Int) (q1 : Int) (rhat : Int) (un21 : Int) (q0 : Int) : R :=
  cond (decide (q0 ≥ 4294967296))
    (J7 y s yn1 yn0 un0 q1 rhat un21 q0)
    (cond (decide ((IntKind.u64.wrap (q0 * yn0)) > (IntKind.u64.wrap ((IntKind.u64.wrap (4294967296 * rhat)) + un0))))
      (J7 y s yn1 yn0 un0 q1 rhat un21 q0)
      (J5 y s un0 q1 un21 q0))
noncomputable def SJ7 (y : Int) (s : Int) (yn1 : Int) (yn0 : Int) (un0 : Int) (q1 : Int) (rhat : Int) (un21 : Int) (q0 : Int) : R :=
  cond (decide ((IntKind.u64.wrap (rhat + yn1)) ≥ 4294967296))
    (J5 y s un0 q1 un21 (IntKind.u64.wrap (q0 - 1)))
    (L6 y s yn1 yn0 un0 q1 (IntKind.u64.wrap (rhat + yn1)) un21 (IntKind.u64.wrap (q0 - 1)))
noncomputable def Se (hi : Int) (lo : Int) (y : Int) : R :=
  cond (y == 0)
    none
    (J0 hi lo y)
theorem J0_eq (hi lo y) : J0 hi lo y = SJ0 hi lo y := (lim_eq (.code c4 .ret) (tJ0 hi lo y)).trans (by kernel_rfl)
theorem J1_eq (hi lo y) : J1 hi lo y = SJ1 hi lo y := (lim_eq (.code c5 .ret) (tJ1 hi lo y)).trans (by kernel_rfl)
theorem J2_eq (y s yn1 yn0 un32 un1 un0 q1) : J2 y s yn1 yn0 un32 un1 un0 q1 = SJ2 y s yn1 yn0 un32 un1 un0 q1 := (lim_eq (.code c0 .ret) (tJ2 y s yn1 yn0 un32 un1 un0 q1)).trans (by kernel_rfl)
theorem L3_eq (y s yn1 yn0 un32 un1 un0 q1 rhat) : L3 y s yn1 yn0 un32 un1 un0 q1 rhat = SL3 y s yn1 yn0 un32 un1 un0 q1 rhat := (lim_eq (.loop c1 K20) (tL3 y s yn1 yn0 un32 un1 un0 q1 rhat)).trans (by kernel_rfl)
theorem J4_eq (y s yn1 yn0 un32 un1 un0 q1 rhat) : J4 y s yn1 yn0 un32 un1 un0 q1 rhat = SJ4 y s yn1 yn0 un32 un1 un0 q1 rhat := (lim_eq (.code c6 K21) (tJ4 y s yn1 yn0 un32 un1 un0 q1 rhat)).trans (by kernel_rfl)
theorem J5_eq (y s un0 q1 un21 q0) : J5 y s un0 q1 un21 q0 = SJ5 y s un0 q1 un21 q0 := (lim_eq (.code c2 .ret) (tJ5 y s un0 q1 un21 q0)).trans (by kernel_rfl)
theorem L6_eq (y s yn1 yn0 un0 q1 rhat un21 q0) : L6 y s yn1 yn0 un0 q1 rhat un21 q0 = SL6 y s yn1 yn0 un0 q1 rhat un21 q0 := (lim_eq (.loop c3 K28) (tL6 y s yn1 yn0 un0 q1 rhat un21 q0)).trans (by kernel_rfl)
theorem J7_eq (y s yn1 yn0 un0 q1 rhat un21 q0) : J7 y s yn1 yn0 un0 q1 rhat un21 q0 = SJ7 y s yn1 yn0 un0 q1 rhat un21 q0 := (lim_eq (.code c7 K29) (tJ7 y s yn1 yn0 un0 q1 rhat un21 q0)).trans (by kernel_rfl)
theorem se (x : (argTy ps).den) : run E (lim E fin) fin depth (bodyOf Try.f54) .ret (entryFrom 0 ps x) = Se x.1 x.2.1 x.2.2.1 := by kernel_rfl
end math_bits_Div64
noncomputable def math_bits_Div64 (hi : Int) (lo : Int) (y : Int) : math_bits_Div64.R :=
  math_bits_Div64.Se hi lo y
namespace math_bits_Div64
noncomputable def sig : Sig := ⟨ps, rs, fun x => math_bits_Div64 x.1 x.2.1 x.2.2.1⟩
theorem val (x : (argTy ps).den) : lim E fin (.code (bodyOf Try.f54) .ret) (entryFrom 0 ps x) = sig.run x := (lim_eq (.code (bodyOf Try.f54) .ret) (entryFrom 0 ps x)).trans (se x)
theorem ok : CallOK Try.prog 54 sig :=
  callOK_of_lim (E := E) mixed tt_ok (ctxOk_cons ctxOk_nil math_bits_LeadingZeros64.ok Try.func69 (by kernel_rfl) (by kernel_rfl)) Try.func54 (by kernel_rfl : Try.f54.body = some (bodyOf Try.f54)) Try.ntmps54 (of_decide_eq_true (by kernel_rfl)) (of_decide_eq_true (by kernel_rfl)) fun x y h => (val x).trans h
noncomputable def ctxc (n : Nat) : List (Nat × Sig) := [(69, math_bits_LeadingZeros64.sigc n)]
noncomputable def sigc (n : Nat) : Sig := ⟨ps, rs, fun x => runs (withCtx E (ctxc n)) fin n (.code (bodyOf Try.f54) .ret) (entryFrom 0 ps x)⟩
theorem sigc_le (n : Nat) : ∀ x y, (sigc n).run x = some y → sig.run x = some y := fun x y h => (val x).symm.trans (runs_lim (E := E) (c := ctxc n) (ctxLe_cons ctxLe_nil (math_bits_LeadingZeros64.sigc_le n)) h)
end math_bits_Div64
namespace cmp_isNaN_uint64
abbrev ps : List PM := [.pure (.int .u64)]
abbrev rs : List RM := [.pure .bool]
abbrev R : Type := Option (Bool × Unit)
noncomputable def E : Env := { tt := tt, ctx := [], nt := 6, ann := [] }
noncomputable def fin : ASt → R := Kret E Try.f71.results.toList ps rs
noncomputable def Se (x_0 : Int) : R :=
  some ((x_0 != x_0), ())
theorem se (x : (argTy ps).den) : run E (lim E fin) fin depth (bodyOf Try.f71) .ret (entryFrom 0 ps x) = Se x.1 := by kernel_rfl
end cmp_isNaN_uint64
noncomputable def cmp_isNaN_uint64 (x_0 : Int) : cmp_isNaN_uint64.R :=
  cmp_isNaN_uint64.Se x_0
namespace cmp_isNaN_uint64
noncomputable def sig : Sig := ⟨ps, rs, fun x => cmp_isNaN_uint64 x.1⟩
theorem val (x : (argTy ps).den) : lim E fin (.code (bodyOf Try.f71) .ret) (entryFrom 0 ps x) = sig.run x := (lim_eq (.code (bodyOf Try.f71) .ret) (entryFrom 0 ps x)).trans (se x)
theorem ok : CallOK Try.prog 71 sig :=
  callOK_of_lim (E := E) mixed tt_ok ctxOk_nil Try.func71 (by kernel_rfl : Try.f71.body = some (bodyOf Try.f71)) Try.ntmps71 (of_decide_eq_true (by kernel_rfl)) (of_decide_eq_true (by kernel_rfl)) fun x y h => (val x).trans h
noncomputable def ctxc (n : Nat) : List (Nat × Sig) := []
noncomputable def sigc (n : Nat) : Sig := ⟨ps, rs, fun x => runs (withCtx E (ctxc n)) fin n (.code (bodyOf Try.f71) .ret) (entryFrom 0 ps x)⟩
theorem sigc_le (n : Nat) : ∀ x y, (sigc n).run x = some y → sig.run x = some y := fun x y h => (val x).symm.trans (runs_lim (E := E) (c := ctxc n) ctxLe_nil h)
end cmp_isNaN_uint64
namespace cmp_Compare_uint64
abbrev ps : List PM := [.pure (.int .u64), .pure (.int .u64)]
abbrev rs : List RM := [.pure (.int .i64)]
abbrev R : Type := Option (Int × Unit)
noncomputable def E : Env := { tt := tt, ctx := [(71, cmp_isNaN_uint64.sig)], nt := 20, ann := [] }
noncomputable def fin : ASt → R := Kret E Try.f57.results.toList ps rs
noncomputable def Se (x_0 : Int) (y : Int) : R :=
  Option.bind (cmp_isNaN_uint64 x_0) fun x1 =>
  Option.bind (cmp_isNaN_uint64 y) fun x2 =>
  cond x1.1
    (cond x2.1
      (some (0, ()))
      (some ((-1), ())))
    (cond x2.1
      (some (1, ()))
      (cond (decide (x_0 < y))
        (some ((-1), ()))
        (cond (decide (x_0 > y))
          (some (1, ()))
          (some (0, ())))))
theorem se (x : (argTy ps).den) : run E (lim E fin) fin depth (bodyOf Try.f57) .ret (entryFrom 0 ps x) = Se x.1 x.2.1 := by kernel_rfl
end cmp_Compare_uint64
noncomputable def cmp_Compare_uint64 (x_0 : Int) (y : Int) : cmp_Compare_uint64.R :=
  cmp_Compare_uint64.Se x_0 y
namespace cmp_Compare_uint64
noncomputable def sig : Sig := ⟨ps, rs, fun x => cmp_Compare_uint64 x.1 x.2.1⟩
theorem val (x : (argTy ps).den) : lim E fin (.code (bodyOf Try.f57) .ret) (entryFrom 0 ps x) = sig.run x := (lim_eq (.code (bodyOf Try.f57) .ret) (entryFrom 0 ps x)).trans (se x)
theorem ok : CallOK Try.prog 57 sig :=
  callOK_of_lim (E := E) mixed tt_ok (ctxOk_cons ctxOk_nil cmp_isNaN_uint64.ok Try.func71 (by kernel_rfl) (by kernel_rfl)) Try.func57 (by kernel_rfl : Try.f57.body = some (bodyOf Try.f57)) Try.ntmps57 (of_decide_eq_true (by kernel_rfl)) (of_decide_eq_true (by kernel_rfl)) fun x y h => (val x).trans h
noncomputable def ctxc (n : Nat) : List (Nat × Sig) := [(71, cmp_isNaN_uint64.sigc n)]
noncomputable def sigc (n : Nat) : Sig := ⟨ps, rs, fun x => runs (withCtx E (ctxc n)) fin n (.code (bodyOf Try.f57) .ret) (entryFrom 0 ps x)⟩
theorem sigc_le (n : Nat) : ∀ x y, (sigc n).run x = some y → sig.run x = some y := fun x y h => (val x).symm.trans (runs_lim (E := E) (c := ctxc n) (ctxLe_cons ctxLe_nil (cmp_isNaN_uint64.sigc_le n)) h)
end cmp_Compare_uint64
namespace money_shares_1
abbrev ps : List PM := [.pure money_part, .pure money_part]
abbrev rs : List RM := [.pure (.int .i64)]
abbrev R : Type := Option (Int × Unit)
noncomputable def E : Env := { tt := tt, ctx := [(57, cmp_Compare_uint64.sig)], nt := 10, ann := [] }
noncomputable def fin : ASt → R := Kret E Try.f56.results.toList ps rs
noncomputable def Se (a : money_partV) (b : money_partV) : R :=
  Option.bind (cmp_Compare_uint64 b.2.1 a.2.1) fun x1 =>
  some (x1.1, ())
theorem se (x : (argTy ps).den) : run E (lim E fin) fin depth (bodyOf Try.f56) .ret (entryFrom 0 ps x) = Se x.1 x.2.1 := by kernel_rfl
end money_shares_1
noncomputable def money_shares_1 (a : money_partV) (b : money_partV) : money_shares_1.R :=
  money_shares_1.Se a b
namespace money_shares_1
noncomputable def sig : Sig := ⟨ps, rs, fun x => money_shares_1 x.1 x.2.1⟩
theorem val (x : (argTy ps).den) : lim E fin (.code (bodyOf Try.f56) .ret) (entryFrom 0 ps x) = sig.run x := (lim_eq (.code (bodyOf Try.f56) .ret) (entryFrom 0 ps x)).trans (se x)
theorem ok : CallOK Try.prog 56 sig :=
  callOK_of_lim (E := E) mixed tt_ok (ctxOk_cons ctxOk_nil cmp_Compare_uint64.ok Try.func57 (by kernel_rfl) (by kernel_rfl)) Try.func56 (by kernel_rfl : Try.f56.body = some (bodyOf Try.f56)) Try.ntmps56 (of_decide_eq_true (by kernel_rfl)) (of_decide_eq_true (by kernel_rfl)) fun x y h => (val x).trans h
noncomputable def ctxc (n : Nat) : List (Nat × Sig) := [(57, cmp_Compare_uint64.sigc n)]
noncomputable def sigc (n : Nat) : Sig := ⟨ps, rs, fun x => runs (withCtx E (ctxc n)) fin n (.code (bodyOf Try.f56) .ret) (entryFrom 0 ps x)⟩
theorem sigc_le (n : Nat) : ∀ x y, (sigc n).run x = some y → sig.run x = some y := fun x y h => (val x).symm.trans (runs_lim (E := E) (c := ctxc n) (ctxLe_cons ctxLe_nil (cmp_Compare_uint64.sigc_le n)) h)
end money_shares_1
end Go.Proofs.Ytphpegconhdnfaa
