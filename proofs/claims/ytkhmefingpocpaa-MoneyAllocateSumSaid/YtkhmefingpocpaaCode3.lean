/- The functions of the program as typed Lean functions, with the proof that they are what the code computes. -/
import Derived.Test.YtkhmefingpocpaaCode2
set_option maxRecDepth 100000
set_option linter.unusedVariables false
namespace Go.Proofs.Ytkhmefingpocpaa
open Go Go.Lift

/-! ### guerdon/guerdonlaw02.MoneyAllocate -/
namespace law02_MoneyAllocate
abbrev ps : List PM := [.pure (.int .i64), .pure (.sl (.int .i64))]
abbrev rs : List RM := [.pure .bool]
abbrev R : Type := Option (Bool × Unit)
noncomputable def E : Env := { tt := tt, ctx := [(12, law02_awake.sig), (17, money_Allocate.sig), (18, ref02_Allocate.sig), (19, same_Ints.sig)], nt := 36, ann := [] }
noncomputable def fin : ASt → R := Kret E Try.f6.results.toList ps rs
noncomputable def Se (c_0 : Int) (weights : List Int) : R :=
  cond (decide ((weights.length : Int) > 80))
    (Option.bind law02_awake fun x1 =>
    some (x1.1, ()))
    (Option.bind (money_Allocate c_0 weights) fun x2 =>
    Option.bind (ref02_Allocate c_0 weights) fun x3 =>
    Option.bind (same_Ints x2.1 x3.1) fun x4 =>
    cond x4.1
      (cond (x2.2.1 == x3.2.1)
        (Option.bind law02_awake fun x5 =>
        some (x5.1, ()))
        (some (false, ())))
      (some (false, ())))
theorem se (jmp : Tgt → ASt → R) (x : (argTy ps).den) : run E jmp fin depth (bodyOf Try.f6) .ret (entryFrom 0 ps x) =
    Se x.1 x.2.1 := by kernel_rfl
end law02_MoneyAllocate
noncomputable def law02_MoneyAllocate (c_0 : Int) (weights : List Int) : law02_MoneyAllocate.R :=
  law02_MoneyAllocate.Se c_0 weights
noncomputable def law02_MoneyAllocate.sig : Sig := ⟨law02_MoneyAllocate.ps, law02_MoneyAllocate.rs, fun x => law02_MoneyAllocate x.1 x.2.1⟩
theorem law02_MoneyAllocate.ok : CallOK Try.prog 6 law02_MoneyAllocate.sig :=
  callOK_of_lim (E := law02_MoneyAllocate.E) mixed tt_ok (ctxOk_cons (ctxOk_cons (ctxOk_cons (ctxOk_cons ctxOk_nil same_Ints.ok Try.func19 (by kernel_rfl) (by kernel_rfl)) ref02_Allocate.ok Try.func18 (by kernel_rfl) (by kernel_rfl)) money_Allocate.ok Try.func17 (by kernel_rfl) (by kernel_rfl)) law02_awake.ok Try.func12 (by kernel_rfl) (by kernel_rfl)) Try.func6 (by kernel_rfl : Try.f6.body = some (bodyOf Try.f6)) Try.ntmps6 (of_decide_eq_true (by kernel_rfl)) (of_decide_eq_true (by kernel_rfl))
    fun x y h => ((lim_eq (.code (bodyOf Try.f6) .ret) (entryFrom 0 law02_MoneyAllocate.ps x)).trans (law02_MoneyAllocate.se (lim law02_MoneyAllocate.E law02_MoneyAllocate.fin) x)).trans h
theorem law02_MoneyAllocate.val (x : (argTy law02_MoneyAllocate.ps).den) : lim law02_MoneyAllocate.E law02_MoneyAllocate.fin (.code (bodyOf Try.f6) .ret) (entryFrom 0 law02_MoneyAllocate.ps x) = law02_MoneyAllocate.sig.run x :=
  (lim_eq (.code (bodyOf Try.f6) .ret) (entryFrom 0 law02_MoneyAllocate.ps x)).trans (law02_MoneyAllocate.se (lim law02_MoneyAllocate.E law02_MoneyAllocate.fin) x)
noncomputable def law02_MoneyAllocate.ctxc (n : Nat) : List (Nat × Sig) := [(12, law02_awake.sigc n), (17, money_Allocate.sigc n), (18, ref02_Allocate.sigc n), (19, same_Ints.sigc n)]
noncomputable def law02_MoneyAllocate.sigc (n : Nat) : Sig := ⟨law02_MoneyAllocate.ps, law02_MoneyAllocate.rs, fun x => runs (withCtx law02_MoneyAllocate.E (law02_MoneyAllocate.ctxc n)) law02_MoneyAllocate.fin n (.code (bodyOf Try.f6) .ret) (entryFrom 0 law02_MoneyAllocate.ps x)⟩
theorem law02_MoneyAllocate.sigc_le (n : Nat) : ∀ x y, (law02_MoneyAllocate.sigc n).run x = some y → law02_MoneyAllocate.sig.run x = some y :=
  fun x y h => (law02_MoneyAllocate.val x).symm.trans (runs_lim (E := law02_MoneyAllocate.E) (c := law02_MoneyAllocate.ctxc n) (ctxLe_cons (ctxLe_cons (ctxLe_cons (ctxLe_cons ctxLe_nil (same_Ints.sigc_le n)) (ref02_Allocate.sigc_le n)) (money_Allocate.sigc_le n)) (law02_awake.sigc_le n)) h)

/-! ### guerdon/guerdonlaw02.MoneyAllocateSum -/
namespace law02_MoneyAllocateSum
abbrev ps : List PM := [.pure (.int .i64), .pure (.sl (.int .i64))]
abbrev rs : List RM := [.pure .bool]
abbrev R : Type := Option (Bool × Unit)
noncomputable def E : Env := { tt := tt, ctx := [(12, law02_awake.sig), (17, money_Allocate.sig), (20, ref02_Beyond.sig), (21, ref02_Abs.sig)], nt := 151, ann := [(1000010, [(0, .keep), (1, .keep), (5, .keep), (7, .keep), (8, .keep)]), (14, [(0, .keep), (1, .keep), (5, .keep), (7, .keep), (8, .keep)]), (1000016, [(0, .keep), (1, .keep), (5, .keep), (7, .keep), (8, .keep), (9, .keep)])] }
noncomputable def c0 : Code := sub [1, 1, 1, 1, 1, 1, 1] (bodyOf Try.f7)
noncomputable def c1 : Code := sub [1, 1, 1, 1, 1, 1, 0, 1, 0, 0] (bodyOf Try.f7)
noncomputable def c2 : Code := sub [1, 1, 1, 1, 1, 1, 0, 1, 0, 0, 1, 1] (bodyOf Try.f7)
noncomputable def c3 : Code := sub [1, 1, 1, 1, 1, 1, 0, 1, 0, 0, 1, 0, 0, 1] (bodyOf Try.f7)
noncomputable def c4 : Code := sub [1, 1, 1, 1, 1, 1, 0, 1, 0, 0, 1, 0, 0, 1, 1, 1, 0, 0] (bodyOf Try.f7)
noncomputable def K13 : Kont := .seq c0 .ret
noncomputable def K15 : Kont := .blk 0 K13
noncomputable def K16 : Kont := .loop c1 K15
noncomputable def K19 : Kont := .seq c2 K16
noncomputable def K20 : Kont := .blk 1 K19
noncomputable def K27 : Kont := .blk 2 K20
noncomputable def fin : ASt → R := Kret E Try.f7.results.toList ps rs
def tL0 (c_0 : Int) (weights : List Int) (l : List Int) (sum : Int) (i : Int) : ASt := ⟨[(8, .one (.val (.int .i64) i)), (7, .one (.val (.int .i64) sum)), (5, .one (.own 5)), (1, .one (.val (.sl (.int .i64)) weights)), (0, .one (.val (.int .i64) c_0))], [(5, some ⟨.free, .int .i64, l⟩)]⟩
def tJ1 (c_0 : Int) (weights : List Int) (l : List Int) (sum : Int) (i : Int) : ASt := ⟨[(8, .one (.val (.int .i64) i)), (7, .one (.val (.int .i64) sum)), (5, .one (.own 5)), (1, .one (.val (.sl (.int .i64)) weights)), (0, .one (.val (.int .i64) c_0))], [(5, some ⟨.free, .int .i64, l⟩)]⟩
def tL2 (c_0 : Int) (weights : List Int) (l : List Int) (sum : Int) (i : Int) (k : Int) : ASt := ⟨[(9, .one (.val (.int .i64) k)), (8, .one (.val (.int .i64) i)), (7, .one (.val (.int .i64) sum)), (5, .one (.own 5)), (1, .one (.val (.sl (.int .i64)) weights)), (0, .one (.val (.int .i64) c_0))], [(5, some ⟨.free, .int .i64, l⟩)]⟩
noncomputable def SL0 (kJ1 : Int → (List Int) → (List Int) → Int → Int → R) (c_0 : Int) (weights : List Int) (l : List Int) (sum : Int) (i : Int) : R :=
  cond (decide (i < (l.length : Int)))
    (cond (decide (0 ≤ i) && decide (i < (l.length : Int)))
      (Option.bind (ref02_Beyond (l.getD i.toNat 0) 1000000000000000) fun x1 =>
      cond x1.1
        (some (false, ()))
        (cond (decide (0 ≤ i) && decide (i < (l.length : Int)))
          (cond ((l.getD i.toNat 0) != 0)
            (cond (decide (0 ≤ i) && decide (i < (l.length : Int)))
              (cond (!((decide ((l.getD i.toNat 0) < 0)) == (decide (c_0 < 0))))
                (some (false, ()))
                (Option.bind (idx weights i) fun x2 =>
                cond (x2 == 0)
                  (cond (decide (0 ≤ i) && decide (i < (l.length : Int)))
                    (cond ((l.getD i.toNat 0) != 0)
                      (some (false, ()))
                      (kJ1 c_0 weights l sum i))
                    none)
                  (kJ1 c_0 weights l sum i)))
              none)
            (Option.bind (idx weights i) fun x3 =>
            cond (x3 == 0)
              (cond (decide (0 ≤ i) && decide (i < (l.length : Int)))
                (cond ((l.getD i.toNat 0) != 0)
                  (some (false, ()))
                  (kJ1 c_0 weights l sum i))
                none)
              (kJ1 c_0 weights l sum i)))
          none))
      none)
    (cond (sum == c_0)
      (Option.bind law02_awake fun x4 =>
      some (x4.1, ()))
      (some (false, ())))
noncomputable def SJ1 (kL2 : Int → (List Int) → (List Int) → Int → Int → Int → R) (c_0 : Int) (weights : List Int) (l : List Int) (sum : Int) (i : Int) : R :=
  cond (decide (0 ≤ i) && decide (i < (l.length : Int)))
    (kL2 c_0 weights l (IntKind.i64.wrap (sum + (l.getD i.toNat 0))) i 0)
    none
noncomputable def SL2 (kL2 : Int → (List Int) → (List Int) → Int → Int → Int → R) (kL0 : Int → (List Int) → (List Int) → Int → Int → R) (c_0 : Int) (weights : List Int) (l : List Int) (sum : Int) (i : Int) (k : Int) : R :=
  cond (decide (k < i))
    (cond (decide (0 ≤ k) && decide (k < (l.length : Int)))
      (Option.bind (ref02_Abs (l.getD k.toNat 0)) fun x1 =>
      cond (decide (0 ≤ i) && decide (i < (l.length : Int)))
        (Option.bind (ref02_Abs (l.getD i.toNat 0)) fun x2 =>
        Option.bind (idx weights k) fun x3 =>
        Option.bind (idx weights i) fun x4 =>
        cond (decide (x3 ≥ x4))
          (cond (decide (x1.1 < x2.1))
            (some (false, ()))
            (Option.bind (idx weights i) fun x5 =>
            Option.bind (idx weights k) fun x6 =>
            cond (decide (x5 > x6))
              (cond (decide (x2.1 < x1.1))
                (some (false, ()))
                (Option.bind (idx weights i) fun x7 =>
                Option.bind (idx weights k) fun x8 =>
                cond (x7 == x8)
                  (cond (decide ((IntKind.i64.wrap (x1.1 - x2.1)) > 1))
                    (some (false, ()))
                    (kL2 c_0 weights l sum i (IntKind.i64.wrap (k + 1))))
                  (kL2 c_0 weights l sum i (IntKind.i64.wrap (k + 1)))))
              (Option.bind (idx weights i) fun x9 =>
              Option.bind (idx weights k) fun x10 =>
              cond (x9 == x10)
                (cond (decide ((IntKind.i64.wrap (x1.1 - x2.1)) > 1))
                  (some (false, ()))
                  (kL2 c_0 weights l sum i (IntKind.i64.wrap (k + 1))))
                (kL2 c_0 weights l sum i (IntKind.i64.wrap (k + 1))))))
          (Option.bind (idx weights i) fun x11 =>
          Option.bind (idx weights k) fun x12 =>
          cond (decide (x11 > x12))
            (cond (decide (x2.1 < x1.1))
              (some (false, ()))
              (Option.bind (idx weights i) fun x13 =>
              Option.bind (idx weights k) fun x14 =>
              cond (x13 == x14)
                (cond (decide ((IntKind.i64.wrap (x1.1 - x2.1)) > 1))
                  (some (false, ()))
                  (kL2 c_0 weights l sum i (IntKind.i64.wrap (k + 1))))
                (kL2 c_0 weights l sum i (IntKind.i64.wrap (k + 1)))))
            (Option.bind (idx weights i) fun x15 =>
            Option.bind (idx weights k) fun x16 =>
            cond (x15 == x16)
              (cond (decide ((IntKind.i64.wrap (x1.1 - x2.1)) > 1))
                (some (false, ()))
                (kL2 c_0 weights l sum i (IntKind.i64.wrap (k + 1))))
              (kL2 c_0 weights l sum i (IntKind.i64.wrap (k + 1))))))
        none)
      none)
    (kL0 c_0 weights l sum (IntKind.i64.wrap (i + 1)))
noncomputable def Se (kL0 : Int → (List Int) → (List Int) → Int → Int → R) (c_0 : Int) (weights : List Int) : R :=
  cond (decide ((weights.length : Int) > 64))
    (Option.bind law02_awake fun x1 =>
    some (x1.1, ()))
    (Option.bind (money_Allocate c_0 weights) fun x2 =>
    cond (x2.2.1 != 0)
      (cond ((x2.1.length : Int) == 0)
        (Option.bind law02_awake fun x3 =>
        some (x3.1, ()))
        (some (false, ())))
      (cond ((x2.1.length : Int) != (weights.length : Int))
        (some (false, ()))
        (kL0 c_0 weights x2.1 0 0)))
theorem sL0 (jmp : Tgt → ASt → R) (c_0 : Int) (weights : List Int) (l : List Int) (sum : Int) (i : Int) : run E jmp fin depth c1 (.loop c1 K15) (tL0 c_0 weights l sum i) =
    SL0 (fun c_0 weights l sum i => jmp (.code c3 K20) (tJ1 c_0 weights l sum i)) c_0 weights l sum i := by kernel_rfl
theorem sJ1 (jmp : Tgt → ASt → R) (c_0 : Int) (weights : List Int) (l : List Int) (sum : Int) (i : Int) : run E jmp fin depth c3 K20 (tJ1 c_0 weights l sum i) =
    SJ1 (fun c_0 weights l sum i k => jmp (.loop c4 K27) (tL2 c_0 weights l sum i k)) c_0 weights l sum i := by kernel_rfl
theorem sL2 (jmp : Tgt → ASt → R) (c_0 : Int) (weights : List Int) (l : List Int) (sum : Int) (i : Int) (k : Int) : run E jmp fin depth c4 (.loop c4 K27) (tL2 c_0 weights l sum i k) =
    SL2 (fun c_0 weights l sum i k => jmp (.loop c4 K27) (tL2 c_0 weights l sum i k)) (fun c_0 weights l sum i => jmp (.loop c1 K15) (tL0 c_0 weights l sum i)) c_0 weights l sum i k := by kernel_rfl
theorem se (jmp : Tgt → ASt → R) (x : (argTy ps).den) : run E jmp fin depth (bodyOf Try.f7) .ret (entryFrom 0 ps x) =
    Se (fun c_0 weights l sum i => jmp (.loop c1 K15) (tL0 c_0 weights l sum i)) x.1 x.2.1 := by kernel_rfl
noncomputable def L0 (c_0 : Int) (weights : List Int) (l : List Int) (sum : Int) (i : Int) : R := lim E fin (.loop c1 K15) (tL0 c_0 weights l sum i)
noncomputable def J1 (c_0 : Int) (weights : List Int) (l : List Int) (sum : Int) (i : Int) : R := lim E fin (.code c3 K20) (tJ1 c_0 weights l sum i)
noncomputable def L2 (c_0 : Int) (weights : List Int) (l : List Int) (sum : Int) (i : Int) (k : Int) : R := lim E fin (.loop c4 K27) (tL2 c_0 weights l sum i k)
theorem L0_eq (c_0 : Int) (weights : List Int) (l : List Int) (sum : Int) (i : Int) : L0 c_0 weights l sum i = SL0 J1 c_0 weights l sum i :=
  (lim_eq (.loop c1 K15) (tL0 c_0 weights l sum i)).trans (sL0 (lim E fin) c_0 weights l sum i)
theorem J1_eq (c_0 : Int) (weights : List Int) (l : List Int) (sum : Int) (i : Int) : J1 c_0 weights l sum i = SJ1 L2 c_0 weights l sum i :=
  (lim_eq (.code c3 K20) (tJ1 c_0 weights l sum i)).trans (sJ1 (lim E fin) c_0 weights l sum i)
theorem L2_eq (c_0 : Int) (weights : List Int) (l : List Int) (sum : Int) (i : Int) (k : Int) : L2 c_0 weights l sum i k = SL2 L2 L0 c_0 weights l sum i k :=
  (lim_eq (.loop c4 K27) (tL2 c_0 weights l sum i k)).trans (sL2 (lim E fin) c_0 weights l sum i k)
end law02_MoneyAllocateSum
noncomputable def law02_MoneyAllocateSum (c_0 : Int) (weights : List Int) : law02_MoneyAllocateSum.R :=
  law02_MoneyAllocateSum.Se law02_MoneyAllocateSum.L0 c_0 weights
noncomputable def law02_MoneyAllocateSum.sig : Sig := ⟨law02_MoneyAllocateSum.ps, law02_MoneyAllocateSum.rs, fun x => law02_MoneyAllocateSum x.1 x.2.1⟩
theorem law02_MoneyAllocateSum.ok : CallOK Try.prog 7 law02_MoneyAllocateSum.sig :=
  callOK_of_lim (E := law02_MoneyAllocateSum.E) mixed tt_ok (ctxOk_cons (ctxOk_cons (ctxOk_cons (ctxOk_cons ctxOk_nil ref02_Abs.ok Try.func21 (by kernel_rfl) (by kernel_rfl)) ref02_Beyond.ok Try.func20 (by kernel_rfl) (by kernel_rfl)) money_Allocate.ok Try.func17 (by kernel_rfl) (by kernel_rfl)) law02_awake.ok Try.func12 (by kernel_rfl) (by kernel_rfl)) Try.func7 (by kernel_rfl : Try.f7.body = some (bodyOf Try.f7)) Try.ntmps7 (of_decide_eq_true (by kernel_rfl)) (of_decide_eq_true (by kernel_rfl))
    fun x y h => ((lim_eq (.code (bodyOf Try.f7) .ret) (entryFrom 0 law02_MoneyAllocateSum.ps x)).trans (law02_MoneyAllocateSum.se (lim law02_MoneyAllocateSum.E law02_MoneyAllocateSum.fin) x)).trans h
theorem law02_MoneyAllocateSum.val (x : (argTy law02_MoneyAllocateSum.ps).den) : lim law02_MoneyAllocateSum.E law02_MoneyAllocateSum.fin (.code (bodyOf Try.f7) .ret) (entryFrom 0 law02_MoneyAllocateSum.ps x) = law02_MoneyAllocateSum.sig.run x :=
  (lim_eq (.code (bodyOf Try.f7) .ret) (entryFrom 0 law02_MoneyAllocateSum.ps x)).trans (law02_MoneyAllocateSum.se (lim law02_MoneyAllocateSum.E law02_MoneyAllocateSum.fin) x)
noncomputable def law02_MoneyAllocateSum.ctxc (n : Nat) : List (Nat × Sig) := [(12, law02_awake.sigc n), (17, money_Allocate.sigc n), (20, ref02_Beyond.sigc n), (21, ref02_Abs.sigc n)]
noncomputable def law02_MoneyAllocateSum.sigc (n : Nat) : Sig := ⟨law02_MoneyAllocateSum.ps, law02_MoneyAllocateSum.rs, fun x => runs (withCtx law02_MoneyAllocateSum.E (law02_MoneyAllocateSum.ctxc n)) law02_MoneyAllocateSum.fin n (.code (bodyOf Try.f7) .ret) (entryFrom 0 law02_MoneyAllocateSum.ps x)⟩
theorem law02_MoneyAllocateSum.sigc_le (n : Nat) : ∀ x y, (law02_MoneyAllocateSum.sigc n).run x = some y → law02_MoneyAllocateSum.sig.run x = some y :=
  fun x y h => (law02_MoneyAllocateSum.val x).symm.trans (runs_lim (E := law02_MoneyAllocateSum.E) (c := law02_MoneyAllocateSum.ctxc n) (ctxLe_cons (ctxLe_cons (ctxLe_cons (ctxLe_cons ctxLe_nil (ref02_Abs.sigc_le n)) (ref02_Beyond.sigc_le n)) (money_Allocate.sigc_le n)) (law02_awake.sigc_le n)) h)

/-! ### guerdon/guerdonref02.Sum -/
namespace ref02_Sum
abbrev ps : List PM := [.pure (.sl (.int .i64))]
abbrev rs : List RM := [.pure (.int .i64), .pure (.int .i64)]
abbrev R : Type := Option (Int × Int × Unit)
noncomputable def E : Env := { tt := tt, ctx := [(20, ref02_Beyond.sig)], nt := 33, ann := [(1000003, [(0, .keep), (4, .keep), (5, .keep)])] }
noncomputable def c0 : Code := sub [1, 1, 1] (bodyOf Try.f23)
noncomputable def c1 : Code := sub [1, 1, 0, 1, 0, 0] (bodyOf Try.f23)
noncomputable def K3 : Kont := .seq c0 .ret
noncomputable def K5 : Kont := .blk 0 K3
noncomputable def fin : ASt → R := Kret E Try.f23.results.toList ps rs
def tL0 (l : List Int) (n_4 : Int) (i : Int) : ASt := ⟨[(5, .one (.val (.int .i64) i)), (4, .one (.val (.int .i64) n_4)), (0, .one (.val (.sl (.int .i64)) l))], []⟩
noncomputable def SL0 (kL0 : (List Int) → Int → Int → R) (l : List Int) (n_4 : Int) (i : Int) : R :=
  cond (decide (i < (l.length : Int)))
    (Option.bind (idx l i) fun x1 =>
    Option.bind (ref02_Beyond x1 1000000000000000) fun x2 =>
    cond x2.1
      (some (0, 3, ()))
      (Option.bind (idx l i) fun x3 =>
      Option.bind (ref02_Beyond (IntKind.i64.wrap (n_4 + x3)) 1000000000000000) fun x4 =>
      cond x4.1
        (some (0, 3, ()))
        (Option.bind (idx l i) fun x5 =>
        kL0 l (IntKind.i64.wrap (n_4 + x5)) (IntKind.i64.wrap (i + 1)))))
    (some (n_4, 0, ()))
noncomputable def Se (kL0 : (List Int) → Int → Int → R) (l : List Int) : R :=
  kL0 l 0 0
theorem sL0 (jmp : Tgt → ASt → R) (l : List Int) (n_4 : Int) (i : Int) : run E jmp fin depth c1 (.loop c1 K5) (tL0 l n_4 i) =
    SL0 (fun l n_4 i => jmp (.loop c1 K5) (tL0 l n_4 i)) l n_4 i := by kernel_rfl
theorem se (jmp : Tgt → ASt → R) (x : (argTy ps).den) : run E jmp fin depth (bodyOf Try.f23) .ret (entryFrom 0 ps x) =
    Se (fun l n_4 i => jmp (.loop c1 K5) (tL0 l n_4 i)) x.1 := by kernel_rfl
noncomputable def L0 (l : List Int) (n_4 : Int) (i : Int) : R := lim E fin (.loop c1 K5) (tL0 l n_4 i)
theorem L0_eq (l : List Int) (n_4 : Int) (i : Int) : L0 l n_4 i = SL0 L0 l n_4 i :=
  (lim_eq (.loop c1 K5) (tL0 l n_4 i)).trans (sL0 (lim E fin) l n_4 i)
end ref02_Sum
noncomputable def ref02_Sum (l : List Int) : ref02_Sum.R :=
  ref02_Sum.Se ref02_Sum.L0 l
noncomputable def ref02_Sum.sig : Sig := ⟨ref02_Sum.ps, ref02_Sum.rs, fun x => ref02_Sum x.1⟩
theorem ref02_Sum.ok : CallOK Try.prog 23 ref02_Sum.sig :=
  callOK_of_lim (E := ref02_Sum.E) mixed tt_ok (ctxOk_cons ctxOk_nil ref02_Beyond.ok Try.func20 (by kernel_rfl) (by kernel_rfl)) Try.func23 (by kernel_rfl : Try.f23.body = some (bodyOf Try.f23)) Try.ntmps23 (of_decide_eq_true (by kernel_rfl)) (of_decide_eq_true (by kernel_rfl))
    fun x y h => ((lim_eq (.code (bodyOf Try.f23) .ret) (entryFrom 0 ref02_Sum.ps x)).trans (ref02_Sum.se (lim ref02_Sum.E ref02_Sum.fin) x)).trans h
theorem ref02_Sum.val (x : (argTy ref02_Sum.ps).den) : lim ref02_Sum.E ref02_Sum.fin (.code (bodyOf Try.f23) .ret) (entryFrom 0 ref02_Sum.ps x) = ref02_Sum.sig.run x :=
  (lim_eq (.code (bodyOf Try.f23) .ret) (entryFrom 0 ref02_Sum.ps x)).trans (ref02_Sum.se (lim ref02_Sum.E ref02_Sum.fin) x)
noncomputable def ref02_Sum.ctxc (n : Nat) : List (Nat × Sig) := [(20, ref02_Beyond.sigc n)]
noncomputable def ref02_Sum.sigc (n : Nat) : Sig := ⟨ref02_Sum.ps, ref02_Sum.rs, fun x => runs (withCtx ref02_Sum.E (ref02_Sum.ctxc n)) ref02_Sum.fin n (.code (bodyOf Try.f23) .ret) (entryFrom 0 ref02_Sum.ps x)⟩
theorem ref02_Sum.sigc_le (n : Nat) : ∀ x y, (ref02_Sum.sigc n).run x = some y → ref02_Sum.sig.run x = some y :=
  fun x y h => (ref02_Sum.val x).symm.trans (runs_lim (E := ref02_Sum.E) (c := ref02_Sum.ctxc n) (ctxLe_cons ctxLe_nil (ref02_Beyond.sigc_le n)) h)

/-! ### guerdon/guerdonlaw02.MoneySum -/
namespace law02_MoneySum
abbrev ps : List PM := [.pure (.sl (.int .i64)), .pure (.int .i64)]
abbrev rs : List RM := [.pure .bool]
abbrev R : Type := Option (Bool × Unit)
noncomputable def E : Env := { tt := tt, ctx := [(12, law02_awake.sig), (22, money_Sum.sig), (23, ref02_Sum.sig)], nt := 59, ann := [(7, [(0, .keep), (1, .keep), (5, .keep), (6, .keep)])] }
noncomputable def c0 : Code := sub [1, 1, 1, 1, 1] (bodyOf Try.f8)
noncomputable def fin : ASt → R := Kret E Try.f8.results.toList ps rs
def tJ0 (l : List Int) (n_1 : Int) (a : Int) (e : Int) : ASt := ⟨[(6, .one (.val (.int .i64) e)), (5, .one (.val (.int .i64) a)), (1, .one (.val (.int .i64) n_1)), (0, .one (.val (.sl (.int .i64)) l))], []⟩
noncomputable def SJ0 (l : List Int) (n_1 : Int) (a : Int) (e : Int) : R :=
  cond (decide ((0 + l.length) * 8 ≤ room) && decide (0 < Ty.nc (.int .i64)))
    (cond (decide ((l.length + 1) * 8 ≤ room) && decide (0 < Ty.nc (.int .i64)))
      (Option.bind (money_Sum (l ++ [n_1])) fun x1 =>
      cond (x1.2.1 != 0)
        (Option.bind law02_awake fun x2 =>
        some (x2.1, ()))
        (cond (e == 0)
          (cond (x1.1 == (IntKind.i64.wrap (a + n_1)))
            (Option.bind law02_awake fun x3 =>
            some (x3.1, ()))
            (some (false, ())))
          (some (false, ()))))
      none)
    none
noncomputable def Se (kJ0 : (List Int) → Int → Int → Int → R) (l : List Int) (n_1 : Int) : R :=
  cond (decide ((l.length : Int) > 300))
    (Option.bind law02_awake fun x1 =>
    some (x1.1, ()))
    (Option.bind (money_Sum l) fun x2 =>
    Option.bind (ref02_Sum l) fun x3 =>
    cond (x2.1 != x3.1)
      (some (false, ()))
      (cond (x2.2.1 != x3.2.1)
        (some (false, ()))
        (kJ0 l n_1 x2.1 x2.2.1)))
theorem sJ0 (jmp : Tgt → ASt → R) (l : List Int) (n_1 : Int) (a : Int) (e : Int) : run E jmp fin depth c0 .ret (tJ0 l n_1 a e) =
    SJ0 l n_1 a e := by kernel_rfl
theorem se (jmp : Tgt → ASt → R) (x : (argTy ps).den) : run E jmp fin depth (bodyOf Try.f8) .ret (entryFrom 0 ps x) =
    Se (fun l n_1 a e => jmp (.code c0 .ret) (tJ0 l n_1 a e)) x.1 x.2.1 := by kernel_rfl
noncomputable def J0 (l : List Int) (n_1 : Int) (a : Int) (e : Int) : R := lim E fin (.code c0 .ret) (tJ0 l n_1 a e)
theorem J0_eq (l : List Int) (n_1 : Int) (a : Int) (e : Int) : J0 l n_1 a e = SJ0 l n_1 a e :=
  (lim_eq (.code c0 .ret) (tJ0 l n_1 a e)).trans (sJ0 (lim E fin) l n_1 a e)
end law02_MoneySum
noncomputable def law02_MoneySum (l : List Int) (n_1 : Int) : law02_MoneySum.R :=
  law02_MoneySum.Se law02_MoneySum.J0 l n_1
noncomputable def law02_MoneySum.sig : Sig := ⟨law02_MoneySum.ps, law02_MoneySum.rs, fun x => law02_MoneySum x.1 x.2.1⟩
theorem law02_MoneySum.ok : CallOK Try.prog 8 law02_MoneySum.sig :=
  callOK_of_lim (E := law02_MoneySum.E) mixed tt_ok (ctxOk_cons (ctxOk_cons (ctxOk_cons ctxOk_nil ref02_Sum.ok Try.func23 (by kernel_rfl) (by kernel_rfl)) money_Sum.ok Try.func22 (by kernel_rfl) (by kernel_rfl)) law02_awake.ok Try.func12 (by kernel_rfl) (by kernel_rfl)) Try.func8 (by kernel_rfl : Try.f8.body = some (bodyOf Try.f8)) Try.ntmps8 (of_decide_eq_true (by kernel_rfl)) (of_decide_eq_true (by kernel_rfl))
    fun x y h => ((lim_eq (.code (bodyOf Try.f8) .ret) (entryFrom 0 law02_MoneySum.ps x)).trans (law02_MoneySum.se (lim law02_MoneySum.E law02_MoneySum.fin) x)).trans h
theorem law02_MoneySum.val (x : (argTy law02_MoneySum.ps).den) : lim law02_MoneySum.E law02_MoneySum.fin (.code (bodyOf Try.f8) .ret) (entryFrom 0 law02_MoneySum.ps x) = law02_MoneySum.sig.run x :=
  (lim_eq (.code (bodyOf Try.f8) .ret) (entryFrom 0 law02_MoneySum.ps x)).trans (law02_MoneySum.se (lim law02_MoneySum.E law02_MoneySum.fin) x)
noncomputable def law02_MoneySum.ctxc (n : Nat) : List (Nat × Sig) := [(12, law02_awake.sigc n), (22, money_Sum.sigc n), (23, ref02_Sum.sigc n)]
noncomputable def law02_MoneySum.sigc (n : Nat) : Sig := ⟨law02_MoneySum.ps, law02_MoneySum.rs, fun x => runs (withCtx law02_MoneySum.E (law02_MoneySum.ctxc n)) law02_MoneySum.fin n (.code (bodyOf Try.f8) .ret) (entryFrom 0 law02_MoneySum.ps x)⟩
theorem law02_MoneySum.sigc_le (n : Nat) : ∀ x y, (law02_MoneySum.sigc n).run x = some y → law02_MoneySum.sig.run x = some y :=
  fun x y h => (law02_MoneySum.val x).symm.trans (runs_lim (E := law02_MoneySum.E) (c := law02_MoneySum.ctxc n) (ctxLe_cons (ctxLe_cons (ctxLe_cons ctxLe_nil (ref02_Sum.sigc_le n)) (money_Sum.sigc_le n)) (law02_awake.sigc_le n)) h)

/-! ### guerdon/guerdonlaw02.MoneyRoundingOrder -/
namespace law02_MoneyRoundingOrder
abbrev ps : List PM := [.pure (.int .i64), .pure (.int .i64)]
abbrev rs : List RM := [.pure .bool]
abbrev R : Type := Option (Bool × Unit)
noncomputable def E : Env := { tt := tt, ctx := [(10, money_DivRound.sig), (12, law02_awake.sig)], nt := 126, ann := [(5, [(0, .keep), (1, .keep), (5, .keep), (7, .keep)]), (7, [(0, .keep), (1, .keep), (5, .keep), (7, .keep)]), (1000008, [(0, .keep), (1, .keep), (5, .keep), (7, .keep), (9, .keep)]), (14, [(0, .keep), (1, .keep), (5, .keep), (7, .keep), (9, .keep), (10, .keep), (12, .keep)])] }
noncomputable def c0 : Code := sub [1, 1, 1, 1, 1, 1] (bodyOf Try.f9)
noncomputable def c1 : Code := sub [1, 1, 1, 1, 1, 0, 1, 0, 0] (bodyOf Try.f9)
noncomputable def c2 : Code := sub [1, 1, 1, 1, 1, 0, 1, 0, 0, 1, 1] (bodyOf Try.f9)
noncomputable def c3 : Code := sub [1, 1, 1, 1] (bodyOf Try.f9)
noncomputable def c4 : Code := sub [1, 1, 1, 1, 1] (bodyOf Try.f9)
noncomputable def c5 : Code := sub [1, 1, 1, 1, 1, 0, 1, 0, 0, 1, 0, 0, 1, 1, 1] (bodyOf Try.f9)
noncomputable def K10 : Kont := .seq c0 .ret
noncomputable def K12 : Kont := .blk 0 K10
noncomputable def K13 : Kont := .loop c1 K12
noncomputable def K16 : Kont := .seq c2 K13
noncomputable def K17 : Kont := .blk 1 K16
noncomputable def fin : ASt → R := Kret E Try.f9.results.toList ps rs
def tJ0 (n_0 : Int) (d : Int) (lo : Int) (hi : Int) : ASt := ⟨[(7, .one (.val (.int .i64) hi)), (5, .one (.val (.int .i64) lo)), (1, .one (.val (.int .i64) d)), (0, .one (.val (.int .i64) n_0))], []⟩
def tJ1 (n_0 : Int) (d : Int) (lo : Int) (hi : Int) : ASt := ⟨[(7, .one (.val (.int .i64) hi)), (5, .one (.val (.int .i64) lo)), (1, .one (.val (.int .i64) d)), (0, .one (.val (.int .i64) n_0))], []⟩
def tL2 (n_0 : Int) (d : Int) (lo : Int) (hi : Int) (m : Int) : ASt := ⟨[(9, .one (.val (.int .i64) m)), (7, .one (.val (.int .i64) hi)), (5, .one (.val (.int .i64) lo)), (1, .one (.val (.int .i64) d)), (0, .one (.val (.int .i64) n_0))], []⟩
def tJ3 (n_0 : Int) (d : Int) (lo : Int) (hi : Int) (m : Int) (q : Int) (x_12 : Int) : ASt := ⟨[(12, .one (.val (.int .i64) x_12)), (10, .one (.val (.int .i64) q)), (9, .one (.val (.int .i64) m)), (7, .one (.val (.int .i64) hi)), (5, .one (.val (.int .i64) lo)), (1, .one (.val (.int .i64) d)), (0, .one (.val (.int .i64) n_0))], []⟩
noncomputable def SJ0 (kJ1 : Int → Int → Int → Int → R) (n_0 : Int) (d : Int) (lo : Int) (hi : Int) : R :=
  cond (d == 0)
    (some (false, ()))
    (cond (decide (hi < lo))
      (some (false, ()))
      (cond (decide ((IntKind.i64.wrap (hi - lo)) > 1))
        (some (false, ()))
        (cond (decide (d = 0))
          none
          (cond (!((hi == lo) == ((Int.tmod n_0 d) == 0)))
            (some (false, ()))
            (kJ1 n_0 d lo hi)))))
noncomputable def SJ1 (kL2 : Int → Int → Int → Int → Int → R) (n_0 : Int) (d : Int) (lo : Int) (hi : Int) : R :=
  kL2 n_0 d lo hi 0
noncomputable def SL2 (kJ3 : Int → Int → Int → Int → Int → Int → Int → R) (n_0 : Int) (d : Int) (lo : Int) (hi : Int) (m : Int) : R :=
  cond (decide (m ≤ 5))
    (Option.bind (money_DivRound n_0 d m) fun x1 =>
    Option.bind (money_DivRound (IntKind.i64.wrap (0 - n_0)) d m) fun x2 =>
    cond (x1.2.1 != 0)
      (some (false, ()))
      (cond (x2.2.1 != 0)
        (some (false, ()))
        (cond (decide (x1.1 < lo))
          (some (false, ()))
          (cond (decide (x1.1 > hi))
            (some (false, ()))
            (kJ3 n_0 d lo hi m x1.1 x2.1)))))
    (Option.bind law02_awake fun x3 =>
    some (x3.1, ()))
noncomputable def SJ3 (kL2 : Int → Int → Int → Int → Int → R) (n_0 : Int) (d : Int) (lo : Int) (hi : Int) (m : Int) (q : Int) (x_12 : Int) : R :=
  cond (m == 0)
    (cond (x_12 != (IntKind.i64.wrap (0 - hi)))
      (some (false, ()))
      (cond (m == 1)
        (cond (x_12 != (IntKind.i64.wrap (0 - lo)))
          (some (false, ()))
          (cond (decide (m > 1))
            (cond (x_12 != (IntKind.i64.wrap (0 - q)))
              (some (false, ()))
              (kL2 n_0 d lo hi (IntKind.i64.wrap (m + 1))))
            (kL2 n_0 d lo hi (IntKind.i64.wrap (m + 1)))))
        (cond (decide (m > 1))
          (cond (x_12 != (IntKind.i64.wrap (0 - q)))
            (some (false, ()))
            (kL2 n_0 d lo hi (IntKind.i64.wrap (m + 1))))
          (kL2 n_0 d lo hi (IntKind.i64.wrap (m + 1))))))
    (cond (m == 1)
      (cond (x_12 != (IntKind.i64.wrap (0 - lo)))
        (some (false, ()))
        (cond (decide (m > 1))
          (cond (x_12 != (IntKind.i64.wrap (0 - q)))
            (some (false, ()))
            (kL2 n_0 d lo hi (IntKind.i64.wrap (m + 1))))
          (kL2 n_0 d lo hi (IntKind.i64.wrap (m + 1)))))
      (cond (decide (m > 1))
        (cond (x_12 != (IntKind.i64.wrap (0 - q)))
          (some (false, ()))
          (kL2 n_0 d lo hi (IntKind.i64.wrap (m + 1))))
        (kL2 n_0 d lo hi (IntKind.i64.wrap (m + 1)))))
noncomputable def Se (kJ0 : Int → Int → Int → Int → R) (n_0 : Int) (d : Int) : R :=
  Option.bind (money_DivRound n_0 d 0) fun x1 =>
  Option.bind (money_DivRound n_0 d 1) fun x2 =>
  cond (x1.2.1 != x2.2.1)
    (cond (x1.2.1 == x2.2.1)
      (Option.bind law02_awake fun x3 =>
      some (x3.1, ()))
      (some (false, ())))
    (cond (x1.2.1 != 0)
      (cond (x1.2.1 == x2.2.1)
        (Option.bind law02_awake fun x4 =>
        some (x4.1, ()))
        (some (false, ())))
      (kJ0 n_0 d x1.1 x2.1))
theorem sJ0 (jmp : Tgt → ASt → R) (n_0 : Int) (d : Int) (lo : Int) (hi : Int) : run E jmp fin depth c3 .ret (tJ0 n_0 d lo hi) =
    SJ0 (fun n_0 d lo hi => jmp (.code c4 .ret) (tJ1 n_0 d lo hi)) n_0 d lo hi := by kernel_rfl
theorem sJ1 (jmp : Tgt → ASt → R) (n_0 : Int) (d : Int) (lo : Int) (hi : Int) : run E jmp fin depth c4 .ret (tJ1 n_0 d lo hi) =
    SJ1 (fun n_0 d lo hi m => jmp (.loop c1 K12) (tL2 n_0 d lo hi m)) n_0 d lo hi := by kernel_rfl
theorem sL2 (jmp : Tgt → ASt → R) (n_0 : Int) (d : Int) (lo : Int) (hi : Int) (m : Int) : run E jmp fin depth c1 (.loop c1 K12) (tL2 n_0 d lo hi m) =
    SL2 (fun n_0 d lo hi m q x_12 => jmp (.code c5 K17) (tJ3 n_0 d lo hi m q x_12)) n_0 d lo hi m := by kernel_rfl
theorem sJ3 (jmp : Tgt → ASt → R) (n_0 : Int) (d : Int) (lo : Int) (hi : Int) (m : Int) (q : Int) (x_12 : Int) : run E jmp fin depth c5 K17 (tJ3 n_0 d lo hi m q x_12) =
    SJ3 (fun n_0 d lo hi m => jmp (.loop c1 K12) (tL2 n_0 d lo hi m)) n_0 d lo hi m q x_12 := by kernel_rfl
theorem se (jmp : Tgt → ASt → R) (x : (argTy ps).den) : run E jmp fin depth (bodyOf Try.f9) .ret (entryFrom 0 ps x) =
    Se (fun n_0 d lo hi => jmp (.code c3 .ret) (tJ0 n_0 d lo hi)) x.1 x.2.1 := by kernel_rfl
noncomputable def J0 (n_0 : Int) (d : Int) (lo : Int) (hi : Int) : R := lim E fin (.code c3 .ret) (tJ0 n_0 d lo hi)
noncomputable def J1 (n_0 : Int) (d : Int) (lo : Int) (hi : Int) : R := lim E fin (.code c4 .ret) (tJ1 n_0 d lo hi)
noncomputable def L2 (n_0 : Int) (d : Int) (lo : Int) (hi : Int) (m : Int) : R := lim E fin (.loop c1 K12) (tL2 n_0 d lo hi m)
noncomputable def J3 (n_0 : Int) (d : Int) (lo : Int) (hi : Int) (m : Int) (q : Int) (x_12 : Int) : R := lim E fin (.code c5 K17) (tJ3 n_0 d lo hi m q x_12)
theorem J0_eq (n_0 : Int) (d : Int) (lo : Int) (hi : Int) : J0 n_0 d lo hi = SJ0 J1 n_0 d lo hi :=
  (lim_eq (.code c3 .ret) (tJ0 n_0 d lo hi)).trans (sJ0 (lim E fin) n_0 d lo hi)
theorem J1_eq (n_0 : Int) (d : Int) (lo : Int) (hi : Int) : J1 n_0 d lo hi = SJ1 L2 n_0 d lo hi :=
  (lim_eq (.code c4 .ret) (tJ1 n_0 d lo hi)).trans (sJ1 (lim E fin) n_0 d lo hi)
theorem L2_eq (n_0 : Int) (d : Int) (lo : Int) (hi : Int) (m : Int) : L2 n_0 d lo hi m = SL2 J3 n_0 d lo hi m :=
  (lim_eq (.loop c1 K12) (tL2 n_0 d lo hi m)).trans (sL2 (lim E fin) n_0 d lo hi m)
theorem J3_eq (n_0 : Int) (d : Int) (lo : Int) (hi : Int) (m : Int) (q : Int) (x_12 : Int) : J3 n_0 d lo hi m q x_12 = SJ3 L2 n_0 d lo hi m q x_12 :=
  (lim_eq (.code c5 K17) (tJ3 n_0 d lo hi m q x_12)).trans (sJ3 (lim E fin) n_0 d lo hi m q x_12)
end law02_MoneyRoundingOrder
noncomputable def law02_MoneyRoundingOrder (n_0 : Int) (d : Int) : law02_MoneyRoundingOrder.R :=
  law02_MoneyRoundingOrder.Se law02_MoneyRoundingOrder.J0 n_0 d
noncomputable def law02_MoneyRoundingOrder.sig : Sig := ⟨law02_MoneyRoundingOrder.ps, law02_MoneyRoundingOrder.rs, fun x => law02_MoneyRoundingOrder x.1 x.2.1⟩
theorem law02_MoneyRoundingOrder.ok : CallOK Try.prog 9 law02_MoneyRoundingOrder.sig :=
  callOK_of_lim (E := law02_MoneyRoundingOrder.E) mixed tt_ok (ctxOk_cons (ctxOk_cons ctxOk_nil law02_awake.ok Try.func12 (by kernel_rfl) (by kernel_rfl)) money_DivRound.ok Try.func10 (by kernel_rfl) (by kernel_rfl)) Try.func9 (by kernel_rfl : Try.f9.body = some (bodyOf Try.f9)) Try.ntmps9 (of_decide_eq_true (by kernel_rfl)) (of_decide_eq_true (by kernel_rfl))
    fun x y h => ((lim_eq (.code (bodyOf Try.f9) .ret) (entryFrom 0 law02_MoneyRoundingOrder.ps x)).trans (law02_MoneyRoundingOrder.se (lim law02_MoneyRoundingOrder.E law02_MoneyRoundingOrder.fin) x)).trans h
theorem law02_MoneyRoundingOrder.val (x : (argTy law02_MoneyRoundingOrder.ps).den) : lim law02_MoneyRoundingOrder.E law02_MoneyRoundingOrder.fin (.code (bodyOf Try.f9) .ret) (entryFrom 0 law02_MoneyRoundingOrder.ps x) = law02_MoneyRoundingOrder.sig.run x :=
  (lim_eq (.code (bodyOf Try.f9) .ret) (entryFrom 0 law02_MoneyRoundingOrder.ps x)).trans (law02_MoneyRoundingOrder.se (lim law02_MoneyRoundingOrder.E law02_MoneyRoundingOrder.fin) x)
noncomputable def law02_MoneyRoundingOrder.ctxc (n : Nat) : List (Nat × Sig) := [(10, money_DivRound.sigc n), (12, law02_awake.sigc n)]
noncomputable def law02_MoneyRoundingOrder.sigc (n : Nat) : Sig := ⟨law02_MoneyRoundingOrder.ps, law02_MoneyRoundingOrder.rs, fun x => runs (withCtx law02_MoneyRoundingOrder.E (law02_MoneyRoundingOrder.ctxc n)) law02_MoneyRoundingOrder.fin n (.code (bodyOf Try.f9) .ret) (entryFrom 0 law02_MoneyRoundingOrder.ps x)⟩
theorem law02_MoneyRoundingOrder.sigc_le (n : Nat) : ∀ x y, (law02_MoneyRoundingOrder.sigc n).run x = some y → law02_MoneyRoundingOrder.sig.run x = some y :=
  fun x y h => (law02_MoneyRoundingOrder.val x).symm.trans (runs_lim (E := law02_MoneyRoundingOrder.E) (c := law02_MoneyRoundingOrder.ctxc n) (ctxLe_cons (ctxLe_cons ctxLe_nil (law02_awake.sigc_le n)) (money_DivRound.sigc_le n)) h)

end Go.Proofs.Ytkhmefingpocpaa
