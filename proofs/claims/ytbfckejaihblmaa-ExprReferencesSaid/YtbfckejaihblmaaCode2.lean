/- The functions of the program as typed Lean functions, with the proof that they are what the code computes. -/
import Derived.Test.YtbfckejaihblmaaCode1
set_option maxRecDepth 100000
set_option linter.unusedVariables false
namespace Go.Proofs.Ytbfckejaihblmaa
open Go Go.Lift

/-! ### guerdon/guerdonsame.Ints -/
namespace same_Ints
abbrev ps : List PM := [.pure (.sl (.int .i64)), .pure (.sl (.int .i64))]
abbrev rs : List RM := [.pure .bool]
abbrev R : Type := Option (Bool × Unit)
noncomputable def E : Env := { tt := tt, ctx := [], nt := 32, ann := [(1000004, [(0, .keep), (1, .keep), (5, .keep)]), (6, [(0, .keep), (1, .keep), (5, .keep)])] }
noncomputable def c0 : Code := sub [1, 1, 1] (bodyOf Try.f13)
noncomputable def c1 : Code := sub [1, 1, 0, 1, 0, 0] (bodyOf Try.f13)
noncomputable def c2 : Code := sub [1, 1, 0, 1, 0, 0, 1] (bodyOf Try.f13)
noncomputable def K5 : Kont := .seq c0 .ret
noncomputable def K7 : Kont := .blk 0 K5
noncomputable def K8 : Kont := .loop c1 K7
noncomputable def fin : ASt → R := Kret E Try.f13.results.toList ps rs
def tL0 (a : List Int) (b : List Int) (i : Int) : ASt := ⟨[(5, .one (.val (.int .i64) i)), (1, .one (.val (.sl (.int .i64)) b)), (0, .one (.val (.sl (.int .i64)) a))], []⟩
def tJ1 (a : List Int) (b : List Int) (i : Int) : ASt := ⟨[(5, .one (.val (.int .i64) i)), (1, .one (.val (.sl (.int .i64)) b)), (0, .one (.val (.sl (.int .i64)) a))], []⟩
noncomputable def SL0 (kJ1 : (List Int) → (List Int) → Int → R) (a : List Int) (b : List Int) (i : Int) : R :=
  cond (decide (i < (a.length : Int)))
    (cond (decide (i < (b.length : Int)))
      (kJ1 a b i)
      (some (true, ())))
    (some (true, ()))
noncomputable def SJ1 (kL0 : (List Int) → (List Int) → Int → R) (a : List Int) (b : List Int) (i : Int) : R :=
  Option.bind (idx a i) fun x1 =>
  Option.bind (idx b i) fun x2 =>
  cond (x1 != x2)
    (some (false, ()))
    (kL0 a b (IntKind.i64.wrap (i + 1)))
noncomputable def Se (kL0 : (List Int) → (List Int) → Int → R) (a : List Int) (b : List Int) : R :=
  cond ((a.length : Int) != (b.length : Int))
    (some (false, ()))
    (kL0 a b 0)
theorem sL0 (jmp : Tgt → ASt → R) (a : List Int) (b : List Int) (i : Int) : run E jmp fin depth c1 (.loop c1 K7) (tL0 a b i) =
    SL0 (fun a b i => jmp (.code c2 K8) (tJ1 a b i)) a b i := by kernel_rfl
theorem sJ1 (jmp : Tgt → ASt → R) (a : List Int) (b : List Int) (i : Int) : run E jmp fin depth c2 K8 (tJ1 a b i) =
    SJ1 (fun a b i => jmp (.loop c1 K7) (tL0 a b i)) a b i := by kernel_rfl
theorem se (jmp : Tgt → ASt → R) (x : (argTy ps).den) : run E jmp fin depth (bodyOf Try.f13) .ret (entryFrom 0 ps x) =
    Se (fun a b i => jmp (.loop c1 K7) (tL0 a b i)) x.1 x.2.1 := by kernel_rfl
noncomputable def L0 (a : List Int) (b : List Int) (i : Int) : R := lim E fin (.loop c1 K7) (tL0 a b i)
noncomputable def J1 (a : List Int) (b : List Int) (i : Int) : R := lim E fin (.code c2 K8) (tJ1 a b i)
theorem L0_eq (a : List Int) (b : List Int) (i : Int) : L0 a b i = SL0 J1 a b i :=
  (lim_eq (.loop c1 K7) (tL0 a b i)).trans (sL0 (lim E fin) a b i)
theorem J1_eq (a : List Int) (b : List Int) (i : Int) : J1 a b i = SJ1 L0 a b i :=
  (lim_eq (.code c2 K8) (tJ1 a b i)).trans (sJ1 (lim E fin) a b i)
end same_Ints
noncomputable def same_Ints (a : List Int) (b : List Int) : same_Ints.R :=
  same_Ints.Se same_Ints.L0 a b
noncomputable def same_Ints.sig : Sig := ⟨same_Ints.ps, same_Ints.rs, fun x => same_Ints x.1 x.2.1⟩
theorem same_Ints.ok : CallOK Try.prog 13 same_Ints.sig :=
  callOK_of_lim (E := same_Ints.E) mixed tt_ok ctxOk_nil Try.func13 (by kernel_rfl : Try.f13.body = some (bodyOf Try.f13)) Try.ntmps13 (of_decide_eq_true (by kernel_rfl)) (of_decide_eq_true (by kernel_rfl))
    fun x y h => ((lim_eq (.code (bodyOf Try.f13) .ret) (entryFrom 0 same_Ints.ps x)).trans (same_Ints.se (lim same_Ints.E same_Ints.fin) x)).trans h
theorem same_Ints.val (x : (argTy same_Ints.ps).den) : lim same_Ints.E same_Ints.fin (.code (bodyOf Try.f13) .ret) (entryFrom 0 same_Ints.ps x) = same_Ints.sig.run x :=
  (lim_eq (.code (bodyOf Try.f13) .ret) (entryFrom 0 same_Ints.ps x)).trans (same_Ints.se (lim same_Ints.E same_Ints.fin) x)
noncomputable def same_Ints.ctxc (n : Nat) : List (Nat × Sig) := []
noncomputable def same_Ints.sigc (n : Nat) : Sig := ⟨same_Ints.ps, same_Ints.rs, fun x => runs (withCtx same_Ints.E (same_Ints.ctxc n)) same_Ints.fin n (.code (bodyOf Try.f13) .ret) (entryFrom 0 same_Ints.ps x)⟩
theorem same_Ints.sigc_le (n : Nat) : ∀ x y, (same_Ints.sigc n).run x = some y → same_Ints.sig.run x = some y :=
  fun x y h => (same_Ints.val x).symm.trans (runs_lim (E := same_Ints.E) (c := same_Ints.ctxc n) ctxLe_nil h)

/-! ### guerdon/expr.Operands -/
namespace expr_Operands
abbrev ps : List PM := [.pure (.sl api_Type), .pure (.int .i64)]
abbrev rs : List RM := [.own (.int .i64)]
abbrev R : Type := Option (List Int × Unit)
noncomputable def E : Env := { tt := tt, ctx := [(9, expr_Starts.sig), (23, expr_operands.sig)], nt := 28, ann := [] }
noncomputable def fin : ASt → R := Kret E Try.f14.results.toList ps rs
noncomputable def Se (e : List api_TypeV) (at_1 : Int) : R :=
  Option.bind (expr_Starts e) fun x1 =>
  cond (x1.2.1 != 0)
    (some ([], ()))
    (cond (decide (at_1 < 0))
      (some ([], ()))
      (cond (decide (at_1 ≥ (e.length : Int)))
        (some ([], ()))
        (Option.bind (expr_operands e x1.1 at_1) fun x2 =>
        some (x2.1, ()))))
theorem se (jmp : Tgt → ASt → R) (x : (argTy ps).den) : run E jmp fin depth (bodyOf Try.f14) .ret (entryFrom 0 ps x) =
    Se x.1 x.2.1 := by kernel_rfl
end expr_Operands
noncomputable def expr_Operands (e : List api_TypeV) (at_1 : Int) : expr_Operands.R :=
  expr_Operands.Se e at_1
noncomputable def expr_Operands.sig : Sig := ⟨expr_Operands.ps, expr_Operands.rs, fun x => expr_Operands x.1 x.2.1⟩
theorem expr_Operands.ok : CallOK Try.prog 14 expr_Operands.sig :=
  callOK_of_lim (E := expr_Operands.E) mixed tt_ok (ctxOk_cons (ctxOk_cons ctxOk_nil expr_operands.ok Try.func23 (by kernel_rfl) (by kernel_rfl)) expr_Starts.ok Try.func9 (by kernel_rfl) (by kernel_rfl)) Try.func14 (by kernel_rfl : Try.f14.body = some (bodyOf Try.f14)) Try.ntmps14 (of_decide_eq_true (by kernel_rfl)) (of_decide_eq_true (by kernel_rfl))
    fun x y h => ((lim_eq (.code (bodyOf Try.f14) .ret) (entryFrom 0 expr_Operands.ps x)).trans (expr_Operands.se (lim expr_Operands.E expr_Operands.fin) x)).trans h
theorem expr_Operands.val (x : (argTy expr_Operands.ps).den) : lim expr_Operands.E expr_Operands.fin (.code (bodyOf Try.f14) .ret) (entryFrom 0 expr_Operands.ps x) = expr_Operands.sig.run x :=
  (lim_eq (.code (bodyOf Try.f14) .ret) (entryFrom 0 expr_Operands.ps x)).trans (expr_Operands.se (lim expr_Operands.E expr_Operands.fin) x)
noncomputable def expr_Operands.ctxc (n : Nat) : List (Nat × Sig) := [(9, expr_Starts.sigc n), (23, expr_operands.sigc n)]
noncomputable def expr_Operands.sigc (n : Nat) : Sig := ⟨expr_Operands.ps, expr_Operands.rs, fun x => runs (withCtx expr_Operands.E (expr_Operands.ctxc n)) expr_Operands.fin n (.code (bodyOf Try.f14) .ret) (entryFrom 0 expr_Operands.ps x)⟩
theorem expr_Operands.sigc_le (n : Nat) : ∀ x y, (expr_Operands.sigc n).run x = some y → expr_Operands.sig.run x = some y :=
  fun x y h => (expr_Operands.val x).symm.trans (runs_lim (E := expr_Operands.E) (c := expr_Operands.ctxc n) (ctxLe_cons (ctxLe_cons ctxLe_nil (expr_operands.sigc_le n)) (expr_Starts.sigc_le n)) h)

/-! ### guerdon/guerdonlaw10.awake -/
namespace law10_awake
abbrev ps : List PM := []
abbrev rs : List RM := [.pure .bool]
abbrev R : Type := Option (Bool × Unit)
noncomputable def E : Env := { tt := tt, ctx := [(9, expr_Starts.sig), (17, expr_TypeOf.sig), (13, same_Ints.sig), (14, expr_Operands.sig)], nt := 106, ann := [(9, [(8, .keep), (9, .keep), (11, .keep), (12, .keep), (14, .keep), (15, .keep)])] }
noncomputable def c0 : Code := sub [1, 1, 1, 1, 1, 1, 1, 1] (bodyOf Try.f8)
noncomputable def fin : ASt → R := Kret E Try.f8.results.toList ps rs
def tJ0 (a : Int) (h_9 : Int) (b : Int) (i : Int) (c_14 : Int) (j : Int) : ASt := ⟨[(15, .one (.val (.int .i64) j)), (14, .one (.val (.int .i64) c_14)), (12, .one (.val (.int .i64) i)), (11, .one (.val (.int .i64) b)), (9, .one (.val (.int .i64) h_9)), (8, .one (.val (.int .i64) a))], []⟩
noncomputable def SJ0 (a : Int) (h_9 : Int) (b : Int) (i : Int) (c_14 : Int) (j : Int) : R :=
  cond (a == 2)
    (cond (h_9 == 8)
      (cond (b == 1)
        (cond (i == 2)
          (cond (c_14 == 2)
            (some ((j == 4), ()))
            (some (false, ())))
          (some (false, ())))
        (some (false, ())))
      (some (false, ())))
    (some (false, ()))
noncomputable def Se (kJ0 : Int → Int → Int → Int → Int → Int → R) : R :=
  Option.bind (expr_Starts [(2, 2, ()), (2, 3, ()), (11, 0, ())]) fun x1 =>
  Option.bind (expr_TypeOf [(2, 2, ()), (2, 3, ()), (11, 0, ())] ([], [], [], [], [], false, ())) fun x2 =>
  Option.bind (expr_TypeOf [(2, 2, ()), (1, 1, ()), (11, 0, ())] ([], [], [], [], [], false, ())) fun x3 =>
  Option.bind (expr_TypeOf [(2, 2, ()), (10, 1, ())] ([], [], [], [], [], false, ())) fun x4 =>
  Option.bind (expr_TypeOf [(2, 1, ()), (2, 1, ())] ([], [], [], [], [], false, ())) fun x5 =>
  cond (x1.2.1 != 0)
    (some (false, ()))
    (Option.bind (same_Ints x1.1 [0, 1, 0]) fun x6 =>
    cond (!x6.1)
      (some (false, ()))
      (Option.bind (expr_Operands [(2, 2, ()), (2, 3, ()), (11, 0, ())] 2) fun x7 =>
      Option.bind (same_Ints x7.1 [0, 1]) fun x8 =>
      cond (!x8.1)
        (some (false, ()))
        (cond (x2.2.2.1 != 0)
          (some (false, ()))
          (cond (x2.1.1 != 2)
            (some (false, ()))
            (kJ0 x3.2.1 x3.2.2.1 x4.2.1 x4.2.2.1 x5.2.1 x5.2.2.1)))))
theorem sJ0 (jmp : Tgt → ASt → R) (a : Int) (h_9 : Int) (b : Int) (i : Int) (c_14 : Int) (j : Int) : run E jmp fin depth c0 .ret (tJ0 a h_9 b i c_14 j) =
    SJ0 a h_9 b i c_14 j := by kernel_rfl
theorem se (jmp : Tgt → ASt → R) (x : (argTy ps).den) : run E jmp fin depth (bodyOf Try.f8) .ret (entryFrom 0 ps x) =
    Se (fun a h_9 b i c_14 j => jmp (.code c0 .ret) (tJ0 a h_9 b i c_14 j)) := by kernel_rfl
noncomputable def J0 (a : Int) (h_9 : Int) (b : Int) (i : Int) (c_14 : Int) (j : Int) : R := lim E fin (.code c0 .ret) (tJ0 a h_9 b i c_14 j)
theorem J0_eq (a : Int) (h_9 : Int) (b : Int) (i : Int) (c_14 : Int) (j : Int) : J0 a h_9 b i c_14 j = SJ0 a h_9 b i c_14 j :=
  (lim_eq (.code c0 .ret) (tJ0 a h_9 b i c_14 j)).trans (sJ0 (lim E fin) a h_9 b i c_14 j)
end law10_awake
noncomputable def law10_awake : law10_awake.R :=
  law10_awake.Se law10_awake.J0 
noncomputable def law10_awake.sig : Sig := ⟨law10_awake.ps, law10_awake.rs, fun x => law10_awake⟩
theorem law10_awake.ok : CallOK Try.prog 8 law10_awake.sig :=
  callOK_of_lim (E := law10_awake.E) mixed tt_ok (ctxOk_cons (ctxOk_cons (ctxOk_cons (ctxOk_cons ctxOk_nil expr_Operands.ok Try.func14 (by kernel_rfl) (by kernel_rfl)) same_Ints.ok Try.func13 (by kernel_rfl) (by kernel_rfl)) expr_TypeOf.ok Try.func17 (by kernel_rfl) (by kernel_rfl)) expr_Starts.ok Try.func9 (by kernel_rfl) (by kernel_rfl)) Try.func8 (by kernel_rfl : Try.f8.body = some (bodyOf Try.f8)) Try.ntmps8 (of_decide_eq_true (by kernel_rfl)) (of_decide_eq_true (by kernel_rfl))
    fun x y h => ((lim_eq (.code (bodyOf Try.f8) .ret) (entryFrom 0 law10_awake.ps x)).trans (law10_awake.se (lim law10_awake.E law10_awake.fin) x)).trans h
theorem law10_awake.val (x : (argTy law10_awake.ps).den) : lim law10_awake.E law10_awake.fin (.code (bodyOf Try.f8) .ret) (entryFrom 0 law10_awake.ps x) = law10_awake.sig.run x :=
  (lim_eq (.code (bodyOf Try.f8) .ret) (entryFrom 0 law10_awake.ps x)).trans (law10_awake.se (lim law10_awake.E law10_awake.fin) x)
noncomputable def law10_awake.ctxc (n : Nat) : List (Nat × Sig) := [(9, expr_Starts.sigc n), (17, expr_TypeOf.sigc n), (13, same_Ints.sigc n), (14, expr_Operands.sigc n)]
noncomputable def law10_awake.sigc (n : Nat) : Sig := ⟨law10_awake.ps, law10_awake.rs, fun x => runs (withCtx law10_awake.E (law10_awake.ctxc n)) law10_awake.fin n (.code (bodyOf Try.f8) .ret) (entryFrom 0 law10_awake.ps x)⟩
theorem law10_awake.sigc_le (n : Nat) : ∀ x y, (law10_awake.sigc n).run x = some y → law10_awake.sig.run x = some y :=
  fun x y h => (law10_awake.val x).symm.trans (runs_lim (E := law10_awake.E) (c := law10_awake.ctxc n) (ctxLe_cons (ctxLe_cons (ctxLe_cons (ctxLe_cons ctxLe_nil (expr_Operands.sigc_le n)) (same_Ints.sigc_le n)) (expr_TypeOf.sigc_le n)) (expr_Starts.sigc_le n)) h)

/-! ### guerdon/guerdonref10.Arity -/
namespace ref10_Arity
abbrev ps : List PM := [.pure (.int .i64)]
abbrev rs : List RM := [.pure (.int .i64)]
abbrev R : Type := Option (Int × Unit)
noncomputable def E : Env := { tt := tt, ctx := [], nt := 33, ann := [(3, [(0, .keep)]), (13, [(0, .keep)])] }
noncomputable def c0 : Code := sub [1, 1] (bodyOf Try.f12)
noncomputable def c1 : Code := sub [1, 1, 1] (bodyOf Try.f12)
noncomputable def fin : ASt → R := Kret E Try.f12.results.toList ps rs
def tJ0 (op : Int) : ASt := ⟨[(0, .one (.val (.int .i64) op))], []⟩
def tJ1 (op : Int) : ASt := ⟨[(0, .one (.val (.int .i64) op))], []⟩
noncomputable def SJ0 (kJ1 : Int → R) (op : Int) : R :=
  cond (op == 10)
    (cond (op == 10)
      (some (1, ()))
      (cond (op == 26)
        (some (3, ()))
        (kJ1 op)))
    (cond (op == 25)
      (cond (op == 25)
        (some (1, ()))
        (cond (op == 26)
          (some (3, ()))
          (kJ1 op)))
      (cond (op == 31)
        (cond (op == 31)
          (some (1, ()))
          (cond (op == 26)
            (some (3, ()))
            (kJ1 op)))
        (cond (op == 32)
          (cond (op == 32)
            (some (1, ()))
            (cond (op == 26)
              (some (3, ()))
              (kJ1 op)))
          (cond (op == 33)
            (cond (op == 33)
              (some (1, ()))
              (cond (op == 26)
                (some (3, ()))
                (kJ1 op)))
            (cond (op == 34)
              (some (1, ()))
              (cond (op == 26)
                (some (3, ()))
                (kJ1 op)))))))
noncomputable def SJ1 (op : Int) : R :=
  cond (decide (op ≥ 11))
    (cond (decide (op ≤ 30))
      (some (2, ()))
      (some ((-1), ())))
    (some ((-1), ()))
noncomputable def Se (kJ0 : Int → R) (op : Int) : R :=
  cond (decide (op ≥ 1))
    (cond (decide (op ≤ 9))
      (some (0, ()))
      (cond (decide (op ≥ 35))
        (cond (decide (op ≤ 39))
          (some (0, ()))
          (kJ0 op))
        (kJ0 op)))
    (cond (decide (op ≥ 35))
      (cond (decide (op ≤ 39))
        (some (0, ()))
        (kJ0 op))
      (kJ0 op))
theorem sJ0 (jmp : Tgt → ASt → R) (op : Int) : run E jmp fin depth c0 .ret (tJ0 op) =
    SJ0 (fun op => jmp (.code c1 .ret) (tJ1 op)) op := by kernel_rfl
theorem sJ1 (jmp : Tgt → ASt → R) (op : Int) : run E jmp fin depth c1 .ret (tJ1 op) =
    SJ1 op := by kernel_rfl
theorem se (jmp : Tgt → ASt → R) (x : (argTy ps).den) : run E jmp fin depth (bodyOf Try.f12) .ret (entryFrom 0 ps x) =
    Se (fun op => jmp (.code c0 .ret) (tJ0 op)) x.1 := by kernel_rfl
noncomputable def J0 (op : Int) : R := lim E fin (.code c0 .ret) (tJ0 op)
noncomputable def J1 (op : Int) : R := lim E fin (.code c1 .ret) (tJ1 op)
theorem J0_eq (op : Int) : J0 op = SJ0 J1 op :=
  (lim_eq (.code c0 .ret) (tJ0 op)).trans (sJ0 (lim E fin) op)
theorem J1_eq (op : Int) : J1 op = SJ1 op :=
  (lim_eq (.code c1 .ret) (tJ1 op)).trans (sJ1 (lim E fin) op)
end ref10_Arity
noncomputable def ref10_Arity (op : Int) : ref10_Arity.R :=
  ref10_Arity.Se ref10_Arity.J0 op
noncomputable def ref10_Arity.sig : Sig := ⟨ref10_Arity.ps, ref10_Arity.rs, fun x => ref10_Arity x.1⟩
theorem ref10_Arity.ok : CallOK Try.prog 12 ref10_Arity.sig :=
  callOK_of_lim (E := ref10_Arity.E) mixed tt_ok ctxOk_nil Try.func12 (by kernel_rfl : Try.f12.body = some (bodyOf Try.f12)) Try.ntmps12 (of_decide_eq_true (by kernel_rfl)) (of_decide_eq_true (by kernel_rfl))
    fun x y h => ((lim_eq (.code (bodyOf Try.f12) .ret) (entryFrom 0 ref10_Arity.ps x)).trans (ref10_Arity.se (lim ref10_Arity.E ref10_Arity.fin) x)).trans h
theorem ref10_Arity.val (x : (argTy ref10_Arity.ps).den) : lim ref10_Arity.E ref10_Arity.fin (.code (bodyOf Try.f12) .ret) (entryFrom 0 ref10_Arity.ps x) = ref10_Arity.sig.run x :=
  (lim_eq (.code (bodyOf Try.f12) .ret) (entryFrom 0 ref10_Arity.ps x)).trans (ref10_Arity.se (lim ref10_Arity.E ref10_Arity.fin) x)
noncomputable def ref10_Arity.ctxc (n : Nat) : List (Nat × Sig) := []
noncomputable def ref10_Arity.sigc (n : Nat) : Sig := ⟨ref10_Arity.ps, ref10_Arity.rs, fun x => runs (withCtx ref10_Arity.E (ref10_Arity.ctxc n)) ref10_Arity.fin n (.code (bodyOf Try.f12) .ret) (entryFrom 0 ref10_Arity.ps x)⟩
theorem ref10_Arity.sigc_le (n : Nat) : ∀ x y, (ref10_Arity.sigc n).run x = some y → ref10_Arity.sig.run x = some y :=
  fun x y h => (ref10_Arity.val x).symm.trans (runs_lim (E := ref10_Arity.E) (c := ref10_Arity.ctxc n) ctxLe_nil h)

/-! ### guerdon/guerdonref10.structure -/
namespace ref10_structure
abbrev ps : List PM := [.pure (.sl api_Type)]
abbrev rs : List RM := [.own (.int .i64), .pure (.int .i64), .pure (.int .i64)]
abbrev R : Type := Option (List Int × Int × Int × Unit)
noncomputable def E : Env := { tt := tt, ctx := [(12, ref10_Arity.sig)], nt := 70, ann := [(1000007, [(0, .keep), (5, .own (.int .i64)), (6, .own (.int .i64)), (7, .keep)]), (18, [(0, .keep), (5, .own (.int .i64)), (6, .own (.int .i64)), (7, .keep), (9, .keep)])] }
noncomputable def c0 : Code := sub [1, 1, 1, 1, 1] (bodyOf Try.f22)
noncomputable def c1 : Code := sub [1, 1, 1, 1, 0, 1, 0, 0] (bodyOf Try.f22)
noncomputable def c2 : Code := sub [1, 1, 1, 1, 0, 1, 0, 0, 1, 1] (bodyOf Try.f22)
noncomputable def c3 : Code := sub [1, 1, 1, 1, 0, 1, 0, 0, 1, 0, 0, 1, 1, 1, 1, 1] (bodyOf Try.f22)
noncomputable def K9 : Kont := .seq c0 .ret
noncomputable def K11 : Kont := .blk 0 K9
noncomputable def K12 : Kont := .loop c1 K11
noncomputable def K15 : Kont := .seq c2 K12
noncomputable def K16 : Kont := .blk 1 K15
noncomputable def fin : ASt → R := Kret E Try.f22.results.toList ps rs
def tL0 (e : List api_TypeV) (starts : List Int) (stack : List Int) (i : Int) : ASt := ⟨[(7, .one (.val (.int .i64) i)), (6, .one (.own 6)), (5, .one (.own 5)), (0, .one (.val (.sl api_Type) e))], [(6, some ⟨.free, .int .i64, stack⟩), (5, some ⟨.free, .int .i64, starts⟩)]⟩
def tJ1 (e : List api_TypeV) (starts : List Int) (stack : List Int) (i : Int) (from_9 : Int) : ASt := ⟨[(9, .one (.val (.int .i64) from_9)), (7, .one (.val (.int .i64) i)), (6, .one (.own 6)), (5, .one (.own 5)), (0, .one (.val (.sl api_Type) e))], [(6, some ⟨.free, .int .i64, stack⟩), (5, some ⟨.free, .int .i64, starts⟩)]⟩
noncomputable def SL0 (kJ1 : (List api_TypeV) → (List Int) → (List Int) → Int → Int → R) (e : List api_TypeV) (starts : List Int) (stack : List Int) (i : Int) : R :=
  cond (decide (i < (e.length : Int)))
    (Option.bind (idx e i) fun x1 =>
    Option.bind (ref10_Arity x1.1) fun x2 =>
    cond (decide (x2.1 < 0))
      (some ([], i, 2, ()))
      (cond (decide (x2.1 > (stack.length : Int)))
        (some ([], i, 5, ()))
        (cond (decide (x2.1 > 0))
          (cond (decide (0 ≤ IntKind.i64.wrap ((stack.length : Int) - x2.1)) && decide (IntKind.i64.wrap ((stack.length : Int) - x2.1) < (stack.length : Int)))
            (cond (decide ((0 : Int) ≤ 0) && (decide ((0 : Int) ≤ IntKind.i64.wrap ((stack.length : Int) - x2.1)) && decide (IntKind.i64.wrap ((stack.length : Int) - x2.1) ≤ (stack.length : Int))))
              (kJ1 e starts (stack.take ((IntKind.i64.wrap ((stack.length : Int) - x2.1)).toNat)) i (stack.getD ((IntKind.i64.wrap ((stack.length : Int) - x2.1)).toNat) 0))
              none)
            none)
          (kJ1 e starts stack i i))))
    (cond (decide ((stack.length : Int) > 1))
      (some ([], (e.length : Int), 4, ()))
      (some (starts, 0, 0, ())))
noncomputable def SJ1 (kL0 : (List api_TypeV) → (List Int) → (List Int) → Int → R) (e : List api_TypeV) (starts : List Int) (stack : List Int) (i : Int) (from_9 : Int) : R :=
  cond (decide ((stack.length + 1) * 8 ≤ room) && decide (0 < Ty.nc (.int .i64)))
    (cond (decide ((starts.length + 1) * 8 ≤ room) && decide (0 < Ty.nc (.int .i64)))
      (cond (decide (((stack ++ [from_9]).length : Int) > 12))
        (some ([], i, 16, ()))
        (kL0 e (starts ++ [from_9]) (stack ++ [from_9]) (IntKind.i64.wrap (i + 1))))
      none)
    none
noncomputable def Se (kL0 : (List api_TypeV) → (List Int) → (List Int) → Int → R) (e : List api_TypeV) : R :=
  cond (decide ((e.length : Int) > 48))
    (some ([], 0, 4, ()))
    (cond ((e.length : Int) == 0)
      (some ([], 0, 5, ()))
      (kL0 e [] [] 0))
theorem sL0 (jmp : Tgt → ASt → R) (e : List api_TypeV) (starts : List Int) (stack : List Int) (i : Int) : run E jmp fin depth c1 (.loop c1 K11) (tL0 e starts stack i) =
    SL0 (fun e starts stack i from_9 => jmp (.code c3 K16) (tJ1 e starts stack i from_9)) e starts stack i := by kernel_rfl
theorem sJ1 (jmp : Tgt → ASt → R) (e : List api_TypeV) (starts : List Int) (stack : List Int) (i : Int) (from_9 : Int) : run E jmp fin depth c3 K16 (tJ1 e starts stack i from_9) =
    SJ1 (fun e starts stack i => jmp (.loop c1 K11) (tL0 e starts stack i)) e starts stack i from_9 := by kernel_rfl
theorem se (jmp : Tgt → ASt → R) (x : (argTy ps).den) : run E jmp fin depth (bodyOf Try.f22) .ret (entryFrom 0 ps x) =
    Se (fun e starts stack i => jmp (.loop c1 K11) (tL0 e starts stack i)) x.1 := by kernel_rfl
noncomputable def L0 (e : List api_TypeV) (starts : List Int) (stack : List Int) (i : Int) : R := lim E fin (.loop c1 K11) (tL0 e starts stack i)
noncomputable def J1 (e : List api_TypeV) (starts : List Int) (stack : List Int) (i : Int) (from_9 : Int) : R := lim E fin (.code c3 K16) (tJ1 e starts stack i from_9)
theorem L0_eq (e : List api_TypeV) (starts : List Int) (stack : List Int) (i : Int) : L0 e starts stack i = SL0 J1 e starts stack i :=
  (lim_eq (.loop c1 K11) (tL0 e starts stack i)).trans (sL0 (lim E fin) e starts stack i)
theorem J1_eq (e : List api_TypeV) (starts : List Int) (stack : List Int) (i : Int) (from_9 : Int) : J1 e starts stack i from_9 = SJ1 L0 e starts stack i from_9 :=
  (lim_eq (.code c3 K16) (tJ1 e starts stack i from_9)).trans (sJ1 (lim E fin) e starts stack i from_9)
end ref10_structure
noncomputable def ref10_structure (e : List api_TypeV) : ref10_structure.R :=
  ref10_structure.Se ref10_structure.L0 e
noncomputable def ref10_structure.sig : Sig := ⟨ref10_structure.ps, ref10_structure.rs, fun x => ref10_structure x.1⟩
theorem ref10_structure.ok : CallOK Try.prog 22 ref10_structure.sig :=
  callOK_of_lim (E := ref10_structure.E) mixed tt_ok (ctxOk_cons ctxOk_nil ref10_Arity.ok Try.func12 (by kernel_rfl) (by kernel_rfl)) Try.func22 (by kernel_rfl : Try.f22.body = some (bodyOf Try.f22)) Try.ntmps22 (of_decide_eq_true (by kernel_rfl)) (of_decide_eq_true (by kernel_rfl))
    fun x y h => ((lim_eq (.code (bodyOf Try.f22) .ret) (entryFrom 0 ref10_structure.ps x)).trans (ref10_structure.se (lim ref10_structure.E ref10_structure.fin) x)).trans h
theorem ref10_structure.val (x : (argTy ref10_structure.ps).den) : lim ref10_structure.E ref10_structure.fin (.code (bodyOf Try.f22) .ret) (entryFrom 0 ref10_structure.ps x) = ref10_structure.sig.run x :=
  (lim_eq (.code (bodyOf Try.f22) .ret) (entryFrom 0 ref10_structure.ps x)).trans (ref10_structure.se (lim ref10_structure.E ref10_structure.fin) x)
noncomputable def ref10_structure.ctxc (n : Nat) : List (Nat × Sig) := [(12, ref10_Arity.sigc n)]
noncomputable def ref10_structure.sigc (n : Nat) : Sig := ⟨ref10_structure.ps, ref10_structure.rs, fun x => runs (withCtx ref10_structure.E (ref10_structure.ctxc n)) ref10_structure.fin n (.code (bodyOf Try.f22) .ret) (entryFrom 0 ref10_structure.ps x)⟩
theorem ref10_structure.sigc_le (n : Nat) : ∀ x y, (ref10_structure.sigc n).run x = some y → ref10_structure.sig.run x = some y :=
  fun x y h => (ref10_structure.val x).symm.trans (runs_lim (E := ref10_structure.E) (c := ref10_structure.ctxc n) (ctxLe_cons ctxLe_nil (ref10_Arity.sigc_le n)) h)

/-! ### guerdon/guerdonref10.Starts -/
namespace ref10_Starts
abbrev ps : List PM := [.pure (.sl api_Type)]
abbrev rs : List RM := [.own (.int .i64), .pure (.int .i64)]
abbrev R : Type := Option (List Int × Int × Unit)
noncomputable def E : Env := { tt := tt, ctx := [(22, ref10_structure.sig)], nt := 15, ann := [] }
noncomputable def fin : ASt → R := Kret E Try.f10.results.toList ps rs
noncomputable def Se (e : List api_TypeV) : R :=
  Option.bind (ref10_structure e) fun x1 =>
  some (x1.1, x1.2.2.1, ())
theorem se (jmp : Tgt → ASt → R) (x : (argTy ps).den) : run E jmp fin depth (bodyOf Try.f10) .ret (entryFrom 0 ps x) =
    Se x.1 := by kernel_rfl
end ref10_Starts
noncomputable def ref10_Starts (e : List api_TypeV) : ref10_Starts.R :=
  ref10_Starts.Se e
noncomputable def ref10_Starts.sig : Sig := ⟨ref10_Starts.ps, ref10_Starts.rs, fun x => ref10_Starts x.1⟩
theorem ref10_Starts.ok : CallOK Try.prog 10 ref10_Starts.sig :=
  callOK_of_lim (E := ref10_Starts.E) mixed tt_ok (ctxOk_cons ctxOk_nil ref10_structure.ok Try.func22 (by kernel_rfl) (by kernel_rfl)) Try.func10 (by kernel_rfl : Try.f10.body = some (bodyOf Try.f10)) Try.ntmps10 (of_decide_eq_true (by kernel_rfl)) (of_decide_eq_true (by kernel_rfl))
    fun x y h => ((lim_eq (.code (bodyOf Try.f10) .ret) (entryFrom 0 ref10_Starts.ps x)).trans (ref10_Starts.se (lim ref10_Starts.E ref10_Starts.fin) x)).trans h
theorem ref10_Starts.val (x : (argTy ref10_Starts.ps).den) : lim ref10_Starts.E ref10_Starts.fin (.code (bodyOf Try.f10) .ret) (entryFrom 0 ref10_Starts.ps x) = ref10_Starts.sig.run x :=
  (lim_eq (.code (bodyOf Try.f10) .ret) (entryFrom 0 ref10_Starts.ps x)).trans (ref10_Starts.se (lim ref10_Starts.E ref10_Starts.fin) x)
noncomputable def ref10_Starts.ctxc (n : Nat) : List (Nat × Sig) := [(22, ref10_structure.sigc n)]
noncomputable def ref10_Starts.sigc (n : Nat) : Sig := ⟨ref10_Starts.ps, ref10_Starts.rs, fun x => runs (withCtx ref10_Starts.E (ref10_Starts.ctxc n)) ref10_Starts.fin n (.code (bodyOf Try.f10) .ret) (entryFrom 0 ref10_Starts.ps x)⟩
theorem ref10_Starts.sigc_le (n : Nat) : ∀ x y, (ref10_Starts.sigc n).run x = some y → ref10_Starts.sig.run x = some y :=
  fun x y h => (ref10_Starts.val x).symm.trans (runs_lim (E := ref10_Starts.E) (c := ref10_Starts.ctxc n) (ctxLe_cons ctxLe_nil (ref10_structure.sigc_le n)) h)

/-! ### guerdon/guerdonref10.Operands -/
namespace ref10_Operands
abbrev ps : List PM := [.pure (.sl api_Type), .pure (.int .i64)]
abbrev rs : List RM := [.own (.int .i64)]
abbrev R : Type := Option (List Int × Unit)
noncomputable def E : Env := { tt := tt, ctx := [(22, ref10_structure.sig), (12, ref10_Arity.sig)], nt := 56, ann := [(4, [(0, .keep), (1, .keep), (5, .keep)]), (1000008, [(5, .keep), (9, .keep), (10, .keep), (11, .keep)])] }
noncomputable def c0 : Code := sub [1, 1, 1, 1, 1, 1, 1] (bodyOf Try.f15)
noncomputable def c1 : Code := sub [1, 1, 1] (bodyOf Try.f15)
noncomputable def c2 : Code := sub [1, 1, 1, 1, 1, 1, 0, 1, 0, 0] (bodyOf Try.f15)
noncomputable def K9 : Kont := .seq c0 .ret
noncomputable def K11 : Kont := .blk 0 K9
noncomputable def fin : ASt → R := Kret E Try.f15.results.toList ps rs
def tJ0 (e : List api_TypeV) (at_1 : Int) (starts : List Int) : ASt := ⟨[(5, .one (.own 5)), (1, .one (.val (.int .i64) at_1)), (0, .one (.val (.sl api_Type) e))], [(5, some ⟨.free, .int .i64, starts⟩)]⟩
def tL1 (starts : List Int) (out : List Int) (k : Int) (i : Int) : ASt := ⟨[(11, .one (.val (.int .i64) i)), (10, .one (.val (.int .i64) k)), (9, .one (.own 9)), (5, .one (.own 5))], [(9, some ⟨.free, .int .i64, out⟩), (5, some ⟨.free, .int .i64, starts⟩)]⟩
noncomputable def SJ0 (kL1 : (List Int) → (List Int) → Int → Int → R) (e : List api_TypeV) (at_1 : Int) (starts : List Int) : R :=
  Option.bind (idx e at_1) fun x1 =>
  Option.bind (ref10_Arity x1.1) fun x2 =>
  cond (decide (0 ≤ (x2.1 : Int)) && (decide ((x2.1 : Int) ≤ x2.1) && (decide ((x2.1 : Int) * 8 ≤ room) && (decide ((x2.1 : Int) ≤ maxLen) && decide (0 < Ty.nc (.int .i64))))))
    (kL1 starts (List.replicate x2.1.toNat 0) (IntKind.i64.wrap (at_1 - 1)) (IntKind.i64.wrap (x2.1 - 1)))
    none
noncomputable def SL1 (kL1 : (List Int) → (List Int) → Int → Int → R) (starts : List Int) (out : List Int) (k : Int) (i : Int) : R :=
  cond (decide (i ≥ 0))
    (cond (decide (0 ≤ i) && decide (i < (out.length : Int)))
      (cond (decide (0 ≤ k) && decide (k < (starts.length : Int)))
        (kL1 starts (out.set i.toNat k) (IntKind.i64.wrap ((starts.getD k.toNat 0) - 1)) (IntKind.i64.wrap (i - 1)))
        none)
      none)
    (some (out, ()))
noncomputable def Se (kJ0 : (List api_TypeV) → Int → (List Int) → R) (e : List api_TypeV) (at_1 : Int) : R :=
  Option.bind (ref10_structure e) fun x1 =>
  cond (x1.2.2.1 != 0)
    (some ([], ()))
    (cond (decide (at_1 < 0))
      (some ([], ()))
      (cond (decide (at_1 ≥ (e.length : Int)))
        (some ([], ()))
        (kJ0 e at_1 x1.1)))
theorem sJ0 (jmp : Tgt → ASt → R) (e : List api_TypeV) (at_1 : Int) (starts : List Int) : run E jmp fin depth c1 .ret (tJ0 e at_1 starts) =
    SJ0 (fun starts out k i => jmp (.loop c2 K11) (tL1 starts out k i)) e at_1 starts := by kernel_rfl
theorem sL1 (jmp : Tgt → ASt → R) (starts : List Int) (out : List Int) (k : Int) (i : Int) : run E jmp fin depth c2 (.loop c2 K11) (tL1 starts out k i) =
    SL1 (fun starts out k i => jmp (.loop c2 K11) (tL1 starts out k i)) starts out k i := by kernel_rfl
theorem se (jmp : Tgt → ASt → R) (x : (argTy ps).den) : run E jmp fin depth (bodyOf Try.f15) .ret (entryFrom 0 ps x) =
    Se (fun e at_1 starts => jmp (.code c1 .ret) (tJ0 e at_1 starts)) x.1 x.2.1 := by kernel_rfl
noncomputable def J0 (e : List api_TypeV) (at_1 : Int) (starts : List Int) : R := lim E fin (.code c1 .ret) (tJ0 e at_1 starts)
noncomputable def L1 (starts : List Int) (out : List Int) (k : Int) (i : Int) : R := lim E fin (.loop c2 K11) (tL1 starts out k i)
theorem J0_eq (e : List api_TypeV) (at_1 : Int) (starts : List Int) : J0 e at_1 starts = SJ0 L1 e at_1 starts :=
  (lim_eq (.code c1 .ret) (tJ0 e at_1 starts)).trans (sJ0 (lim E fin) e at_1 starts)
theorem L1_eq (starts : List Int) (out : List Int) (k : Int) (i : Int) : L1 starts out k i = SL1 L1 starts out k i :=
  (lim_eq (.loop c2 K11) (tL1 starts out k i)).trans (sL1 (lim E fin) starts out k i)
end ref10_Operands
noncomputable def ref10_Operands (e : List api_TypeV) (at_1 : Int) : ref10_Operands.R :=
  ref10_Operands.Se ref10_Operands.J0 e at_1
noncomputable def ref10_Operands.sig : Sig := ⟨ref10_Operands.ps, ref10_Operands.rs, fun x => ref10_Operands x.1 x.2.1⟩
theorem ref10_Operands.ok : CallOK Try.prog 15 ref10_Operands.sig :=
  callOK_of_lim (E := ref10_Operands.E) mixed tt_ok (ctxOk_cons (ctxOk_cons ctxOk_nil ref10_Arity.ok Try.func12 (by kernel_rfl) (by kernel_rfl)) ref10_structure.ok Try.func22 (by kernel_rfl) (by kernel_rfl)) Try.func15 (by kernel_rfl : Try.f15.body = some (bodyOf Try.f15)) Try.ntmps15 (of_decide_eq_true (by kernel_rfl)) (of_decide_eq_true (by kernel_rfl))
    fun x y h => ((lim_eq (.code (bodyOf Try.f15) .ret) (entryFrom 0 ref10_Operands.ps x)).trans (ref10_Operands.se (lim ref10_Operands.E ref10_Operands.fin) x)).trans h
theorem ref10_Operands.val (x : (argTy ref10_Operands.ps).den) : lim ref10_Operands.E ref10_Operands.fin (.code (bodyOf Try.f15) .ret) (entryFrom 0 ref10_Operands.ps x) = ref10_Operands.sig.run x :=
  (lim_eq (.code (bodyOf Try.f15) .ret) (entryFrom 0 ref10_Operands.ps x)).trans (ref10_Operands.se (lim ref10_Operands.E ref10_Operands.fin) x)
noncomputable def ref10_Operands.ctxc (n : Nat) : List (Nat × Sig) := [(22, ref10_structure.sigc n), (12, ref10_Arity.sigc n)]
noncomputable def ref10_Operands.sigc (n : Nat) : Sig := ⟨ref10_Operands.ps, ref10_Operands.rs, fun x => runs (withCtx ref10_Operands.E (ref10_Operands.ctxc n)) ref10_Operands.fin n (.code (bodyOf Try.f15) .ret) (entryFrom 0 ref10_Operands.ps x)⟩
theorem ref10_Operands.sigc_le (n : Nat) : ∀ x y, (ref10_Operands.sigc n).run x = some y → ref10_Operands.sig.run x = some y :=
  fun x y h => (ref10_Operands.val x).symm.trans (runs_lim (E := ref10_Operands.E) (c := ref10_Operands.ctxc n) (ctxLe_cons (ctxLe_cons ctxLe_nil (ref10_Arity.sigc_le n)) (ref10_structure.sigc_le n)) h)

/-! ### guerdon/guerdonlaw10.ExprStructure -/
namespace law10_ExprStructure
abbrev ps : List PM := [.pure (.sl api_Type), .pure (.int .i64), .pure (.int .i64)]
abbrev rs : List RM := [.pure .bool]
abbrev R : Type := Option (Bool × Unit)
noncomputable def E : Env := { tt := tt, ctx := [(8, law10_awake.sig), (9, expr_Starts.sig), (10, ref10_Starts.sig), (11, expr_Arity.sig), (12, ref10_Arity.sig), (13, same_Ints.sig), (14, expr_Operands.sig), (15, ref10_Operands.sig)], nt := 52, ann := [] }
noncomputable def fin : ASt → R := Kret E Try.f3.results.toList ps rs
noncomputable def Se (e : List api_TypeV) (at_1 : Int) (op : Int) : R :=
  cond (decide ((e.length : Int) > 100))
    (Option.bind law10_awake fun x1 =>
    some (x1.1, ()))
    (Option.bind (expr_Starts e) fun x2 =>
    Option.bind (ref10_Starts e) fun x3 =>
    Option.bind (expr_Arity op) fun x4 =>
    Option.bind (ref10_Arity op) fun x5 =>
    cond (x4.1 == x5.1)
      (cond (x2.2.1 == x3.2.1)
        (Option.bind (same_Ints x2.1 x3.1) fun x6 =>
        cond x6.1
          (Option.bind (expr_Operands e at_1) fun x7 =>
          Option.bind (ref10_Operands e at_1) fun x8 =>
          Option.bind (same_Ints x7.1 x8.1) fun x9 =>
          cond x9.1
            (Option.bind law10_awake fun x10 =>
            some (x10.1, ()))
            (some (false, ())))
          (some (false, ())))
        (some (false, ())))
      (some (false, ())))
theorem se (jmp : Tgt → ASt → R) (x : (argTy ps).den) : run E jmp fin depth (bodyOf Try.f3) .ret (entryFrom 0 ps x) =
    Se x.1 x.2.1 x.2.2.1 := by kernel_rfl
end law10_ExprStructure
noncomputable def law10_ExprStructure (e : List api_TypeV) (at_1 : Int) (op : Int) : law10_ExprStructure.R :=
  law10_ExprStructure.Se e at_1 op
noncomputable def law10_ExprStructure.sig : Sig := ⟨law10_ExprStructure.ps, law10_ExprStructure.rs, fun x => law10_ExprStructure x.1 x.2.1 x.2.2.1⟩
theorem law10_ExprStructure.ok : CallOK Try.prog 3 law10_ExprStructure.sig :=
  callOK_of_lim (E := law10_ExprStructure.E) mixed tt_ok (ctxOk_cons (ctxOk_cons (ctxOk_cons (ctxOk_cons (ctxOk_cons (ctxOk_cons (ctxOk_cons (ctxOk_cons ctxOk_nil ref10_Operands.ok Try.func15 (by kernel_rfl) (by kernel_rfl)) expr_Operands.ok Try.func14 (by kernel_rfl) (by kernel_rfl)) same_Ints.ok Try.func13 (by kernel_rfl) (by kernel_rfl)) ref10_Arity.ok Try.func12 (by kernel_rfl) (by kernel_rfl)) expr_Arity.ok Try.func11 (by kernel_rfl) (by kernel_rfl)) ref10_Starts.ok Try.func10 (by kernel_rfl) (by kernel_rfl)) expr_Starts.ok Try.func9 (by kernel_rfl) (by kernel_rfl)) law10_awake.ok Try.func8 (by kernel_rfl) (by kernel_rfl)) Try.func3 (by kernel_rfl : Try.f3.body = some (bodyOf Try.f3)) Try.ntmps3 (of_decide_eq_true (by kernel_rfl)) (of_decide_eq_true (by kernel_rfl))
    fun x y h => ((lim_eq (.code (bodyOf Try.f3) .ret) (entryFrom 0 law10_ExprStructure.ps x)).trans (law10_ExprStructure.se (lim law10_ExprStructure.E law10_ExprStructure.fin) x)).trans h
theorem law10_ExprStructure.val (x : (argTy law10_ExprStructure.ps).den) : lim law10_ExprStructure.E law10_ExprStructure.fin (.code (bodyOf Try.f3) .ret) (entryFrom 0 law10_ExprStructure.ps x) = law10_ExprStructure.sig.run x :=
  (lim_eq (.code (bodyOf Try.f3) .ret) (entryFrom 0 law10_ExprStructure.ps x)).trans (law10_ExprStructure.se (lim law10_ExprStructure.E law10_ExprStructure.fin) x)
noncomputable def law10_ExprStructure.ctxc (n : Nat) : List (Nat × Sig) := [(8, law10_awake.sigc n), (9, expr_Starts.sigc n), (10, ref10_Starts.sigc n), (11, expr_Arity.sigc n), (12, ref10_Arity.sigc n), (13, same_Ints.sigc n), (14, expr_Operands.sigc n), (15, ref10_Operands.sigc n)]
noncomputable def law10_ExprStructure.sigc (n : Nat) : Sig := ⟨law10_ExprStructure.ps, law10_ExprStructure.rs, fun x => runs (withCtx law10_ExprStructure.E (law10_ExprStructure.ctxc n)) law10_ExprStructure.fin n (.code (bodyOf Try.f3) .ret) (entryFrom 0 law10_ExprStructure.ps x)⟩
theorem law10_ExprStructure.sigc_le (n : Nat) : ∀ x y, (law10_ExprStructure.sigc n).run x = some y → law10_ExprStructure.sig.run x = some y :=
  fun x y h => (law10_ExprStructure.val x).symm.trans (runs_lim (E := law10_ExprStructure.E) (c := law10_ExprStructure.ctxc n) (ctxLe_cons (ctxLe_cons (ctxLe_cons (ctxLe_cons (ctxLe_cons (ctxLe_cons (ctxLe_cons (ctxLe_cons ctxLe_nil (ref10_Operands.sigc_le n)) (expr_Operands.sigc_le n)) (same_Ints.sigc_le n)) (ref10_Arity.sigc_le n)) (expr_Arity.sigc_le n)) (ref10_Starts.sigc_le n)) (expr_Starts.sigc_le n)) (law10_awake.sigc_le n)) h)

/-! ### guerdon/guerdonref10.Small -/
namespace ref10_Small
abbrev ps : List PM := [.pure api_Signature]
abbrev rs : List RM := [.pure .bool]
abbrev R : Type := Option (Bool × Unit)
noncomputable def E : Env := { tt := tt, ctx := [], nt := 47, ann := [(3, [(1, .keep)]), (1000004, [(1, .keep), (3, .keep)])] }
noncomputable def c0 : Code := sub [1, 1, 1] (bodyOf Try.f16)
noncomputable def c1 : Code := sub [1, 1] (bodyOf Try.f16)
noncomputable def c2 : Code := sub [1, 1, 0, 1, 0, 0] (bodyOf Try.f16)
noncomputable def K5 : Kont := .seq c0 .ret
noncomputable def K7 : Kont := .blk 0 K5
noncomputable def fin : ASt → R := Kret E Try.f16.results.toList ps rs
def tJ0 (s : api_SignatureV) : ASt := ⟨[(1, .one (.optr 1 0 []))], [(1, some ⟨.free, api_Signature, [s]⟩)]⟩
def tL1 (s : api_SignatureV) (i : Int) : ASt := ⟨[(3, .one (.val (.int .i64) i)), (1, .one (.optr 1 0 []))], [(1, some ⟨.free, api_Signature, [s]⟩)]⟩
noncomputable def SJ0 (kL1 : api_SignatureV → Int → R) (s : api_SignatureV) : R :=
  kL1 s 0
noncomputable def SL1 (kL1 : api_SignatureV → Int → R) (s : api_SignatureV) (i : Int) : R :=
  cond (decide (i < (s.1.length : Int)))
    (Option.bind (idx s.1 i) fun x1 =>
    cond (decide ((x1.2.1.length : Int) > 40))
      (some (false, ()))
      (kL1 s (IntKind.i64.wrap (i + 1))))
    (some (true, ()))
noncomputable def Se (kJ0 : api_SignatureV → R) (s : api_SignatureV) : R :=
  cond (decide ((s.1.length : Int) > 10))
    (some (false, ()))
    (cond (decide ((s.2.1.length : Int) > 10))
      (some (false, ()))
      (cond (decide ((s.2.2.1.length : Int) > 40))
        (some (false, ()))
        (cond (decide ((s.2.2.2.1.length : Int) > 40))
          (some (false, ()))
          (cond (decide ((s.2.2.2.2.1.length : Int) > 40))
            (some (false, ()))
            (kJ0 s)))))
theorem sJ0 (jmp : Tgt → ASt → R) (s : api_SignatureV) : run E jmp fin depth c1 .ret (tJ0 s) =
    SJ0 (fun s i => jmp (.loop c2 K7) (tL1 s i)) s := by kernel_rfl
theorem sL1 (jmp : Tgt → ASt → R) (s : api_SignatureV) (i : Int) : run E jmp fin depth c2 (.loop c2 K7) (tL1 s i) =
    SL1 (fun s i => jmp (.loop c2 K7) (tL1 s i)) s i := by kernel_rfl
theorem se (jmp : Tgt → ASt → R) (x : (argTy ps).den) : run E jmp fin depth (bodyOf Try.f16) .ret (entryFrom 0 ps x) =
    Se (fun s => jmp (.code c1 .ret) (tJ0 s)) x.1 := by kernel_rfl
noncomputable def J0 (s : api_SignatureV) : R := lim E fin (.code c1 .ret) (tJ0 s)
noncomputable def L1 (s : api_SignatureV) (i : Int) : R := lim E fin (.loop c2 K7) (tL1 s i)
theorem J0_eq (s : api_SignatureV) : J0 s = SJ0 L1 s :=
  (lim_eq (.code c1 .ret) (tJ0 s)).trans (sJ0 (lim E fin) s)
theorem L1_eq (s : api_SignatureV) (i : Int) : L1 s i = SL1 L1 s i :=
  (lim_eq (.loop c2 K7) (tL1 s i)).trans (sL1 (lim E fin) s i)
end ref10_Small
noncomputable def ref10_Small (s : api_SignatureV) : ref10_Small.R :=
  ref10_Small.Se ref10_Small.J0 s
noncomputable def ref10_Small.sig : Sig := ⟨ref10_Small.ps, ref10_Small.rs, fun x => ref10_Small x.1⟩
theorem ref10_Small.ok : CallOK Try.prog 16 ref10_Small.sig :=
  callOK_of_lim (E := ref10_Small.E) mixed tt_ok ctxOk_nil Try.func16 (by kernel_rfl : Try.f16.body = some (bodyOf Try.f16)) Try.ntmps16 (of_decide_eq_true (by kernel_rfl)) (of_decide_eq_true (by kernel_rfl))
    fun x y h => ((lim_eq (.code (bodyOf Try.f16) .ret) (entryFrom 0 ref10_Small.ps x)).trans (ref10_Small.se (lim ref10_Small.E ref10_Small.fin) x)).trans h
theorem ref10_Small.val (x : (argTy ref10_Small.ps).den) : lim ref10_Small.E ref10_Small.fin (.code (bodyOf Try.f16) .ret) (entryFrom 0 ref10_Small.ps x) = ref10_Small.sig.run x :=
  (lim_eq (.code (bodyOf Try.f16) .ret) (entryFrom 0 ref10_Small.ps x)).trans (ref10_Small.se (lim ref10_Small.E ref10_Small.fin) x)
noncomputable def ref10_Small.ctxc (n : Nat) : List (Nat × Sig) := []
noncomputable def ref10_Small.sigc (n : Nat) : Sig := ⟨ref10_Small.ps, ref10_Small.rs, fun x => runs (withCtx ref10_Small.E (ref10_Small.ctxc n)) ref10_Small.fin n (.code (bodyOf Try.f16) .ret) (entryFrom 0 ref10_Small.ps x)⟩
theorem ref10_Small.sigc_le (n : Nat) : ∀ x y, (ref10_Small.sigc n).run x = some y → ref10_Small.sig.run x = some y :=
  fun x y h => (ref10_Small.val x).symm.trans (runs_lim (E := ref10_Small.E) (c := ref10_Small.ctxc n) ctxLe_nil h)

/-! ### guerdon/guerdonref10.meaning -/
namespace ref10_meaning
abbrev ps : List PM := [.pure (.int .i64)]
abbrev rs : List RM := [.pure .bool]
abbrev R : Type := Option (Bool × Unit)
noncomputable def E : Env := { tt := tt, ctx := [], nt := 35, ann := [(3, [(0, .keep)])] }
noncomputable def c0 : Code := sub [1, 1] (bodyOf Try.f35)
noncomputable def fin : ASt → R := Kret E Try.f35.results.toList ps rs
def tJ0 (op : Int) : ASt := ⟨[(0, .one (.val (.int .i64) op))], []⟩
noncomputable def SJ0 (op : Int) : R :=
  cond (op == 14)
    (some (true, ()))
    (cond (op == 15)
      (some (true, ()))
      (cond (op == 16)
        (some (true, ()))
        (cond (op == 33)
          (some (true, ()))
          (some ((op == 34), ())))))
noncomputable def Se (kJ0 : Int → R) (op : Int) : R :=
  cond (decide (op ≥ 1))
    (cond (decide (op ≤ 8))
      (some (true, ()))
      (cond (decide (op ≥ 36))
        (cond (decide (op ≤ 39))
          (some (true, ()))
          (kJ0 op))
        (kJ0 op)))
    (cond (decide (op ≥ 36))
      (cond (decide (op ≤ 39))
        (some (true, ()))
        (kJ0 op))
      (kJ0 op))
theorem sJ0 (jmp : Tgt → ASt → R) (op : Int) : run E jmp fin depth c0 .ret (tJ0 op) =
    SJ0 op := by kernel_rfl
theorem se (jmp : Tgt → ASt → R) (x : (argTy ps).den) : run E jmp fin depth (bodyOf Try.f35) .ret (entryFrom 0 ps x) =
    Se (fun op => jmp (.code c0 .ret) (tJ0 op)) x.1 := by kernel_rfl
noncomputable def J0 (op : Int) : R := lim E fin (.code c0 .ret) (tJ0 op)
theorem J0_eq (op : Int) : J0 op = SJ0 op :=
  (lim_eq (.code c0 .ret) (tJ0 op)).trans (sJ0 (lim E fin) op)
end ref10_meaning
noncomputable def ref10_meaning (op : Int) : ref10_meaning.R :=
  ref10_meaning.Se ref10_meaning.J0 op
noncomputable def ref10_meaning.sig : Sig := ⟨ref10_meaning.ps, ref10_meaning.rs, fun x => ref10_meaning x.1⟩
theorem ref10_meaning.ok : CallOK Try.prog 35 ref10_meaning.sig :=
  callOK_of_lim (E := ref10_meaning.E) mixed tt_ok ctxOk_nil Try.func35 (by kernel_rfl : Try.f35.body = some (bodyOf Try.f35)) Try.ntmps35 (of_decide_eq_true (by kernel_rfl)) (of_decide_eq_true (by kernel_rfl))
    fun x y h => ((lim_eq (.code (bodyOf Try.f35) .ret) (entryFrom 0 ref10_meaning.ps x)).trans (ref10_meaning.se (lim ref10_meaning.E ref10_meaning.fin) x)).trans h
theorem ref10_meaning.val (x : (argTy ref10_meaning.ps).den) : lim ref10_meaning.E ref10_meaning.fin (.code (bodyOf Try.f35) .ret) (entryFrom 0 ref10_meaning.ps x) = ref10_meaning.sig.run x :=
  (lim_eq (.code (bodyOf Try.f35) .ret) (entryFrom 0 ref10_meaning.ps x)).trans (ref10_meaning.se (lim ref10_meaning.E ref10_meaning.fin) x)
noncomputable def ref10_meaning.ctxc (n : Nat) : List (Nat × Sig) := []
noncomputable def ref10_meaning.sigc (n : Nat) : Sig := ⟨ref10_meaning.ps, ref10_meaning.rs, fun x => runs (withCtx ref10_meaning.E (ref10_meaning.ctxc n)) ref10_meaning.fin n (.code (bodyOf Try.f35) .ret) (entryFrom 0 ref10_meaning.ps x)⟩
theorem ref10_meaning.sigc_le (n : Nat) : ∀ x y, (ref10_meaning.sigc n).run x = some y → ref10_meaning.sig.run x = some y :=
  fun x y h => (ref10_meaning.val x).symm.trans (runs_lim (E := ref10_meaning.E) (c := ref10_meaning.ctxc n) ctxLe_nil h)

/-! ### guerdon/guerdonref10.kind -/
namespace ref10_kind
abbrev ps : List PM := [.pure (.int .i64)]
abbrev rs : List RM := [.pure api_Type]
abbrev R : Type := Option (api_TypeV × Unit)
noncomputable def E : Env := { tt := tt, ctx := [], nt := 5, ann := [] }
noncomputable def fin : ASt → R := Kret E Try.f55.results.toList ps rs
noncomputable def Se (k : Int) : R :=
  some ((k, 0, ()), ())
theorem se (jmp : Tgt → ASt → R) (x : (argTy ps).den) : run E jmp fin depth (bodyOf Try.f55) .ret (entryFrom 0 ps x) =
    Se x.1 := by kernel_rfl
end ref10_kind
noncomputable def ref10_kind (k : Int) : ref10_kind.R :=
  ref10_kind.Se k
noncomputable def ref10_kind.sig : Sig := ⟨ref10_kind.ps, ref10_kind.rs, fun x => ref10_kind x.1⟩
theorem ref10_kind.ok : CallOK Try.prog 55 ref10_kind.sig :=
  callOK_of_lim (E := ref10_kind.E) mixed tt_ok ctxOk_nil Try.func55 (by kernel_rfl : Try.f55.body = some (bodyOf Try.f55)) Try.ntmps55 (of_decide_eq_true (by kernel_rfl)) (of_decide_eq_true (by kernel_rfl))
    fun x y h => ((lim_eq (.code (bodyOf Try.f55) .ret) (entryFrom 0 ref10_kind.ps x)).trans (ref10_kind.se (lim ref10_kind.E ref10_kind.fin) x)).trans h
theorem ref10_kind.val (x : (argTy ref10_kind.ps).den) : lim ref10_kind.E ref10_kind.fin (.code (bodyOf Try.f55) .ret) (entryFrom 0 ref10_kind.ps x) = ref10_kind.sig.run x :=
  (lim_eq (.code (bodyOf Try.f55) .ret) (entryFrom 0 ref10_kind.ps x)).trans (ref10_kind.se (lim ref10_kind.E ref10_kind.fin) x)
noncomputable def ref10_kind.ctxc (n : Nat) : List (Nat × Sig) := []
noncomputable def ref10_kind.sigc (n : Nat) : Sig := ⟨ref10_kind.ps, ref10_kind.rs, fun x => runs (withCtx ref10_kind.E (ref10_kind.ctxc n)) ref10_kind.fin n (.code (bodyOf Try.f55) .ret) (entryFrom 0 ref10_kind.ps x)⟩
theorem ref10_kind.sigc_le (n : Nat) : ∀ x y, (ref10_kind.sigc n).run x = some y → ref10_kind.sig.run x = some y :=
  fun x y h => (ref10_kind.val x).symm.trans (runs_lim (E := ref10_kind.E) (c := ref10_kind.ctxc n) ctxLe_nil h)

/-! ### guerdon/guerdonref09.ValidType -/
namespace ref09_ValidType
abbrev ps : List PM := [.pure api_Type, .pure (.sl api_Enum)]
abbrev rs : List RM := [.pure .bool]
abbrev R : Type := Option (Bool × Unit)
noncomputable def E : Env := { tt := tt, ctx := [], nt := 31, ann := [] }
noncomputable def fin : ASt → R := Kret E Try.f56.results.toList ps rs
noncomputable def Se (t : api_TypeV) (enums : List api_EnumV) : R :=
  cond (t.1 == 6)
    (cond (decide (t.2.1 ≥ 0))
      (some (decide (t.2.1 < (enums.length : Int)), ()))
      (some (false, ())))
    (cond (decide (t.1 ≥ 1))
      (cond (decide (t.1 ≤ 5))
        (some ((t.2.1 == 0), ()))
        (some (false, ())))
      (some (false, ())))
theorem se (jmp : Tgt → ASt → R) (x : (argTy ps).den) : run E jmp fin depth (bodyOf Try.f56) .ret (entryFrom 0 ps x) =
    Se x.1 x.2.1 := by kernel_rfl
end ref09_ValidType
noncomputable def ref09_ValidType (t : api_TypeV) (enums : List api_EnumV) : ref09_ValidType.R :=
  ref09_ValidType.Se t enums
noncomputable def ref09_ValidType.sig : Sig := ⟨ref09_ValidType.ps, ref09_ValidType.rs, fun x => ref09_ValidType x.1 x.2.1⟩
theorem ref09_ValidType.ok : CallOK Try.prog 56 ref09_ValidType.sig :=
  callOK_of_lim (E := ref09_ValidType.E) mixed tt_ok ctxOk_nil Try.func56 (by kernel_rfl : Try.f56.body = some (bodyOf Try.f56)) Try.ntmps56 (of_decide_eq_true (by kernel_rfl)) (of_decide_eq_true (by kernel_rfl))
    fun x y h => ((lim_eq (.code (bodyOf Try.f56) .ret) (entryFrom 0 ref09_ValidType.ps x)).trans (ref09_ValidType.se (lim ref09_ValidType.E ref09_ValidType.fin) x)).trans h
theorem ref09_ValidType.val (x : (argTy ref09_ValidType.ps).den) : lim ref09_ValidType.E ref09_ValidType.fin (.code (bodyOf Try.f56) .ret) (entryFrom 0 ref09_ValidType.ps x) = ref09_ValidType.sig.run x :=
  (lim_eq (.code (bodyOf Try.f56) .ret) (entryFrom 0 ref09_ValidType.ps x)).trans (ref09_ValidType.se (lim ref09_ValidType.E ref09_ValidType.fin) x)
noncomputable def ref09_ValidType.ctxc (n : Nat) : List (Nat × Sig) := []
noncomputable def ref09_ValidType.sigc (n : Nat) : Sig := ⟨ref09_ValidType.ps, ref09_ValidType.rs, fun x => runs (withCtx ref09_ValidType.E (ref09_ValidType.ctxc n)) ref09_ValidType.fin n (.code (bodyOf Try.f56) .ret) (entryFrom 0 ref09_ValidType.ps x)⟩
theorem ref09_ValidType.sigc_le (n : Nat) : ∀ x y, (ref09_ValidType.sigc n).run x = some y → ref09_ValidType.sig.run x = some y :=
  fun x y h => (ref09_ValidType.val x).symm.trans (runs_lim (E := ref09_ValidType.E) (c := ref09_ValidType.ctxc n) ctxLe_nil h)

/-! ### guerdon/guerdonref09.Bounds -/
namespace ref09_Bounds
abbrev ps : List PM := [.pure api_Type, .pure (.sl api_Enum)]
abbrev rs : List RM := [.pure (.int .i64), .pure (.int .i64)]
abbrev R : Type := Option (Int × Int × Unit)
noncomputable def E : Env := { tt := tt, ctx := [(56, ref09_ValidType.sig)], nt := 30, ann := [] }
noncomputable def fin : ASt → R := Kret E Try.f54.results.toList ps rs
noncomputable def Se (t : api_TypeV) (enums : List api_EnumV) : R :=
  Option.bind (ref09_ValidType t enums) fun x1 =>
  cond (!x1.1)
    (some (0, (-1), ()))
    (cond (t.1 == 1)
      (some (0, 1, ()))
      (cond (t.1 == 2)
        (some ((-1000000000000), 1000000000000, ()))
        (cond (t.1 == 3)
          (some ((-1000000000000000), 1000000000000000, ()))
          (cond (t.1 == 4)
            (some ((-1000000000), 1000000000, ()))
            (cond (t.1 == 5)
              (some (0, 109572, ()))
              (Option.bind (idx enums t.2.1) fun x2 =>
              some (0, IntKind.i64.wrap ((x2.2.1.length : Int) - 1), ())))))))
theorem se (jmp : Tgt → ASt → R) (x : (argTy ps).den) : run E jmp fin depth (bodyOf Try.f54) .ret (entryFrom 0 ps x) =
    Se x.1 x.2.1 := by kernel_rfl
end ref09_Bounds
noncomputable def ref09_Bounds (t : api_TypeV) (enums : List api_EnumV) : ref09_Bounds.R :=
  ref09_Bounds.Se t enums
noncomputable def ref09_Bounds.sig : Sig := ⟨ref09_Bounds.ps, ref09_Bounds.rs, fun x => ref09_Bounds x.1 x.2.1⟩
theorem ref09_Bounds.ok : CallOK Try.prog 54 ref09_Bounds.sig :=
  callOK_of_lim (E := ref09_Bounds.E) mixed tt_ok (ctxOk_cons ctxOk_nil ref09_ValidType.ok Try.func56 (by kernel_rfl) (by kernel_rfl)) Try.func54 (by kernel_rfl : Try.f54.body = some (bodyOf Try.f54)) Try.ntmps54 (of_decide_eq_true (by kernel_rfl)) (of_decide_eq_true (by kernel_rfl))
    fun x y h => ((lim_eq (.code (bodyOf Try.f54) .ret) (entryFrom 0 ref09_Bounds.ps x)).trans (ref09_Bounds.se (lim ref09_Bounds.E ref09_Bounds.fin) x)).trans h
theorem ref09_Bounds.val (x : (argTy ref09_Bounds.ps).den) : lim ref09_Bounds.E ref09_Bounds.fin (.code (bodyOf Try.f54) .ret) (entryFrom 0 ref09_Bounds.ps x) = ref09_Bounds.sig.run x :=
  (lim_eq (.code (bodyOf Try.f54) .ret) (entryFrom 0 ref09_Bounds.ps x)).trans (ref09_Bounds.se (lim ref09_Bounds.E ref09_Bounds.fin) x)
noncomputable def ref09_Bounds.ctxc (n : Nat) : List (Nat × Sig) := [(56, ref09_ValidType.sigc n)]
noncomputable def ref09_Bounds.sigc (n : Nat) : Sig := ⟨ref09_Bounds.ps, ref09_Bounds.rs, fun x => runs (withCtx ref09_Bounds.E (ref09_Bounds.ctxc n)) ref09_Bounds.fin n (.code (bodyOf Try.f54) .ret) (entryFrom 0 ref09_Bounds.ps x)⟩
theorem ref09_Bounds.sigc_le (n : Nat) : ∀ x y, (ref09_Bounds.sigc n).run x = some y → ref09_Bounds.sig.run x = some y :=
  fun x y h => (ref09_Bounds.val x).symm.trans (runs_lim (E := ref09_Bounds.E) (c := ref09_Bounds.ctxc n) (ctxLe_cons ctxLe_nil (ref09_ValidType.sigc_le n)) h)

/-! ### guerdon/guerdonref10.ranged -/
namespace ref10_ranged
abbrev ps : List PM := [.pure api_Type, .pure api_Signature]
abbrev rs : List RM := [.pure .bool]
abbrev R : Type := Option (Bool × Unit)
noncomputable def E : Env := { tt := tt, ctx := [(55, ref10_kind.sig), (54, ref09_Bounds.sig)], nt := 62, ann := [(7, [(2, .keep), (3, .keep), (8, .keep), (9, .keep)]), (12, [(2, .keep), (8, .keep), (34, .keep)])] }
noncomputable def c0 : Code := sub [1, 1] (bodyOf Try.f36)
noncomputable def c1 : Code := sub [1, 0, 1, 0, 1] (bodyOf Try.f36)
noncomputable def c2 : Code := sub [1, 0, 1, 0, 1, 1, 1] (bodyOf Try.f36)
noncomputable def K2 : Kont := .seq c0 .ret
noncomputable def K4 : Kont := .blk 0 K2
noncomputable def fin : ASt → R := Kret E Try.f36.results.toList ps rs
def tJ0 (n_2 : api_TypeV) (s : api_SignatureV) (v_8 : Int) (v_9 : Bool) : ASt := ⟨[(9, .one (.val .bool v_9)), (8, .one (.val (.int .i64) v_8)), (3, .one (.optr 3 0 [])), (2, .one (.optr 2 0 []))], [(3, some ⟨.free, api_Signature, [s]⟩), (2, some ⟨.free, api_Type, [n_2]⟩)]⟩
def tJ1 (n_2 : api_TypeV) (v_8 : Int) (v_34 : Bool) : ASt := ⟨[(34, .one (.val .bool v_34)), (8, .one (.val (.int .i64) v_8)), (2, .one (.optr 2 0 []))], [(2, some ⟨.free, api_Type, [n_2]⟩)]⟩
noncomputable def SJ0 (kJ1 : api_TypeV → Int → Bool → R) (n_2 : api_TypeV) (s : api_SignatureV) (v_8 : Int) (v_9 : Bool) : R :=
  cond v_9
    (Option.bind (ref10_kind n_2.1) fun x1 =>
    Option.bind (ref09_Bounds x1.1 s.1) fun x2 =>
    cond (decide (n_2.2.1 ≥ x2.1))
      (some (decide (n_2.2.1 ≤ x2.2.1), ()))
      (some (false, ())))
    (cond (v_8 == 14)
      (kJ1 n_2 v_8 (v_8 == 14))
      (cond (v_8 == 15)
        (kJ1 n_2 v_8 (v_8 == 15))
        (kJ1 n_2 v_8 (v_8 == 16))))
noncomputable def SJ1 (n_2 : api_TypeV) (v_8 : Int) (v_34 : Bool) : R :=
  cond v_34
    (cond (decide (n_2.2.1 ≥ 0))
      (some (decide (n_2.2.1 ≤ 5), ()))
      (some (false, ())))
    (cond (v_8 == 34)
      (cond (decide (n_2.2.1 ≥ 0))
        (some (decide ((Int.tmod n_2.2.1 8) ≤ 5), ()))
        (some (false, ())))
      (cond (v_8 == 6)
        (some (decide (n_2.2.1 ≥ 0), ()))
        (some (true, ()))))
noncomputable def Se (kJ0 : api_TypeV → api_SignatureV → Int → Bool → R) (n_0 : api_TypeV) (s : api_SignatureV) : R :=
  cond (n_0.1 == 1)
    (kJ0 n_0 s n_0.1 (n_0.1 == 1))
    (cond (n_0.1 == 2)
      (kJ0 n_0 s n_0.1 (n_0.1 == 2))
      (cond (n_0.1 == 3)
        (kJ0 n_0 s n_0.1 (n_0.1 == 3))
        (cond (n_0.1 == 4)
          (kJ0 n_0 s n_0.1 (n_0.1 == 4))
          (kJ0 n_0 s n_0.1 (n_0.1 == 5)))))
theorem sJ0 (jmp : Tgt → ASt → R) (n_2 : api_TypeV) (s : api_SignatureV) (v_8 : Int) (v_9 : Bool) : run E jmp fin depth c1 K4 (tJ0 n_2 s v_8 v_9) =
    SJ0 (fun n_2 v_8 v_34 => jmp (.code c2 K4) (tJ1 n_2 v_8 v_34)) n_2 s v_8 v_9 := by kernel_rfl
theorem sJ1 (jmp : Tgt → ASt → R) (n_2 : api_TypeV) (v_8 : Int) (v_34 : Bool) : run E jmp fin depth c2 K4 (tJ1 n_2 v_8 v_34) =
    SJ1 n_2 v_8 v_34 := by kernel_rfl
theorem se (jmp : Tgt → ASt → R) (x : (argTy ps).den) : run E jmp fin depth (bodyOf Try.f36) .ret (entryFrom 0 ps x) =
    Se (fun n_2 s v_8 v_9 => jmp (.code c1 K4) (tJ0 n_2 s v_8 v_9)) x.1 x.2.1 := by kernel_rfl
noncomputable def J0 (n_2 : api_TypeV) (s : api_SignatureV) (v_8 : Int) (v_9 : Bool) : R := lim E fin (.code c1 K4) (tJ0 n_2 s v_8 v_9)
noncomputable def J1 (n_2 : api_TypeV) (v_8 : Int) (v_34 : Bool) : R := lim E fin (.code c2 K4) (tJ1 n_2 v_8 v_34)
theorem J0_eq (n_2 : api_TypeV) (s : api_SignatureV) (v_8 : Int) (v_9 : Bool) : J0 n_2 s v_8 v_9 = SJ0 J1 n_2 s v_8 v_9 :=
  (lim_eq (.code c1 K4) (tJ0 n_2 s v_8 v_9)).trans (sJ0 (lim E fin) n_2 s v_8 v_9)
theorem J1_eq (n_2 : api_TypeV) (v_8 : Int) (v_34 : Bool) : J1 n_2 v_8 v_34 = SJ1 n_2 v_8 v_34 :=
  (lim_eq (.code c2 K4) (tJ1 n_2 v_8 v_34)).trans (sJ1 (lim E fin) n_2 v_8 v_34)
end ref10_ranged
noncomputable def ref10_ranged (n_0 : api_TypeV) (s : api_SignatureV) : ref10_ranged.R :=
  ref10_ranged.Se ref10_ranged.J0 n_0 s
noncomputable def ref10_ranged.sig : Sig := ⟨ref10_ranged.ps, ref10_ranged.rs, fun x => ref10_ranged x.1 x.2.1⟩
theorem ref10_ranged.ok : CallOK Try.prog 36 ref10_ranged.sig :=
  callOK_of_lim (E := ref10_ranged.E) mixed tt_ok (ctxOk_cons (ctxOk_cons ctxOk_nil ref09_Bounds.ok Try.func54 (by kernel_rfl) (by kernel_rfl)) ref10_kind.ok Try.func55 (by kernel_rfl) (by kernel_rfl)) Try.func36 (by kernel_rfl : Try.f36.body = some (bodyOf Try.f36)) Try.ntmps36 (of_decide_eq_true (by kernel_rfl)) (of_decide_eq_true (by kernel_rfl))
    fun x y h => ((lim_eq (.code (bodyOf Try.f36) .ret) (entryFrom 0 ref10_ranged.ps x)).trans (ref10_ranged.se (lim ref10_ranged.E ref10_ranged.fin) x)).trans h
theorem ref10_ranged.val (x : (argTy ref10_ranged.ps).den) : lim ref10_ranged.E ref10_ranged.fin (.code (bodyOf Try.f36) .ret) (entryFrom 0 ref10_ranged.ps x) = ref10_ranged.sig.run x :=
  (lim_eq (.code (bodyOf Try.f36) .ret) (entryFrom 0 ref10_ranged.ps x)).trans (ref10_ranged.se (lim ref10_ranged.E ref10_ranged.fin) x)
noncomputable def ref10_ranged.ctxc (n : Nat) : List (Nat × Sig) := [(55, ref10_kind.sigc n), (54, ref09_Bounds.sigc n)]
noncomputable def ref10_ranged.sigc (n : Nat) : Sig := ⟨ref10_ranged.ps, ref10_ranged.rs, fun x => runs (withCtx ref10_ranged.E (ref10_ranged.ctxc n)) ref10_ranged.fin n (.code (bodyOf Try.f36) .ret) (entryFrom 0 ref10_ranged.ps x)⟩
theorem ref10_ranged.sigc_le (n : Nat) : ∀ x y, (ref10_ranged.sigc n).run x = some y → ref10_ranged.sig.run x = some y :=
  fun x y h => (ref10_ranged.val x).symm.trans (runs_lim (E := ref10_ranged.E) (c := ref10_ranged.ctxc n) (ctxLe_cons (ctxLe_cons ctxLe_nil (ref09_Bounds.sigc_le n)) (ref10_kind.sigc_le n)) h)

/-! ### guerdon/guerdonref10.found -/
namespace ref10_found
abbrev ps : List PM := [.pure api_Type, .pure api_Signature]
abbrev rs : List RM := [.pure .bool]
abbrev R : Type := Option (Bool × Unit)
noncomputable def E : Env := { tt := tt, ctx := [], nt := 103, ann := [(18, [(2, .keep), (3, .keep), (83, .keep)])] }
noncomputable def c0 : Code := sub [1, 1] (bodyOf Try.f37)
noncomputable def c1 : Code := sub [1, 0, 1, 0, 1, 1, 1, 1, 1, 1, 1, 1, 1, 1, 1, 1, 1] (bodyOf Try.f37)
noncomputable def K2 : Kont := .seq c0 .ret
noncomputable def K4 : Kont := .blk 0 K2
noncomputable def fin : ASt → R := Kret E Try.f37.results.toList ps rs
def tJ0 (n_2 : api_TypeV) (s : api_SignatureV) (v_83 : Bool) : ASt := ⟨[(83, .one (.val .bool v_83)), (3, .one (.optr 3 0 [])), (2, .one (.optr 2 0 []))], [(3, some ⟨.free, api_Signature, [s]⟩), (2, some ⟨.free, api_Type, [n_2]⟩)]⟩
noncomputable def SJ0 (n_2 : api_TypeV) (s : api_SignatureV) (v_83 : Bool) : R :=
  cond v_83
    (cond s.2.2.2.2.2.1
      (cond (decide (n_2.2.1 ≥ 0))
        (some (decide (n_2.2.1 < (s.2.2.2.2.1.length : Int)), ()))
        (some (false, ())))
      (some (false, ())))
    (some (true, ()))
noncomputable def Se (kJ0 : api_TypeV → api_SignatureV → Bool → R) (n_0 : api_TypeV) (s : api_SignatureV) : R :=
  cond (n_0.1 == 6)
    (cond (decide ((IntKind.i64.wrap (Int.tdiv n_0.2.1 16)) < (s.1.length : Int)))
      (Option.bind (idx s.1 (IntKind.i64.wrap (Int.tdiv n_0.2.1 16))) fun x1 =>
      some (decide ((Int.tmod n_0.2.1 16) < (x1.2.1.length : Int)), ()))
      (some (false, ())))
    (cond (n_0.1 == 7)
      (cond (decide (n_0.2.1 ≥ 0))
        (some (decide (n_0.2.1 < (s.2.2.1.length : Int)), ()))
        (some (false, ())))
      (cond (n_0.1 == 8)
        (cond (decide (n_0.2.1 ≥ 0))
          (some (decide (n_0.2.1 < (s.2.2.2.1.length : Int)), ()))
          (some (false, ())))
        (cond (n_0.1 == 33)
          (cond (decide (n_0.2.1 ≥ 0))
            (some (decide (n_0.2.1 < (s.2.1.length : Int)), ()))
            (some (false, ())))
          (cond (n_0.1 == 34)
            (some (decide ((IntKind.i64.wrap (Int.tdiv n_0.2.1 8)) < (s.2.1.length : Int)), ()))
            (cond (n_0.1 == 35)
              (some (s.2.2.2.2.2.1, ()))
              (cond (n_0.1 == 36)
                (kJ0 n_0 s (n_0.1 == 36))
                (cond (n_0.1 == 37)
                  (kJ0 n_0 s (n_0.1 == 37))
                  (cond (n_0.1 == 38)
                    (kJ0 n_0 s (n_0.1 == 38))
                    (kJ0 n_0 s (n_0.1 == 39))))))))))
theorem sJ0 (jmp : Tgt → ASt → R) (n_2 : api_TypeV) (s : api_SignatureV) (v_83 : Bool) : run E jmp fin depth c1 K4 (tJ0 n_2 s v_83) =
    SJ0 n_2 s v_83 := by kernel_rfl
theorem se (jmp : Tgt → ASt → R) (x : (argTy ps).den) : run E jmp fin depth (bodyOf Try.f37) .ret (entryFrom 0 ps x) =
    Se (fun n_2 s v_83 => jmp (.code c1 K4) (tJ0 n_2 s v_83)) x.1 x.2.1 := by kernel_rfl
noncomputable def J0 (n_2 : api_TypeV) (s : api_SignatureV) (v_83 : Bool) : R := lim E fin (.code c1 K4) (tJ0 n_2 s v_83)
theorem J0_eq (n_2 : api_TypeV) (s : api_SignatureV) (v_83 : Bool) : J0 n_2 s v_83 = SJ0 n_2 s v_83 :=
  (lim_eq (.code c1 K4) (tJ0 n_2 s v_83)).trans (sJ0 (lim E fin) n_2 s v_83)
end ref10_found
noncomputable def ref10_found (n_0 : api_TypeV) (s : api_SignatureV) : ref10_found.R :=
  ref10_found.Se ref10_found.J0 n_0 s
noncomputable def ref10_found.sig : Sig := ⟨ref10_found.ps, ref10_found.rs, fun x => ref10_found x.1 x.2.1⟩
theorem ref10_found.ok : CallOK Try.prog 37 ref10_found.sig :=
  callOK_of_lim (E := ref10_found.E) mixed tt_ok ctxOk_nil Try.func37 (by kernel_rfl : Try.f37.body = some (bodyOf Try.f37)) Try.ntmps37 (of_decide_eq_true (by kernel_rfl)) (of_decide_eq_true (by kernel_rfl))
    fun x y h => ((lim_eq (.code (bodyOf Try.f37) .ret) (entryFrom 0 ref10_found.ps x)).trans (ref10_found.se (lim ref10_found.E ref10_found.fin) x)).trans h
theorem ref10_found.val (x : (argTy ref10_found.ps).den) : lim ref10_found.E ref10_found.fin (.code (bodyOf Try.f37) .ret) (entryFrom 0 ref10_found.ps x) = ref10_found.sig.run x :=
  (lim_eq (.code (bodyOf Try.f37) .ret) (entryFrom 0 ref10_found.ps x)).trans (ref10_found.se (lim ref10_found.E ref10_found.fin) x)
noncomputable def ref10_found.ctxc (n : Nat) : List (Nat × Sig) := []
noncomputable def ref10_found.sigc (n : Nat) : Sig := ⟨ref10_found.ps, ref10_found.rs, fun x => runs (withCtx ref10_found.E (ref10_found.ctxc n)) ref10_found.fin n (.code (bodyOf Try.f37) .ret) (entryFrom 0 ref10_found.ps x)⟩
theorem ref10_found.sigc_le (n : Nat) : ∀ x y, (ref10_found.sigc n).run x = some y → ref10_found.sig.run x = some y :=
  fun x y h => (ref10_found.val x).symm.trans (runs_lim (E := ref10_found.E) (c := ref10_found.ctxc n) ctxLe_nil h)

/-! ### guerdon/guerdonref10.number -/
namespace ref10_number
abbrev ps : List PM := [.pure (.int .i64)]
abbrev rs : List RM := [.pure .bool]
abbrev R : Type := Option (Bool × Unit)
noncomputable def E : Env := { tt := tt, ctx := [], nt := 13, ann := [] }
noncomputable def fin : ASt → R := Kret E Try.f58.results.toList ps rs
noncomputable def Se (k : Int) : R :=
  cond (k == 2)
    (some (true, ()))
    (cond (k == 3)
      (some (true, ()))
      (some ((k == 4), ())))
theorem se (jmp : Tgt → ASt → R) (x : (argTy ps).den) : run E jmp fin depth (bodyOf Try.f58) .ret (entryFrom 0 ps x) =
    Se x.1 := by kernel_rfl
end ref10_number
noncomputable def ref10_number (k : Int) : ref10_number.R :=
  ref10_number.Se k
noncomputable def ref10_number.sig : Sig := ⟨ref10_number.ps, ref10_number.rs, fun x => ref10_number x.1⟩
theorem ref10_number.ok : CallOK Try.prog 58 ref10_number.sig :=
  callOK_of_lim (E := ref10_number.E) mixed tt_ok ctxOk_nil Try.func58 (by kernel_rfl : Try.f58.body = some (bodyOf Try.f58)) Try.ntmps58 (of_decide_eq_true (by kernel_rfl)) (of_decide_eq_true (by kernel_rfl))
    fun x y h => ((lim_eq (.code (bodyOf Try.f58) .ret) (entryFrom 0 ref10_number.ps x)).trans (ref10_number.se (lim ref10_number.E ref10_number.fin) x)).trans h
theorem ref10_number.val (x : (argTy ref10_number.ps).den) : lim ref10_number.E ref10_number.fin (.code (bodyOf Try.f58) .ret) (entryFrom 0 ref10_number.ps x) = ref10_number.sig.run x :=
  (lim_eq (.code (bodyOf Try.f58) .ret) (entryFrom 0 ref10_number.ps x)).trans (ref10_number.se (lim ref10_number.E ref10_number.fin) x)
noncomputable def ref10_number.ctxc (n : Nat) : List (Nat × Sig) := []
noncomputable def ref10_number.sigc (n : Nat) : Sig := ⟨ref10_number.ps, ref10_number.rs, fun x => runs (withCtx ref10_number.E (ref10_number.ctxc n)) ref10_number.fin n (.code (bodyOf Try.f58) .ret) (entryFrom 0 ref10_number.ps x)⟩
theorem ref10_number.sigc_le (n : Nat) : ∀ x y, (ref10_number.sigc n).run x = some y → ref10_number.sig.run x = some y :=
  fun x y h => (ref10_number.val x).symm.trans (runs_lim (E := ref10_number.E) (c := ref10_number.ctxc n) ctxLe_nil h)

/-! ### guerdon/guerdonref10.ordered -/
namespace ref10_ordered
abbrev ps : List PM := [.pure (.int .i64)]
abbrev rs : List RM := [.pure .bool]
abbrev R : Type := Option (Bool × Unit)
noncomputable def E : Env := { tt := tt, ctx := [(58, ref10_number.sig)], nt := 9, ann := [] }
noncomputable def fin : ASt → R := Kret E Try.f57.results.toList ps rs
noncomputable def Se (k : Int) : R :=
  Option.bind (ref10_number k) fun x1 =>
  cond x1.1
    (some (true, ()))
    (some ((k == 5), ()))
theorem se (jmp : Tgt → ASt → R) (x : (argTy ps).den) : run E jmp fin depth (bodyOf Try.f57) .ret (entryFrom 0 ps x) =
    Se x.1 := by kernel_rfl
end ref10_ordered
noncomputable def ref10_ordered (k : Int) : ref10_ordered.R :=
  ref10_ordered.Se k
noncomputable def ref10_ordered.sig : Sig := ⟨ref10_ordered.ps, ref10_ordered.rs, fun x => ref10_ordered x.1⟩
theorem ref10_ordered.ok : CallOK Try.prog 57 ref10_ordered.sig :=
  callOK_of_lim (E := ref10_ordered.E) mixed tt_ok (ctxOk_cons ctxOk_nil ref10_number.ok Try.func58 (by kernel_rfl) (by kernel_rfl)) Try.func57 (by kernel_rfl : Try.f57.body = some (bodyOf Try.f57)) Try.ntmps57 (of_decide_eq_true (by kernel_rfl)) (of_decide_eq_true (by kernel_rfl))
    fun x y h => ((lim_eq (.code (bodyOf Try.f57) .ret) (entryFrom 0 ref10_ordered.ps x)).trans (ref10_ordered.se (lim ref10_ordered.E ref10_ordered.fin) x)).trans h
theorem ref10_ordered.val (x : (argTy ref10_ordered.ps).den) : lim ref10_ordered.E ref10_ordered.fin (.code (bodyOf Try.f57) .ret) (entryFrom 0 ref10_ordered.ps x) = ref10_ordered.sig.run x :=
  (lim_eq (.code (bodyOf Try.f57) .ret) (entryFrom 0 ref10_ordered.ps x)).trans (ref10_ordered.se (lim ref10_ordered.E ref10_ordered.fin) x)
noncomputable def ref10_ordered.ctxc (n : Nat) : List (Nat × Sig) := [(58, ref10_number.sigc n)]
noncomputable def ref10_ordered.sigc (n : Nat) : Sig := ⟨ref10_ordered.ps, ref10_ordered.rs, fun x => runs (withCtx ref10_ordered.E (ref10_ordered.ctxc n)) ref10_ordered.fin n (.code (bodyOf Try.f57) .ret) (entryFrom 0 ref10_ordered.ps x)⟩
theorem ref10_ordered.sigc_le (n : Nat) : ∀ x y, (ref10_ordered.sigc n).run x = some y → ref10_ordered.sig.run x = some y :=
  fun x y h => (ref10_ordered.val x).symm.trans (runs_lim (E := ref10_ordered.E) (c := ref10_ordered.ctxc n) (ctxLe_cons ctxLe_nil (ref10_number.sigc_le n)) h)

/-! ### guerdon/guerdonref10.leaf -/
namespace ref10_leaf
abbrev ps : List PM := [.pure api_Type, .pure api_Signature]
abbrev rs : List RM := [.pure api_Type, .pure .bool]
abbrev R : Type := Option (api_TypeV × Bool × Unit)
noncomputable def E : Env := { tt := tt, ctx := [(55, ref10_kind.sig), (56, ref09_ValidType.sig), (57, ref10_ordered.sig)], nt := 91, ann := [(19, [(2, .keep), (3, .keep), (4, .keep), (6, .keep)]), (18, [(2, .keep), (3, .keep), (4, .keep), (6, .keep), (42, .keep)]), (25, [(4, .keep), (6, .keep), (7, .keep), (58, .keep), (72, .keep)])] }
noncomputable def c0 : Code := sub [1, 1, 1] (bodyOf Try.f38)
noncomputable def c1 : Code := sub [1, 1, 1, 1, 1] (bodyOf Try.f38)
noncomputable def c2 : Code := sub [1, 1, 0, 1, 0, 1, 1, 1, 1, 1, 1, 1, 1, 1, 1, 1] (bodyOf Try.f38)
noncomputable def c3 : Code := sub [1, 1, 1, 1, 0, 1, 0, 1, 1, 1] (bodyOf Try.f38)
noncomputable def K3 : Kont := .seq c0 .ret
noncomputable def K5 : Kont := .blk 0 K3
noncomputable def K16 : Kont := .seq c1 .ret
noncomputable def K18 : Kont := .blk 1 K16
noncomputable def fin : ASt → R := Kret E Try.f38.results.toList ps rs
def tJ0 (n_2 : api_TypeV) (s : api_SignatureV) (v_4 : api_TypeV) (t : api_TypeV) : ASt := ⟨[(6, .one (.optr 6 0 [])), (4, .one (.optr 4 0 [])), (3, .one (.optr 3 0 [])), (2, .one (.optr 2 0 []))], [(6, some ⟨.free, api_Type, [t]⟩), (4, some ⟨.free, api_Type, [v_4]⟩), (3, some ⟨.free, api_Signature, [s]⟩), (2, some ⟨.free, api_Type, [n_2]⟩)]⟩
def tJ1 (n_2 : api_TypeV) (s : api_SignatureV) (v_4 : api_TypeV) (t : api_TypeV) (v_42 : Bool) : ASt := ⟨[(42, .one (.val .bool v_42)), (6, .one (.optr 6 0 [])), (4, .one (.optr 4 0 [])), (3, .one (.optr 3 0 [])), (2, .one (.optr 2 0 []))], [(6, some ⟨.free, api_Type, [t]⟩), (4, some ⟨.free, api_Type, [v_4]⟩), (3, some ⟨.free, api_Signature, [s]⟩), (2, some ⟨.free, api_Type, [n_2]⟩)]⟩
def tJ2 (v_4 : api_TypeV) (t : api_TypeV) (ok : Bool) (v_58 : Int) (v_72 : Bool) : ASt := ⟨[(72, .one (.val .bool v_72)), (58, .one (.val (.int .i64) v_58)), (7, .one (.val .bool ok)), (6, .one (.optr 6 0 [])), (4, .one (.optr 4 0 []))], [(6, some ⟨.free, api_Type, [t]⟩), (4, some ⟨.free, api_Type, [v_4]⟩)]⟩
noncomputable def SJ0 (kJ2 : api_TypeV → api_TypeV → Bool → Int → Bool → R) (n_2 : api_TypeV) (s : api_SignatureV) (v_4 : api_TypeV) (t : api_TypeV) : R :=
  Option.bind (ref09_ValidType t s.1) fun x1 =>
  cond (n_2.1 == 36)
    (cond x1.1
      (cond (t.1 == 2)
        (some (t, true, ()))
        (some (t, (t.1 == 3), ())))
      (some (t, false, ())))
    (cond (n_2.1 == 37)
      (kJ2 v_4 t x1.1 n_2.1 (n_2.1 == 37))
      (kJ2 v_4 t x1.1 n_2.1 (n_2.1 == 38)))
noncomputable def SJ1 (kJ0 : api_TypeV → api_SignatureV → api_TypeV → api_TypeV → R) (n_2 : api_TypeV) (s : api_SignatureV) (v_4 : api_TypeV) (t : api_TypeV) (v_42 : Bool) : R :=
  cond v_42
    (Option.bind (idx s.2.2.2.2.1 n_2.2.1) fun x1 =>
    kJ0 n_2 s v_4 x1)
    (Option.bind (ref10_kind n_2.1) fun x2 =>
    kJ0 n_2 s v_4 x2.1)
noncomputable def SJ2 (v_4 : api_TypeV) (t : api_TypeV) (ok : Bool) (v_58 : Int) (v_72 : Bool) : R :=
  cond v_72
    (cond ok
      (some (t, (t.1 == 1), ()))
      (some (t, false, ())))
    (cond (v_58 == 39)
      (cond ok
        (Option.bind (ref10_ordered t.1) fun x1 =>
        some (t, x1.1, ()))
        (some (t, false, ())))
      (some (t, ok, ())))
noncomputable def Se (kJ0 : api_TypeV → api_SignatureV → api_TypeV → api_TypeV → R) (kJ1 : api_TypeV → api_SignatureV → api_TypeV → api_TypeV → Bool → R) (n_0 : api_TypeV) (s : api_SignatureV) : R :=
  cond (n_0.1 == 6)
    (kJ0 n_0 s (0, 0, ()) (6, IntKind.i64.wrap (Int.tdiv n_0.2.1 16), ()))
    (cond (n_0.1 == 7)
      (Option.bind (idx s.2.2.1 n_0.2.1) fun x1 =>
      kJ0 n_0 s (0, 0, ()) x1)
      (cond (n_0.1 == 8)
        (Option.bind (idx s.2.2.2.1 n_0.2.1) fun x2 =>
        kJ0 n_0 s (0, 0, ()) x2)
        (cond (n_0.1 == 9)
          (Option.bind (ref10_kind 5) fun x3 =>
          kJ0 n_0 s (0, 0, ()) x3.1)
          (cond (n_0.1 == 35)
            (Option.bind (ref10_kind 2) fun x4 =>
            kJ0 n_0 s (0, 0, ()) x4.1)
            (cond (n_0.1 == 36)
              (kJ1 n_0 s (0, 0, ()) (0, 0, ()) (n_0.1 == 36))
              (cond (n_0.1 == 37)
                (kJ1 n_0 s (0, 0, ()) (0, 0, ()) (n_0.1 == 37))
                (cond (n_0.1 == 38)
                  (kJ1 n_0 s (0, 0, ()) (0, 0, ()) (n_0.1 == 38))
                  (kJ1 n_0 s (0, 0, ()) (0, 0, ()) (n_0.1 == 39)))))))))
theorem sJ0 (jmp : Tgt → ASt → R) (n_2 : api_TypeV) (s : api_SignatureV) (v_4 : api_TypeV) (t : api_TypeV) : run E jmp fin depth c0 .ret (tJ0 n_2 s v_4 t) =
    SJ0 (fun v_4 t ok v_58 v_72 => jmp (.code c3 K18) (tJ2 v_4 t ok v_58 v_72)) n_2 s v_4 t := by kernel_rfl
theorem sJ1 (jmp : Tgt → ASt → R) (n_2 : api_TypeV) (s : api_SignatureV) (v_4 : api_TypeV) (t : api_TypeV) (v_42 : Bool) : run E jmp fin depth c2 K5 (tJ1 n_2 s v_4 t v_42) =
    SJ1 (fun n_2 s v_4 t => jmp (.code c0 .ret) (tJ0 n_2 s v_4 t)) n_2 s v_4 t v_42 := by kernel_rfl
theorem sJ2 (jmp : Tgt → ASt → R) (v_4 : api_TypeV) (t : api_TypeV) (ok : Bool) (v_58 : Int) (v_72 : Bool) : run E jmp fin depth c3 K18 (tJ2 v_4 t ok v_58 v_72) =
    SJ2 v_4 t ok v_58 v_72 := by kernel_rfl
theorem se (jmp : Tgt → ASt → R) (x : (argTy ps).den) : run E jmp fin depth (bodyOf Try.f38) .ret (entryFrom 0 ps x) =
    Se (fun n_2 s v_4 t => jmp (.code c0 .ret) (tJ0 n_2 s v_4 t)) (fun n_2 s v_4 t v_42 => jmp (.code c2 K5) (tJ1 n_2 s v_4 t v_42)) x.1 x.2.1 := by kernel_rfl
noncomputable def J0 (n_2 : api_TypeV) (s : api_SignatureV) (v_4 : api_TypeV) (t : api_TypeV) : R := lim E fin (.code c0 .ret) (tJ0 n_2 s v_4 t)
noncomputable def J1 (n_2 : api_TypeV) (s : api_SignatureV) (v_4 : api_TypeV) (t : api_TypeV) (v_42 : Bool) : R := lim E fin (.code c2 K5) (tJ1 n_2 s v_4 t v_42)
noncomputable def J2 (v_4 : api_TypeV) (t : api_TypeV) (ok : Bool) (v_58 : Int) (v_72 : Bool) : R := lim E fin (.code c3 K18) (tJ2 v_4 t ok v_58 v_72)
theorem J0_eq (n_2 : api_TypeV) (s : api_SignatureV) (v_4 : api_TypeV) (t : api_TypeV) : J0 n_2 s v_4 t = SJ0 J2 n_2 s v_4 t :=
  (lim_eq (.code c0 .ret) (tJ0 n_2 s v_4 t)).trans (sJ0 (lim E fin) n_2 s v_4 t)
theorem J1_eq (n_2 : api_TypeV) (s : api_SignatureV) (v_4 : api_TypeV) (t : api_TypeV) (v_42 : Bool) : J1 n_2 s v_4 t v_42 = SJ1 J0 n_2 s v_4 t v_42 :=
  (lim_eq (.code c2 K5) (tJ1 n_2 s v_4 t v_42)).trans (sJ1 (lim E fin) n_2 s v_4 t v_42)
theorem J2_eq (v_4 : api_TypeV) (t : api_TypeV) (ok : Bool) (v_58 : Int) (v_72 : Bool) : J2 v_4 t ok v_58 v_72 = SJ2 v_4 t ok v_58 v_72 :=
  (lim_eq (.code c3 K18) (tJ2 v_4 t ok v_58 v_72)).trans (sJ2 (lim E fin) v_4 t ok v_58 v_72)
end ref10_leaf
noncomputable def ref10_leaf (n_0 : api_TypeV) (s : api_SignatureV) : ref10_leaf.R :=
  ref10_leaf.Se ref10_leaf.J0 ref10_leaf.J1 n_0 s
noncomputable def ref10_leaf.sig : Sig := ⟨ref10_leaf.ps, ref10_leaf.rs, fun x => ref10_leaf x.1 x.2.1⟩
theorem ref10_leaf.ok : CallOK Try.prog 38 ref10_leaf.sig :=
  callOK_of_lim (E := ref10_leaf.E) mixed tt_ok (ctxOk_cons (ctxOk_cons (ctxOk_cons ctxOk_nil ref10_ordered.ok Try.func57 (by kernel_rfl) (by kernel_rfl)) ref09_ValidType.ok Try.func56 (by kernel_rfl) (by kernel_rfl)) ref10_kind.ok Try.func55 (by kernel_rfl) (by kernel_rfl)) Try.func38 (by kernel_rfl : Try.f38.body = some (bodyOf Try.f38)) Try.ntmps38 (of_decide_eq_true (by kernel_rfl)) (of_decide_eq_true (by kernel_rfl))
    fun x y h => ((lim_eq (.code (bodyOf Try.f38) .ret) (entryFrom 0 ref10_leaf.ps x)).trans (ref10_leaf.se (lim ref10_leaf.E ref10_leaf.fin) x)).trans h
theorem ref10_leaf.val (x : (argTy ref10_leaf.ps).den) : lim ref10_leaf.E ref10_leaf.fin (.code (bodyOf Try.f38) .ret) (entryFrom 0 ref10_leaf.ps x) = ref10_leaf.sig.run x :=
  (lim_eq (.code (bodyOf Try.f38) .ret) (entryFrom 0 ref10_leaf.ps x)).trans (ref10_leaf.se (lim ref10_leaf.E ref10_leaf.fin) x)
noncomputable def ref10_leaf.ctxc (n : Nat) : List (Nat × Sig) := [(55, ref10_kind.sigc n), (56, ref09_ValidType.sigc n), (57, ref10_ordered.sigc n)]
noncomputable def ref10_leaf.sigc (n : Nat) : Sig := ⟨ref10_leaf.ps, ref10_leaf.rs, fun x => runs (withCtx ref10_leaf.E (ref10_leaf.ctxc n)) ref10_leaf.fin n (.code (bodyOf Try.f38) .ret) (entryFrom 0 ref10_leaf.ps x)⟩
theorem ref10_leaf.sigc_le (n : Nat) : ∀ x y, (ref10_leaf.sigc n).run x = some y → ref10_leaf.sig.run x = some y :=
  fun x y h => (ref10_leaf.val x).symm.trans (runs_lim (E := ref10_leaf.E) (c := ref10_leaf.ctxc n) (ctxLe_cons (ctxLe_cons (ctxLe_cons ctxLe_nil (ref10_ordered.sigc_le n)) (ref09_ValidType.sigc_le n)) (ref10_kind.sigc_le n)) h)

/-! ### guerdon/guerdonref10.single -/
namespace ref10_single
abbrev ps : List PM := [.pure api_Type, .pure api_Type, .pure api_Signature]
abbrev rs : List RM := [.pure api_Type, .pure .bool]
abbrev R : Type := Option (api_TypeV × Bool × Unit)
noncomputable def E : Env := { tt := tt, ctx := [(58, ref10_number.sig), (55, ref10_kind.sig), (56, ref09_ValidType.sig)], nt := 82, ann := [(8, [(3, .keep), (4, .keep), (5, .keep), (6, .keep), (11, .keep), (24, .keep)])] }
noncomputable def c0 : Code := sub [1, 1] (bodyOf Try.f39)
noncomputable def c1 : Code := sub [1, 0, 1, 0, 1, 1, 1, 1, 1] (bodyOf Try.f39)
noncomputable def K2 : Kont := .seq c0 .ret
noncomputable def K4 : Kont := .blk 0 K2
noncomputable def fin : ASt → R := Kret E Try.f39.results.toList ps rs
def tJ0 (n_3 : api_TypeV) (a : api_TypeV) (s : api_SignatureV) (v_6 : api_TypeV) (v_11 : Int) (v_24 : Bool) : ASt := ⟨[(24, .one (.val .bool v_24)), (11, .one (.val (.int .i64) v_11)), (6, .one (.optr 6 0 [])), (5, .one (.optr 5 0 [])), (4, .one (.optr 4 0 [])), (3, .one (.optr 3 0 []))], [(6, some ⟨.free, api_Type, [v_6]⟩), (5, some ⟨.free, api_Signature, [s]⟩), (4, some ⟨.free, api_Type, [a]⟩), (3, some ⟨.free, api_Type, [n_3]⟩)]⟩
noncomputable def SJ0 (n_3 : api_TypeV) (a : api_TypeV) (s : api_SignatureV) (v_6 : api_TypeV) (v_11 : Int) (v_24 : Bool) : R :=
  cond v_24
    (Option.bind (ref10_kind 2) fun x1 =>
    some (x1.1, (a.1 == 5), ()))
    (cond (v_11 == 33)
      (Option.bind (idx s.2.1 n_3.2.1) fun x2 =>
      Option.bind (ref09_ValidType x2.2.1 s.1) fun x3 =>
      cond x3.1
        (Option.bind (ref09_ValidType x2.2.2.1 s.1) fun x4 =>
        cond x4.1
          (some (x2.2.2.1, eqTy (.pair (.int .i64) (.pair (.int .i64) .unit)) a x2.2.1, ()))
          (some (x2.2.2.1, false, ())))
        (some (x2.2.2.1, false, ())))
      (Option.bind (idx s.2.1 (IntKind.i64.wrap (Int.tdiv n_3.2.1 8))) fun x5 =>
      cond (a.1 == 3)
        (Option.bind (ref10_kind 3) fun x6 =>
        cond (eqTy (.pair (.int .i64) (.pair (.int .i64) .unit)) x5.2.1 x6.1)
          (Option.bind (ref10_kind 4) fun x7 =>
          some (a, eqTy (.pair (.int .i64) (.pair (.int .i64) .unit)) x5.2.2.1 x7.1, ()))
          (some (a, false, ())))
        (some (a, false, ()))))
noncomputable def Se (kJ0 : api_TypeV → api_TypeV → api_SignatureV → api_TypeV → Int → Bool → R) (n_0 : api_TypeV) (a : api_TypeV) (s : api_SignatureV) : R :=
  cond (n_0.1 == 10)
    (Option.bind (ref10_number a.1) fun x1 =>
    some (a, x1.1, ()))
    (cond (n_0.1 == 25)
      (some (a, (a.1 == 1), ()))
      (cond (n_0.1 == 31)
        (kJ0 n_0 a s (0, 0, ()) n_0.1 (n_0.1 == 31))
        (kJ0 n_0 a s (0, 0, ()) n_0.1 (n_0.1 == 32))))
theorem sJ0 (jmp : Tgt → ASt → R) (n_3 : api_TypeV) (a : api_TypeV) (s : api_SignatureV) (v_6 : api_TypeV) (v_11 : Int) (v_24 : Bool) : run E jmp fin depth c1 K4 (tJ0 n_3 a s v_6 v_11 v_24) =
    SJ0 n_3 a s v_6 v_11 v_24 := by kernel_rfl
theorem se (jmp : Tgt → ASt → R) (x : (argTy ps).den) : run E jmp fin depth (bodyOf Try.f39) .ret (entryFrom 0 ps x) =
    Se (fun n_3 a s v_6 v_11 v_24 => jmp (.code c1 K4) (tJ0 n_3 a s v_6 v_11 v_24)) x.1 x.2.1 x.2.2.1 := by kernel_rfl
noncomputable def J0 (n_3 : api_TypeV) (a : api_TypeV) (s : api_SignatureV) (v_6 : api_TypeV) (v_11 : Int) (v_24 : Bool) : R := lim E fin (.code c1 K4) (tJ0 n_3 a s v_6 v_11 v_24)
theorem J0_eq (n_3 : api_TypeV) (a : api_TypeV) (s : api_SignatureV) (v_6 : api_TypeV) (v_11 : Int) (v_24 : Bool) : J0 n_3 a s v_6 v_11 v_24 = SJ0 n_3 a s v_6 v_11 v_24 :=
  (lim_eq (.code c1 K4) (tJ0 n_3 a s v_6 v_11 v_24)).trans (sJ0 (lim E fin) n_3 a s v_6 v_11 v_24)
end ref10_single
noncomputable def ref10_single (n_0 : api_TypeV) (a : api_TypeV) (s : api_SignatureV) : ref10_single.R :=
  ref10_single.Se ref10_single.J0 n_0 a s
noncomputable def ref10_single.sig : Sig := ⟨ref10_single.ps, ref10_single.rs, fun x => ref10_single x.1 x.2.1 x.2.2.1⟩
theorem ref10_single.ok : CallOK Try.prog 39 ref10_single.sig :=
  callOK_of_lim (E := ref10_single.E) mixed tt_ok (ctxOk_cons (ctxOk_cons (ctxOk_cons ctxOk_nil ref09_ValidType.ok Try.func56 (by kernel_rfl) (by kernel_rfl)) ref10_kind.ok Try.func55 (by kernel_rfl) (by kernel_rfl)) ref10_number.ok Try.func58 (by kernel_rfl) (by kernel_rfl)) Try.func39 (by kernel_rfl : Try.f39.body = some (bodyOf Try.f39)) Try.ntmps39 (of_decide_eq_true (by kernel_rfl)) (of_decide_eq_true (by kernel_rfl))
    fun x y h => ((lim_eq (.code (bodyOf Try.f39) .ret) (entryFrom 0 ref10_single.ps x)).trans (ref10_single.se (lim ref10_single.E ref10_single.fin) x)).trans h
theorem ref10_single.val (x : (argTy ref10_single.ps).den) : lim ref10_single.E ref10_single.fin (.code (bodyOf Try.f39) .ret) (entryFrom 0 ref10_single.ps x) = ref10_single.sig.run x :=
  (lim_eq (.code (bodyOf Try.f39) .ret) (entryFrom 0 ref10_single.ps x)).trans (ref10_single.se (lim ref10_single.E ref10_single.fin) x)
noncomputable def ref10_single.ctxc (n : Nat) : List (Nat × Sig) := [(58, ref10_number.sigc n), (55, ref10_kind.sigc n), (56, ref09_ValidType.sigc n)]
noncomputable def ref10_single.sigc (n : Nat) : Sig := ⟨ref10_single.ps, ref10_single.rs, fun x => runs (withCtx ref10_single.E (ref10_single.ctxc n)) ref10_single.fin n (.code (bodyOf Try.f39) .ret) (entryFrom 0 ref10_single.ps x)⟩
theorem ref10_single.sigc_le (n : Nat) : ∀ x y, (ref10_single.sigc n).run x = some y → ref10_single.sig.run x = some y :=
  fun x y h => (ref10_single.val x).symm.trans (runs_lim (E := ref10_single.E) (c := ref10_single.ctxc n) (ctxLe_cons (ctxLe_cons (ctxLe_cons ctxLe_nil (ref09_ValidType.sigc_le n)) (ref10_kind.sigc_le n)) (ref10_number.sigc_le n)) h)

/-! ### guerdon/guerdonref10.scaled -/
namespace ref10_scaled
abbrev ps : List PM := [.pure (.int .i64), .pure (.int .i64), .pure (.int .i64)]
abbrev rs : List RM := [.pure api_Type, .pure .bool]
abbrev R : Type := Option (api_TypeV × Bool × Unit)
noncomputable def E : Env := { tt := tt, ctx := [(55, ref10_kind.sig)], nt := 56, ann := [(8, [(1, .keep), (2, .keep), (6, .keep)])] }
noncomputable def c0 : Code := sub [1, 1, 1] (bodyOf Try.f59)
noncomputable def fin : ASt → R := Kret E Try.f59.results.toList ps rs
def tJ0 (a : Int) (b : Int) (v_6 : api_TypeV) : ASt := ⟨[(6, .one (.optr 6 0 [])), (2, .one (.val (.int .i64) b)), (1, .one (.val (.int .i64) a))], [(6, some ⟨.free, api_Type, [v_6]⟩)]⟩
noncomputable def SJ0 (a : Int) (b : Int) (v_6 : api_TypeV) : R :=
  Option.bind (ref10_kind a) fun x1 =>
  cond (b == 2)
    (cond (a == 2)
      (some (x1.1, true, ()))
      (some (x1.1, (a == 3), ())))
    (some (x1.1, false, ()))
noncomputable def Se (kJ0 : Int → Int → api_TypeV → R) (op : Int) (a : Int) (b : Int) : R :=
  cond (op == 13)
    (Option.bind (ref10_kind a) fun x1 =>
    cond (b == 2)
      (cond (a == 2)
        (some (x1.1, true, ()))
        (some (x1.1, (a == 3), ())))
      (some (x1.1, false, ())))
    (cond (op == 14)
      (Option.bind (ref10_kind a) fun x2 =>
      cond (b == 4)
        (cond (a == 3)
          (some (x2.1, true, ()))
          (some (x2.1, (a == 4), ())))
        (some (x2.1, false, ())))
      (cond (a == 3)
        (cond (b == 3)
          (Option.bind (ref10_kind 4) fun x3 =>
          some (x3.1, true, ()))
          (kJ0 a b (0, 0, ())))
        (kJ0 a b (0, 0, ()))))
theorem sJ0 (jmp : Tgt → ASt → R) (a : Int) (b : Int) (v_6 : api_TypeV) : run E jmp fin depth c0 .ret (tJ0 a b v_6) =
    SJ0 a b v_6 := by kernel_rfl
theorem se (jmp : Tgt → ASt → R) (x : (argTy ps).den) : run E jmp fin depth (bodyOf Try.f59) .ret (entryFrom 0 ps x) =
    Se (fun a b v_6 => jmp (.code c0 .ret) (tJ0 a b v_6)) x.1 x.2.1 x.2.2.1 := by kernel_rfl
noncomputable def J0 (a : Int) (b : Int) (v_6 : api_TypeV) : R := lim E fin (.code c0 .ret) (tJ0 a b v_6)
theorem J0_eq (a : Int) (b : Int) (v_6 : api_TypeV) : J0 a b v_6 = SJ0 a b v_6 :=
  (lim_eq (.code c0 .ret) (tJ0 a b v_6)).trans (sJ0 (lim E fin) a b v_6)
end ref10_scaled
noncomputable def ref10_scaled (op : Int) (a : Int) (b : Int) : ref10_scaled.R :=
  ref10_scaled.Se ref10_scaled.J0 op a b
noncomputable def ref10_scaled.sig : Sig := ⟨ref10_scaled.ps, ref10_scaled.rs, fun x => ref10_scaled x.1 x.2.1 x.2.2.1⟩
theorem ref10_scaled.ok : CallOK Try.prog 59 ref10_scaled.sig :=
  callOK_of_lim (E := ref10_scaled.E) mixed tt_ok (ctxOk_cons ctxOk_nil ref10_kind.ok Try.func55 (by kernel_rfl) (by kernel_rfl)) Try.func59 (by kernel_rfl : Try.f59.body = some (bodyOf Try.f59)) Try.ntmps59 (of_decide_eq_true (by kernel_rfl)) (of_decide_eq_true (by kernel_rfl))
    fun x y h => ((lim_eq (.code (bodyOf Try.f59) .ret) (entryFrom 0 ref10_scaled.ps x)).trans (ref10_scaled.se (lim ref10_scaled.E ref10_scaled.fin) x)).trans h
theorem ref10_scaled.val (x : (argTy ref10_scaled.ps).den) : lim ref10_scaled.E ref10_scaled.fin (.code (bodyOf Try.f59) .ret) (entryFrom 0 ref10_scaled.ps x) = ref10_scaled.sig.run x :=
  (lim_eq (.code (bodyOf Try.f59) .ret) (entryFrom 0 ref10_scaled.ps x)).trans (ref10_scaled.se (lim ref10_scaled.E ref10_scaled.fin) x)
noncomputable def ref10_scaled.ctxc (n : Nat) : List (Nat × Sig) := [(55, ref10_kind.sigc n)]
noncomputable def ref10_scaled.sigc (n : Nat) : Sig := ⟨ref10_scaled.ps, ref10_scaled.rs, fun x => runs (withCtx ref10_scaled.E (ref10_scaled.ctxc n)) ref10_scaled.fin n (.code (bodyOf Try.f59) .ret) (entryFrom 0 ref10_scaled.ps x)⟩
theorem ref10_scaled.sigc_le (n : Nat) : ∀ x y, (ref10_scaled.sigc n).run x = some y → ref10_scaled.sig.run x = some y :=
  fun x y h => (ref10_scaled.val x).symm.trans (runs_lim (E := ref10_scaled.E) (c := ref10_scaled.ctxc n) (ctxLe_cons ctxLe_nil (ref10_kind.sigc_le n)) h)

/-! ### guerdon/guerdonref10.double -/
namespace ref10_double
abbrev ps : List PM := [.pure (.int .i64), .pure api_Type, .pure api_Type]
abbrev rs : List RM := [.pure api_Type, .pure .bool]
abbrev R : Type := Option (api_TypeV × Bool × Unit)
noncomputable def E : Env := { tt := tt, ctx := [(58, ref10_number.sig), (59, ref10_scaled.sig), (57, ref10_ordered.sig), (55, ref10_kind.sig)], nt := 108, ann := [(4, [(0, .keep), (4, .keep), (5, .keep), (6, .keep), (8, .keep), (9, .keep)]), (8, [(0, .keep), (4, .keep), (5, .keep), (6, .keep), (8, .keep), (21, .keep)]), (13, [(4, .keep), (5, .keep), (6, .keep), (8, .keep), (44, .keep)]), (16, [(4, .keep), (5, .keep), (6, .keep), (8, .keep), (56, .keep)]), (19, [(4, .keep), (5, .keep), (6, .keep), (8, .keep), (63, .keep)]), (22, [(4, .keep), (5, .keep), (6, .keep), (8, .keep), (75, .keep)]), (25, [(4, .keep), (5, .keep), (6, .keep), (87, .keep)])] }
noncomputable def c0 : Code := sub [1, 1] (bodyOf Try.f40)
noncomputable def c1 : Code := sub [1, 0, 1, 0, 1] (bodyOf Try.f40)
noncomputable def c2 : Code := sub [1, 0, 1, 0, 1, 1, 1] (bodyOf Try.f40)
noncomputable def c3 : Code := sub [1, 0, 1, 0, 1, 1, 1, 1, 1, 1, 1] (bodyOf Try.f40)
noncomputable def c4 : Code := sub [1, 0, 1, 0, 1, 1, 1, 1, 1, 1, 1, 1, 1] (bodyOf Try.f40)
noncomputable def c5 : Code := sub [1, 0, 1, 0, 1, 1, 1, 1, 1, 1, 1, 1, 1, 1, 1] (bodyOf Try.f40)
noncomputable def c6 : Code := sub [1, 0, 1, 0, 1, 1, 1, 1, 1, 1, 1, 1, 1, 1, 1, 1, 1] (bodyOf Try.f40)
noncomputable def c7 : Code := sub [1, 0, 1, 0, 1, 1, 1, 1, 1, 1, 1, 1, 1, 1, 1, 1, 1, 1, 1] (bodyOf Try.f40)
noncomputable def K2 : Kont := .seq c0 .ret
noncomputable def K4 : Kont := .blk 0 K2
noncomputable def fin : ASt → R := Kret E Try.f40.results.toList ps rs
def tJ0 (op : Int) (a : api_TypeV) (b : api_TypeV) (v_6 : api_TypeV) (v_8 : Int) (v_9 : Bool) : ASt := ⟨[(9, .one (.val .bool v_9)), (8, .one (.val (.int .i64) v_8)), (6, .one (.optr 6 0 [])), (5, .one (.optr 5 0 [])), (4, .one (.optr 4 0 [])), (0, .one (.val (.int .i64) op))], [(6, some ⟨.free, api_Type, [v_6]⟩), (5, some ⟨.free, api_Type, [b]⟩), (4, some ⟨.free, api_Type, [a]⟩)]⟩
def tJ1 (op : Int) (a : api_TypeV) (b : api_TypeV) (v_6 : api_TypeV) (v_8 : Int) (v_21 : Bool) : ASt := ⟨[(21, .one (.val .bool v_21)), (8, .one (.val (.int .i64) v_8)), (6, .one (.optr 6 0 [])), (5, .one (.optr 5 0 [])), (4, .one (.optr 4 0 [])), (0, .one (.val (.int .i64) op))], [(6, some ⟨.free, api_Type, [v_6]⟩), (5, some ⟨.free, api_Type, [b]⟩), (4, some ⟨.free, api_Type, [a]⟩)]⟩
def tJ2 (a : api_TypeV) (b : api_TypeV) (v_6 : api_TypeV) (v_8 : Int) (v_44 : Bool) : ASt := ⟨[(44, .one (.val .bool v_44)), (8, .one (.val (.int .i64) v_8)), (6, .one (.optr 6 0 [])), (5, .one (.optr 5 0 [])), (4, .one (.optr 4 0 []))], [(6, some ⟨.free, api_Type, [v_6]⟩), (5, some ⟨.free, api_Type, [b]⟩), (4, some ⟨.free, api_Type, [a]⟩)]⟩
def tJ3 (a : api_TypeV) (b : api_TypeV) (v_6 : api_TypeV) (v_8 : Int) (v_56 : Bool) : ASt := ⟨[(56, .one (.val .bool v_56)), (8, .one (.val (.int .i64) v_8)), (6, .one (.optr 6 0 [])), (5, .one (.optr 5 0 [])), (4, .one (.optr 4 0 []))], [(6, some ⟨.free, api_Type, [v_6]⟩), (5, some ⟨.free, api_Type, [b]⟩), (4, some ⟨.free, api_Type, [a]⟩)]⟩
def tJ4 (a : api_TypeV) (b : api_TypeV) (v_6 : api_TypeV) (v_8 : Int) (v_63 : Bool) : ASt := ⟨[(63, .one (.val .bool v_63)), (8, .one (.val (.int .i64) v_8)), (6, .one (.optr 6 0 [])), (5, .one (.optr 5 0 [])), (4, .one (.optr 4 0 []))], [(6, some ⟨.free, api_Type, [v_6]⟩), (5, some ⟨.free, api_Type, [b]⟩), (4, some ⟨.free, api_Type, [a]⟩)]⟩
def tJ5 (a : api_TypeV) (b : api_TypeV) (v_6 : api_TypeV) (v_8 : Int) (v_75 : Bool) : ASt := ⟨[(75, .one (.val .bool v_75)), (8, .one (.val (.int .i64) v_8)), (6, .one (.optr 6 0 [])), (5, .one (.optr 5 0 [])), (4, .one (.optr 4 0 []))], [(6, some ⟨.free, api_Type, [v_6]⟩), (5, some ⟨.free, api_Type, [b]⟩), (4, some ⟨.free, api_Type, [a]⟩)]⟩
def tJ6 (a : api_TypeV) (b : api_TypeV) (v_6 : api_TypeV) (v_87 : Bool) : ASt := ⟨[(87, .one (.val .bool v_87)), (6, .one (.optr 6 0 [])), (5, .one (.optr 5 0 [])), (4, .one (.optr 4 0 []))], [(6, some ⟨.free, api_Type, [v_6]⟩), (5, some ⟨.free, api_Type, [b]⟩), (4, some ⟨.free, api_Type, [a]⟩)]⟩
noncomputable def SJ0 (kJ1 : Int → api_TypeV → api_TypeV → api_TypeV → Int → Bool → R) (op : Int) (a : api_TypeV) (b : api_TypeV) (v_6 : api_TypeV) (v_8 : Int) (v_9 : Bool) : R :=
  cond v_9
    (cond (eqTy (.pair (.int .i64) (.pair (.int .i64) .unit)) a b)
      (Option.bind (ref10_number a.1) fun x1 =>
      some (a, x1.1, ()))
      (some (a, false, ())))
    (cond (v_8 == 13)
      (kJ1 op a b v_6 v_8 (v_8 == 13))
      (cond (v_8 == 14)
        (kJ1 op a b v_6 v_8 (v_8 == 14))
        (kJ1 op a b v_6 v_8 (v_8 == 15))))
noncomputable def SJ1 (kJ2 : api_TypeV → api_TypeV → api_TypeV → Int → Bool → R) (op : Int) (a : api_TypeV) (b : api_TypeV) (v_6 : api_TypeV) (v_8 : Int) (v_21 : Bool) : R :=
  cond v_21
    (Option.bind (ref10_scaled op a.1 b.1) fun x1 =>
    some (x1.1, x1.2.1, ()))
    (cond (v_8 == 16)
      (cond (a.1 == 3)
        (some (a, (b.1 == 3), ()))
        (some (a, false, ())))
      (cond (v_8 == 17)
        (kJ2 a b v_6 v_8 (v_8 == 17))
        (kJ2 a b v_6 v_8 (v_8 == 18))))
noncomputable def SJ2 (kJ3 : api_TypeV → api_TypeV → api_TypeV → Int → Bool → R) (a : api_TypeV) (b : api_TypeV) (v_6 : api_TypeV) (v_8 : Int) (v_44 : Bool) : R :=
  cond v_44
    (cond (eqTy (.pair (.int .i64) (.pair (.int .i64) .unit)) a b)
      (Option.bind (ref10_ordered a.1) fun x1 =>
      some (a, x1.1, ()))
      (some (a, false, ())))
    (cond (v_8 == 19)
      (kJ3 a b v_6 v_8 (v_8 == 19))
      (kJ3 a b v_6 v_8 (v_8 == 20)))
noncomputable def SJ3 (kJ4 : api_TypeV → api_TypeV → api_TypeV → Int → Bool → R) (a : api_TypeV) (b : api_TypeV) (v_6 : api_TypeV) (v_8 : Int) (v_56 : Bool) : R :=
  cond v_56
    (Option.bind (ref10_kind 1) fun x1 =>
    some (x1.1, eqTy (.pair (.int .i64) (.pair (.int .i64) .unit)) a b, ()))
    (cond (v_8 == 21)
      (kJ4 a b v_6 v_8 (v_8 == 21))
      (kJ4 a b v_6 v_8 (v_8 == 22)))
noncomputable def SJ4 (kJ5 : api_TypeV → api_TypeV → api_TypeV → Int → Bool → R) (a : api_TypeV) (b : api_TypeV) (v_6 : api_TypeV) (v_8 : Int) (v_63 : Bool) : R :=
  cond v_63
    (Option.bind (ref10_kind 1) fun x1 =>
    cond (eqTy (.pair (.int .i64) (.pair (.int .i64) .unit)) a b)
      (Option.bind (ref10_ordered a.1) fun x2 =>
      some (x1.1, x2.1, ()))
      (some (x1.1, false, ())))
    (cond (v_8 == 23)
      (kJ5 a b v_6 v_8 (v_8 == 23))
      (kJ5 a b v_6 v_8 (v_8 == 24)))
noncomputable def SJ5 (kJ6 : api_TypeV → api_TypeV → api_TypeV → Bool → R) (a : api_TypeV) (b : api_TypeV) (v_6 : api_TypeV) (v_8 : Int) (v_75 : Bool) : R :=
  cond v_75
    (cond (a.1 == 1)
      (some (a, (b.1 == 1), ()))
      (some (a, false, ())))
    (cond (v_8 == 27)
      (kJ6 a b v_6 (v_8 == 27))
      (kJ6 a b v_6 (v_8 == 28)))
noncomputable def SJ6 (a : api_TypeV) (b : api_TypeV) (v_6 : api_TypeV) (v_87 : Bool) : R :=
  cond v_87
    (cond (a.1 == 5)
      (some (a, (b.1 == 2), ()))
      (some (a, false, ())))
    (Option.bind (ref10_kind 2) fun x1 =>
    cond (a.1 == 5)
      (some (x1.1, (b.1 == 5), ()))
      (some (x1.1, false, ())))
noncomputable def Se (kJ0 : Int → api_TypeV → api_TypeV → api_TypeV → Int → Bool → R) (op : Int) (a : api_TypeV) (b : api_TypeV) : R :=
  cond (op == 11)
    (kJ0 op a b (0, 0, ()) op (op == 11))
    (kJ0 op a b (0, 0, ()) op (op == 12))
theorem sJ0 (jmp : Tgt → ASt → R) (op : Int) (a : api_TypeV) (b : api_TypeV) (v_6 : api_TypeV) (v_8 : Int) (v_9 : Bool) : run E jmp fin depth c1 K4 (tJ0 op a b v_6 v_8 v_9) =
    SJ0 (fun op a b v_6 v_8 v_21 => jmp (.code c2 K4) (tJ1 op a b v_6 v_8 v_21)) op a b v_6 v_8 v_9 := by kernel_rfl
theorem sJ1 (jmp : Tgt → ASt → R) (op : Int) (a : api_TypeV) (b : api_TypeV) (v_6 : api_TypeV) (v_8 : Int) (v_21 : Bool) : run E jmp fin depth c2 K4 (tJ1 op a b v_6 v_8 v_21) =
    SJ1 (fun a b v_6 v_8 v_44 => jmp (.code c3 K4) (tJ2 a b v_6 v_8 v_44)) op a b v_6 v_8 v_21 := by kernel_rfl
theorem sJ2 (jmp : Tgt → ASt → R) (a : api_TypeV) (b : api_TypeV) (v_6 : api_TypeV) (v_8 : Int) (v_44 : Bool) : run E jmp fin depth c3 K4 (tJ2 a b v_6 v_8 v_44) =
    SJ2 (fun a b v_6 v_8 v_56 => jmp (.code c4 K4) (tJ3 a b v_6 v_8 v_56)) a b v_6 v_8 v_44 := by kernel_rfl
theorem sJ3 (jmp : Tgt → ASt → R) (a : api_TypeV) (b : api_TypeV) (v_6 : api_TypeV) (v_8 : Int) (v_56 : Bool) : run E jmp fin depth c4 K4 (tJ3 a b v_6 v_8 v_56) =
    SJ3 (fun a b v_6 v_8 v_63 => jmp (.code c5 K4) (tJ4 a b v_6 v_8 v_63)) a b v_6 v_8 v_56 := by kernel_rfl
theorem sJ4 (jmp : Tgt → ASt → R) (a : api_TypeV) (b : api_TypeV) (v_6 : api_TypeV) (v_8 : Int) (v_63 : Bool) : run E jmp fin depth c5 K4 (tJ4 a b v_6 v_8 v_63) =
    SJ4 (fun a b v_6 v_8 v_75 => jmp (.code c6 K4) (tJ5 a b v_6 v_8 v_75)) a b v_6 v_8 v_63 := by kernel_rfl
theorem sJ5 (jmp : Tgt → ASt → R) (a : api_TypeV) (b : api_TypeV) (v_6 : api_TypeV) (v_8 : Int) (v_75 : Bool) : run E jmp fin depth c6 K4 (tJ5 a b v_6 v_8 v_75) =
    SJ5 (fun a b v_6 v_87 => jmp (.code c7 K4) (tJ6 a b v_6 v_87)) a b v_6 v_8 v_75 := by kernel_rfl
theorem sJ6 (jmp : Tgt → ASt → R) (a : api_TypeV) (b : api_TypeV) (v_6 : api_TypeV) (v_87 : Bool) : run E jmp fin depth c7 K4 (tJ6 a b v_6 v_87) =
    SJ6 a b v_6 v_87 := by kernel_rfl
theorem se (jmp : Tgt → ASt → R) (x : (argTy ps).den) : run E jmp fin depth (bodyOf Try.f40) .ret (entryFrom 0 ps x) =
    Se (fun op a b v_6 v_8 v_9 => jmp (.code c1 K4) (tJ0 op a b v_6 v_8 v_9)) x.1 x.2.1 x.2.2.1 := by kernel_rfl
noncomputable def J0 (op : Int) (a : api_TypeV) (b : api_TypeV) (v_6 : api_TypeV) (v_8 : Int) (v_9 : Bool) : R := lim E fin (.code c1 K4) (tJ0 op a b v_6 v_8 v_9)
noncomputable def J1 (op : Int) (a : api_TypeV) (b : api_TypeV) (v_6 : api_TypeV) (v_8 : Int) (v_21 : Bool) : R := lim E fin (.code c2 K4) (tJ1 op a b v_6 v_8 v_21)
noncomputable def J2 (a : api_TypeV) (b : api_TypeV) (v_6 : api_TypeV) (v_8 : Int) (v_44 : Bool) : R := lim E fin (.code c3 K4) (tJ2 a b v_6 v_8 v_44)
noncomputable def J3 (a : api_TypeV) (b : api_TypeV) (v_6 : api_TypeV) (v_8 : Int) (v_56 : Bool) : R := lim E fin (.code c4 K4) (tJ3 a b v_6 v_8 v_56)
noncomputable def J4 (a : api_TypeV) (b : api_TypeV) (v_6 : api_TypeV) (v_8 : Int) (v_63 : Bool) : R := lim E fin (.code c5 K4) (tJ4 a b v_6 v_8 v_63)
noncomputable def J5 (a : api_TypeV) (b : api_TypeV) (v_6 : api_TypeV) (v_8 : Int) (v_75 : Bool) : R := lim E fin (.code c6 K4) (tJ5 a b v_6 v_8 v_75)
noncomputable def J6 (a : api_TypeV) (b : api_TypeV) (v_6 : api_TypeV) (v_87 : Bool) : R := lim E fin (.code c7 K4) (tJ6 a b v_6 v_87)
theorem J0_eq (op : Int) (a : api_TypeV) (b : api_TypeV) (v_6 : api_TypeV) (v_8 : Int) (v_9 : Bool) : J0 op a b v_6 v_8 v_9 = SJ0 J1 op a b v_6 v_8 v_9 :=
  (lim_eq (.code c1 K4) (tJ0 op a b v_6 v_8 v_9)).trans (sJ0 (lim E fin) op a b v_6 v_8 v_9)
theorem J1_eq (op : Int) (a : api_TypeV) (b : api_TypeV) (v_6 : api_TypeV) (v_8 : Int) (v_21 : Bool) : J1 op a b v_6 v_8 v_21 = SJ1 J2 op a b v_6 v_8 v_21 :=
  (lim_eq (.code c2 K4) (tJ1 op a b v_6 v_8 v_21)).trans (sJ1 (lim E fin) op a b v_6 v_8 v_21)
theorem J2_eq (a : api_TypeV) (b : api_TypeV) (v_6 : api_TypeV) (v_8 : Int) (v_44 : Bool) : J2 a b v_6 v_8 v_44 = SJ2 J3 a b v_6 v_8 v_44 :=
  (lim_eq (.code c3 K4) (tJ2 a b v_6 v_8 v_44)).trans (sJ2 (lim E fin) a b v_6 v_8 v_44)
theorem J3_eq (a : api_TypeV) (b : api_TypeV) (v_6 : api_TypeV) (v_8 : Int) (v_56 : Bool) : J3 a b v_6 v_8 v_56 = SJ3 J4 a b v_6 v_8 v_56 :=
  (lim_eq (.code c4 K4) (tJ3 a b v_6 v_8 v_56)).trans (sJ3 (lim E fin) a b v_6 v_8 v_56)
theorem J4_eq (a : api_TypeV) (b : api_TypeV) (v_6 : api_TypeV) (v_8 : Int) (v_63 : Bool) : J4 a b v_6 v_8 v_63 = SJ4 J5 a b v_6 v_8 v_63 :=
  (lim_eq (.code c5 K4) (tJ4 a b v_6 v_8 v_63)).trans (sJ4 (lim E fin) a b v_6 v_8 v_63)
theorem J5_eq (a : api_TypeV) (b : api_TypeV) (v_6 : api_TypeV) (v_8 : Int) (v_75 : Bool) : J5 a b v_6 v_8 v_75 = SJ5 J6 a b v_6 v_8 v_75 :=
  (lim_eq (.code c6 K4) (tJ5 a b v_6 v_8 v_75)).trans (sJ5 (lim E fin) a b v_6 v_8 v_75)
theorem J6_eq (a : api_TypeV) (b : api_TypeV) (v_6 : api_TypeV) (v_87 : Bool) : J6 a b v_6 v_87 = SJ6 a b v_6 v_87 :=
  (lim_eq (.code c7 K4) (tJ6 a b v_6 v_87)).trans (sJ6 (lim E fin) a b v_6 v_87)
end ref10_double
noncomputable def ref10_double (op : Int) (a : api_TypeV) (b : api_TypeV) : ref10_double.R :=
  ref10_double.Se ref10_double.J0 op a b
noncomputable def ref10_double.sig : Sig := ⟨ref10_double.ps, ref10_double.rs, fun x => ref10_double x.1 x.2.1 x.2.2.1⟩
theorem ref10_double.ok : CallOK Try.prog 40 ref10_double.sig :=
  callOK_of_lim (E := ref10_double.E) mixed tt_ok (ctxOk_cons (ctxOk_cons (ctxOk_cons (ctxOk_cons ctxOk_nil ref10_kind.ok Try.func55 (by kernel_rfl) (by kernel_rfl)) ref10_ordered.ok Try.func57 (by kernel_rfl) (by kernel_rfl)) ref10_scaled.ok Try.func59 (by kernel_rfl) (by kernel_rfl)) ref10_number.ok Try.func58 (by kernel_rfl) (by kernel_rfl)) Try.func40 (by kernel_rfl : Try.f40.body = some (bodyOf Try.f40)) Try.ntmps40 (of_decide_eq_true (by kernel_rfl)) (of_decide_eq_true (by kernel_rfl))
    fun x y h => ((lim_eq (.code (bodyOf Try.f40) .ret) (entryFrom 0 ref10_double.ps x)).trans (ref10_double.se (lim ref10_double.E ref10_double.fin) x)).trans h
theorem ref10_double.val (x : (argTy ref10_double.ps).den) : lim ref10_double.E ref10_double.fin (.code (bodyOf Try.f40) .ret) (entryFrom 0 ref10_double.ps x) = ref10_double.sig.run x :=
  (lim_eq (.code (bodyOf Try.f40) .ret) (entryFrom 0 ref10_double.ps x)).trans (ref10_double.se (lim ref10_double.E ref10_double.fin) x)
noncomputable def ref10_double.ctxc (n : Nat) : List (Nat × Sig) := [(58, ref10_number.sigc n), (59, ref10_scaled.sigc n), (57, ref10_ordered.sigc n), (55, ref10_kind.sigc n)]
noncomputable def ref10_double.sigc (n : Nat) : Sig := ⟨ref10_double.ps, ref10_double.rs, fun x => runs (withCtx ref10_double.E (ref10_double.ctxc n)) ref10_double.fin n (.code (bodyOf Try.f40) .ret) (entryFrom 0 ref10_double.ps x)⟩
theorem ref10_double.sigc_le (n : Nat) : ∀ x y, (ref10_double.sigc n).run x = some y → ref10_double.sig.run x = some y :=
  fun x y h => (ref10_double.val x).symm.trans (runs_lim (E := ref10_double.E) (c := ref10_double.ctxc n) (ctxLe_cons (ctxLe_cons (ctxLe_cons (ctxLe_cons ctxLe_nil (ref10_kind.sigc_le n)) (ref10_ordered.sigc_le n)) (ref10_scaled.sigc_le n)) (ref10_number.sigc_le n)) h)

/-! ### guerdon/guerdonref10.Result -/
namespace ref10_Result
abbrev ps : List PM := [.pure api_Type, .pure (.sl api_Type), .pure api_Signature]
abbrev rs : List RM := [.pure api_Type, .pure (.int .i64)]
abbrev R : Type := Option (api_TypeV × Int × Unit)
noncomputable def E : Env := { tt := tt, ctx := [(35, ref10_meaning.sig), (36, ref10_ranged.sig), (37, ref10_found.sig), (38, ref10_leaf.sig), (39, ref10_single.sig), (40, ref10_double.sig)], nt := 87, ann := [(3, [(1, .keep), (3, .keep), (5, .keep), (6, .keep)]), (18, [(6, .keep), (8, .keep), (9, .keep)])] }
noncomputable def c0 : Code := sub [1, 1] (bodyOf Try.f25)
noncomputable def c1 : Code := sub [1, 1, 1, 1, 1, 1, 1] (bodyOf Try.f25)
noncomputable def fin : ASt → R := Kret E Try.f25.results.toList ps rs
def tJ0 (l : List api_TypeV) (n_3 : api_TypeV) (s : api_SignatureV) (v_6 : api_TypeV) : ASt := ⟨[(6, .one (.optr 6 0 [])), (5, .one (.optr 5 0 [])), (3, .one (.optr 3 0 [])), (1, .one (.val (.sl api_Type) l))], [(6, some ⟨.free, api_Type, [v_6]⟩), (5, some ⟨.free, api_Signature, [s]⟩), (3, some ⟨.free, api_Type, [n_3]⟩)]⟩
def tJ1 (v_6 : api_TypeV) (t : api_TypeV) (ok : Bool) : ASt := ⟨[(9, .one (.val .bool ok)), (8, .one (.optr 8 0 [])), (6, .one (.optr 6 0 []))], [(8, some ⟨.free, api_Type, [t]⟩), (6, some ⟨.free, api_Type, [v_6]⟩)]⟩
noncomputable def SJ0 (kJ1 : api_TypeV → api_TypeV → Bool → R) (l : List api_TypeV) (n_3 : api_TypeV) (s : api_SignatureV) (v_6 : api_TypeV) : R :=
  Option.bind (ref10_ranged n_3 s) fun x1 =>
  cond (!x1.1)
    (some ((0, 0, ()), 3, ()))
    (Option.bind (ref10_found n_3 s) fun x2 =>
    cond (!x2.1)
      (some ((0, 0, ()), 6, ()))
      (cond ((l.length : Int) == 0)
        (Option.bind (ref10_leaf n_3 s) fun x3 =>
        kJ1 v_6 x3.1 x3.2.1)
        (cond ((l.length : Int) == 1)
          (Option.bind (idx l 0) fun x4 =>
          Option.bind (ref10_single n_3 x4 s) fun x5 =>
          kJ1 v_6 x5.1 x5.2.1)
          (cond ((l.length : Int) == 2)
            (Option.bind (idx l 0) fun x6 =>
            Option.bind (idx l 1) fun x7 =>
            Option.bind (ref10_double n_3.1 x6 x7) fun x8 =>
            kJ1 v_6 x8.1 x8.2.1)
            (Option.bind (idx l 1) fun x9 =>
            Option.bind (idx l 0) fun x10 =>
            cond (x10.1 == 1)
              (Option.bind (idx l 1) fun x11 =>
              Option.bind (idx l 2) fun x12 =>
              kJ1 v_6 x9 (eqTy (.pair (.int .i64) (.pair (.int .i64) .unit)) x11 x12))
              (kJ1 v_6 x9 false))))))
noncomputable def SJ1 (v_6 : api_TypeV) (t : api_TypeV) (ok : Bool) : R :=
  cond (!ok)
    (some ((0, 0, ()), 8, ()))
    (some (t, 0, ()))
noncomputable def Se (kJ0 : (List api_TypeV) → api_TypeV → api_SignatureV → api_TypeV → R) (n_0 : api_TypeV) (l : List api_TypeV) (s : api_SignatureV) : R :=
  cond (n_0.2.1 != 0)
    (Option.bind (ref10_meaning n_0.1) fun x1 =>
    cond (!x1.1)
      (some ((0, 0, ()), 2, ()))
      (kJ0 l n_0 s (0, 0, ())))
    (kJ0 l n_0 s (0, 0, ()))
theorem sJ0 (jmp : Tgt → ASt → R) (l : List api_TypeV) (n_3 : api_TypeV) (s : api_SignatureV) (v_6 : api_TypeV) : run E jmp fin depth c0 .ret (tJ0 l n_3 s v_6) =
    SJ0 (fun v_6 t ok => jmp (.code c1 .ret) (tJ1 v_6 t ok)) l n_3 s v_6 := by kernel_rfl
theorem sJ1 (jmp : Tgt → ASt → R) (v_6 : api_TypeV) (t : api_TypeV) (ok : Bool) : run E jmp fin depth c1 .ret (tJ1 v_6 t ok) =
    SJ1 v_6 t ok := by kernel_rfl
theorem se (jmp : Tgt → ASt → R) (x : (argTy ps).den) : run E jmp fin depth (bodyOf Try.f25) .ret (entryFrom 0 ps x) =
    Se (fun l n_3 s v_6 => jmp (.code c0 .ret) (tJ0 l n_3 s v_6)) x.1 x.2.1 x.2.2.1 := by kernel_rfl
noncomputable def J0 (l : List api_TypeV) (n_3 : api_TypeV) (s : api_SignatureV) (v_6 : api_TypeV) : R := lim E fin (.code c0 .ret) (tJ0 l n_3 s v_6)
noncomputable def J1 (v_6 : api_TypeV) (t : api_TypeV) (ok : Bool) : R := lim E fin (.code c1 .ret) (tJ1 v_6 t ok)
theorem J0_eq (l : List api_TypeV) (n_3 : api_TypeV) (s : api_SignatureV) (v_6 : api_TypeV) : J0 l n_3 s v_6 = SJ0 J1 l n_3 s v_6 :=
  (lim_eq (.code c0 .ret) (tJ0 l n_3 s v_6)).trans (sJ0 (lim E fin) l n_3 s v_6)
theorem J1_eq (v_6 : api_TypeV) (t : api_TypeV) (ok : Bool) : J1 v_6 t ok = SJ1 v_6 t ok :=
  (lim_eq (.code c1 .ret) (tJ1 v_6 t ok)).trans (sJ1 (lim E fin) v_6 t ok)
end ref10_Result
noncomputable def ref10_Result (n_0 : api_TypeV) (l : List api_TypeV) (s : api_SignatureV) : ref10_Result.R :=
  ref10_Result.Se ref10_Result.J0 n_0 l s
noncomputable def ref10_Result.sig : Sig := ⟨ref10_Result.ps, ref10_Result.rs, fun x => ref10_Result x.1 x.2.1 x.2.2.1⟩
theorem ref10_Result.ok : CallOK Try.prog 25 ref10_Result.sig :=
  callOK_of_lim (E := ref10_Result.E) mixed tt_ok (ctxOk_cons (ctxOk_cons (ctxOk_cons (ctxOk_cons (ctxOk_cons (ctxOk_cons ctxOk_nil ref10_double.ok Try.func40 (by kernel_rfl) (by kernel_rfl)) ref10_single.ok Try.func39 (by kernel_rfl) (by kernel_rfl)) ref10_leaf.ok Try.func38 (by kernel_rfl) (by kernel_rfl)) ref10_found.ok Try.func37 (by kernel_rfl) (by kernel_rfl)) ref10_ranged.ok Try.func36 (by kernel_rfl) (by kernel_rfl)) ref10_meaning.ok Try.func35 (by kernel_rfl) (by kernel_rfl)) Try.func25 (by kernel_rfl : Try.f25.body = some (bodyOf Try.f25)) Try.ntmps25 (of_decide_eq_true (by kernel_rfl)) (of_decide_eq_true (by kernel_rfl))
    fun x y h => ((lim_eq (.code (bodyOf Try.f25) .ret) (entryFrom 0 ref10_Result.ps x)).trans (ref10_Result.se (lim ref10_Result.E ref10_Result.fin) x)).trans h
theorem ref10_Result.val (x : (argTy ref10_Result.ps).den) : lim ref10_Result.E ref10_Result.fin (.code (bodyOf Try.f25) .ret) (entryFrom 0 ref10_Result.ps x) = ref10_Result.sig.run x :=
  (lim_eq (.code (bodyOf Try.f25) .ret) (entryFrom 0 ref10_Result.ps x)).trans (ref10_Result.se (lim ref10_Result.E ref10_Result.fin) x)
noncomputable def ref10_Result.ctxc (n : Nat) : List (Nat × Sig) := [(35, ref10_meaning.sigc n), (36, ref10_ranged.sigc n), (37, ref10_found.sigc n), (38, ref10_leaf.sigc n), (39, ref10_single.sigc n), (40, ref10_double.sigc n)]
noncomputable def ref10_Result.sigc (n : Nat) : Sig := ⟨ref10_Result.ps, ref10_Result.rs, fun x => runs (withCtx ref10_Result.E (ref10_Result.ctxc n)) ref10_Result.fin n (.code (bodyOf Try.f25) .ret) (entryFrom 0 ref10_Result.ps x)⟩
theorem ref10_Result.sigc_le (n : Nat) : ∀ x y, (ref10_Result.sigc n).run x = some y → ref10_Result.sig.run x = some y :=
  fun x y h => (ref10_Result.val x).symm.trans (runs_lim (E := ref10_Result.E) (c := ref10_Result.ctxc n) (ctxLe_cons (ctxLe_cons (ctxLe_cons (ctxLe_cons (ctxLe_cons (ctxLe_cons ctxLe_nil (ref10_double.sigc_le n)) (ref10_single.sigc_le n)) (ref10_leaf.sigc_le n)) (ref10_found.sigc_le n)) (ref10_ranged.sigc_le n)) (ref10_meaning.sigc_le n)) h)

/-! ### guerdon/guerdonref10.TypeOf -/
namespace ref10_TypeOf
abbrev ps : List PM := [.pure (.sl api_Type), .pure api_Signature]
abbrev rs : List RM := [.pure api_Type, .pure (.int .i64), .pure (.int .i64)]
abbrev R : Type := Option (api_TypeV × Int × Int × Unit)
noncomputable def E : Env := { tt := tt, ctx := [(22, ref10_structure.sig), (12, ref10_Arity.sig), (25, ref10_Result.sig)], nt := 67, ann := [(1000006, [(0, .keep), (3, .keep), (4, .keep), (10, .own api_Type), (11, .keep)])] }
noncomputable def c0 : Code := sub [1, 1, 1, 1, 1] (bodyOf Try.f18)
noncomputable def c1 : Code := sub [1, 1, 1, 1, 0, 1, 0, 0] (bodyOf Try.f18)
noncomputable def K7 : Kont := .seq c0 .ret
noncomputable def K9 : Kont := .blk 0 K7
noncomputable def fin : ASt → R := Kret E Try.f18.results.toList ps rs
def tL0 (e : List api_TypeV) (s : api_SignatureV) (v_4 : api_TypeV) (stack : List api_TypeV) (i : Int) : ASt := ⟨[(11, .one (.val (.int .i64) i)), (10, .one (.own 10)), (4, .one (.optr 4 0 [])), (3, .one (.optr 3 0 [])), (0, .one (.val (.sl api_Type) e))], [(10, some ⟨.free, api_Type, stack⟩), (4, some ⟨.free, api_Type, [v_4]⟩), (3, some ⟨.free, api_Signature, [s]⟩)]⟩
noncomputable def SL0 (kL0 : (List api_TypeV) → api_SignatureV → api_TypeV → (List api_TypeV) → Int → R) (e : List api_TypeV) (s : api_SignatureV) (v_4 : api_TypeV) (stack : List api_TypeV) (i : Int) : R :=
  cond (decide (i < (e.length : Int)))
    (Option.bind (idx e i) fun x1 =>
    Option.bind (ref10_Arity x1.1) fun x2 =>
    Option.bind (idx e i) fun x3 =>
    cond (decide ((0 : Int) ≤ IntKind.i64.wrap ((stack.length : Int) - x2.1)) && (decide ((IntKind.i64.wrap ((stack.length : Int) - x2.1) : Int) ≤ (stack.length : Int)) && decide ((stack.length : Int) ≤ (stack.length : Int))))
      (Option.bind (ref10_Result x3 ((stack.drop ((IntKind.i64.wrap ((stack.length : Int) - x2.1)).toNat)).take (stack.length - (IntKind.i64.wrap ((stack.length : Int) - x2.1)).toNat)) s) fun x4 =>
      cond (x4.2.1 != 0)
        (some ((0, 0, ()), i, x4.2.1, ()))
        (cond (decide ((0 : Int) ≤ 0) && (decide ((0 : Int) ≤ IntKind.i64.wrap ((stack.length : Int) - x2.1)) && decide (IntKind.i64.wrap ((stack.length : Int) - x2.1) ≤ (stack.length : Int))))
          (cond (decide (((stack.take ((IntKind.i64.wrap ((stack.length : Int) - x2.1)).toNat)).length + 1) * 16 ≤ room) && decide (0 < Ty.nc (.pair (.int .i64) (.pair (.int .i64) .unit))))
            (kL0 e s v_4 ((stack.take ((IntKind.i64.wrap ((stack.length : Int) - x2.1)).toNat)) ++ [x4.1]) (IntKind.i64.wrap (i + 1)))
            none)
          none))
      none)
    (cond (decide (0 ≤ 0) && decide (0 < (stack.length : Int)))
      (some ((stack.getD 0 (0, 0, ())), 0, 0, ()))
      none)
noncomputable def Se (kL0 : (List api_TypeV) → api_SignatureV → api_TypeV → (List api_TypeV) → Int → R) (e : List api_TypeV) (s : api_SignatureV) : R :=
  Option.bind (ref10_structure e) fun x1 =>
  cond (x1.2.2.1 != 0)
    (some ((0, 0, ()), x1.2.1, x1.2.2.1, ()))
    (kL0 e s (0, 0, ()) [] 0)
theorem sL0 (jmp : Tgt → ASt → R) (e : List api_TypeV) (s : api_SignatureV) (v_4 : api_TypeV) (stack : List api_TypeV) (i : Int) : run E jmp fin depth c1 (.loop c1 K9) (tL0 e s v_4 stack i) =
    SL0 (fun e s v_4 stack i => jmp (.loop c1 K9) (tL0 e s v_4 stack i)) e s v_4 stack i := by kernel_rfl
theorem se (jmp : Tgt → ASt → R) (x : (argTy ps).den) : run E jmp fin depth (bodyOf Try.f18) .ret (entryFrom 0 ps x) =
    Se (fun e s v_4 stack i => jmp (.loop c1 K9) (tL0 e s v_4 stack i)) x.1 x.2.1 := by kernel_rfl
noncomputable def L0 (e : List api_TypeV) (s : api_SignatureV) (v_4 : api_TypeV) (stack : List api_TypeV) (i : Int) : R := lim E fin (.loop c1 K9) (tL0 e s v_4 stack i)
theorem L0_eq (e : List api_TypeV) (s : api_SignatureV) (v_4 : api_TypeV) (stack : List api_TypeV) (i : Int) : L0 e s v_4 stack i = SL0 L0 e s v_4 stack i :=
  (lim_eq (.loop c1 K9) (tL0 e s v_4 stack i)).trans (sL0 (lim E fin) e s v_4 stack i)
end ref10_TypeOf
noncomputable def ref10_TypeOf (e : List api_TypeV) (s : api_SignatureV) : ref10_TypeOf.R :=
  ref10_TypeOf.Se ref10_TypeOf.L0 e s
noncomputable def ref10_TypeOf.sig : Sig := ⟨ref10_TypeOf.ps, ref10_TypeOf.rs, fun x => ref10_TypeOf x.1 x.2.1⟩
theorem ref10_TypeOf.ok : CallOK Try.prog 18 ref10_TypeOf.sig :=
  callOK_of_lim (E := ref10_TypeOf.E) mixed tt_ok (ctxOk_cons (ctxOk_cons (ctxOk_cons ctxOk_nil ref10_Result.ok Try.func25 (by kernel_rfl) (by kernel_rfl)) ref10_Arity.ok Try.func12 (by kernel_rfl) (by kernel_rfl)) ref10_structure.ok Try.func22 (by kernel_rfl) (by kernel_rfl)) Try.func18 (by kernel_rfl : Try.f18.body = some (bodyOf Try.f18)) Try.ntmps18 (of_decide_eq_true (by kernel_rfl)) (of_decide_eq_true (by kernel_rfl))
    fun x y h => ((lim_eq (.code (bodyOf Try.f18) .ret) (entryFrom 0 ref10_TypeOf.ps x)).trans (ref10_TypeOf.se (lim ref10_TypeOf.E ref10_TypeOf.fin) x)).trans h
theorem ref10_TypeOf.val (x : (argTy ref10_TypeOf.ps).den) : lim ref10_TypeOf.E ref10_TypeOf.fin (.code (bodyOf Try.f18) .ret) (entryFrom 0 ref10_TypeOf.ps x) = ref10_TypeOf.sig.run x :=
  (lim_eq (.code (bodyOf Try.f18) .ret) (entryFrom 0 ref10_TypeOf.ps x)).trans (ref10_TypeOf.se (lim ref10_TypeOf.E ref10_TypeOf.fin) x)
noncomputable def ref10_TypeOf.ctxc (n : Nat) : List (Nat × Sig) := [(22, ref10_structure.sigc n), (12, ref10_Arity.sigc n), (25, ref10_Result.sigc n)]
noncomputable def ref10_TypeOf.sigc (n : Nat) : Sig := ⟨ref10_TypeOf.ps, ref10_TypeOf.rs, fun x => runs (withCtx ref10_TypeOf.E (ref10_TypeOf.ctxc n)) ref10_TypeOf.fin n (.code (bodyOf Try.f18) .ret) (entryFrom 0 ref10_TypeOf.ps x)⟩
theorem ref10_TypeOf.sigc_le (n : Nat) : ∀ x y, (ref10_TypeOf.sigc n).run x = some y → ref10_TypeOf.sig.run x = some y :=
  fun x y h => (ref10_TypeOf.val x).symm.trans (runs_lim (E := ref10_TypeOf.E) (c := ref10_TypeOf.ctxc n) (ctxLe_cons (ctxLe_cons (ctxLe_cons ctxLe_nil (ref10_Result.sigc_le n)) (ref10_Arity.sigc_le n)) (ref10_structure.sigc_le n)) h)

/-! ### guerdon/guerdonlaw10.ExprTypes -/
namespace law10_ExprTypes
abbrev ps : List PM := [.pure (.sl api_Type), .pure api_Signature]
abbrev rs : List RM := [.pure .bool]
abbrev R : Type := Option (Bool × Unit)
noncomputable def E : Env := { tt := tt, ctx := [(8, law10_awake.sig), (16, ref10_Small.sig), (17, expr_TypeOf.sig), (18, ref10_TypeOf.sig)], nt := 50, ann := [(3, [(0, .keep), (3, .keep)])] }
noncomputable def c0 : Code := sub [1, 1] (bodyOf Try.f4)
noncomputable def fin : ASt → R := Kret E Try.f4.results.toList ps rs
def tJ0 (e : List api_TypeV) (s : api_SignatureV) : ASt := ⟨[(3, .one (.optr 3 0 [])), (0, .one (.val (.sl api_Type) e))], [(3, some ⟨.free, api_Signature, [s]⟩)]⟩
noncomputable def SJ0 (e : List api_TypeV) (s : api_SignatureV) : R :=
  Option.bind (expr_TypeOf e s) fun x1 =>
  Option.bind (ref10_TypeOf e s) fun x2 =>
  cond (eqTy (.pair (.int .i64) (.pair (.int .i64) .unit)) x1.1 x2.1)
    (cond (x1.2.1 == x2.2.1)
      (cond (x1.2.2.1 == x2.2.2.1)
        (Option.bind law10_awake fun x3 =>
        some (x3.1, ()))
        (some (false, ())))
      (some (false, ())))
    (some (false, ()))
noncomputable def Se (kJ0 : (List api_TypeV) → api_SignatureV → R) (e : List api_TypeV) (s : api_SignatureV) : R :=
  cond (decide ((e.length : Int) > 100))
    (Option.bind law10_awake fun x1 =>
    some (x1.1, ()))
    (Option.bind (ref10_Small s) fun x2 =>
    cond (!x2.1)
      (Option.bind law10_awake fun x3 =>
      some (x3.1, ()))
      (kJ0 e s))
theorem sJ0 (jmp : Tgt → ASt → R) (e : List api_TypeV) (s : api_SignatureV) : run E jmp fin depth c0 .ret (tJ0 e s) =
    SJ0 e s := by kernel_rfl
theorem se (jmp : Tgt → ASt → R) (x : (argTy ps).den) : run E jmp fin depth (bodyOf Try.f4) .ret (entryFrom 0 ps x) =
    Se (fun e s => jmp (.code c0 .ret) (tJ0 e s)) x.1 x.2.1 := by kernel_rfl
noncomputable def J0 (e : List api_TypeV) (s : api_SignatureV) : R := lim E fin (.code c0 .ret) (tJ0 e s)
theorem J0_eq (e : List api_TypeV) (s : api_SignatureV) : J0 e s = SJ0 e s :=
  (lim_eq (.code c0 .ret) (tJ0 e s)).trans (sJ0 (lim E fin) e s)
end law10_ExprTypes
noncomputable def law10_ExprTypes (e : List api_TypeV) (s : api_SignatureV) : law10_ExprTypes.R :=
  law10_ExprTypes.Se law10_ExprTypes.J0 e s
noncomputable def law10_ExprTypes.sig : Sig := ⟨law10_ExprTypes.ps, law10_ExprTypes.rs, fun x => law10_ExprTypes x.1 x.2.1⟩
theorem law10_ExprTypes.ok : CallOK Try.prog 4 law10_ExprTypes.sig :=
  callOK_of_lim (E := law10_ExprTypes.E) mixed tt_ok (ctxOk_cons (ctxOk_cons (ctxOk_cons (ctxOk_cons ctxOk_nil ref10_TypeOf.ok Try.func18 (by kernel_rfl) (by kernel_rfl)) expr_TypeOf.ok Try.func17 (by kernel_rfl) (by kernel_rfl)) ref10_Small.ok Try.func16 (by kernel_rfl) (by kernel_rfl)) law10_awake.ok Try.func8 (by kernel_rfl) (by kernel_rfl)) Try.func4 (by kernel_rfl : Try.f4.body = some (bodyOf Try.f4)) Try.ntmps4 (of_decide_eq_true (by kernel_rfl)) (of_decide_eq_true (by kernel_rfl))
    fun x y h => ((lim_eq (.code (bodyOf Try.f4) .ret) (entryFrom 0 law10_ExprTypes.ps x)).trans (law10_ExprTypes.se (lim law10_ExprTypes.E law10_ExprTypes.fin) x)).trans h
theorem law10_ExprTypes.val (x : (argTy law10_ExprTypes.ps).den) : lim law10_ExprTypes.E law10_ExprTypes.fin (.code (bodyOf Try.f4) .ret) (entryFrom 0 law10_ExprTypes.ps x) = law10_ExprTypes.sig.run x :=
  (lim_eq (.code (bodyOf Try.f4) .ret) (entryFrom 0 law10_ExprTypes.ps x)).trans (law10_ExprTypes.se (lim law10_ExprTypes.E law10_ExprTypes.fin) x)
noncomputable def law10_ExprTypes.ctxc (n : Nat) : List (Nat × Sig) := [(8, law10_awake.sigc n), (16, ref10_Small.sigc n), (17, expr_TypeOf.sigc n), (18, ref10_TypeOf.sigc n)]
noncomputable def law10_ExprTypes.sigc (n : Nat) : Sig := ⟨law10_ExprTypes.ps, law10_ExprTypes.rs, fun x => runs (withCtx law10_ExprTypes.E (law10_ExprTypes.ctxc n)) law10_ExprTypes.fin n (.code (bodyOf Try.f4) .ret) (entryFrom 0 law10_ExprTypes.ps x)⟩
theorem law10_ExprTypes.sigc_le (n : Nat) : ∀ x y, (law10_ExprTypes.sigc n).run x = some y → law10_ExprTypes.sig.run x = some y :=
  fun x y h => (law10_ExprTypes.val x).symm.trans (runs_lim (E := law10_ExprTypes.E) (c := law10_ExprTypes.ctxc n) (ctxLe_cons (ctxLe_cons (ctxLe_cons (ctxLe_cons ctxLe_nil (ref10_TypeOf.sigc_le n)) (expr_TypeOf.sigc_le n)) (ref10_Small.sigc_le n)) (law10_awake.sigc_le n)) h)

end Go.Proofs.Ytbfckejaihblmaa
