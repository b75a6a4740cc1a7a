/- The functions of the program as typed Lean functions, with the proof that they are what the code computes. -/
import Derived.Test.YtbfckejaihblmaaTys
set_option maxRecDepth 100000
set_option linter.unusedVariables false
namespace Go.Proofs.Ytbfckejaihblmaa
open Go Go.Lift

/-! ### guerdon/expr.Arity -/
namespace expr_Arity
abbrev ps : List PM := [.pure (.int .i64)]
abbrev rs : List RM := [.pure (.int .i64)]
abbrev R : Type := Option (Int × Unit)
noncomputable def E : Env := { tt := tt, ctx := [], nt := 31, ann := [(2, [(0, .keep), (3, .keep)]), (11, [(0, .keep), (13, .keep)])] }
noncomputable def c0 : Code := sub [1, 1] (bodyOf Try.f11)
noncomputable def c1 : Code := sub [1, 0, 0, 1] (bodyOf Try.f11)
noncomputable def c2 : Code := sub [1, 0, 0, 1, 1, 1, 1, 1] (bodyOf Try.f11)
noncomputable def K2 : Kont := .seq c0 .ret
noncomputable def K3 : Kont := .blk 0 K2
noncomputable def fin : ASt → R := Kret E Try.f11.results.toList ps rs
def tJ0 (op : Int) (v_3 : Bool) : ASt := ⟨[(3, .one (.val .bool v_3)), (0, .one (.val (.int .i64) op))], []⟩
def tJ1 (op : Int) (v_13 : Bool) : ASt := ⟨[(13, .one (.val .bool v_13)), (0, .one (.val (.int .i64) op))], []⟩
noncomputable def SJ0 (kJ1 : Int → Bool → R) (op : Int) (v_3 : Bool) : R :=
  cond v_3
    (some ((-1), ()))
    (cond (op == 26)
      (some (3, ()))
      (cond (op == 10)
        (kJ1 op (op == 10))
        (cond (op == 25)
          (kJ1 op (op == 25))
          (cond (op == 31)
            (kJ1 op (op == 31))
            (cond (op == 32)
              (kJ1 op (op == 32))
              (cond (op == 33)
                (kJ1 op (op == 33))
                (kJ1 op (op == 34))))))))
noncomputable def SJ1 (op : Int) (v_13 : Bool) : R :=
  cond v_13
    (some (1, ()))
    (cond (decide (op ≤ 9))
      (cond (decide (op ≤ 9))
        (some (0, ()))
        (some (2, ())))
      (cond (decide (op ≥ 35))
        (some (0, ()))
        (some (2, ()))))
noncomputable def Se (kJ0 : Int → Bool → R) (op : Int) : R :=
  cond (decide (op < 1))
    (kJ0 op true)
    (kJ0 op (decide (op > 39)))
theorem sJ0 (jmp : Tgt → ASt → R) (op : Int) (v_3 : Bool) : run E jmp fin depth c1 K3 (tJ0 op v_3) =
    SJ0 (fun op v_13 => jmp (.code c2 K3) (tJ1 op v_13)) op v_3 := by kernel_rfl
theorem sJ1 (jmp : Tgt → ASt → R) (op : Int) (v_13 : Bool) : run E jmp fin depth c2 K3 (tJ1 op v_13) =
    SJ1 op v_13 := by kernel_rfl
theorem se (jmp : Tgt → ASt → R) (x : (argTy ps).den) : run E jmp fin depth (bodyOf Try.f11) .ret (entryFrom 0 ps x) =
    Se (fun op v_3 => jmp (.code c1 K3) (tJ0 op v_3)) x.1 := by kernel_rfl
noncomputable def J0 (op : Int) (v_3 : Bool) : R := lim E fin (.code c1 K3) (tJ0 op v_3)
noncomputable def J1 (op : Int) (v_13 : Bool) : R := lim E fin (.code c2 K3) (tJ1 op v_13)
theorem J0_eq (op : Int) (v_3 : Bool) : J0 op v_3 = SJ0 J1 op v_3 :=
  (lim_eq (.code c1 K3) (tJ0 op v_3)).trans (sJ0 (lim E fin) op v_3)
theorem J1_eq (op : Int) (v_13 : Bool) : J1 op v_13 = SJ1 op v_13 :=
  (lim_eq (.code c2 K3) (tJ1 op v_13)).trans (sJ1 (lim E fin) op v_13)
end expr_Arity
noncomputable def expr_Arity (op : Int) : expr_Arity.R :=
  expr_Arity.Se expr_Arity.J0 op
noncomputable def expr_Arity.sig : Sig := ⟨expr_Arity.ps, expr_Arity.rs, fun x => expr_Arity x.1⟩
theorem expr_Arity.ok : CallOK Try.prog 11 expr_Arity.sig :=
  callOK_of_lim (E := expr_Arity.E) mixed tt_ok ctxOk_nil Try.func11 (by kernel_rfl : Try.f11.body = some (bodyOf Try.f11)) Try.ntmps11 (of_decide_eq_true (by kernel_rfl)) (of_decide_eq_true (by kernel_rfl))
    fun x y h => ((lim_eq (.code (bodyOf Try.f11) .ret) (entryFrom 0 expr_Arity.ps x)).trans (expr_Arity.se (lim expr_Arity.E expr_Arity.fin) x)).trans h
theorem expr_Arity.val (x : (argTy expr_Arity.ps).den) : lim expr_Arity.E expr_Arity.fin (.code (bodyOf Try.f11) .ret) (entryFrom 0 expr_Arity.ps x) = expr_Arity.sig.run x :=
  (lim_eq (.code (bodyOf Try.f11) .ret) (entryFrom 0 expr_Arity.ps x)).trans (expr_Arity.se (lim expr_Arity.E expr_Arity.fin) x)
noncomputable def expr_Arity.ctxc (n : Nat) : List (Nat × Sig) := []
noncomputable def expr_Arity.sigc (n : Nat) : Sig := ⟨expr_Arity.ps, expr_Arity.rs, fun x => runs (withCtx expr_Arity.E (expr_Arity.ctxc n)) expr_Arity.fin n (.code (bodyOf Try.f11) .ret) (entryFrom 0 expr_Arity.ps x)⟩
theorem expr_Arity.sigc_le (n : Nat) : ∀ x y, (expr_Arity.sigc n).run x = some y → expr_Arity.sig.run x = some y :=
  fun x y h => (expr_Arity.val x).symm.trans (runs_lim (E := expr_Arity.E) (c := expr_Arity.ctxc n) ctxLe_nil h)

/-! ### guerdon/expr.starts -/
namespace expr_starts
abbrev ps : List PM := [.pure (.sl api_Type)]
abbrev rs : List RM := [.own (.int .i64), .pure (.int .i64), .pure (.int .i64)]
abbrev R : Type := Option (List Int × Int × Int × Unit)
noncomputable def E : Env := { tt := tt, ctx := [(11, expr_Arity.sig)], nt := 69, ann := [(1000007, [(0, .keep), (5, .own (.int .i64)), (6, .own (.int .i64)), (17, .keep), (18, .keep), (19, .keep)]), (17, [(0, .keep), (5, .own (.int .i64)), (6, .own (.int .i64)), (7, .keep), (9, .keep), (10, .keep), (17, .keep), (18, .keep), (19, .keep)])] }
noncomputable def c0 : Code := sub [1, 1, 1, 1, 1] (bodyOf Try.f21)
noncomputable def c1 : Code := sub [1, 1, 1, 1, 0, 1, 0, 0] (bodyOf Try.f21)
noncomputable def c2 : Code := sub [1, 1, 1, 1, 0, 1, 0, 0, 1, 1, 1] (bodyOf Try.f21)
noncomputable def c3 : Code := sub [1, 1, 1, 1, 0, 1, 0, 0, 1, 1, 0, 0, 1, 1, 1, 1, 1, 1] (bodyOf Try.f21)
noncomputable def K9 : Kont := .seq c0 .ret
noncomputable def K11 : Kont := .blk 0 K9
noncomputable def K12 : Kont := .loop c1 K11
noncomputable def K15 : Kont := .seq c2 K12
noncomputable def K16 : Kont := .blk 1 K15
noncomputable def fin : ASt → R := Kret E Try.f21.results.toList ps rs
def tL0 (e : List api_TypeV) (out : List Int) (stack : List Int) (v_17 : List api_TypeV) (v_18 : Int) (v_19 : Int) : ASt := ⟨[(19, .one (.val (.int .i64) v_19)), (18, .one (.val (.int .i64) v_18)), (17, .one (.val (.sl api_Type) v_17)), (6, .one (.own 6)), (5, .one (.own 5)), (0, .one (.val (.sl api_Type) e))], [(6, some ⟨.free, .int .i64, stack⟩), (5, some ⟨.free, .int .i64, out⟩)]⟩
def tJ1 (e : List api_TypeV) (out : List Int) (stack : List Int) (i : Int) (k : Int) (start : Int) (v_17 : List api_TypeV) (v_18 : Int) (v_19 : Int) : ASt := ⟨[(19, .one (.val (.int .i64) v_19)), (18, .one (.val (.int .i64) v_18)), (17, .one (.val (.sl api_Type) v_17)), (10, .one (.val (.int .i64) start)), (9, .one (.val (.int .i64) k)), (7, .one (.val (.int .i64) i)), (6, .one (.own 6)), (5, .one (.own 5)), (0, .one (.val (.sl api_Type) e))], [(6, some ⟨.free, .int .i64, stack⟩), (5, some ⟨.free, .int .i64, out⟩)]⟩
noncomputable def SL0 (kJ1 : (List api_TypeV) → (List Int) → (List Int) → Int → Int → Int → (List api_TypeV) → Int → Int → R) (e : List api_TypeV) (out : List Int) (stack : List Int) (v_17 : List api_TypeV) (v_18 : Int) (v_19 : Int) : R :=
  cond (decide (v_19 < v_18))
    (Option.bind (idx v_17 v_19) fun x1 =>
    Option.bind (expr_Arity x1.1) fun x2 =>
    cond (decide (x2.1 < 0))
      (some ([], v_19, 2, ()))
      (cond (decide (x2.1 > (stack.length : Int)))
        (some ([], v_19, 5, ()))
        (cond (decide (x2.1 > 0))
          (cond (decide (0 ≤ IntKind.i64.wrap ((stack.length : Int) - x2.1)) && decide (IntKind.i64.wrap ((stack.length : Int) - x2.1) < (stack.length : Int)))
            (kJ1 e out stack v_19 x2.1 (stack.getD ((IntKind.i64.wrap ((stack.length : Int) - x2.1)).toNat) 0) v_17 v_18 v_19)
            none)
          (kJ1 e out stack v_19 x2.1 v_19 v_17 v_18 v_19))))
    (cond (decide ((stack.length : Int) > 1))
      (some ([], (e.length : Int), 4, ()))
      (some (out, 0, 0, ())))
noncomputable def SJ1 (kL0 : (List api_TypeV) → (List Int) → (List Int) → (List api_TypeV) → Int → Int → R) (e : List api_TypeV) (out : List Int) (stack : List Int) (i : Int) (k : Int) (start : Int) (v_17 : List api_TypeV) (v_18 : Int) (v_19 : Int) : R :=
  cond (decide ((0 : Int) ≤ 0) && (decide ((0 : Int) ≤ IntKind.i64.wrap ((stack.length : Int) - k)) && decide (IntKind.i64.wrap ((stack.length : Int) - k) ≤ (stack.length : Int))))
    (cond (decide (((stack.take ((IntKind.i64.wrap ((stack.length : Int) - k)).toNat)).length + 1) * 8 ≤ room) && decide (0 < Ty.nc (.int .i64)))
      (cond (decide ((((stack.take ((IntKind.i64.wrap ((stack.length : Int) - k)).toNat)) ++ [start]).length : Int) > 12))
        (some ([], i, 16, ()))
        (cond (decide ((out.length + 1) * 8 ≤ room) && decide (0 < Ty.nc (.int .i64)))
          (kL0 e (out ++ [start]) ((stack.take ((IntKind.i64.wrap ((stack.length : Int) - k)).toNat)) ++ [start]) v_17 v_18 (IntKind.i64.wrap (v_19 + 1)))
          none))
      none)
    none
noncomputable def Se (kL0 : (List api_TypeV) → (List Int) → (List Int) → (List api_TypeV) → Int → Int → R) (e : List api_TypeV) : R :=
  cond (decide ((e.length : Int) > 48))
    (some ([], 0, 4, ()))
    (cond ((e.length : Int) == 0)
      (some ([], 0, 5, ()))
      (kL0 e [] [] e (e.length : Int) 0))
theorem sL0 (jmp : Tgt → ASt → R) (e : List api_TypeV) (out : List Int) (stack : List Int) (v_17 : List api_TypeV) (v_18 : Int) (v_19 : Int) : run E jmp fin depth c1 (.loop c1 K11) (tL0 e out stack v_17 v_18 v_19) =
    SL0 (fun e out stack i k start v_17 v_18 v_19 => jmp (.code c3 K16) (tJ1 e out stack i k start v_17 v_18 v_19)) e out stack v_17 v_18 v_19 := by kernel_rfl
theorem sJ1 (jmp : Tgt → ASt → R) (e : List api_TypeV) (out : List Int) (stack : List Int) (i : Int) (k : Int) (start : Int) (v_17 : List api_TypeV) (v_18 : Int) (v_19 : Int) : run E jmp fin depth c3 K16 (tJ1 e out stack i k start v_17 v_18 v_19) =
    SJ1 (fun e out stack v_17 v_18 v_19 => jmp (.loop c1 K11) (tL0 e out stack v_17 v_18 v_19)) e out stack i k start v_17 v_18 v_19 := by kernel_rfl
theorem se (jmp : Tgt → ASt → R) (x : (argTy ps).den) : run E jmp fin depth (bodyOf Try.f21) .ret (entryFrom 0 ps x) =
    Se (fun e out stack v_17 v_18 v_19 => jmp (.loop c1 K11) (tL0 e out stack v_17 v_18 v_19)) x.1 := by kernel_rfl
noncomputable def L0 (e : List api_TypeV) (out : List Int) (stack : List Int) (v_17 : List api_TypeV) (v_18 : Int) (v_19 : Int) : R := lim E fin (.loop c1 K11) (tL0 e out stack v_17 v_18 v_19)
noncomputable def J1 (e : List api_TypeV) (out : List Int) (stack : List Int) (i : Int) (k : Int) (start : Int) (v_17 : List api_TypeV) (v_18 : Int) (v_19 : Int) : R := lim E fin (.code c3 K16) (tJ1 e out stack i k start v_17 v_18 v_19)
theorem L0_eq (e : List api_TypeV) (out : List Int) (stack : List Int) (v_17 : List api_TypeV) (v_18 : Int) (v_19 : Int) : L0 e out stack v_17 v_18 v_19 = SL0 J1 e out stack v_17 v_18 v_19 :=
  (lim_eq (.loop c1 K11) (tL0 e out stack v_17 v_18 v_19)).trans (sL0 (lim E fin) e out stack v_17 v_18 v_19)
theorem J1_eq (e : List api_TypeV) (out : List Int) (stack : List Int) (i : Int) (k : Int) (start : Int) (v_17 : List api_TypeV) (v_18 : Int) (v_19 : Int) : J1 e out stack i k start v_17 v_18 v_19 = SJ1 L0 e out stack i k start v_17 v_18 v_19 :=
  (lim_eq (.code c3 K16) (tJ1 e out stack i k start v_17 v_18 v_19)).trans (sJ1 (lim E fin) e out stack i k start v_17 v_18 v_19)
end expr_starts
noncomputable def expr_starts (e : List api_TypeV) : expr_starts.R :=
  expr_starts.Se expr_starts.L0 e
noncomputable def expr_starts.sig : Sig := ⟨expr_starts.ps, expr_starts.rs, fun x => expr_starts x.1⟩
theorem expr_starts.ok : CallOK Try.prog 21 expr_starts.sig :=
  callOK_of_lim (E := expr_starts.E) mixed tt_ok (ctxOk_cons ctxOk_nil expr_Arity.ok Try.func11 (by kernel_rfl) (by kernel_rfl)) Try.func21 (by kernel_rfl : Try.f21.body = some (bodyOf Try.f21)) Try.ntmps21 (of_decide_eq_true (by kernel_rfl)) (of_decide_eq_true (by kernel_rfl))
    fun x y h => ((lim_eq (.code (bodyOf Try.f21) .ret) (entryFrom 0 expr_starts.ps x)).trans (expr_starts.se (lim expr_starts.E expr_starts.fin) x)).trans h
theorem expr_starts.val (x : (argTy expr_starts.ps).den) : lim expr_starts.E expr_starts.fin (.code (bodyOf Try.f21) .ret) (entryFrom 0 expr_starts.ps x) = expr_starts.sig.run x :=
  (lim_eq (.code (bodyOf Try.f21) .ret) (entryFrom 0 expr_starts.ps x)).trans (expr_starts.se (lim expr_starts.E expr_starts.fin) x)
noncomputable def expr_starts.ctxc (n : Nat) : List (Nat × Sig) := [(11, expr_Arity.sigc n)]
noncomputable def expr_starts.sigc (n : Nat) : Sig := ⟨expr_starts.ps, expr_starts.rs, fun x => runs (withCtx expr_starts.E (expr_starts.ctxc n)) expr_starts.fin n (.code (bodyOf Try.f21) .ret) (entryFrom 0 expr_starts.ps x)⟩
theorem expr_starts.sigc_le (n : Nat) : ∀ x y, (expr_starts.sigc n).run x = some y → expr_starts.sig.run x = some y :=
  fun x y h => (expr_starts.val x).symm.trans (runs_lim (E := expr_starts.E) (c := expr_starts.ctxc n) (ctxLe_cons ctxLe_nil (expr_Arity.sigc_le n)) h)

/-! ### guerdon/expr.Starts -/
namespace expr_Starts
abbrev ps : List PM := [.pure (.sl api_Type)]
abbrev rs : List RM := [.own (.int .i64), .pure (.int .i64)]
abbrev R : Type := Option (List Int × Int × Unit)
noncomputable def E : Env := { tt := tt, ctx := [(21, expr_starts.sig)], nt := 15, ann := [] }
noncomputable def fin : ASt → R := Kret E Try.f9.results.toList ps rs
noncomputable def Se (e : List api_TypeV) : R :=
  Option.bind (expr_starts e) fun x1 =>
  some (x1.1, x1.2.2.1, ())
theorem se (jmp : Tgt → ASt → R) (x : (argTy ps).den) : run E jmp fin depth (bodyOf Try.f9) .ret (entryFrom 0 ps x) =
    Se x.1 := by kernel_rfl
end expr_Starts
noncomputable def expr_Starts (e : List api_TypeV) : expr_Starts.R :=
  expr_Starts.Se e
noncomputable def expr_Starts.sig : Sig := ⟨expr_Starts.ps, expr_Starts.rs, fun x => expr_Starts x.1⟩
theorem expr_Starts.ok : CallOK Try.prog 9 expr_Starts.sig :=
  callOK_of_lim (E := expr_Starts.E) mixed tt_ok (ctxOk_cons ctxOk_nil expr_starts.ok Try.func21 (by kernel_rfl) (by kernel_rfl)) Try.func9 (by kernel_rfl : Try.f9.body = some (bodyOf Try.f9)) Try.ntmps9 (of_decide_eq_true (by kernel_rfl)) (of_decide_eq_true (by kernel_rfl))
    fun x y h => ((lim_eq (.code (bodyOf Try.f9) .ret) (entryFrom 0 expr_Starts.ps x)).trans (expr_Starts.se (lim expr_Starts.E expr_Starts.fin) x)).trans h
theorem expr_Starts.val (x : (argTy expr_Starts.ps).den) : lim expr_Starts.E expr_Starts.fin (.code (bodyOf Try.f9) .ret) (entryFrom 0 expr_Starts.ps x) = expr_Starts.sig.run x :=
  (lim_eq (.code (bodyOf Try.f9) .ret) (entryFrom 0 expr_Starts.ps x)).trans (expr_Starts.se (lim expr_Starts.E expr_Starts.fin) x)
noncomputable def expr_Starts.ctxc (n : Nat) : List (Nat × Sig) := [(21, expr_starts.sigc n)]
noncomputable def expr_Starts.sigc (n : Nat) : Sig := ⟨expr_Starts.ps, expr_Starts.rs, fun x => runs (withCtx expr_Starts.E (expr_Starts.ctxc n)) expr_Starts.fin n (.code (bodyOf Try.f9) .ret) (entryFrom 0 expr_Starts.ps x)⟩
theorem expr_Starts.sigc_le (n : Nat) : ∀ x y, (expr_Starts.sigc n).run x = some y → expr_Starts.sig.run x = some y :=
  fun x y h => (expr_Starts.val x).symm.trans (runs_lim (E := expr_Starts.E) (c := expr_Starts.ctxc n) (ctxLe_cons ctxLe_nil (expr_starts.sigc_le n)) h)

/-! ### guerdon/expr.operands -/
namespace expr_operands
abbrev ps : List PM := [.pure (.sl api_Type), .pure (.sl (.int .i64)), .pure (.int .i64)]
abbrev rs : List RM := [.own (.int .i64)]
abbrev R : Type := Option (List Int × Unit)
noncomputable def E : Env := { tt := tt, ctx := [(11, expr_Arity.sig)], nt := 37, ann := [(1000005, [(1, .keep), (8, .keep), (9, .keep), (10, .keep)])] }
noncomputable def c0 : Code := sub [1, 1, 1, 1, 1] (bodyOf Try.f23)
noncomputable def c1 : Code := sub [1, 1, 1, 1, 0, 1, 0, 0] (bodyOf Try.f23)
noncomputable def K5 : Kont := .seq c0 .ret
noncomputable def K7 : Kont := .blk 0 K5
noncomputable def fin : ASt → R := Kret E Try.f23.results.toList ps rs
def tL0 (l : List Int) (out : List Int) (last : Int) (i : Int) : ASt := ⟨[(10, .one (.val (.int .i64) i)), (9, .one (.val (.int .i64) last)), (8, .one (.own 8)), (1, .one (.val (.sl (.int .i64)) l))], [(8, some ⟨.free, .int .i64, out⟩)]⟩
noncomputable def SL0 (kL0 : (List Int) → (List Int) → Int → Int → R) (l : List Int) (out : List Int) (last : Int) (i : Int) : R :=
  cond (decide (i ≥ 0))
    (cond (decide (0 ≤ i) && decide (i < (out.length : Int)))
      (Option.bind (idx l last) fun x1 =>
      kL0 l (out.set i.toNat last) (IntKind.i64.wrap (x1 - 1)) (IntKind.i64.wrap (i - 1)))
      none)
    (some (out, ()))
noncomputable def Se (kL0 : (List Int) → (List Int) → Int → Int → R) (e : List api_TypeV) (l : List Int) (at_2 : Int) : R :=
  Option.bind (idx e at_2) fun x1 =>
  Option.bind (expr_Arity x1.1) fun x2 =>
  cond (decide (0 ≤ (x2.1 : Int)) && (decide ((x2.1 : Int) ≤ x2.1) && (decide ((x2.1 : Int) * 8 ≤ room) && (decide ((x2.1 : Int) ≤ maxLen) && decide (0 < Ty.nc (.int .i64))))))
    (kL0 l (List.replicate x2.1.toNat 0) (IntKind.i64.wrap (at_2 - 1)) (IntKind.i64.wrap (x2.1 - 1)))
    none
theorem sL0 (jmp : Tgt → ASt → R) (l : List Int) (out : List Int) (last : Int) (i : Int) : run E jmp fin depth c1 (.loop c1 K7) (tL0 l out last i) =
    SL0 (fun l out last i => jmp (.loop c1 K7) (tL0 l out last i)) l out last i := by kernel_rfl
theorem se (jmp : Tgt → ASt → R) (x : (argTy ps).den) : run E jmp fin depth (bodyOf Try.f23) .ret (entryFrom 0 ps x) =
    Se (fun l out last i => jmp (.loop c1 K7) (tL0 l out last i)) x.1 x.2.1 x.2.2.1 := by kernel_rfl
noncomputable def L0 (l : List Int) (out : List Int) (last : Int) (i : Int) : R := lim E fin (.loop c1 K7) (tL0 l out last i)
theorem L0_eq (l : List Int) (out : List Int) (last : Int) (i : Int) : L0 l out last i = SL0 L0 l out last i :=
  (lim_eq (.loop c1 K7) (tL0 l out last i)).trans (sL0 (lim E fin) l out last i)
end expr_operands
noncomputable def expr_operands (e : List api_TypeV) (l : List Int) (at_2 : Int) : expr_operands.R :=
  expr_operands.Se expr_operands.L0 e l at_2
noncomputable def expr_operands.sig : Sig := ⟨expr_operands.ps, expr_operands.rs, fun x => expr_operands x.1 x.2.1 x.2.2.1⟩
theorem expr_operands.ok : CallOK Try.prog 23 expr_operands.sig :=
  callOK_of_lim (E := expr_operands.E) mixed tt_ok (ctxOk_cons ctxOk_nil expr_Arity.ok Try.func11 (by kernel_rfl) (by kernel_rfl)) Try.func23 (by kernel_rfl : Try.f23.body = some (bodyOf Try.f23)) Try.ntmps23 (of_decide_eq_true (by kernel_rfl)) (of_decide_eq_true (by kernel_rfl))
    fun x y h => ((lim_eq (.code (bodyOf Try.f23) .ret) (entryFrom 0 expr_operands.ps x)).trans (expr_operands.se (lim expr_operands.E expr_operands.fin) x)).trans h
theorem expr_operands.val (x : (argTy expr_operands.ps).den) : lim expr_operands.E expr_operands.fin (.code (bodyOf Try.f23) .ret) (entryFrom 0 expr_operands.ps x) = expr_operands.sig.run x :=
  (lim_eq (.code (bodyOf Try.f23) .ret) (entryFrom 0 expr_operands.ps x)).trans (expr_operands.se (lim expr_operands.E expr_operands.fin) x)
noncomputable def expr_operands.ctxc (n : Nat) : List (Nat × Sig) := [(11, expr_Arity.sigc n)]
noncomputable def expr_operands.sigc (n : Nat) : Sig := ⟨expr_operands.ps, expr_operands.rs, fun x => runs (withCtx expr_operands.E (expr_operands.ctxc n)) expr_operands.fin n (.code (bodyOf Try.f23) .ret) (entryFrom 0 expr_operands.ps x)⟩
theorem expr_operands.sigc_le (n : Nat) : ∀ x y, (expr_operands.sigc n).run x = some y → expr_operands.sig.run x = some y :=
  fun x y h => (expr_operands.val x).symm.trans (runs_lim (E := expr_operands.E) (c := expr_operands.ctxc n) (ctxLe_cons ctxLe_nil (expr_Arity.sigc_le n)) h)

/-! ### guerdon/expr.literal -/
namespace expr_literal
abbrev ps : List PM := [.pure (.int .i64)]
abbrev rs : List RM := [.pure (.int .i64)]
abbrev R : Type := Option (Int × Unit)
noncomputable def E : Env := { tt := tt, ctx := [], nt := 10, ann := [] }
noncomputable def fin : ASt → R := Kret E Try.f71.results.toList ps rs
noncomputable def Se (op : Int) : R :=
  cond (decide (op ≥ 1))
    (cond (decide (op ≤ 6))
      (some (op, ()))
      (some (0, ())))
    (some (0, ()))
theorem se (jmp : Tgt → ASt → R) (x : (argTy ps).den) : run E jmp fin depth (bodyOf Try.f71) .ret (entryFrom 0 ps x) =
    Se x.1 := by kernel_rfl
end expr_literal
noncomputable def expr_literal (op : Int) : expr_literal.R :=
  expr_literal.Se op
noncomputable def expr_literal.sig : Sig := ⟨expr_literal.ps, expr_literal.rs, fun x => expr_literal x.1⟩
theorem expr_literal.ok : CallOK Try.prog 71 expr_literal.sig :=
  callOK_of_lim (E := expr_literal.E) mixed tt_ok ctxOk_nil Try.func71 (by kernel_rfl : Try.f71.body = some (bodyOf Try.f71)) Try.ntmps71 (of_decide_eq_true (by kernel_rfl)) (of_decide_eq_true (by kernel_rfl))
    fun x y h => ((lim_eq (.code (bodyOf Try.f71) .ret) (entryFrom 0 expr_literal.ps x)).trans (expr_literal.se (lim expr_literal.E expr_literal.fin) x)).trans h
theorem expr_literal.val (x : (argTy expr_literal.ps).den) : lim expr_literal.E expr_literal.fin (.code (bodyOf Try.f71) .ret) (entryFrom 0 expr_literal.ps x) = expr_literal.sig.run x :=
  (lim_eq (.code (bodyOf Try.f71) .ret) (entryFrom 0 expr_literal.ps x)).trans (expr_literal.se (lim expr_literal.E expr_literal.fin) x)
noncomputable def expr_literal.ctxc (n : Nat) : List (Nat × Sig) := []
noncomputable def expr_literal.sigc (n : Nat) : Sig := ⟨expr_literal.ps, expr_literal.rs, fun x => runs (withCtx expr_literal.E (expr_literal.ctxc n)) expr_literal.fin n (.code (bodyOf Try.f71) .ret) (entryFrom 0 expr_literal.ps x)⟩
theorem expr_literal.sigc_le (n : Nat) : ∀ x y, (expr_literal.sigc n).run x = some y → expr_literal.sig.run x = some y :=
  fun x y h => (expr_literal.val x).symm.trans (runs_lim (E := expr_literal.E) (c := expr_literal.ctxc n) ctxLe_nil h)

/-! ### guerdon/expr.meaning -/
namespace expr_meaning
abbrev ps : List PM := [.pure (.int .i64)]
abbrev rs : List RM := [.pure .bool]
abbrev R : Type := Option (Bool × Unit)
noncomputable def E : Env := { tt := tt, ctx := [(71, expr_literal.sig)], nt := 19, ann := [] }
noncomputable def fin : ASt → R := Kret E Try.f43.results.toList ps rs
noncomputable def Se (op : Int) : R :=
  cond (op == 7)
    (cond (op == 7)
      (some (true, ()))
      (Option.bind (expr_literal op) fun x1 =>
      some (decide (x1.1 > 0), ())))
    (cond (op == 8)
      (cond (op == 8)
        (some (true, ()))
        (Option.bind (expr_literal op) fun x2 =>
        some (decide (x2.1 > 0), ())))
      (cond (op == 14)
        (cond (op == 14)
          (some (true, ()))
          (Option.bind (expr_literal op) fun x3 =>
          some (decide (x3.1 > 0), ())))
        (cond (op == 15)
          (cond (op == 15)
            (some (true, ()))
            (Option.bind (expr_literal op) fun x4 =>
            some (decide (x4.1 > 0), ())))
          (cond (op == 16)
            (cond (op == 16)
              (some (true, ()))
              (Option.bind (expr_literal op) fun x5 =>
              some (decide (x5.1 > 0), ())))
            (cond (op == 33)
              (cond (op == 33)
                (some (true, ()))
                (Option.bind (expr_literal op) fun x6 =>
                some (decide (x6.1 > 0), ())))
              (cond (op == 34)
                (cond (op == 34)
                  (some (true, ()))
                  (Option.bind (expr_literal op) fun x7 =>
                  some (decide (x7.1 > 0), ())))
                (cond (op == 36)
                  (cond (op == 36)
                    (some (true, ()))
                    (Option.bind (expr_literal op) fun x8 =>
                    some (decide (x8.1 > 0), ())))
                  (cond (op == 37)
                    (cond (op == 37)
                      (some (true, ()))
                      (Option.bind (expr_literal op) fun x9 =>
                      some (decide (x9.1 > 0), ())))
                    (cond (op == 38)
                      (cond (op == 38)
                        (some (true, ()))
                        (Option.bind (expr_literal op) fun x10 =>
                        some (decide (x10.1 > 0), ())))
                      (cond (op == 39)
                        (some (true, ()))
                        (Option.bind (expr_literal op) fun x11 =>
                        some (decide (x11.1 > 0), ()))))))))))))
theorem se (jmp : Tgt → ASt → R) (x : (argTy ps).den) : run E jmp fin depth (bodyOf Try.f43) .ret (entryFrom 0 ps x) =
    Se x.1 := by kernel_rfl
end expr_meaning
noncomputable def expr_meaning (op : Int) : expr_meaning.R :=
  expr_meaning.Se op
noncomputable def expr_meaning.sig : Sig := ⟨expr_meaning.ps, expr_meaning.rs, fun x => expr_meaning x.1⟩
theorem expr_meaning.ok : CallOK Try.prog 43 expr_meaning.sig :=
  callOK_of_lim (E := expr_meaning.E) mixed tt_ok (ctxOk_cons ctxOk_nil expr_literal.ok Try.func71 (by kernel_rfl) (by kernel_rfl)) Try.func43 (by kernel_rfl : Try.f43.body = some (bodyOf Try.f43)) Try.ntmps43 (of_decide_eq_true (by kernel_rfl)) (of_decide_eq_true (by kernel_rfl))
    fun x y h => ((lim_eq (.code (bodyOf Try.f43) .ret) (entryFrom 0 expr_meaning.ps x)).trans (expr_meaning.se (lim expr_meaning.E expr_meaning.fin) x)).trans h
theorem expr_meaning.val (x : (argTy expr_meaning.ps).den) : lim expr_meaning.E expr_meaning.fin (.code (bodyOf Try.f43) .ret) (entryFrom 0 expr_meaning.ps x) = expr_meaning.sig.run x :=
  (lim_eq (.code (bodyOf Try.f43) .ret) (entryFrom 0 expr_meaning.ps x)).trans (expr_meaning.se (lim expr_meaning.E expr_meaning.fin) x)
noncomputable def expr_meaning.ctxc (n : Nat) : List (Nat × Sig) := [(71, expr_literal.sigc n)]
noncomputable def expr_meaning.sigc (n : Nat) : Sig := ⟨expr_meaning.ps, expr_meaning.rs, fun x => runs (withCtx expr_meaning.E (expr_meaning.ctxc n)) expr_meaning.fin n (.code (bodyOf Try.f43) .ret) (entryFrom 0 expr_meaning.ps x)⟩
theorem expr_meaning.sigc_le (n : Nat) : ∀ x y, (expr_meaning.sigc n).run x = some y → expr_meaning.sig.run x = some y :=
  fun x y h => (expr_meaning.val x).symm.trans (runs_lim (E := expr_meaning.E) (c := expr_meaning.ctxc n) (ctxLe_cons ctxLe_nil (expr_literal.sigc_le n)) h)

/-! ### guerdon/value.ValidType -/
namespace value_ValidType
abbrev ps : List PM := [.pure api_Type, .pure (.sl api_Enum)]
abbrev rs : List RM := [.pure .bool]
abbrev R : Type := Option (Bool × Unit)
noncomputable def E : Env := { tt := tt, ctx := [], nt := 28, ann := [(7, [(1, .keep), (2, .keep), (6, .keep), (7, .keep)])] }
noncomputable def c0 : Code := sub [1, 1] (bodyOf Try.f33)
noncomputable def c1 : Code := sub [1, 0, 1, 0, 1] (bodyOf Try.f33)
noncomputable def K2 : Kont := .seq c0 .ret
noncomputable def K4 : Kont := .blk 0 K2
noncomputable def fin : ASt → R := Kret E Try.f33.results.toList ps rs
def tJ0 (enums : List api_EnumV) (t : api_TypeV) (v_6 : Int) (v_7 : Bool) : ASt := ⟨[(7, .one (.val .bool v_7)), (6, .one (.val (.int .i64) v_6)), (2, .one (.optr 2 0 [])), (1, .one (.val (.sl api_Enum) enums))], [(2, some ⟨.free, api_Type, [t]⟩)]⟩
noncomputable def SJ0 (enums : List api_EnumV) (t : api_TypeV) (v_6 : Int) (v_7 : Bool) : R :=
  cond v_7
    (some ((t.2.1 == 0), ()))
    (cond (v_6 == 6)
      (cond (decide (t.2.1 ≥ 0))
        (some (decide (t.2.1 < (enums.length : Int)), ()))
        (some (false, ())))
      (some (false, ())))
noncomputable def Se (kJ0 : (List api_EnumV) → api_TypeV → Int → Bool → R) (t : api_TypeV) (enums : List api_EnumV) : R :=
  cond (t.1 == 1)
    (kJ0 enums t t.1 (t.1 == 1))
    (cond (t.1 == 2)
      (kJ0 enums t t.1 (t.1 == 2))
      (cond (t.1 == 3)
        (kJ0 enums t t.1 (t.1 == 3))
        (cond (t.1 == 4)
          (kJ0 enums t t.1 (t.1 == 4))
          (kJ0 enums t t.1 (t.1 == 5)))))
theorem sJ0 (jmp : Tgt → ASt → R) (enums : List api_EnumV) (t : api_TypeV) (v_6 : Int) (v_7 : Bool) : run E jmp fin depth c1 K4 (tJ0 enums t v_6 v_7) =
    SJ0 enums t v_6 v_7 := by kernel_rfl
theorem se (jmp : Tgt → ASt → R) (x : (argTy ps).den) : run E jmp fin depth (bodyOf Try.f33) .ret (entryFrom 0 ps x) =
    Se (fun enums t v_6 v_7 => jmp (.code c1 K4) (tJ0 enums t v_6 v_7)) x.1 x.2.1 := by kernel_rfl
noncomputable def J0 (enums : List api_EnumV) (t : api_TypeV) (v_6 : Int) (v_7 : Bool) : R := lim E fin (.code c1 K4) (tJ0 enums t v_6 v_7)
theorem J0_eq (enums : List api_EnumV) (t : api_TypeV) (v_6 : Int) (v_7 : Bool) : J0 enums t v_6 v_7 = SJ0 enums t v_6 v_7 :=
  (lim_eq (.code c1 K4) (tJ0 enums t v_6 v_7)).trans (sJ0 (lim E fin) enums t v_6 v_7)
end value_ValidType
noncomputable def value_ValidType (t : api_TypeV) (enums : List api_EnumV) : value_ValidType.R :=
  value_ValidType.Se value_ValidType.J0 t enums
noncomputable def value_ValidType.sig : Sig := ⟨value_ValidType.ps, value_ValidType.rs, fun x => value_ValidType x.1 x.2.1⟩
theorem value_ValidType.ok : CallOK Try.prog 33 value_ValidType.sig :=
  callOK_of_lim (E := value_ValidType.E) mixed tt_ok ctxOk_nil Try.func33 (by kernel_rfl : Try.f33.body = some (bodyOf Try.f33)) Try.ntmps33 (of_decide_eq_true (by kernel_rfl)) (of_decide_eq_true (by kernel_rfl))
    fun x y h => ((lim_eq (.code (bodyOf Try.f33) .ret) (entryFrom 0 value_ValidType.ps x)).trans (value_ValidType.se (lim value_ValidType.E value_ValidType.fin) x)).trans h
theorem value_ValidType.val (x : (argTy value_ValidType.ps).den) : lim value_ValidType.E value_ValidType.fin (.code (bodyOf Try.f33) .ret) (entryFrom 0 value_ValidType.ps x) = value_ValidType.sig.run x :=
  (lim_eq (.code (bodyOf Try.f33) .ret) (entryFrom 0 value_ValidType.ps x)).trans (value_ValidType.se (lim value_ValidType.E value_ValidType.fin) x)
noncomputable def value_ValidType.ctxc (n : Nat) : List (Nat × Sig) := []
noncomputable def value_ValidType.sigc (n : Nat) : Sig := ⟨value_ValidType.ps, value_ValidType.rs, fun x => runs (withCtx value_ValidType.E (value_ValidType.ctxc n)) value_ValidType.fin n (.code (bodyOf Try.f33) .ret) (entryFrom 0 value_ValidType.ps x)⟩
theorem value_ValidType.sigc_le (n : Nat) : ∀ x y, (value_ValidType.sigc n).run x = some y → value_ValidType.sig.run x = some y :=
  fun x y h => (value_ValidType.val x).symm.trans (runs_lim (E := value_ValidType.E) (c := value_ValidType.ctxc n) ctxLe_nil h)

/-! ### guerdon/value.Bounds -/
namespace value_Bounds
abbrev ps : List PM := [.pure api_Type, .pure (.sl api_Enum)]
abbrev rs : List RM := [.pure (.int .i64), .pure (.int .i64)]
abbrev R : Type := Option (Int × Int × Unit)
noncomputable def E : Env := { tt := tt, ctx := [(33, value_ValidType.sig)], nt := 30, ann := [] }
noncomputable def fin : ASt → R := Kret E Try.f44.results.toList ps rs
noncomputable def Se (t : api_TypeV) (enums : List api_EnumV) : R :=
  Option.bind (value_ValidType t enums) fun x1 =>
  cond (!x1.1)
    (some (0, (-1), ()))
    (cond (t.1 == 1)
      (some (0, 1, ()))
      (cond (t.1 == 2)
        (some ((-1000000000000), 1000000000000, ()))
        (cond (t.1 == 3)
          (some ((-1000000000000000), 1000000000000000, ()))
          (cond (t.1 == 4)
            (some ((-1000000000), 1000000000, ()))
            (cond (t.1 == 5)
              (some (0, 109572, ()))
              (Option.bind (idx enums t.2.1) fun x2 =>
              some (0, IntKind.i64.wrap ((x2.2.1.length : Int) - 1), ())))))))
theorem se (jmp : Tgt → ASt → R) (x : (argTy ps).den) : run E jmp fin depth (bodyOf Try.f44) .ret (entryFrom 0 ps x) =
    Se x.1 x.2.1 := by kernel_rfl
end value_Bounds
noncomputable def value_Bounds (t : api_TypeV) (enums : List api_EnumV) : value_Bounds.R :=
  value_Bounds.Se t enums
noncomputable def value_Bounds.sig : Sig := ⟨value_Bounds.ps, value_Bounds.rs, fun x => value_Bounds x.1 x.2.1⟩
theorem value_Bounds.ok : CallOK Try.prog 44 value_Bounds.sig :=
  callOK_of_lim (E := value_Bounds.E) mixed tt_ok (ctxOk_cons ctxOk_nil value_ValidType.ok Try.func33 (by kernel_rfl) (by kernel_rfl)) Try.func44 (by kernel_rfl : Try.f44.body = some (bodyOf Try.f44)) Try.ntmps44 (of_decide_eq_true (by kernel_rfl)) (of_decide_eq_true (by kernel_rfl))
    fun x y h => ((lim_eq (.code (bodyOf Try.f44) .ret) (entryFrom 0 value_Bounds.ps x)).trans (value_Bounds.se (lim value_Bounds.E value_Bounds.fin) x)).trans h
theorem value_Bounds.val (x : (argTy value_Bounds.ps).den) : lim value_Bounds.E value_Bounds.fin (.code (bodyOf Try.f44) .ret) (entryFrom 0 value_Bounds.ps x) = value_Bounds.sig.run x :=
  (lim_eq (.code (bodyOf Try.f44) .ret) (entryFrom 0 value_Bounds.ps x)).trans (value_Bounds.se (lim value_Bounds.E value_Bounds.fin) x)
noncomputable def value_Bounds.ctxc (n : Nat) : List (Nat × Sig) := [(33, value_ValidType.sigc n)]
noncomputable def value_Bounds.sigc (n : Nat) : Sig := ⟨value_Bounds.ps, value_Bounds.rs, fun x => runs (withCtx value_Bounds.E (value_Bounds.ctxc n)) value_Bounds.fin n (.code (bodyOf Try.f44) .ret) (entryFrom 0 value_Bounds.ps x)⟩
theorem value_Bounds.sigc_le (n : Nat) : ∀ x y, (value_Bounds.sigc n).run x = some y → value_Bounds.sig.run x = some y :=
  fun x y h => (value_Bounds.val x).symm.trans (runs_lim (E := value_Bounds.E) (c := value_Bounds.ctxc n) (ctxLe_cons ctxLe_nil (value_ValidType.sigc_le n)) h)

/-! ### guerdon/expr.number -/
namespace expr_number
abbrev ps : List PM := [.pure api_Type]
abbrev rs : List RM := [.pure (.int .i64)]
abbrev R : Type := Option (Int × Unit)
noncomputable def E : Env := { tt := tt, ctx := [(43, expr_meaning.sig), (44, value_Bounds.sig)], nt := 67, ann := [(3, [(1, .keep)]), (9, [(1, .keep), (15, .keep), (16, .keep)]), (15, [(1, .keep), (15, .keep), (39, .keep)])] }
noncomputable def c0 : Code := sub [1, 1, 1] (bodyOf Try.f30)
noncomputable def c1 : Code := sub [1, 1] (bodyOf Try.f30)
noncomputable def c2 : Code := sub [1, 1, 0, 1, 0, 1] (bodyOf Try.f30)
noncomputable def c3 : Code := sub [1, 1, 0, 1, 0, 1, 1, 1] (bodyOf Try.f30)
noncomputable def K5 : Kont := .seq c0 .ret
noncomputable def K7 : Kont := .blk 0 K5
noncomputable def fin : ASt → R := Kret E Try.f30.results.toList ps rs
def tJ0 (n_1 : api_TypeV) : ASt := ⟨[(1, .one (.optr 1 0 []))], [(1, some ⟨.free, api_Type, [n_1]⟩)]⟩
def tJ1 (n_1 : api_TypeV) (v_15 : Int) (v_16 : Bool) : ASt := ⟨[(16, .one (.val .bool v_16)), (15, .one (.val (.int .i64) v_15)), (1, .one (.optr 1 0 []))], [(1, some ⟨.free, api_Type, [n_1]⟩)]⟩
def tJ2 (n_1 : api_TypeV) (v_15 : Int) (v_39 : Bool) : ASt := ⟨[(39, .one (.val .bool v_39)), (15, .one (.val (.int .i64) v_15)), (1, .one (.optr 1 0 []))], [(1, some ⟨.free, api_Type, [n_1]⟩)]⟩
noncomputable def SJ0 (kJ1 : api_TypeV → Int → Bool → R) (n_1 : api_TypeV) : R :=
  cond (n_1.1 == 1)
    (kJ1 n_1 n_1.1 (n_1.1 == 1))
    (cond (n_1.1 == 2)
      (kJ1 n_1 n_1.1 (n_1.1 == 2))
      (cond (n_1.1 == 3)
        (kJ1 n_1 n_1.1 (n_1.1 == 3))
        (cond (n_1.1 == 4)
          (kJ1 n_1 n_1.1 (n_1.1 == 4))
          (kJ1 n_1 n_1.1 (n_1.1 == 5)))))
noncomputable def SJ1 (kJ2 : api_TypeV → Int → Bool → R) (n_1 : api_TypeV) (v_15 : Int) (v_16 : Bool) : R :=
  cond v_16
    (Option.bind (value_Bounds (n_1.1, 0, ()) []) fun x1 =>
    cond (decide (n_1.2.1 < x1.1))
      (some (3, ()))
      (cond (decide (n_1.2.1 > x1.2.1))
        (some (3, ()))
        (some (0, ()))))
    (cond (v_15 == 14)
      (kJ2 n_1 v_15 (v_15 == 14))
      (cond (v_15 == 15)
        (kJ2 n_1 v_15 (v_15 == 15))
        (kJ2 n_1 v_15 (v_15 == 16))))
noncomputable def SJ2 (n_1 : api_TypeV) (v_15 : Int) (v_39 : Bool) : R :=
  cond v_39
    (cond (decide (n_1.2.1 < 0))
      (some (3, ()))
      (cond (decide (n_1.2.1 > 5))
        (some (3, ()))
        (some (0, ()))))
    (cond (v_15 == 6)
      (cond (decide (n_1.2.1 < 0))
        (some (3, ()))
        (some (0, ())))
      (cond (v_15 == 34)
        (cond (decide (n_1.2.1 < 0))
          (some (3, ()))
          (cond (decide ((Int.tmod n_1.2.1 8) > 5))
            (some (3, ()))
            (some (0, ()))))
        (some (0, ()))))
noncomputable def Se (kJ0 : api_TypeV → R) (n_0 : api_TypeV) : R :=
  cond (n_0.2.1 != 0)
    (Option.bind (expr_meaning n_0.1) fun x1 =>
    cond (!x1.1)
      (some (2, ()))
      (kJ0 n_0))
    (kJ0 n_0)
theorem sJ0 (jmp : Tgt → ASt → R) (n_1 : api_TypeV) : run E jmp fin depth c1 .ret (tJ0 n_1) =
    SJ0 (fun n_1 v_15 v_16 => jmp (.code c2 K7) (tJ1 n_1 v_15 v_16)) n_1 := by kernel_rfl
theorem sJ1 (jmp : Tgt → ASt → R) (n_1 : api_TypeV) (v_15 : Int) (v_16 : Bool) : run E jmp fin depth c2 K7 (tJ1 n_1 v_15 v_16) =
    SJ1 (fun n_1 v_15 v_39 => jmp (.code c3 K7) (tJ2 n_1 v_15 v_39)) n_1 v_15 v_16 := by kernel_rfl
theorem sJ2 (jmp : Tgt → ASt → R) (n_1 : api_TypeV) (v_15 : Int) (v_39 : Bool) : run E jmp fin depth c3 K7 (tJ2 n_1 v_15 v_39) =
    SJ2 n_1 v_15 v_39 := by kernel_rfl
theorem se (jmp : Tgt → ASt → R) (x : (argTy ps).den) : run E jmp fin depth (bodyOf Try.f30) .ret (entryFrom 0 ps x) =
    Se (fun n_1 => jmp (.code c1 .ret) (tJ0 n_1)) x.1 := by kernel_rfl
noncomputable def J0 (n_1 : api_TypeV) : R := lim E fin (.code c1 .ret) (tJ0 n_1)
noncomputable def J1 (n_1 : api_TypeV) (v_15 : Int) (v_16 : Bool) : R := lim E fin (.code c2 K7) (tJ1 n_1 v_15 v_16)
noncomputable def J2 (n_1 : api_TypeV) (v_15 : Int) (v_39 : Bool) : R := lim E fin (.code c3 K7) (tJ2 n_1 v_15 v_39)
theorem J0_eq (n_1 : api_TypeV) : J0 n_1 = SJ0 J1 n_1 :=
  (lim_eq (.code c1 .ret) (tJ0 n_1)).trans (sJ0 (lim E fin) n_1)
theorem J1_eq (n_1 : api_TypeV) (v_15 : Int) (v_16 : Bool) : J1 n_1 v_15 v_16 = SJ1 J2 n_1 v_15 v_16 :=
  (lim_eq (.code c2 K7) (tJ1 n_1 v_15 v_16)).trans (sJ1 (lim E fin) n_1 v_15 v_16)
theorem J2_eq (n_1 : api_TypeV) (v_15 : Int) (v_39 : Bool) : J2 n_1 v_15 v_39 = SJ2 n_1 v_15 v_39 :=
  (lim_eq (.code c3 K7) (tJ2 n_1 v_15 v_39)).trans (sJ2 (lim E fin) n_1 v_15 v_39)
end expr_number
noncomputable def expr_number (n_0 : api_TypeV) : expr_number.R :=
  expr_number.Se expr_number.J0 n_0
noncomputable def expr_number.sig : Sig := ⟨expr_number.ps, expr_number.rs, fun x => expr_number x.1⟩
theorem expr_number.ok : CallOK Try.prog 30 expr_number.sig :=
  callOK_of_lim (E := expr_number.E) mixed tt_ok (ctxOk_cons (ctxOk_cons ctxOk_nil value_Bounds.ok Try.func44 (by kernel_rfl) (by kernel_rfl)) expr_meaning.ok Try.func43 (by kernel_rfl) (by kernel_rfl)) Try.func30 (by kernel_rfl : Try.f30.body = some (bodyOf Try.f30)) Try.ntmps30 (of_decide_eq_true (by kernel_rfl)) (of_decide_eq_true (by kernel_rfl))
    fun x y h => ((lim_eq (.code (bodyOf Try.f30) .ret) (entryFrom 0 expr_number.ps x)).trans (expr_number.se (lim expr_number.E expr_number.fin) x)).trans h
theorem expr_number.val (x : (argTy expr_number.ps).den) : lim expr_number.E expr_number.fin (.code (bodyOf Try.f30) .ret) (entryFrom 0 expr_number.ps x) = expr_number.sig.run x :=
  (lim_eq (.code (bodyOf Try.f30) .ret) (entryFrom 0 expr_number.ps x)).trans (expr_number.se (lim expr_number.E expr_number.fin) x)
noncomputable def expr_number.ctxc (n : Nat) : List (Nat × Sig) := [(43, expr_meaning.sigc n), (44, value_Bounds.sigc n)]
noncomputable def expr_number.sigc (n : Nat) : Sig := ⟨expr_number.ps, expr_number.rs, fun x => runs (withCtx expr_number.E (expr_number.ctxc n)) expr_number.fin n (.code (bodyOf Try.f30) .ret) (entryFrom 0 expr_number.ps x)⟩
theorem expr_number.sigc_le (n : Nat) : ∀ x y, (expr_number.sigc n).run x = some y → expr_number.sig.run x = some y :=
  fun x y h => (expr_number.val x).symm.trans (runs_lim (E := expr_number.E) (c := expr_number.ctxc n) (ctxLe_cons (ctxLe_cons ctxLe_nil (value_Bounds.sigc_le n)) (expr_meaning.sigc_le n)) h)

/-! ### guerdon/expr.at[guerdon/api.Enum] -/
namespace expr_at_api_Enum
abbrev ps : List PM := [.pure (.sl api_Enum), .pure (.int .i64)]
abbrev rs : List RM := [.pure api_Enum, .pure (.int .i64)]
abbrev R : Type := Option (api_EnumV × Int × Unit)
noncomputable def E : Env := { tt := tt, ctx := [], nt := 20, ann := [] }
noncomputable def fin : ASt → R := Kret E Try.f45.results.toList ps rs
noncomputable def Se (l : List api_EnumV) (i : Int) : R :=
  cond (decide (i < 0))
    (some (([], [], ()), 6, ()))
    (cond (decide (i ≥ (l.length : Int)))
      (some (([], [], ()), 6, ()))
      (Option.bind (idx l i) fun x1 =>
      some (x1, 0, ())))
theorem se (jmp : Tgt → ASt → R) (x : (argTy ps).den) : run E jmp fin depth (bodyOf Try.f45) .ret (entryFrom 0 ps x) =
    Se x.1 x.2.1 := by kernel_rfl
end expr_at_api_Enum
noncomputable def expr_at_api_Enum (l : List api_EnumV) (i : Int) : expr_at_api_Enum.R :=
  expr_at_api_Enum.Se l i
noncomputable def expr_at_api_Enum.sig : Sig := ⟨expr_at_api_Enum.ps, expr_at_api_Enum.rs, fun x => expr_at_api_Enum x.1 x.2.1⟩
theorem expr_at_api_Enum.ok : CallOK Try.prog 45 expr_at_api_Enum.sig :=
  callOK_of_lim (E := expr_at_api_Enum.E) mixed tt_ok ctxOk_nil Try.func45 (by kernel_rfl : Try.f45.body = some (bodyOf Try.f45)) Try.ntmps45 (of_decide_eq_true (by kernel_rfl)) (of_decide_eq_true (by kernel_rfl))
    fun x y h => ((lim_eq (.code (bodyOf Try.f45) .ret) (entryFrom 0 expr_at_api_Enum.ps x)).trans (expr_at_api_Enum.se (lim expr_at_api_Enum.E expr_at_api_Enum.fin) x)).trans h
theorem expr_at_api_Enum.val (x : (argTy expr_at_api_Enum.ps).den) : lim expr_at_api_Enum.E expr_at_api_Enum.fin (.code (bodyOf Try.f45) .ret) (entryFrom 0 expr_at_api_Enum.ps x) = expr_at_api_Enum.sig.run x :=
  (lim_eq (.code (bodyOf Try.f45) .ret) (entryFrom 0 expr_at_api_Enum.ps x)).trans (expr_at_api_Enum.se (lim expr_at_api_Enum.E expr_at_api_Enum.fin) x)
noncomputable def expr_at_api_Enum.ctxc (n : Nat) : List (Nat × Sig) := []
noncomputable def expr_at_api_Enum.sigc (n : Nat) : Sig := ⟨expr_at_api_Enum.ps, expr_at_api_Enum.rs, fun x => runs (withCtx expr_at_api_Enum.E (expr_at_api_Enum.ctxc n)) expr_at_api_Enum.fin n (.code (bodyOf Try.f45) .ret) (entryFrom 0 expr_at_api_Enum.ps x)⟩
theorem expr_at_api_Enum.sigc_le (n : Nat) : ∀ x y, (expr_at_api_Enum.sigc n).run x = some y → expr_at_api_Enum.sig.run x = some y :=
  fun x y h => (expr_at_api_Enum.val x).symm.trans (runs_lim (E := expr_at_api_Enum.E) (c := expr_at_api_Enum.ctxc n) ctxLe_nil h)

/-! ### guerdon/expr.at[string] -/
namespace expr_at_string
abbrev ps : List PM := [.pure (.sl .str), .pure (.int .i64)]
abbrev rs : List RM := [.pure .str, .pure (.int .i64)]
abbrev R : Type := Option (List UInt8 × Int × Unit)
noncomputable def E : Env := { tt := tt, ctx := [], nt := 20, ann := [] }
noncomputable def fin : ASt → R := Kret E Try.f46.results.toList ps rs
noncomputable def Se (l : List (List UInt8)) (i : Int) : R :=
  cond (decide (i < 0))
    (some ([], 6, ()))
    (cond (decide (i ≥ (l.length : Int)))
      (some ([], 6, ()))
      (Option.bind (idx l i) fun x1 =>
      some (x1, 0, ())))
theorem se (jmp : Tgt → ASt → R) (x : (argTy ps).den) : run E jmp fin depth (bodyOf Try.f46) .ret (entryFrom 0 ps x) =
    Se x.1 x.2.1 := by kernel_rfl
end expr_at_string
noncomputable def expr_at_string (l : List (List UInt8)) (i : Int) : expr_at_string.R :=
  expr_at_string.Se l i
noncomputable def expr_at_string.sig : Sig := ⟨expr_at_string.ps, expr_at_string.rs, fun x => expr_at_string x.1 x.2.1⟩
theorem expr_at_string.ok : CallOK Try.prog 46 expr_at_string.sig :=
  callOK_of_lim (E := expr_at_string.E) mixed tt_ok ctxOk_nil Try.func46 (by kernel_rfl : Try.f46.body = some (bodyOf Try.f46)) Try.ntmps46 (of_decide_eq_true (by kernel_rfl)) (of_decide_eq_true (by kernel_rfl))
    fun x y h => ((lim_eq (.code (bodyOf Try.f46) .ret) (entryFrom 0 expr_at_string.ps x)).trans (expr_at_string.se (lim expr_at_string.E expr_at_string.fin) x)).trans h
theorem expr_at_string.val (x : (argTy expr_at_string.ps).den) : lim expr_at_string.E expr_at_string.fin (.code (bodyOf Try.f46) .ret) (entryFrom 0 expr_at_string.ps x) = expr_at_string.sig.run x :=
  (lim_eq (.code (bodyOf Try.f46) .ret) (entryFrom 0 expr_at_string.ps x)).trans (expr_at_string.se (lim expr_at_string.E expr_at_string.fin) x)
noncomputable def expr_at_string.ctxc (n : Nat) : List (Nat × Sig) := []
noncomputable def expr_at_string.sigc (n : Nat) : Sig := ⟨expr_at_string.ps, expr_at_string.rs, fun x => runs (withCtx expr_at_string.E (expr_at_string.ctxc n)) expr_at_string.fin n (.code (bodyOf Try.f46) .ret) (entryFrom 0 expr_at_string.ps x)⟩
theorem expr_at_string.sigc_le (n : Nat) : ∀ x y, (expr_at_string.sigc n).run x = some y → expr_at_string.sig.run x = some y :=
  fun x y h => (expr_at_string.val x).symm.trans (runs_lim (E := expr_at_string.E) (c := expr_at_string.ctxc n) ctxLe_nil h)

/-! ### guerdon/expr.at[guerdon/api.Type] -/
namespace expr_at_api_Type
abbrev ps : List PM := [.pure (.sl api_Type), .pure (.int .i64)]
abbrev rs : List RM := [.pure api_Type, .pure (.int .i64)]
abbrev R : Type := Option (api_TypeV × Int × Unit)
noncomputable def E : Env := { tt := tt, ctx := [], nt := 20, ann := [] }
noncomputable def fin : ASt → R := Kret E Try.f47.results.toList ps rs
noncomputable def Se (l : List api_TypeV) (i : Int) : R :=
  cond (decide (i < 0))
    (some ((0, 0, ()), 6, ()))
    (cond (decide (i ≥ (l.length : Int)))
      (some ((0, 0, ()), 6, ()))
      (Option.bind (idx l i) fun x1 =>
      some (x1, 0, ())))
theorem se (jmp : Tgt → ASt → R) (x : (argTy ps).den) : run E jmp fin depth (bodyOf Try.f47) .ret (entryFrom 0 ps x) =
    Se x.1 x.2.1 := by kernel_rfl
end expr_at_api_Type
noncomputable def expr_at_api_Type (l : List api_TypeV) (i : Int) : expr_at_api_Type.R :=
  expr_at_api_Type.Se l i
noncomputable def expr_at_api_Type.sig : Sig := ⟨expr_at_api_Type.ps, expr_at_api_Type.rs, fun x => expr_at_api_Type x.1 x.2.1⟩
theorem expr_at_api_Type.ok : CallOK Try.prog 47 expr_at_api_Type.sig :=
  callOK_of_lim (E := expr_at_api_Type.E) mixed tt_ok ctxOk_nil Try.func47 (by kernel_rfl : Try.f47.body = some (bodyOf Try.f47)) Try.ntmps47 (of_decide_eq_true (by kernel_rfl)) (of_decide_eq_true (by kernel_rfl))
    fun x y h => ((lim_eq (.code (bodyOf Try.f47) .ret) (entryFrom 0 expr_at_api_Type.ps x)).trans (expr_at_api_Type.se (lim expr_at_api_Type.E expr_at_api_Type.fin) x)).trans h
theorem expr_at_api_Type.val (x : (argTy expr_at_api_Type.ps).den) : lim expr_at_api_Type.E expr_at_api_Type.fin (.code (bodyOf Try.f47) .ret) (entryFrom 0 expr_at_api_Type.ps x) = expr_at_api_Type.sig.run x :=
  (lim_eq (.code (bodyOf Try.f47) .ret) (entryFrom 0 expr_at_api_Type.ps x)).trans (expr_at_api_Type.se (lim expr_at_api_Type.E expr_at_api_Type.fin) x)
noncomputable def expr_at_api_Type.ctxc (n : Nat) : List (Nat × Sig) := []
noncomputable def expr_at_api_Type.sigc (n : Nat) : Sig := ⟨expr_at_api_Type.ps, expr_at_api_Type.rs, fun x => runs (withCtx expr_at_api_Type.E (expr_at_api_Type.ctxc n)) expr_at_api_Type.fin n (.code (bodyOf Try.f47) .ret) (entryFrom 0 expr_at_api_Type.ps x)⟩
theorem expr_at_api_Type.sigc_le (n : Nat) : ∀ x y, (expr_at_api_Type.sigc n).run x = some y → expr_at_api_Type.sig.run x = some y :=
  fun x y h => (expr_at_api_Type.val x).symm.trans (runs_lim (E := expr_at_api_Type.E) (c := expr_at_api_Type.ctxc n) ctxLe_nil h)

/-! ### guerdon/expr.numeric -/
namespace expr_numeric
abbrev ps : List PM := [.pure (.int .i64)]
abbrev rs : List RM := [.pure .bool]
abbrev R : Type := Option (Bool × Unit)
noncomputable def E : Env := { tt := tt, ctx := [], nt := 13, ann := [] }
noncomputable def fin : ASt → R := Kret E Try.f51.results.toList ps rs
noncomputable def Se (kind : Int) : R :=
  cond (kind == 2)
    (some (true, ()))
    (cond (kind == 3)
      (some (true, ()))
      (some ((kind == 4), ())))
theorem se (jmp : Tgt → ASt → R) (x : (argTy ps).den) : run E jmp fin depth (bodyOf Try.f51) .ret (entryFrom 0 ps x) =
    Se x.1 := by kernel_rfl
end expr_numeric
noncomputable def expr_numeric (kind : Int) : expr_numeric.R :=
  expr_numeric.Se kind
noncomputable def expr_numeric.sig : Sig := ⟨expr_numeric.ps, expr_numeric.rs, fun x => expr_numeric x.1⟩
theorem expr_numeric.ok : CallOK Try.prog 51 expr_numeric.sig :=
  callOK_of_lim (E := expr_numeric.E) mixed tt_ok ctxOk_nil Try.func51 (by kernel_rfl : Try.f51.body = some (bodyOf Try.f51)) Try.ntmps51 (of_decide_eq_true (by kernel_rfl)) (of_decide_eq_true (by kernel_rfl))
    fun x y h => ((lim_eq (.code (bodyOf Try.f51) .ret) (entryFrom 0 expr_numeric.ps x)).trans (expr_numeric.se (lim expr_numeric.E expr_numeric.fin) x)).trans h
theorem expr_numeric.val (x : (argTy expr_numeric.ps).den) : lim expr_numeric.E expr_numeric.fin (.code (bodyOf Try.f51) .ret) (entryFrom 0 expr_numeric.ps x) = expr_numeric.sig.run x :=
  (lim_eq (.code (bodyOf Try.f51) .ret) (entryFrom 0 expr_numeric.ps x)).trans (expr_numeric.se (lim expr_numeric.E expr_numeric.fin) x)
noncomputable def expr_numeric.ctxc (n : Nat) : List (Nat × Sig) := []
noncomputable def expr_numeric.sigc (n : Nat) : Sig := ⟨expr_numeric.ps, expr_numeric.rs, fun x => runs (withCtx expr_numeric.E (expr_numeric.ctxc n)) expr_numeric.fin n (.code (bodyOf Try.f51) .ret) (entryFrom 0 expr_numeric.ps x)⟩
theorem expr_numeric.sigc_le (n : Nat) : ∀ x y, (expr_numeric.sigc n).run x = some y → expr_numeric.sig.run x = some y :=
  fun x y h => (expr_numeric.val x).symm.trans (runs_lim (E := expr_numeric.E) (c := expr_numeric.ctxc n) ctxLe_nil h)

/-! ### guerdon/expr.ordered -/
namespace expr_ordered
abbrev ps : List PM := [.pure (.int .i64)]
abbrev rs : List RM := [.pure .bool]
abbrev R : Type := Option (Bool × Unit)
noncomputable def E : Env := { tt := tt, ctx := [(51, expr_numeric.sig)], nt := 9, ann := [] }
noncomputable def fin : ASt → R := Kret E Try.f53.results.toList ps rs
noncomputable def Se (kind : Int) : R :=
  Option.bind (expr_numeric kind) fun x1 =>
  cond x1.1
    (some (true, ()))
    (some ((kind == 5), ()))
theorem se (jmp : Tgt → ASt → R) (x : (argTy ps).den) : run E jmp fin depth (bodyOf Try.f53) .ret (entryFrom 0 ps x) =
    Se x.1 := by kernel_rfl
end expr_ordered
noncomputable def expr_ordered (kind : Int) : expr_ordered.R :=
  expr_ordered.Se kind
noncomputable def expr_ordered.sig : Sig := ⟨expr_ordered.ps, expr_ordered.rs, fun x => expr_ordered x.1⟩
theorem expr_ordered.ok : CallOK Try.prog 53 expr_ordered.sig :=
  callOK_of_lim (E := expr_ordered.E) mixed tt_ok (ctxOk_cons ctxOk_nil expr_numeric.ok Try.func51 (by kernel_rfl) (by kernel_rfl)) Try.func53 (by kernel_rfl : Try.f53.body = some (bodyOf Try.f53)) Try.ntmps53 (of_decide_eq_true (by kernel_rfl)) (of_decide_eq_true (by kernel_rfl))
    fun x y h => ((lim_eq (.code (bodyOf Try.f53) .ret) (entryFrom 0 expr_ordered.ps x)).trans (expr_ordered.se (lim expr_ordered.E expr_ordered.fin) x)).trans h
theorem expr_ordered.val (x : (argTy expr_ordered.ps).den) : lim expr_ordered.E expr_ordered.fin (.code (bodyOf Try.f53) .ret) (entryFrom 0 expr_ordered.ps x) = expr_ordered.sig.run x :=
  (lim_eq (.code (bodyOf Try.f53) .ret) (entryFrom 0 expr_ordered.ps x)).trans (expr_ordered.se (lim expr_ordered.E expr_ordered.fin) x)
noncomputable def expr_ordered.ctxc (n : Nat) : List (Nat × Sig) := [(51, expr_numeric.sigc n)]
noncomputable def expr_ordered.sigc (n : Nat) : Sig := ⟨expr_ordered.ps, expr_ordered.rs, fun x => runs (withCtx expr_ordered.E (expr_ordered.ctxc n)) expr_ordered.fin n (.code (bodyOf Try.f53) .ret) (entryFrom 0 expr_ordered.ps x)⟩
theorem expr_ordered.sigc_le (n : Nat) : ∀ x y, (expr_ordered.sigc n).run x = some y → expr_ordered.sig.run x = some y :=
  fun x y h => (expr_ordered.val x).symm.trans (runs_lim (E := expr_ordered.E) (c := expr_ordered.ctxc n) (ctxLe_cons ctxLe_nil (expr_numeric.sigc_le n)) h)

/-! ### guerdon/expr.aggregate -/
namespace expr_aggregate
abbrev ps : List PM := [.pure (.int .i64), .pure (.int .i64)]
abbrev rs : List RM := [.pure .bool]
abbrev R : Type := Option (Bool × Unit)
noncomputable def E : Env := { tt := tt, ctx := [(53, expr_ordered.sig)], nt := 23, ann := [(6, [(1, .keep), (5, .keep), (14, .keep)])] }
noncomputable def c0 : Code := sub [1, 1] (bodyOf Try.f48)
noncomputable def c1 : Code := sub [1, 0, 1, 0, 1, 1, 1] (bodyOf Try.f48)
noncomputable def K2 : Kont := .seq c0 .ret
noncomputable def K4 : Kont := .blk 0 K2
noncomputable def fin : ASt → R := Kret E Try.f48.results.toList ps rs
def tJ0 (kind : Int) (v_5 : Int) (v_14 : Bool) : ASt := ⟨[(14, .one (.val .bool v_14)), (5, .one (.val (.int .i64) v_5)), (1, .one (.val (.int .i64) kind))], []⟩
noncomputable def SJ0 (kind : Int) (v_5 : Int) (v_14 : Bool) : R :=
  cond v_14
    (some ((kind == 1), ()))
    (cond (v_5 == 39)
      (Option.bind (expr_ordered kind) fun x1 =>
      some (x1.1, ()))
      (some (true, ())))
noncomputable def Se (kJ0 : Int → Int → Bool → R) (op : Int) (kind : Int) : R :=
  cond (op == 36)
    (cond (kind == 2)
      (some (true, ()))
      (some ((kind == 3), ())))
    (cond (op == 37)
      (kJ0 kind op (op == 37))
      (kJ0 kind op (op == 38)))
theorem sJ0 (jmp : Tgt → ASt → R) (kind : Int) (v_5 : Int) (v_14 : Bool) : run E jmp fin depth c1 K4 (tJ0 kind v_5 v_14) =
    SJ0 kind v_5 v_14 := by kernel_rfl
theorem se (jmp : Tgt → ASt → R) (x : (argTy ps).den) : run E jmp fin depth (bodyOf Try.f48) .ret (entryFrom 0 ps x) =
    Se (fun kind v_5 v_14 => jmp (.code c1 K4) (tJ0 kind v_5 v_14)) x.1 x.2.1 := by kernel_rfl
noncomputable def J0 (kind : Int) (v_5 : Int) (v_14 : Bool) : R := lim E fin (.code c1 K4) (tJ0 kind v_5 v_14)
theorem J0_eq (kind : Int) (v_5 : Int) (v_14 : Bool) : J0 kind v_5 v_14 = SJ0 kind v_5 v_14 :=
  (lim_eq (.code c1 K4) (tJ0 kind v_5 v_14)).trans (sJ0 (lim E fin) kind v_5 v_14)
end expr_aggregate
noncomputable def expr_aggregate (op : Int) (kind : Int) : expr_aggregate.R :=
  expr_aggregate.Se expr_aggregate.J0 op kind
noncomputable def expr_aggregate.sig : Sig := ⟨expr_aggregate.ps, expr_aggregate.rs, fun x => expr_aggregate x.1 x.2.1⟩
theorem expr_aggregate.ok : CallOK Try.prog 48 expr_aggregate.sig :=
  callOK_of_lim (E := expr_aggregate.E) mixed tt_ok (ctxOk_cons ctxOk_nil expr_ordered.ok Try.func53 (by kernel_rfl) (by kernel_rfl)) Try.func48 (by kernel_rfl : Try.f48.body = some (bodyOf Try.f48)) Try.ntmps48 (of_decide_eq_true (by kernel_rfl)) (of_decide_eq_true (by kernel_rfl))
    fun x y h => ((lim_eq (.code (bodyOf Try.f48) .ret) (entryFrom 0 expr_aggregate.ps x)).trans (expr_aggregate.se (lim expr_aggregate.E expr_aggregate.fin) x)).trans h
theorem expr_aggregate.val (x : (argTy expr_aggregate.ps).den) : lim expr_aggregate.E expr_aggregate.fin (.code (bodyOf Try.f48) .ret) (entryFrom 0 expr_aggregate.ps x) = expr_aggregate.sig.run x :=
  (lim_eq (.code (bodyOf Try.f48) .ret) (entryFrom 0 expr_aggregate.ps x)).trans (expr_aggregate.se (lim expr_aggregate.E expr_aggregate.fin) x)
noncomputable def expr_aggregate.ctxc (n : Nat) : List (Nat × Sig) := [(53, expr_ordered.sigc n)]
noncomputable def expr_aggregate.sigc (n : Nat) : Sig := ⟨expr_aggregate.ps, expr_aggregate.rs, fun x => runs (withCtx expr_aggregate.E (expr_aggregate.ctxc n)) expr_aggregate.fin n (.code (bodyOf Try.f48) .ret) (entryFrom 0 expr_aggregate.ps x)⟩
theorem expr_aggregate.sigc_le (n : Nat) : ∀ x y, (expr_aggregate.sigc n).run x = some y → expr_aggregate.sig.run x = some y :=
  fun x y h => (expr_aggregate.val x).symm.trans (runs_lim (E := expr_aggregate.E) (c := expr_aggregate.ctxc n) (ctxLe_cons ctxLe_nil (expr_ordered.sigc_le n)) h)

/-! ### guerdon/expr.leaf -/
namespace expr_leaf
abbrev ps : List PM := [.pure api_Type, .pure api_Signature]
abbrev rs : List RM := [.pure api_Type, .pure (.int .i64)]
abbrev R : Type := Option (api_TypeV × Int × Unit)
noncomputable def E : Env := { tt := tt, ctx := [(45, expr_at_api_Enum.sig), (46, expr_at_string.sig), (47, expr_at_api_Type.sig), (33, value_ValidType.sig), (48, expr_aggregate.sig)], nt := 109, ann := [(28, [(2, .keep), (3, .keep), (4, .keep), (6, .keep), (7, .keep)]), (9, [(2, .keep), (4, .keep), (6, .keep), (9, .keep)]), (23, [(2, .keep), (3, .keep), (4, .keep), (6, .keep), (68, .keep)])] }
noncomputable def c0 : Code := sub [1, 1, 1, 1] (bodyOf Try.f31)
noncomputable def c1 : Code := sub [1, 1, 1, 0, 1, 0, 1, 0, 1, 1] (bodyOf Try.f31)
noncomputable def c2 : Code := sub [1, 1, 1, 0, 1, 0, 1, 1, 1, 1, 1, 1, 1, 1, 1] (bodyOf Try.f31)
noncomputable def K4 : Kont := .seq c0 .ret
noncomputable def K6 : Kont := .blk 0 K4
noncomputable def fin : ASt → R := Kret E Try.f31.results.toList ps rs
def tJ0 (n_2 : api_TypeV) (s : api_SignatureV) (v_4 : api_TypeV) (t : api_TypeV) (e : Int) : ASt := ⟨[(7, .one (.val (.int .i64) e)), (6, .one (.optr 6 0 [])), (4, .one (.optr 4 0 [])), (3, .one (.optr 3 0 [])), (2, .one (.optr 2 0 []))], [(6, some ⟨.free, api_Type, [t]⟩), (4, some ⟨.free, api_Type, [v_4]⟩), (3, some ⟨.free, api_Signature, [s]⟩), (2, some ⟨.free, api_Type, [n_2]⟩)]⟩
def tJ1 (n_2 : api_TypeV) (v_4 : api_TypeV) (t : api_TypeV) (e : Int) : ASt := ⟨[(9, .one (.val (.int .i64) e)), (6, .one (.optr 6 0 [])), (4, .one (.optr 4 0 [])), (2, .one (.optr 2 0 []))], [(6, some ⟨.free, api_Type, [t]⟩), (4, some ⟨.free, api_Type, [v_4]⟩), (2, some ⟨.free, api_Type, [n_2]⟩)]⟩
def tJ2 (n_2 : api_TypeV) (s : api_SignatureV) (v_4 : api_TypeV) (t : api_TypeV) (v_68 : Bool) : ASt := ⟨[(68, .one (.val .bool v_68)), (6, .one (.optr 6 0 [])), (4, .one (.optr 4 0 [])), (3, .one (.optr 3 0 [])), (2, .one (.optr 2 0 []))], [(6, some ⟨.free, api_Type, [t]⟩), (4, some ⟨.free, api_Type, [v_4]⟩), (3, some ⟨.free, api_Signature, [s]⟩), (2, some ⟨.free, api_Type, [n_2]⟩)]⟩
noncomputable def SJ0 (n_2 : api_TypeV) (s : api_SignatureV) (v_4 : api_TypeV) (t : api_TypeV) (e : Int) : R :=
  cond (e != 0)
    (some ((0, 0, ()), e, ()))
    (Option.bind (value_ValidType t s.1) fun x1 =>
    cond (!x1.1)
      (some ((0, 0, ()), 8, ()))
      (Option.bind (expr_aggregate n_2.1 t.1) fun x2 =>
      cond (!x2.1)
        (some ((0, 0, ()), 8, ()))
        (some (t, 0, ()))))
noncomputable def SJ1 (n_2 : api_TypeV) (v_4 : api_TypeV) (t : api_TypeV) (e : Int) : R :=
  cond (e != 0)
    (some (t, e, ()))
    (some ((6, IntKind.i64.wrap (Int.tdiv n_2.2.1 16), ()), 0, ()))
noncomputable def SJ2 (kJ0 : api_TypeV → api_SignatureV → api_TypeV → api_TypeV → Int → R) (n_2 : api_TypeV) (s : api_SignatureV) (v_4 : api_TypeV) (t : api_TypeV) (v_68 : Bool) : R :=
  cond v_68
    (cond (!s.2.2.2.2.2.1)
      (some (t, 6, ()))
      (cond (n_2.1 == 35)
        (some ((2, 0, ()), 0, ()))
        (Option.bind (expr_at_api_Type s.2.2.2.2.1 n_2.2.1) fun x1 =>
        kJ0 n_2 s v_4 x1.1 x1.2.1)))
    (some ((n_2.1, 0, ()), 0, ()))
noncomputable def Se (kJ1 : api_TypeV → api_TypeV → api_TypeV → Int → R) (kJ0 : api_TypeV → api_SignatureV → api_TypeV → api_TypeV → Int → R) (kJ2 : api_TypeV → api_SignatureV → api_TypeV → api_TypeV → Bool → R) (n_0 : api_TypeV) (s : api_SignatureV) : R :=
  cond (n_0.1 == 6)
    (Option.bind (expr_at_api_Enum s.1 (IntKind.i64.wrap (Int.tdiv n_0.2.1 16))) fun x1 =>
    cond (x1.2.1 == 0)
      (Option.bind (expr_at_string x1.1.2.1 (Int.tmod n_0.2.1 16)) fun x2 =>
      kJ1 n_0 (0, 0, ()) (0, 0, ()) x2.2.1)
      (kJ1 n_0 (0, 0, ()) (0, 0, ()) x1.2.1))
    (cond (n_0.1 == 7)
      (Option.bind (expr_at_api_Type s.2.2.1 n_0.2.1) fun x3 =>
      kJ0 n_0 s (0, 0, ()) x3.1 x3.2.1)
      (cond (n_0.1 == 8)
        (Option.bind (expr_at_api_Type s.2.2.2.1 n_0.2.1) fun x4 =>
        kJ0 n_0 s (0, 0, ()) x4.1 x4.2.1)
        (cond (n_0.1 == 9)
          (some ((5, 0, ()), 0, ()))
          (cond (n_0.1 == 35)
            (kJ2 n_0 s (0, 0, ()) (0, 0, ()) (n_0.1 == 35))
            (cond (n_0.1 == 36)
              (kJ2 n_0 s (0, 0, ()) (0, 0, ()) (n_0.1 == 36))
              (cond (n_0.1 == 37)
                (kJ2 n_0 s (0, 0, ()) (0, 0, ()) (n_0.1 == 37))
                (cond (n_0.1 == 38)
                  (kJ2 n_0 s (0, 0, ()) (0, 0, ()) (n_0.1 == 38))
                  (kJ2 n_0 s (0, 0, ()) (0, 0, ()) (n_0.1 == 39)))))))))
theorem sJ0 (jmp : Tgt → ASt → R) (n_2 : api_TypeV) (s : api_SignatureV) (v_4 : api_TypeV) (t : api_TypeV) (e : Int) : run E jmp fin depth c0 .ret (tJ0 n_2 s v_4 t e) =
    SJ0 n_2 s v_4 t e := by kernel_rfl
theorem sJ1 (jmp : Tgt → ASt → R) (n_2 : api_TypeV) (v_4 : api_TypeV) (t : api_TypeV) (e : Int) : run E jmp fin depth c1 K6 (tJ1 n_2 v_4 t e) =
    SJ1 n_2 v_4 t e := by kernel_rfl
theorem sJ2 (jmp : Tgt → ASt → R) (n_2 : api_TypeV) (s : api_SignatureV) (v_4 : api_TypeV) (t : api_TypeV) (v_68 : Bool) : run E jmp fin depth c2 K6 (tJ2 n_2 s v_4 t v_68) =
    SJ2 (fun n_2 s v_4 t e => jmp (.code c0 .ret) (tJ0 n_2 s v_4 t e)) n_2 s v_4 t v_68 := by kernel_rfl
theorem se (jmp : Tgt → ASt → R) (x : (argTy ps).den) : run E jmp fin depth (bodyOf Try.f31) .ret (entryFrom 0 ps x) =
    Se (fun n_2 v_4 t e => jmp (.code c1 K6) (tJ1 n_2 v_4 t e)) (fun n_2 s v_4 t e => jmp (.code c0 .ret) (tJ0 n_2 s v_4 t e)) (fun n_2 s v_4 t v_68 => jmp (.code c2 K6) (tJ2 n_2 s v_4 t v_68)) x.1 x.2.1 := by kernel_rfl
noncomputable def J0 (n_2 : api_TypeV) (s : api_SignatureV) (v_4 : api_TypeV) (t : api_TypeV) (e : Int) : R := lim E fin (.code c0 .ret) (tJ0 n_2 s v_4 t e)
noncomputable def J1 (n_2 : api_TypeV) (v_4 : api_TypeV) (t : api_TypeV) (e : Int) : R := lim E fin (.code c1 K6) (tJ1 n_2 v_4 t e)
noncomputable def J2 (n_2 : api_TypeV) (s : api_SignatureV) (v_4 : api_TypeV) (t : api_TypeV) (v_68 : Bool) : R := lim E fin (.code c2 K6) (tJ2 n_2 s v_4 t v_68)
theorem J0_eq (n_2 : api_TypeV) (s : api_SignatureV) (v_4 : api_TypeV) (t : api_TypeV) (e : Int) : J0 n_2 s v_4 t e = SJ0 n_2 s v_4 t e :=
  (lim_eq (.code c0 .ret) (tJ0 n_2 s v_4 t e)).trans (sJ0 (lim E fin) n_2 s v_4 t e)
theorem J1_eq (n_2 : api_TypeV) (v_4 : api_TypeV) (t : api_TypeV) (e : Int) : J1 n_2 v_4 t e = SJ1 n_2 v_4 t e :=
  (lim_eq (.code c1 K6) (tJ1 n_2 v_4 t e)).trans (sJ1 (lim E fin) n_2 v_4 t e)
theorem J2_eq (n_2 : api_TypeV) (s : api_SignatureV) (v_4 : api_TypeV) (t : api_TypeV) (v_68 : Bool) : J2 n_2 s v_4 t v_68 = SJ2 J0 n_2 s v_4 t v_68 :=
  (lim_eq (.code c2 K6) (tJ2 n_2 s v_4 t v_68)).trans (sJ2 (lim E fin) n_2 s v_4 t v_68)
end expr_leaf
noncomputable def expr_leaf (n_0 : api_TypeV) (s : api_SignatureV) : expr_leaf.R :=
  expr_leaf.Se expr_leaf.J1 expr_leaf.J0 expr_leaf.J2 n_0 s
noncomputable def expr_leaf.sig : Sig := ⟨expr_leaf.ps, expr_leaf.rs, fun x => expr_leaf x.1 x.2.1⟩
theorem expr_leaf.ok : CallOK Try.prog 31 expr_leaf.sig :=
  callOK_of_lim (E := expr_leaf.E) mixed tt_ok (ctxOk_cons (ctxOk_cons (ctxOk_cons (ctxOk_cons (ctxOk_cons ctxOk_nil expr_aggregate.ok Try.func48 (by kernel_rfl) (by kernel_rfl)) value_ValidType.ok Try.func33 (by kernel_rfl) (by kernel_rfl)) expr_at_api_Type.ok Try.func47 (by kernel_rfl) (by kernel_rfl)) expr_at_string.ok Try.func46 (by kernel_rfl) (by kernel_rfl)) expr_at_api_Enum.ok Try.func45 (by kernel_rfl) (by kernel_rfl)) Try.func31 (by kernel_rfl : Try.f31.body = some (bodyOf Try.f31)) Try.ntmps31 (of_decide_eq_true (by kernel_rfl)) (of_decide_eq_true (by kernel_rfl))
    fun x y h => ((lim_eq (.code (bodyOf Try.f31) .ret) (entryFrom 0 expr_leaf.ps x)).trans (expr_leaf.se (lim expr_leaf.E expr_leaf.fin) x)).trans h
theorem expr_leaf.val (x : (argTy expr_leaf.ps).den) : lim expr_leaf.E expr_leaf.fin (.code (bodyOf Try.f31) .ret) (entryFrom 0 expr_leaf.ps x) = expr_leaf.sig.run x :=
  (lim_eq (.code (bodyOf Try.f31) .ret) (entryFrom 0 expr_leaf.ps x)).trans (expr_leaf.se (lim expr_leaf.E expr_leaf.fin) x)
noncomputable def expr_leaf.ctxc (n : Nat) : List (Nat × Sig) := [(45, expr_at_api_Enum.sigc n), (46, expr_at_string.sigc n), (47, expr_at_api_Type.sigc n), (33, value_ValidType.sigc n), (48, expr_aggregate.sigc n)]
noncomputable def expr_leaf.sigc (n : Nat) : Sig := ⟨expr_leaf.ps, expr_leaf.rs, fun x => runs (withCtx expr_leaf.E (expr_leaf.ctxc n)) expr_leaf.fin n (.code (bodyOf Try.f31) .ret) (entryFrom 0 expr_leaf.ps x)⟩
theorem expr_leaf.sigc_le (n : Nat) : ∀ x y, (expr_leaf.sigc n).run x = some y → expr_leaf.sig.run x = some y :=
  fun x y h => (expr_leaf.val x).symm.trans (runs_lim (E := expr_leaf.E) (c := expr_leaf.ctxc n) (ctxLe_cons (ctxLe_cons (ctxLe_cons (ctxLe_cons (ctxLe_cons ctxLe_nil (expr_aggregate.sigc_le n)) (value_ValidType.sigc_le n)) (expr_at_api_Type.sigc_le n)) (expr_at_string.sigc_le n)) (expr_at_api_Enum.sigc_le n)) h)

/-! ### guerdon/expr.at[guerdon/api.Table] -/
namespace expr_at_api_Table
abbrev ps : List PM := [.pure (.sl api_Table), .pure (.int .i64)]
abbrev rs : List RM := [.pure api_Table, .pure (.int .i64)]
abbrev R : Type := Option (api_TableV × Int × Unit)
noncomputable def E : Env := { tt := tt, ctx := [], nt := 20, ann := [] }
noncomputable def fin : ASt → R := Kret E Try.f49.results.toList ps rs
noncomputable def Se (l : List api_TableV) (i : Int) : R :=
  cond (decide (i < 0))
    (some (([], (0, 0, ()), (0, 0, ()), [], ()), 6, ()))
    (cond (decide (i ≥ (l.length : Int)))
      (some (([], (0, 0, ()), (0, 0, ()), [], ()), 6, ()))
      (Option.bind (idx l i) fun x1 =>
      some (x1, 0, ())))
theorem se (jmp : Tgt → ASt → R) (x : (argTy ps).den) : run E jmp fin depth (bodyOf Try.f49) .ret (entryFrom 0 ps x) =
    Se x.1 x.2.1 := by kernel_rfl
end expr_at_api_Table
noncomputable def expr_at_api_Table (l : List api_TableV) (i : Int) : expr_at_api_Table.R :=
  expr_at_api_Table.Se l i
noncomputable def expr_at_api_Table.sig : Sig := ⟨expr_at_api_Table.ps, expr_at_api_Table.rs, fun x => expr_at_api_Table x.1 x.2.1⟩
theorem expr_at_api_Table.ok : CallOK Try.prog 49 expr_at_api_Table.sig :=
  callOK_of_lim (E := expr_at_api_Table.E) mixed tt_ok ctxOk_nil Try.func49 (by kernel_rfl : Try.f49.body = some (bodyOf Try.f49)) Try.ntmps49 (of_decide_eq_true (by kernel_rfl)) (of_decide_eq_true (by kernel_rfl))
    fun x y h => ((lim_eq (.code (bodyOf Try.f49) .ret) (entryFrom 0 expr_at_api_Table.ps x)).trans (expr_at_api_Table.se (lim expr_at_api_Table.E expr_at_api_Table.fin) x)).trans h
theorem expr_at_api_Table.val (x : (argTy expr_at_api_Table.ps).den) : lim expr_at_api_Table.E expr_at_api_Table.fin (.code (bodyOf Try.f49) .ret) (entryFrom 0 expr_at_api_Table.ps x) = expr_at_api_Table.sig.run x :=
  (lim_eq (.code (bodyOf Try.f49) .ret) (entryFrom 0 expr_at_api_Table.ps x)).trans (expr_at_api_Table.se (lim expr_at_api_Table.E expr_at_api_Table.fin) x)
noncomputable def expr_at_api_Table.ctxc (n : Nat) : List (Nat × Sig) := []
noncomputable def expr_at_api_Table.sigc (n : Nat) : Sig := ⟨expr_at_api_Table.ps, expr_at_api_Table.rs, fun x => runs (withCtx expr_at_api_Table.E (expr_at_api_Table.ctxc n)) expr_at_api_Table.fin n (.code (bodyOf Try.f49) .ret) (entryFrom 0 expr_at_api_Table.ps x)⟩
theorem expr_at_api_Table.sigc_le (n : Nat) : ∀ x y, (expr_at_api_Table.sigc n).run x = some y → expr_at_api_Table.sig.run x = some y :=
  fun x y h => (expr_at_api_Table.val x).symm.trans (runs_lim (E := expr_at_api_Table.E) (c := expr_at_api_Table.ctxc n) ctxLe_nil h)

/-! ### guerdon/expr.table -/
namespace expr_table
abbrev ps : List PM := [.pure api_Type, .pure api_Signature]
abbrev rs : List RM := [.pure api_Table, .pure (.int .i64)]
abbrev R : Type := Option (api_TableV × Int × Unit)
noncomputable def E : Env := { tt := tt, ctx := [(49, expr_at_api_Table.sig)], nt := 24, ann := [] }
noncomputable def fin : ASt → R := Kret E Try.f32.results.toList ps rs
noncomputable def Se (n_0 : api_TypeV) (s : api_SignatureV) : R :=
  cond (n_0.1 == 34)
    (Option.bind (expr_at_api_Table s.2.1 (IntKind.i64.wrap (Int.tdiv n_0.2.1 8))) fun x1 =>
    some (x1.1, x1.2.1, ()))
    (Option.bind (expr_at_api_Table s.2.1 n_0.2.1) fun x2 =>
    some (x2.1, x2.2.1, ()))
theorem se (jmp : Tgt → ASt → R) (x : (argTy ps).den) : run E jmp fin depth (bodyOf Try.f32) .ret (entryFrom 0 ps x) =
    Se x.1 x.2.1 := by kernel_rfl
end expr_table
noncomputable def expr_table (n_0 : api_TypeV) (s : api_SignatureV) : expr_table.R :=
  expr_table.Se n_0 s
noncomputable def expr_table.sig : Sig := ⟨expr_table.ps, expr_table.rs, fun x => expr_table x.1 x.2.1⟩
theorem expr_table.ok : CallOK Try.prog 32 expr_table.sig :=
  callOK_of_lim (E := expr_table.E) mixed tt_ok (ctxOk_cons ctxOk_nil expr_at_api_Table.ok Try.func49 (by kernel_rfl) (by kernel_rfl)) Try.func32 (by kernel_rfl : Try.f32.body = some (bodyOf Try.f32)) Try.ntmps32 (of_decide_eq_true (by kernel_rfl)) (of_decide_eq_true (by kernel_rfl))
    fun x y h => ((lim_eq (.code (bodyOf Try.f32) .ret) (entryFrom 0 expr_table.ps x)).trans (expr_table.se (lim expr_table.E expr_table.fin) x)).trans h
theorem expr_table.val (x : (argTy expr_table.ps).den) : lim expr_table.E expr_table.fin (.code (bodyOf Try.f32) .ret) (entryFrom 0 expr_table.ps x) = expr_table.sig.run x :=
  (lim_eq (.code (bodyOf Try.f32) .ret) (entryFrom 0 expr_table.ps x)).trans (expr_table.se (lim expr_table.E expr_table.fin) x)
noncomputable def expr_table.ctxc (n : Nat) : List (Nat × Sig) := [(49, expr_at_api_Table.sigc n)]
noncomputable def expr_table.sigc (n : Nat) : Sig := ⟨expr_table.ps, expr_table.rs, fun x => runs (withCtx expr_table.E (expr_table.ctxc n)) expr_table.fin n (.code (bodyOf Try.f32) .ret) (entryFrom 0 expr_table.ps x)⟩
theorem expr_table.sigc_le (n : Nat) : ∀ x y, (expr_table.sigc n).run x = some y → expr_table.sig.run x = some y :=
  fun x y h => (expr_table.val x).symm.trans (runs_lim (E := expr_table.E) (c := expr_table.ctxc n) (ctxLe_cons ctxLe_nil (expr_at_api_Table.sigc_le n)) h)

/-! ### guerdon/expr.result$1 -/
namespace expr_result_1
abbrev ps : List PM := [.pure (.int .i64), .pure .bool]
abbrev rs : List RM := [.pure api_Type]
abbrev R : Type := Option (api_TypeV × Unit)
noncomputable def E : Env := { tt := tt, ctx := [], nt := 10, ann := [] }
noncomputable def fin : ASt → R := Kret E Try.f50.results.toList ps rs
noncomputable def Se (k : Int) (ok : Bool) : R :=
  cond (!ok)
    (some ((0, 0, ()), ()))
    (some ((k, 0, ()), ()))
theorem se (jmp : Tgt → ASt → R) (x : (argTy ps).den) : run E jmp fin depth (bodyOf Try.f50) .ret (entryFrom 0 ps x) =
    Se x.1 x.2.1 := by kernel_rfl
end expr_result_1
noncomputable def expr_result_1 (k : Int) (ok : Bool) : expr_result_1.R :=
  expr_result_1.Se k ok
noncomputable def expr_result_1.sig : Sig := ⟨expr_result_1.ps, expr_result_1.rs, fun x => expr_result_1 x.1 x.2.1⟩
theorem expr_result_1.ok : CallOK Try.prog 50 expr_result_1.sig :=
  callOK_of_lim (E := expr_result_1.E) mixed tt_ok ctxOk_nil Try.func50 (by kernel_rfl : Try.f50.body = some (bodyOf Try.f50)) Try.ntmps50 (of_decide_eq_true (by kernel_rfl)) (of_decide_eq_true (by kernel_rfl))
    fun x y h => ((lim_eq (.code (bodyOf Try.f50) .ret) (entryFrom 0 expr_result_1.ps x)).trans (expr_result_1.se (lim expr_result_1.E expr_result_1.fin) x)).trans h
theorem expr_result_1.val (x : (argTy expr_result_1.ps).den) : lim expr_result_1.E expr_result_1.fin (.code (bodyOf Try.f50) .ret) (entryFrom 0 expr_result_1.ps x) = expr_result_1.sig.run x :=
  (lim_eq (.code (bodyOf Try.f50) .ret) (entryFrom 0 expr_result_1.ps x)).trans (expr_result_1.se (lim expr_result_1.E expr_result_1.fin) x)
noncomputable def expr_result_1.ctxc (n : Nat) : List (Nat × Sig) := []
noncomputable def expr_result_1.sigc (n : Nat) : Sig := ⟨expr_result_1.ps, expr_result_1.rs, fun x => runs (withCtx expr_result_1.E (expr_result_1.ctxc n)) expr_result_1.fin n (.code (bodyOf Try.f50) .ret) (entryFrom 0 expr_result_1.ps x)⟩
theorem expr_result_1.sigc_le (n : Nat) : ∀ x y, (expr_result_1.sigc n).run x = some y → expr_result_1.sig.run x = some y :=
  fun x y h => (expr_result_1.val x).symm.trans (runs_lim (E := expr_result_1.E) (c := expr_result_1.ctxc n) ctxLe_nil h)

/-! ### guerdon/expr.arithmetic -/
namespace expr_arithmetic
abbrev ps : List PM := [.pure (.int .i64), .pure (.int .i64), .pure (.int .i64)]
abbrev rs : List RM := [.pure (.int .i64)]
abbrev R : Type := Option (Int × Unit)
noncomputable def E : Env := { tt := tt, ctx := [], nt := 77, ann := [(2, [(0, .keep), (1, .keep), (2, .keep), (7, .keep)]), (4, [(0, .keep), (1, .keep), (2, .keep), (23, .keep)]), (6, [(0, .keep), (1, .keep), (2, .keep), (39, .keep)]), (8, [(0, .keep), (1, .keep), (2, .keep), (55, .keep)])] }
noncomputable def c0 : Code := sub [1, 1] (bodyOf Try.f52)
noncomputable def c1 : Code := sub [1, 0, 0, 1] (bodyOf Try.f52)
noncomputable def c2 : Code := sub [1, 0, 0, 1, 1, 1] (bodyOf Try.f52)
noncomputable def c3 : Code := sub [1, 0, 0, 1, 1, 1, 1, 1] (bodyOf Try.f52)
noncomputable def c4 : Code := sub [1, 0, 0, 1, 1, 1, 1, 1, 1, 1] (bodyOf Try.f52)
noncomputable def K2 : Kont := .seq c0 .ret
noncomputable def K3 : Kont := .blk 0 K2
noncomputable def fin : ASt → R := Kret E Try.f52.results.toList ps rs
def tJ0 (op : Int) (a : Int) (b : Int) (v_7 : Bool) : ASt := ⟨[(7, .one (.val .bool v_7)), (2, .one (.val (.int .i64) b)), (1, .one (.val (.int .i64) a)), (0, .one (.val (.int .i64) op))], []⟩
def tJ1 (op : Int) (a : Int) (b : Int) (v_23 : Bool) : ASt := ⟨[(23, .one (.val .bool v_23)), (2, .one (.val (.int .i64) b)), (1, .one (.val (.int .i64) a)), (0, .one (.val (.int .i64) op))], []⟩
def tJ2 (op : Int) (a : Int) (b : Int) (v_39 : Bool) : ASt := ⟨[(39, .one (.val .bool v_39)), (2, .one (.val (.int .i64) b)), (1, .one (.val (.int .i64) a)), (0, .one (.val (.int .i64) op))], []⟩
def tJ3 (op : Int) (a : Int) (b : Int) (v_55 : Bool) : ASt := ⟨[(55, .one (.val .bool v_55)), (2, .one (.val (.int .i64) b)), (1, .one (.val (.int .i64) a)), (0, .one (.val (.int .i64) op))], []⟩
noncomputable def SJ0 (kJ1 : Int → Int → Int → Bool → R) (op : Int) (a : Int) (b : Int) (v_7 : Bool) : R :=
  cond v_7
    (some (a, ()))
    (cond (op == 14)
      (cond (b == 4)
        (cond (a == 3)
          (kJ1 op a b true)
          (kJ1 op a b (a == 4)))
        (kJ1 op a b false))
      (kJ1 op a b false))
noncomputable def SJ1 (kJ2 : Int → Int → Int → Bool → R) (op : Int) (a : Int) (b : Int) (v_23 : Bool) : R :=
  cond v_23
    (some (a, ()))
    (cond (op == 15)
      (cond (b == 2)
        (cond (a == 2)
          (kJ2 op a b true)
          (kJ2 op a b (a == 3)))
        (kJ2 op a b false))
      (kJ2 op a b false))
noncomputable def SJ2 (kJ3 : Int → Int → Int → Bool → R) (op : Int) (a : Int) (b : Int) (v_39 : Bool) : R :=
  cond v_39
    (some (a, ()))
    (cond (op == 15)
      (cond (a == 3)
        (kJ3 op a b (b == 3))
        (kJ3 op a b false))
      (kJ3 op a b false))
noncomputable def SJ3 (op : Int) (a : Int) (b : Int) (v_55 : Bool) : R :=
  cond v_55
    (some (4, ()))
    (cond (op == 16)
      (cond (a == 3)
        (cond (b == 3)
          (some (3, ()))
          (some (0, ())))
        (some (0, ())))
      (some (0, ())))
noncomputable def Se (kJ0 : Int → Int → Int → Bool → R) (op : Int) (a : Int) (b : Int) : R :=
  cond (op == 13)
    (cond (b == 2)
      (cond (a == 2)
        (kJ0 op a b true)
        (kJ0 op a b (a == 3)))
      (kJ0 op a b false))
    (kJ0 op a b false)
theorem sJ0 (jmp : Tgt → ASt → R) (op : Int) (a : Int) (b : Int) (v_7 : Bool) : run E jmp fin depth c1 K3 (tJ0 op a b v_7) =
    SJ0 (fun op a b v_23 => jmp (.code c2 K3) (tJ1 op a b v_23)) op a b v_7 := by kernel_rfl
theorem sJ1 (jmp : Tgt → ASt → R) (op : Int) (a : Int) (b : Int) (v_23 : Bool) : run E jmp fin depth c2 K3 (tJ1 op a b v_23) =
    SJ1 (fun op a b v_39 => jmp (.code c3 K3) (tJ2 op a b v_39)) op a b v_23 := by kernel_rfl
theorem sJ2 (jmp : Tgt → ASt → R) (op : Int) (a : Int) (b : Int) (v_39 : Bool) : run E jmp fin depth c3 K3 (tJ2 op a b v_39) =
    SJ2 (fun op a b v_55 => jmp (.code c4 K3) (tJ3 op a b v_55)) op a b v_39 := by kernel_rfl
theorem sJ3 (jmp : Tgt → ASt → R) (op : Int) (a : Int) (b : Int) (v_55 : Bool) : run E jmp fin depth c4 K3 (tJ3 op a b v_55) =
    SJ3 op a b v_55 := by kernel_rfl
theorem se (jmp : Tgt → ASt → R) (x : (argTy ps).den) : run E jmp fin depth (bodyOf Try.f52) .ret (entryFrom 0 ps x) =
    Se (fun op a b v_7 => jmp (.code c1 K3) (tJ0 op a b v_7)) x.1 x.2.1 x.2.2.1 := by kernel_rfl
noncomputable def J0 (op : Int) (a : Int) (b : Int) (v_7 : Bool) : R := lim E fin (.code c1 K3) (tJ0 op a b v_7)
noncomputable def J1 (op : Int) (a : Int) (b : Int) (v_23 : Bool) : R := lim E fin (.code c2 K3) (tJ1 op a b v_23)
noncomputable def J2 (op : Int) (a : Int) (b : Int) (v_39 : Bool) : R := lim E fin (.code c3 K3) (tJ2 op a b v_39)
noncomputable def J3 (op : Int) (a : Int) (b : Int) (v_55 : Bool) : R := lim E fin (.code c4 K3) (tJ3 op a b v_55)
theorem J0_eq (op : Int) (a : Int) (b : Int) (v_7 : Bool) : J0 op a b v_7 = SJ0 J1 op a b v_7 :=
  (lim_eq (.code c1 K3) (tJ0 op a b v_7)).trans (sJ0 (lim E fin) op a b v_7)
theorem J1_eq (op : Int) (a : Int) (b : Int) (v_23 : Bool) : J1 op a b v_23 = SJ1 J2 op a b v_23 :=
  (lim_eq (.code c2 K3) (tJ1 op a b v_23)).trans (sJ1 (lim E fin) op a b v_23)
theorem J2_eq (op : Int) (a : Int) (b : Int) (v_39 : Bool) : J2 op a b v_39 = SJ2 J3 op a b v_39 :=
  (lim_eq (.code c3 K3) (tJ2 op a b v_39)).trans (sJ2 (lim E fin) op a b v_39)
theorem J3_eq (op : Int) (a : Int) (b : Int) (v_55 : Bool) : J3 op a b v_55 = SJ3 op a b v_55 :=
  (lim_eq (.code c4 K3) (tJ3 op a b v_55)).trans (sJ3 (lim E fin) op a b v_55)
end expr_arithmetic
noncomputable def expr_arithmetic (op : Int) (a : Int) (b : Int) : expr_arithmetic.R :=
  expr_arithmetic.Se expr_arithmetic.J0 op a b
noncomputable def expr_arithmetic.sig : Sig := ⟨expr_arithmetic.ps, expr_arithmetic.rs, fun x => expr_arithmetic x.1 x.2.1 x.2.2.1⟩
theorem expr_arithmetic.ok : CallOK Try.prog 52 expr_arithmetic.sig :=
  callOK_of_lim (E := expr_arithmetic.E) mixed tt_ok ctxOk_nil Try.func52 (by kernel_rfl : Try.f52.body = some (bodyOf Try.f52)) Try.ntmps52 (of_decide_eq_true (by kernel_rfl)) (of_decide_eq_true (by kernel_rfl))
    fun x y h => ((lim_eq (.code (bodyOf Try.f52) .ret) (entryFrom 0 expr_arithmetic.ps x)).trans (expr_arithmetic.se (lim expr_arithmetic.E expr_arithmetic.fin) x)).trans h
theorem expr_arithmetic.val (x : (argTy expr_arithmetic.ps).den) : lim expr_arithmetic.E expr_arithmetic.fin (.code (bodyOf Try.f52) .ret) (entryFrom 0 expr_arithmetic.ps x) = expr_arithmetic.sig.run x :=
  (lim_eq (.code (bodyOf Try.f52) .ret) (entryFrom 0 expr_arithmetic.ps x)).trans (expr_arithmetic.se (lim expr_arithmetic.E expr_arithmetic.fin) x)
noncomputable def expr_arithmetic.ctxc (n : Nat) : List (Nat × Sig) := []
noncomputable def expr_arithmetic.sigc (n : Nat) : Sig := ⟨expr_arithmetic.ps, expr_arithmetic.rs, fun x => runs (withCtx expr_arithmetic.E (expr_arithmetic.ctxc n)) expr_arithmetic.fin n (.code (bodyOf Try.f52) .ret) (entryFrom 0 expr_arithmetic.ps x)⟩
theorem expr_arithmetic.sigc_le (n : Nat) : ∀ x y, (expr_arithmetic.sigc n).run x = some y → expr_arithmetic.sig.run x = some y :=
  fun x y h => (expr_arithmetic.val x).symm.trans (runs_lim (E := expr_arithmetic.E) (c := expr_arithmetic.ctxc n) ctxLe_nil h)

/-! ### guerdon/expr.result -/
namespace expr_result
abbrev ps : List PM := [.pure (.int .i64), .pure (.sl api_Type)]
abbrev rs : List RM := [.pure api_Type]
abbrev R : Type := Option (api_TypeV × Unit)
noncomputable def E : Env := { tt := tt, ctx := [(51, expr_numeric.sig), (50, expr_result_1.sig), (52, expr_arithmetic.sig), (53, expr_ordered.sig)], nt := 156, ann := [(6, [(0, .keep), (1, .keep), (4, .keep), (5, .keep), (6, .keep), (7, .keep)]), (11, [(0, .keep), (1, .keep), (4, .keep), (5, .keep), (6, .keep), (7, .keep), (17, .keep), (27, .keep)]), (16, [(0, .keep), (1, .keep), (4, .keep), (5, .keep), (6, .keep), (7, .keep), (17, .keep), (42, .keep)]), (19, [(1, .keep), (4, .keep), (5, .keep), (6, .keep), (7, .keep), (17, .keep), (55, .keep)]), (22, [(1, .keep), (4, .keep), (5, .keep), (6, .keep), (7, .keep), (17, .keep), (70, .keep)]), (25, [(1, .keep), (4, .keep), (5, .keep), (6, .keep), (7, .keep), (17, .keep), (78, .keep)]), (28, [(1, .keep), (4, .keep), (5, .keep), (6, .keep), (7, .keep), (17, .keep), (91, .keep)]), (37, [(4, .keep), (5, .keep), (6, .keep), (7, .keep), (17, .keep), (125, .keep)]), (40, [(4, .keep), (5, .keep), (6, .keep), (7, .keep), (138, .keep)])] }
noncomputable def c0 : Code := sub [1, 1, 1, 1, 1, 1] (bodyOf Try.f34)
noncomputable def c1 : Code := sub [1, 1, 1, 1, 1] (bodyOf Try.f34)
noncomputable def c2 : Code := sub [1, 1, 1, 1, 1, 0, 1, 0, 1, 1, 1] (bodyOf Try.f34)
noncomputable def c3 : Code := sub [1, 1, 1, 1, 1, 0, 1, 0, 1, 1, 1, 1, 1] (bodyOf Try.f34)
noncomputable def c4 : Code := sub [1, 1, 1, 1, 1, 0, 1, 0, 1, 1, 1, 1, 1, 1, 1] (bodyOf Try.f34)
noncomputable def c5 : Code := sub [1, 1, 1, 1, 1, 0, 1, 0, 1, 1, 1, 1, 1, 1, 1, 1, 1] (bodyOf Try.f34)
noncomputable def c6 : Code := sub [1, 1, 1, 1, 1, 0, 1, 0, 1, 1, 1, 1, 1, 1, 1, 1, 1, 1, 1] (bodyOf Try.f34)
noncomputable def c7 : Code := sub [1, 1, 1, 1, 1, 0, 1, 0, 1, 1, 1, 1, 1, 1, 1, 1, 1, 1, 1, 1, 1] (bodyOf Try.f34)
noncomputable def c8 : Code := sub [1, 1, 1, 1, 1, 0, 1, 0, 1, 1, 1, 1, 1, 1, 1, 1, 1, 1, 1, 1, 1, 1, 1, 1, 1, 1, 1] (bodyOf Try.f34)
noncomputable def c9 : Code := sub [1, 1, 1, 1, 1, 0, 1, 0, 1, 1, 1, 1, 1, 1, 1, 1, 1, 1, 1, 1, 1, 1, 1, 1, 1, 1, 1, 1, 1] (bodyOf Try.f34)
noncomputable def K7 : Kont := .seq c0 .ret
noncomputable def K9 : Kont := .blk 0 K7
noncomputable def fin : ASt → R := Kret E Try.f34.results.toList ps rs
def tJ0 (op : Int) (l : List api_TypeV) (v_4 : api_TypeV) (a : api_TypeV) (b : api_TypeV) : ASt := ⟨[(7, .one (.optr 7 0 [])), (6, .one (.optr 6 0 [])), (5, .one (.fn 50 [])), (4, .one (.optr 4 0 [])), (1, .one (.val (.sl api_Type) l)), (0, .one (.val (.int .i64) op))], [(7, some ⟨.free, api_Type, [b]⟩), (6, some ⟨.free, api_Type, [a]⟩), (4, some ⟨.free, api_Type, [v_4]⟩)]⟩
def tJ1 (op : Int) (l : List api_TypeV) (v_4 : api_TypeV) (a : api_TypeV) (b : api_TypeV) (v_17 : Int) (v_27 : Bool) : ASt := ⟨[(27, .one (.val .bool v_27)), (17, .one (.val (.int .i64) v_17)), (7, .one (.optr 7 0 [])), (6, .one (.optr 6 0 [])), (5, .one (.fn 50 [])), (4, .one (.optr 4 0 [])), (1, .one (.val (.sl api_Type) l)), (0, .one (.val (.int .i64) op))], [(7, some ⟨.free, api_Type, [b]⟩), (6, some ⟨.free, api_Type, [a]⟩), (4, some ⟨.free, api_Type, [v_4]⟩)]⟩
def tJ2 (op : Int) (l : List api_TypeV) (v_4 : api_TypeV) (a : api_TypeV) (b : api_TypeV) (v_17 : Int) (v_42 : Bool) : ASt := ⟨[(42, .one (.val .bool v_42)), (17, .one (.val (.int .i64) v_17)), (7, .one (.optr 7 0 [])), (6, .one (.optr 6 0 [])), (5, .one (.fn 50 [])), (4, .one (.optr 4 0 [])), (1, .one (.val (.sl api_Type) l)), (0, .one (.val (.int .i64) op))], [(7, some ⟨.free, api_Type, [b]⟩), (6, some ⟨.free, api_Type, [a]⟩), (4, some ⟨.free, api_Type, [v_4]⟩)]⟩
def tJ3 (l : List api_TypeV) (v_4 : api_TypeV) (a : api_TypeV) (b : api_TypeV) (v_17 : Int) (v_55 : Bool) : ASt := ⟨[(55, .one (.val .bool v_55)), (17, .one (.val (.int .i64) v_17)), (7, .one (.optr 7 0 [])), (6, .one (.optr 6 0 [])), (5, .one (.fn 50 [])), (4, .one (.optr 4 0 [])), (1, .one (.val (.sl api_Type) l))], [(7, some ⟨.free, api_Type, [b]⟩), (6, some ⟨.free, api_Type, [a]⟩), (4, some ⟨.free, api_Type, [v_4]⟩)]⟩
def tJ4 (l : List api_TypeV) (v_4 : api_TypeV) (a : api_TypeV) (b : api_TypeV) (v_17 : Int) (v_70 : Bool) : ASt := ⟨[(70, .one (.val .bool v_70)), (17, .one (.val (.int .i64) v_17)), (7, .one (.optr 7 0 [])), (6, .one (.optr 6 0 [])), (5, .one (.fn 50 [])), (4, .one (.optr 4 0 [])), (1, .one (.val (.sl api_Type) l))], [(7, some ⟨.free, api_Type, [b]⟩), (6, some ⟨.free, api_Type, [a]⟩), (4, some ⟨.free, api_Type, [v_4]⟩)]⟩
def tJ5 (l : List api_TypeV) (v_4 : api_TypeV) (a : api_TypeV) (b : api_TypeV) (v_17 : Int) (v_78 : Bool) : ASt := ⟨[(78, .one (.val .bool v_78)), (17, .one (.val (.int .i64) v_17)), (7, .one (.optr 7 0 [])), (6, .one (.optr 6 0 [])), (5, .one (.fn 50 [])), (4, .one (.optr 4 0 [])), (1, .one (.val (.sl api_Type) l))], [(7, some ⟨.free, api_Type, [b]⟩), (6, some ⟨.free, api_Type, [a]⟩), (4, some ⟨.free, api_Type, [v_4]⟩)]⟩
def tJ6 (l : List api_TypeV) (v_4 : api_TypeV) (a : api_TypeV) (b : api_TypeV) (v_17 : Int) (v_91 : Bool) : ASt := ⟨[(91, .one (.val .bool v_91)), (17, .one (.val (.int .i64) v_17)), (7, .one (.optr 7 0 [])), (6, .one (.optr 6 0 [])), (5, .one (.fn 50 [])), (4, .one (.optr 4 0 [])), (1, .one (.val (.sl api_Type) l))], [(7, some ⟨.free, api_Type, [b]⟩), (6, some ⟨.free, api_Type, [a]⟩), (4, some ⟨.free, api_Type, [v_4]⟩)]⟩
def tJ7 (v_4 : api_TypeV) (a : api_TypeV) (b : api_TypeV) (v_17 : Int) (v_125 : Bool) : ASt := ⟨[(125, .one (.val .bool v_125)), (17, .one (.val (.int .i64) v_17)), (7, .one (.optr 7 0 [])), (6, .one (.optr 6 0 [])), (5, .one (.fn 50 [])), (4, .one (.optr 4 0 []))], [(7, some ⟨.free, api_Type, [b]⟩), (6, some ⟨.free, api_Type, [a]⟩), (4, some ⟨.free, api_Type, [v_4]⟩)]⟩
def tJ8 (v_4 : api_TypeV) (a : api_TypeV) (b : api_TypeV) (v_138 : Bool) : ASt := ⟨[(138, .one (.val .bool v_138)), (7, .one (.optr 7 0 [])), (6, .one (.optr 6 0 [])), (5, .one (.fn 50 [])), (4, .one (.optr 4 0 []))], [(7, some ⟨.free, api_Type, [b]⟩), (6, some ⟨.free, api_Type, [a]⟩), (4, some ⟨.free, api_Type, [v_4]⟩)]⟩
noncomputable def SJ0 (kJ1 : Int → (List api_TypeV) → api_TypeV → api_TypeV → api_TypeV → Int → Bool → R) (op : Int) (l : List api_TypeV) (v_4 : api_TypeV) (a : api_TypeV) (b : api_TypeV) : R :=
  cond (op == 10)
    (Option.bind (expr_numeric a.1) fun x1 =>
    Option.bind (expr_result_1 a.1 x1.1) fun x2 =>
    some (x2.1, ()))
    (cond (op == 11)
      (kJ1 op l v_4 a b op (op == 11))
      (kJ1 op l v_4 a b op (op == 12)))
noncomputable def SJ1 (kJ2 : Int → (List api_TypeV) → api_TypeV → api_TypeV → api_TypeV → Int → Bool → R) (op : Int) (l : List api_TypeV) (v_4 : api_TypeV) (a : api_TypeV) (b : api_TypeV) (v_17 : Int) (v_27 : Bool) : R :=
  cond v_27
    (cond (eqTy (.pair (.int .i64) (.pair (.int .i64) .unit)) a b)
      (Option.bind (expr_numeric a.1) fun x1 =>
      Option.bind (expr_result_1 a.1 x1.1) fun x2 =>
      some (x2.1, ()))
      (Option.bind (expr_result_1 a.1 false) fun x3 =>
      some (x3.1, ())))
    (cond (v_17 == 13)
      (kJ2 op l v_4 a b v_17 (v_17 == 13))
      (cond (v_17 == 14)
        (kJ2 op l v_4 a b v_17 (v_17 == 14))
        (cond (v_17 == 15)
          (kJ2 op l v_4 a b v_17 (v_17 == 15))
          (kJ2 op l v_4 a b v_17 (v_17 == 16)))))
noncomputable def SJ2 (kJ3 : (List api_TypeV) → api_TypeV → api_TypeV → api_TypeV → Int → Bool → R) (op : Int) (l : List api_TypeV) (v_4 : api_TypeV) (a : api_TypeV) (b : api_TypeV) (v_17 : Int) (v_42 : Bool) : R :=
  cond v_42
    (Option.bind (expr_arithmetic op a.1 b.1) fun x1 =>
    Option.bind (expr_result_1 x1.1 true) fun x2 =>
    some (x2.1, ()))
    (cond (v_17 == 17)
      (kJ3 l v_4 a b v_17 (v_17 == 17))
      (kJ3 l v_4 a b v_17 (v_17 == 18)))
noncomputable def SJ3 (kJ4 : (List api_TypeV) → api_TypeV → api_TypeV → api_TypeV → Int → Bool → R) (l : List api_TypeV) (v_4 : api_TypeV) (a : api_TypeV) (b : api_TypeV) (v_17 : Int) (v_55 : Bool) : R :=
  cond v_55
    (cond (eqTy (.pair (.int .i64) (.pair (.int .i64) .unit)) a b)
      (Option.bind (expr_ordered a.1) fun x1 =>
      Option.bind (expr_result_1 a.1 x1.1) fun x2 =>
      some (x2.1, ()))
      (Option.bind (expr_result_1 a.1 false) fun x3 =>
      some (x3.1, ())))
    (cond (v_17 == 19)
      (kJ4 l v_4 a b v_17 (v_17 == 19))
      (kJ4 l v_4 a b v_17 (v_17 == 20)))
noncomputable def SJ4 (kJ5 : (List api_TypeV) → api_TypeV → api_TypeV → api_TypeV → Int → Bool → R) (l : List api_TypeV) (v_4 : api_TypeV) (a : api_TypeV) (b : api_TypeV) (v_17 : Int) (v_70 : Bool) : R :=
  cond v_70
    (Option.bind (expr_result_1 1 (eqTy (.pair (.int .i64) (.pair (.int .i64) .unit)) a b)) fun x1 =>
    some (x1.1, ()))
    (cond (v_17 == 21)
      (kJ5 l v_4 a b v_17 (v_17 == 21))
      (kJ5 l v_4 a b v_17 (v_17 == 22)))
noncomputable def SJ5 (kJ6 : (List api_TypeV) → api_TypeV → api_TypeV → api_TypeV → Int → Bool → R) (l : List api_TypeV) (v_4 : api_TypeV) (a : api_TypeV) (b : api_TypeV) (v_17 : Int) (v_78 : Bool) : R :=
  cond v_78
    (cond (eqTy (.pair (.int .i64) (.pair (.int .i64) .unit)) a b)
      (Option.bind (expr_ordered a.1) fun x1 =>
      Option.bind (expr_result_1 1 x1.1) fun x2 =>
      some (x2.1, ()))
      (Option.bind (expr_result_1 1 false) fun x3 =>
      some (x3.1, ())))
    (cond (v_17 == 23)
      (kJ6 l v_4 a b v_17 (v_17 == 23))
      (kJ6 l v_4 a b v_17 (v_17 == 24)))
noncomputable def SJ6 (kJ7 : api_TypeV → api_TypeV → api_TypeV → Int → Bool → R) (l : List api_TypeV) (v_4 : api_TypeV) (a : api_TypeV) (b : api_TypeV) (v_17 : Int) (v_91 : Bool) : R :=
  cond v_91
    (cond (a.1 == 1)
      (Option.bind (expr_result_1 1 (b.1 == 1)) fun x1 =>
      some (x1.1, ()))
      (Option.bind (expr_result_1 1 false) fun x2 =>
      some (x2.1, ())))
    (cond (v_17 == 25)
      (Option.bind (expr_result_1 1 (a.1 == 1)) fun x3 =>
      some (x3.1, ()))
      (cond (v_17 == 26)
        (cond (a.1 == 1)
          (Option.bind (idx l 2) fun x4 =>
          cond (eqTy (.pair (.int .i64) (.pair (.int .i64) .unit)) b x4)
            (some (b, ()))
            (some ((0, 0, ()), ())))
          (some ((0, 0, ()), ())))
        (cond (v_17 == 27)
          (kJ7 v_4 a b v_17 (v_17 == 27))
          (kJ7 v_4 a b v_17 (v_17 == 28)))))
noncomputable def SJ7 (kJ8 : api_TypeV → api_TypeV → api_TypeV → Bool → R) (v_4 : api_TypeV) (a : api_TypeV) (b : api_TypeV) (v_17 : Int) (v_125 : Bool) : R :=
  cond v_125
    (cond (a.1 == 5)
      (Option.bind (expr_result_1 5 (b.1 == 2)) fun x1 =>
      some (x1.1, ()))
      (Option.bind (expr_result_1 5 false) fun x2 =>
      some (x2.1, ())))
    (cond (v_17 == 29)
      (kJ8 v_4 a b (v_17 == 29))
      (kJ8 v_4 a b (v_17 == 30)))
noncomputable def SJ8 (v_4 : api_TypeV) (a : api_TypeV) (b : api_TypeV) (v_138 : Bool) : R :=
  cond v_138
    (cond (a.1 == 5)
      (Option.bind (expr_result_1 2 (b.1 == 5)) fun x1 =>
      some (x1.1, ()))
      (Option.bind (expr_result_1 2 false) fun x2 =>
      some (x2.1, ())))
    (Option.bind (expr_result_1 2 (a.1 == 5)) fun x3 =>
    some (x3.1, ()))
noncomputable def Se (kJ0 : Int → (List api_TypeV) → api_TypeV → api_TypeV → api_TypeV → R) (op : Int) (l : List api_TypeV) : R :=
  Option.bind (idx l 0) fun x1 =>
  cond (decide ((l.length : Int) > 1))
    (Option.bind (idx l 1) fun x2 =>
    kJ0 op l (0, 0, ()) x1 x2)
    (kJ0 op l (0, 0, ()) x1 (0, 0, ()))
theorem sJ0 (jmp : Tgt → ASt → R) (op : Int) (l : List api_TypeV) (v_4 : api_TypeV) (a : api_TypeV) (b : api_TypeV) : run E jmp fin depth c1 .ret (tJ0 op l v_4 a b) =
    SJ0 (fun op l v_4 a b v_17 v_27 => jmp (.code c2 K9) (tJ1 op l v_4 a b v_17 v_27)) op l v_4 a b := by kernel_rfl
theorem sJ1 (jmp : Tgt → ASt → R) (op : Int) (l : List api_TypeV) (v_4 : api_TypeV) (a : api_TypeV) (b : api_TypeV) (v_17 : Int) (v_27 : Bool) : run E jmp fin depth c2 K9 (tJ1 op l v_4 a b v_17 v_27) =
    SJ1 (fun op l v_4 a b v_17 v_42 => jmp (.code c3 K9) (tJ2 op l v_4 a b v_17 v_42)) op l v_4 a b v_17 v_27 := by kernel_rfl
theorem sJ2 (jmp : Tgt → ASt → R) (op : Int) (l : List api_TypeV) (v_4 : api_TypeV) (a : api_TypeV) (b : api_TypeV) (v_17 : Int) (v_42 : Bool) : run E jmp fin depth c3 K9 (tJ2 op l v_4 a b v_17 v_42) =
    SJ2 (fun l v_4 a b v_17 v_55 => jmp (.code c4 K9) (tJ3 l v_4 a b v_17 v_55)) op l v_4 a b v_17 v_42 := by kernel_rfl
theorem sJ3 (jmp : Tgt → ASt → R) (l : List api_TypeV) (v_4 : api_TypeV) (a : api_TypeV) (b : api_TypeV) (v_17 : Int) (v_55 : Bool) : run E jmp fin depth c4 K9 (tJ3 l v_4 a b v_17 v_55) =
    SJ3 (fun l v_4 a b v_17 v_70 => jmp (.code c5 K9) (tJ4 l v_4 a b v_17 v_70)) l v_4 a b v_17 v_55 := by kernel_rfl
theorem sJ4 (jmp : Tgt → ASt → R) (l : List api_TypeV) (v_4 : api_TypeV) (a : api_TypeV) (b : api_TypeV) (v_17 : Int) (v_70 : Bool) : run E jmp fin depth c5 K9 (tJ4 l v_4 a b v_17 v_70) =
    SJ4 (fun l v_4 a b v_17 v_78 => jmp (.code c6 K9) (tJ5 l v_4 a b v_17 v_78)) l v_4 a b v_17 v_70 := by kernel_rfl
theorem sJ5 (jmp : Tgt → ASt → R) (l : List api_TypeV) (v_4 : api_TypeV) (a : api_TypeV) (b : api_TypeV) (v_17 : Int) (v_78 : Bool) : run E jmp fin depth c6 K9 (tJ5 l v_4 a b v_17 v_78) =
    SJ5 (fun l v_4 a b v_17 v_91 => jmp (.code c7 K9) (tJ6 l v_4 a b v_17 v_91)) l v_4 a b v_17 v_78 := by kernel_rfl
theorem sJ6 (jmp : Tgt → ASt → R) (l : List api_TypeV) (v_4 : api_TypeV) (a : api_TypeV) (b : api_TypeV) (v_17 : Int) (v_91 : Bool) : run E jmp fin depth c7 K9 (tJ6 l v_4 a b v_17 v_91) =
    SJ6 (fun v_4 a b v_17 v_125 => jmp (.code c8 K9) (tJ7 v_4 a b v_17 v_125)) l v_4 a b v_17 v_91 := by kernel_rfl
theorem sJ7 (jmp : Tgt → ASt → R) (v_4 : api_TypeV) (a : api_TypeV) (b : api_TypeV) (v_17 : Int) (v_125 : Bool) : run E jmp fin depth c8 K9 (tJ7 v_4 a b v_17 v_125) =
    SJ7 (fun v_4 a b v_138 => jmp (.code c9 K9) (tJ8 v_4 a b v_138)) v_4 a b v_17 v_125 := by kernel_rfl
theorem sJ8 (jmp : Tgt → ASt → R) (v_4 : api_TypeV) (a : api_TypeV) (b : api_TypeV) (v_138 : Bool) : run E jmp fin depth c9 K9 (tJ8 v_4 a b v_138) =
    SJ8 v_4 a b v_138 := by kernel_rfl
theorem se (jmp : Tgt → ASt → R) (x : (argTy ps).den) : run E jmp fin depth (bodyOf Try.f34) .ret (entryFrom 0 ps x) =
    Se (fun op l v_4 a b => jmp (.code c1 .ret) (tJ0 op l v_4 a b)) x.1 x.2.1 := by kernel_rfl
noncomputable def J0 (op : Int) (l : List api_TypeV) (v_4 : api_TypeV) (a : api_TypeV) (b : api_TypeV) : R := lim E fin (.code c1 .ret) (tJ0 op l v_4 a b)
noncomputable def J1 (op : Int) (l : List api_TypeV) (v_4 : api_TypeV) (a : api_TypeV) (b : api_TypeV) (v_17 : Int) (v_27 : Bool) : R := lim E fin (.code c2 K9) (tJ1 op l v_4 a b v_17 v_27)
noncomputable def J2 (op : Int) (l : List api_TypeV) (v_4 : api_TypeV) (a : api_TypeV) (b : api_TypeV) (v_17 : Int) (v_42 : Bool) : R := lim E fin (.code c3 K9) (tJ2 op l v_4 a b v_17 v_42)
noncomputable def J3 (l : List api_TypeV) (v_4 : api_TypeV) (a : api_TypeV) (b : api_TypeV) (v_17 : Int) (v_55 : Bool) : R := lim E fin (.code c4 K9) (tJ3 l v_4 a b v_17 v_55)
noncomputable def J4 (l : List api_TypeV) (v_4 : api_TypeV) (a : api_TypeV) (b : api_TypeV) (v_17 : Int) (v_70 : Bool) : R := lim E fin (.code c5 K9) (tJ4 l v_4 a b v_17 v_70)
noncomputable def J5 (l : List api_TypeV) (v_4 : api_TypeV) (a : api_TypeV) (b : api_TypeV) (v_17 : Int) (v_78 : Bool) : R := lim E fin (.code c6 K9) (tJ5 l v_4 a b v_17 v_78)
noncomputable def J6 (l : List api_TypeV) (v_4 : api_TypeV) (a : api_TypeV) (b : api_TypeV) (v_17 : Int) (v_91 : Bool) : R := lim E fin (.code c7 K9) (tJ6 l v_4 a b v_17 v_91)
noncomputable def J7 (v_4 : api_TypeV) (a : api_TypeV) (b : api_TypeV) (v_17 : Int) (v_125 : Bool) : R := lim E fin (.code c8 K9) (tJ7 v_4 a b v_17 v_125)
noncomputable def J8 (v_4 : api_TypeV) (a : api_TypeV) (b : api_TypeV) (v_138 : Bool) : R := lim E fin (.code c9 K9) (tJ8 v_4 a b v_138)
theorem J0_eq (op : Int) (l : List api_TypeV) (v_4 : api_TypeV) (a : api_TypeV) (b : api_TypeV) : J0 op l v_4 a b = SJ0 J1 op l v_4 a b :=
  (lim_eq (.code c1 .ret) (tJ0 op l v_4 a b)).trans (sJ0 (lim E fin) op l v_4 a b)
theorem J1_eq (op : Int) (l : List api_TypeV) (v_4 : api_TypeV) (a : api_TypeV) (b : api_TypeV) (v_17 : Int) (v_27 : Bool) : J1 op l v_4 a b v_17 v_27 = SJ1 J2 op l v_4 a b v_17 v_27 :=
  (lim_eq (.code c2 K9) (tJ1 op l v_4 a b v_17 v_27)).trans (sJ1 (lim E fin) op l v_4 a b v_17 v_27)
theorem J2_eq (op : Int) (l : List api_TypeV) (v_4 : api_TypeV) (a : api_TypeV) (b : api_TypeV) (v_17 : Int) (v_42 : Bool) : J2 op l v_4 a b v_17 v_42 = SJ2 J3 op l v_4 a b v_17 v_42 :=
  (lim_eq (.code c3 K9) (tJ2 op l v_4 a b v_17 v_42)).trans (sJ2 (lim E fin) op l v_4 a b v_17 v_42)
theorem J3_eq (l : List api_TypeV) (v_4 : api_TypeV) (a : api_TypeV) (b : api_TypeV) (v_17 : Int) (v_55 : Bool) : J3 l v_4 a b v_17 v_55 = SJ3 J4 l v_4 a b v_17 v_55 :=
  (lim_eq (.code c4 K9) (tJ3 l v_4 a b v_17 v_55)).trans (sJ3 (lim E fin) l v_4 a b v_17 v_55)
theorem J4_eq (l : List api_TypeV) (v_4 : api_TypeV) (a : api_TypeV) (b : api_TypeV) (v_17 : Int) (v_70 : Bool) : J4 l v_4 a b v_17 v_70 = SJ4 J5 l v_4 a b v_17 v_70 :=
  (lim_eq (.code c5 K9) (tJ4 l v_4 a b v_17 v_70)).trans (sJ4 (lim E fin) l v_4 a b v_17 v_70)
theorem J5_eq (l : List api_TypeV) (v_4 : api_TypeV) (a : api_TypeV) (b : api_TypeV) (v_17 : Int) (v_78 : Bool) : J5 l v_4 a b v_17 v_78 = SJ5 J6 l v_4 a b v_17 v_78 :=
  (lim_eq (.code c6 K9) (tJ5 l v_4 a b v_17 v_78)).trans (sJ5 (lim E fin) l v_4 a b v_17 v_78)
theorem J6_eq (l : List api_TypeV) (v_4 : api_TypeV) (a : api_TypeV) (b : api_TypeV) (v_17 : Int) (v_91 : Bool) : J6 l v_4 a b v_17 v_91 = SJ6 J7 l v_4 a b v_17 v_91 :=
  (lim_eq (.code c7 K9) (tJ6 l v_4 a b v_17 v_91)).trans (sJ6 (lim E fin) l v_4 a b v_17 v_91)
theorem J7_eq (v_4 : api_TypeV) (a : api_TypeV) (b : api_TypeV) (v_17 : Int) (v_125 : Bool) : J7 v_4 a b v_17 v_125 = SJ7 J8 v_4 a b v_17 v_125 :=
  (lim_eq (.code c8 K9) (tJ7 v_4 a b v_17 v_125)).trans (sJ7 (lim E fin) v_4 a b v_17 v_125)
theorem J8_eq (v_4 : api_TypeV) (a : api_TypeV) (b : api_TypeV) (v_138 : Bool) : J8 v_4 a b v_138 = SJ8 v_4 a b v_138 :=
  (lim_eq (.code c9 K9) (tJ8 v_4 a b v_138)).trans (sJ8 (lim E fin) v_4 a b v_138)
end expr_result
noncomputable def expr_result (op : Int) (l : List api_TypeV) : expr_result.R :=
  expr_result.Se expr_result.J0 op l
noncomputable def expr_result.sig : Sig := ⟨expr_result.ps, expr_result.rs, fun x => expr_result x.1 x.2.1⟩
theorem expr_result.ok : CallOK Try.prog 34 expr_result.sig :=
  callOK_of_lim (E := expr_result.E) mixed tt_ok (ctxOk_cons (ctxOk_cons (ctxOk_cons (ctxOk_cons ctxOk_nil expr_ordered.ok Try.func53 (by kernel_rfl) (by kernel_rfl)) expr_arithmetic.ok Try.func52 (by kernel_rfl) (by kernel_rfl)) expr_result_1.ok Try.func50 (by kernel_rfl) (by kernel_rfl)) expr_numeric.ok Try.func51 (by kernel_rfl) (by kernel_rfl)) Try.func34 (by kernel_rfl : Try.f34.body = some (bodyOf Try.f34)) Try.ntmps34 (of_decide_eq_true (by kernel_rfl)) (of_decide_eq_true (by kernel_rfl))
    fun x y h => ((lim_eq (.code (bodyOf Try.f34) .ret) (entryFrom 0 expr_result.ps x)).trans (expr_result.se (lim expr_result.E expr_result.fin) x)).trans h
theorem expr_result.val (x : (argTy expr_result.ps).den) : lim expr_result.E expr_result.fin (.code (bodyOf Try.f34) .ret) (entryFrom 0 expr_result.ps x) = expr_result.sig.run x :=
  (lim_eq (.code (bodyOf Try.f34) .ret) (entryFrom 0 expr_result.ps x)).trans (expr_result.se (lim expr_result.E expr_result.fin) x)
noncomputable def expr_result.ctxc (n : Nat) : List (Nat × Sig) := [(51, expr_numeric.sigc n), (50, expr_result_1.sigc n), (52, expr_arithmetic.sigc n), (53, expr_ordered.sigc n)]
noncomputable def expr_result.sigc (n : Nat) : Sig := ⟨expr_result.ps, expr_result.rs, fun x => runs (withCtx expr_result.E (expr_result.ctxc n)) expr_result.fin n (.code (bodyOf Try.f34) .ret) (entryFrom 0 expr_result.ps x)⟩
theorem expr_result.sigc_le (n : Nat) : ∀ x y, (expr_result.sigc n).run x = some y → expr_result.sig.run x = some y :=
  fun x y h => (expr_result.val x).symm.trans (runs_lim (E := expr_result.E) (c := expr_result.ctxc n) (ctxLe_cons (ctxLe_cons (ctxLe_cons (ctxLe_cons ctxLe_nil (expr_ordered.sigc_le n)) (expr_arithmetic.sigc_le n)) (expr_result_1.sigc_le n)) (expr_numeric.sigc_le n)) h)

/-! ### guerdon/expr.typeOf -/
namespace expr_typeOf
abbrev ps : List PM := [.pure api_Type, .pure (.sl api_Type), .pure api_Signature]
abbrev rs : List RM := [.pure api_Type, .pure (.int .i64)]
abbrev R : Type := Option (api_TypeV × Int × Unit)
noncomputable def E : Env := { tt := tt, ctx := [(30, expr_number.sig), (31, expr_leaf.sig), (32, expr_table.sig), (33, value_ValidType.sig), (34, expr_result.sig)], nt := 93, ann := [(8, [(1, .keep), (3, .keep), (5, .keep), (6, .keep), (9, .keep), (33, .keep)]), (13, [(3, .keep), (6, .keep), (9, .keep), (10, .keep)])] }
noncomputable def c0 : Code := sub [1, 1, 1, 1, 1] (bodyOf Try.f24)
noncomputable def c1 : Code := sub [1, 1, 1, 1, 0, 1] (bodyOf Try.f24)
noncomputable def c2 : Code := sub [1, 1, 1, 1, 0, 1, 0, 1, 1, 1] (bodyOf Try.f24)
noncomputable def K10 : Kont := .seq c0 .ret
noncomputable def fin : ASt → R := Kret E Try.f24.results.toList ps rs
def tJ0 (l : List api_TypeV) (n_3 : api_TypeV) (s : api_SignatureV) (v_6 : api_TypeV) (t : api_TypeV) (v_33 : Bool) : ASt := ⟨[(33, .one (.val .bool v_33)), (9, .one (.optr 9 0 [])), (6, .one (.optr 6 0 [])), (5, .one (.optr 5 0 [])), (3, .one (.optr 3 0 [])), (1, .one (.val (.sl api_Type) l))], [(9, some ⟨.free, api_Type, [t]⟩), (6, some ⟨.free, api_Type, [v_6]⟩), (5, some ⟨.free, api_Signature, [s]⟩), (3, some ⟨.free, api_Type, [n_3]⟩)]⟩
def tJ1 (n_3 : api_TypeV) (v_6 : api_TypeV) (t : api_TypeV) (x_10 : api_TableV) : ASt := ⟨[(10, .one (.optr 10 0 [])), (9, .one (.optr 9 0 [])), (6, .one (.optr 6 0 [])), (3, .one (.optr 3 0 []))], [(10, some ⟨.free, api_Table, [x_10]⟩), (9, some ⟨.free, api_Type, [t]⟩), (6, some ⟨.free, api_Type, [v_6]⟩), (3, some ⟨.free, api_Type, [n_3]⟩)]⟩
noncomputable def SJ0 (kJ1 : api_TypeV → api_TypeV → api_TypeV → api_TableV → R) (l : List api_TypeV) (n_3 : api_TypeV) (s : api_SignatureV) (v_6 : api_TypeV) (t : api_TypeV) (v_33 : Bool) : R :=
  cond v_33
    (Option.bind (expr_table n_3 s) fun x1 =>
    cond (x1.2.1 != 0)
      (some (t, x1.2.1, ()))
      (Option.bind (value_ValidType x1.1.2.1 s.1) fun x2 =>
      cond (!x2.1)
        (some (t, 8, ()))
        (Option.bind (value_ValidType x1.1.2.2.1 s.1) fun x3 =>
        cond (!x3.1)
          (some (t, 8, ()))
          (Option.bind (idx l 0) fun x4 =>
          cond (!eqTy (.pair (.int .i64) (.pair (.int .i64) .unit)) x4 x1.1.2.1)
            (some (t, 8, ()))
            (kJ1 n_3 v_6 t x1.1)))))
    (Option.bind (expr_result n_3.1 l) fun x5 =>
    cond (x5.1.1 == 0)
      (some (x5.1, 8, ()))
      (some (x5.1, 0, ())))
noncomputable def SJ1 (n_3 : api_TypeV) (v_6 : api_TypeV) (t : api_TypeV) (x_10 : api_TableV) : R :=
  cond (n_3.1 == 33)
    (some (x_10.2.2.1, 0, ()))
    (cond (x_10.2.1.1 != 3)
      (some (t, 8, ()))
      (cond (x_10.2.2.1.1 != 4)
        (some (t, 8, ()))
        (some ((3, 0, ()), 0, ()))))
noncomputable def Se (kJ0 : (List api_TypeV) → api_TypeV → api_SignatureV → api_TypeV → api_TypeV → Bool → R) (n_0 : api_TypeV) (l : List api_TypeV) (s : api_SignatureV) : R :=
  Option.bind (expr_number n_0) fun x1 =>
  cond (x1.1 != 0)
    (some ((0, 0, ()), x1.1, ()))
    (cond ((l.length : Int) == 0)
      (Option.bind (expr_leaf n_0 s) fun x2 =>
      some (x2.1, x2.2.1, ()))
      (cond (n_0.1 == 33)
        (kJ0 l n_0 s (0, 0, ()) (0, 0, ()) true)
        (kJ0 l n_0 s (0, 0, ()) (0, 0, ()) (n_0.1 == 34))))
theorem sJ0 (jmp : Tgt → ASt → R) (l : List api_TypeV) (n_3 : api_TypeV) (s : api_SignatureV) (v_6 : api_TypeV) (t : api_TypeV) (v_33 : Bool) : run E jmp fin depth c1 K10 (tJ0 l n_3 s v_6 t v_33) =
    SJ0 (fun n_3 v_6 t x_10 => jmp (.code c2 K10) (tJ1 n_3 v_6 t x_10)) l n_3 s v_6 t v_33 := by kernel_rfl
theorem sJ1 (jmp : Tgt → ASt → R) (n_3 : api_TypeV) (v_6 : api_TypeV) (t : api_TypeV) (x_10 : api_TableV) : run E jmp fin depth c2 K10 (tJ1 n_3 v_6 t x_10) =
    SJ1 n_3 v_6 t x_10 := by kernel_rfl
theorem se (jmp : Tgt → ASt → R) (x : (argTy ps).den) : run E jmp fin depth (bodyOf Try.f24) .ret (entryFrom 0 ps x) =
    Se (fun l n_3 s v_6 t v_33 => jmp (.code c1 K10) (tJ0 l n_3 s v_6 t v_33)) x.1 x.2.1 x.2.2.1 := by kernel_rfl
noncomputable def J0 (l : List api_TypeV) (n_3 : api_TypeV) (s : api_SignatureV) (v_6 : api_TypeV) (t : api_TypeV) (v_33 : Bool) : R := lim E fin (.code c1 K10) (tJ0 l n_3 s v_6 t v_33)
noncomputable def J1 (n_3 : api_TypeV) (v_6 : api_TypeV) (t : api_TypeV) (x_10 : api_TableV) : R := lim E fin (.code c2 K10) (tJ1 n_3 v_6 t x_10)
theorem J0_eq (l : List api_TypeV) (n_3 : api_TypeV) (s : api_SignatureV) (v_6 : api_TypeV) (t : api_TypeV) (v_33 : Bool) : J0 l n_3 s v_6 t v_33 = SJ0 J1 l n_3 s v_6 t v_33 :=
  (lim_eq (.code c1 K10) (tJ0 l n_3 s v_6 t v_33)).trans (sJ0 (lim E fin) l n_3 s v_6 t v_33)
theorem J1_eq (n_3 : api_TypeV) (v_6 : api_TypeV) (t : api_TypeV) (x_10 : api_TableV) : J1 n_3 v_6 t x_10 = SJ1 n_3 v_6 t x_10 :=
  (lim_eq (.code c2 K10) (tJ1 n_3 v_6 t x_10)).trans (sJ1 (lim E fin) n_3 v_6 t x_10)
end expr_typeOf
noncomputable def expr_typeOf (n_0 : api_TypeV) (l : List api_TypeV) (s : api_SignatureV) : expr_typeOf.R :=
  expr_typeOf.Se expr_typeOf.J0 n_0 l s
noncomputable def expr_typeOf.sig : Sig := ⟨expr_typeOf.ps, expr_typeOf.rs, fun x => expr_typeOf x.1 x.2.1 x.2.2.1⟩
theorem expr_typeOf.ok : CallOK Try.prog 24 expr_typeOf.sig :=
  callOK_of_lim (E := expr_typeOf.E) mixed tt_ok (ctxOk_cons (ctxOk_cons (ctxOk_cons (ctxOk_cons (ctxOk_cons ctxOk_nil expr_result.ok Try.func34 (by kernel_rfl) (by kernel_rfl)) value_ValidType.ok Try.func33 (by kernel_rfl) (by kernel_rfl)) expr_table.ok Try.func32 (by kernel_rfl) (by kernel_rfl)) expr_leaf.ok Try.func31 (by kernel_rfl) (by kernel_rfl)) expr_number.ok Try.func30 (by kernel_rfl) (by kernel_rfl)) Try.func24 (by kernel_rfl : Try.f24.body = some (bodyOf Try.f24)) Try.ntmps24 (of_decide_eq_true (by kernel_rfl)) (of_decide_eq_true (by kernel_rfl))
    fun x y h => ((lim_eq (.code (bodyOf Try.f24) .ret) (entryFrom 0 expr_typeOf.ps x)).trans (expr_typeOf.se (lim expr_typeOf.E expr_typeOf.fin) x)).trans h
theorem expr_typeOf.val (x : (argTy expr_typeOf.ps).den) : lim expr_typeOf.E expr_typeOf.fin (.code (bodyOf Try.f24) .ret) (entryFrom 0 expr_typeOf.ps x) = expr_typeOf.sig.run x :=
  (lim_eq (.code (bodyOf Try.f24) .ret) (entryFrom 0 expr_typeOf.ps x)).trans (expr_typeOf.se (lim expr_typeOf.E expr_typeOf.fin) x)
noncomputable def expr_typeOf.ctxc (n : Nat) : List (Nat × Sig) := [(30, expr_number.sigc n), (31, expr_leaf.sigc n), (32, expr_table.sigc n), (33, value_ValidType.sigc n), (34, expr_result.sigc n)]
noncomputable def expr_typeOf.sigc (n : Nat) : Sig := ⟨expr_typeOf.ps, expr_typeOf.rs, fun x => runs (withCtx expr_typeOf.E (expr_typeOf.ctxc n)) expr_typeOf.fin n (.code (bodyOf Try.f24) .ret) (entryFrom 0 expr_typeOf.ps x)⟩
theorem expr_typeOf.sigc_le (n : Nat) : ∀ x y, (expr_typeOf.sigc n).run x = some y → expr_typeOf.sig.run x = some y :=
  fun x y h => (expr_typeOf.val x).symm.trans (runs_lim (E := expr_typeOf.E) (c := expr_typeOf.ctxc n) (ctxLe_cons (ctxLe_cons (ctxLe_cons (ctxLe_cons (ctxLe_cons ctxLe_nil (expr_result.sigc_le n)) (value_ValidType.sigc_le n)) (expr_table.sigc_le n)) (expr_leaf.sigc_le n)) (expr_number.sigc_le n)) h)

/-! ### guerdon/expr.TypeOf -/
namespace expr_TypeOf
abbrev ps : List PM := [.pure (.sl api_Type), .pure api_Signature]
abbrev rs : List RM := [.pure api_Type, .pure (.int .i64), .pure (.int .i64)]
abbrev R : Type := Option (api_TypeV × Int × Int × Unit)
noncomputable def E : Env := { tt := tt, ctx := [(21, expr_starts.sig), (23, expr_operands.sig), (24, expr_typeOf.sig)], nt := 79, ann := [(1000006, [(0, .keep), (3, .keep), (4, .keep), (7, .keep), (10, .keep), (32, .keep), (33, .keep), (34, .keep)]), (1000010, [(0, .keep), (3, .keep), (4, .keep), (7, .keep), (10, .keep), (11, .keep), (12, .keep), (13, .own api_Type), (32, .keep), (33, .keep), (34, .keep), (42, .keep), (43, .keep), (44, .keep)])] }
noncomputable def c0 : Code := sub [1, 1, 1, 1, 1] (bodyOf Try.f17)
noncomputable def c1 : Code := sub [1, 1, 1, 1, 0, 1, 0, 0] (bodyOf Try.f17)
noncomputable def c2 : Code := sub [1, 1, 1, 1, 0, 1, 0, 0, 1, 1, 1] (bodyOf Try.f17)
noncomputable def c3 : Code := sub [1, 1, 1, 1, 0, 1, 0, 0, 1, 1, 0, 0, 1, 1, 1] (bodyOf Try.f17)
noncomputable def c4 : Code := sub [1, 1, 1, 1, 0, 1, 0, 0, 1, 1, 0, 0, 1, 1, 0, 1, 0, 0] (bodyOf Try.f17)
noncomputable def K7 : Kont := .seq c0 .ret
noncomputable def K9 : Kont := .blk 0 K7
noncomputable def K10 : Kont := .loop c1 K9
noncomputable def K13 : Kont := .seq c2 K10
noncomputable def K14 : Kont := .blk 1 K13
noncomputable def K17 : Kont := .seq c3 K14
noncomputable def K19 : Kont := .blk 2 K17
noncomputable def fin : ASt → R := Kret E Try.f17.results.toList ps rs
def tL0 (e : List api_TypeV) (s : api_SignatureV) (v_4 : api_TypeV) (l : List Int) (types : List api_TypeV) (v_32 : List api_TypeV) (v_33 : Int) (v_34 : Int) : ASt := ⟨[(34, .one (.val (.int .i64) v_34)), (33, .one (.val (.int .i64) v_33)), (32, .one (.val (.sl api_Type) v_32)), (10, .one (.own 10)), (7, .one (.own 7)), (4, .one (.optr 4 0 [])), (3, .one (.optr 3 0 [])), (0, .one (.val (.sl api_Type) e))], [(10, some ⟨.free, api_Type, types⟩), (7, some ⟨.free, .int .i64, l⟩), (4, some ⟨.free, api_Type, [v_4]⟩), (3, some ⟨.free, api_Signature, [s]⟩)]⟩
def tL1 (e : List api_TypeV) (s : api_SignatureV) (v_4 : api_TypeV) (l : List Int) (types : List api_TypeV) (i : Int) (n_12 : api_TypeV) (args : List api_TypeV) (v_32 : List api_TypeV) (v_33 : Int) (v_34 : Int) (v_42 : List Int) (v_43 : Int) (v_44 : Int) : ASt := ⟨[(44, .one (.val (.int .i64) v_44)), (43, .one (.val (.int .i64) v_43)), (42, .one (.own 42)), (34, .one (.val (.int .i64) v_34)), (33, .one (.val (.int .i64) v_33)), (32, .one (.val (.sl api_Type) v_32)), (13, .one (.own 13)), (12, .one (.optr 12 0 [])), (11, .one (.val (.int .i64) i)), (10, .one (.own 10)), (7, .one (.own 7)), (4, .one (.optr 4 0 [])), (3, .one (.optr 3 0 [])), (0, .one (.val (.sl api_Type) e))], [(42, some ⟨.free, .int .i64, v_42⟩), (13, some ⟨.free, api_Type, args⟩), (12, some ⟨.free, api_Type, [n_12]⟩), (10, some ⟨.free, api_Type, types⟩), (7, some ⟨.free, .int .i64, l⟩), (4, some ⟨.free, api_Type, [v_4]⟩), (3, some ⟨.free, api_Signature, [s]⟩)]⟩
noncomputable def SL0 (kL1 : (List api_TypeV) → api_SignatureV → api_TypeV → (List Int) → (List api_TypeV) → Int → api_TypeV → (List api_TypeV) → (List api_TypeV) → Int → Int → (List Int) → Int → Int → R) (e : List api_TypeV) (s : api_SignatureV) (v_4 : api_TypeV) (l : List Int) (types : List api_TypeV) (v_32 : List api_TypeV) (v_33 : Int) (v_34 : Int) : R :=
  cond (decide (v_34 < v_33))
    (Option.bind (idx v_32 v_34) fun x1 =>
    Option.bind (expr_operands e l v_34) fun x2 =>
    kL1 e s v_4 l types v_34 x1 [] v_32 v_33 v_34 x2.1 (x2.1.length : Int) 0)
    (cond (decide (0 ≤ IntKind.i64.wrap ((e.length : Int) - 1)) && decide (IntKind.i64.wrap ((e.length : Int) - 1) < (types.length : Int)))
      (some ((types.getD ((IntKind.i64.wrap ((e.length : Int) - 1)).toNat) (0, 0, ())), 0, 0, ()))
      none)
noncomputable def SL1 (kL1 : (List api_TypeV) → api_SignatureV → api_TypeV → (List Int) → (List api_TypeV) → Int → api_TypeV → (List api_TypeV) → (List api_TypeV) → Int → Int → (List Int) → Int → Int → R) (kL0 : (List api_TypeV) → api_SignatureV → api_TypeV → (List Int) → (List api_TypeV) → (List api_TypeV) → Int → Int → R) (e : List api_TypeV) (s : api_SignatureV) (v_4 : api_TypeV) (l : List Int) (types : List api_TypeV) (i : Int) (n_12 : api_TypeV) (args : List api_TypeV) (v_32 : List api_TypeV) (v_33 : Int) (v_34 : Int) (v_42 : List Int) (v_43 : Int) (v_44 : Int) : R :=
  cond (decide (v_44 < v_43))
    (cond (decide (0 ≤ v_44) && decide (v_44 < (v_42.length : Int)))
      (cond (decide (0 ≤ (v_42.getD v_44.toNat 0)) && decide ((v_42.getD v_44.toNat 0) < (types.length : Int)))
        (cond (decide ((args.length + 1) * 16 ≤ room) && decide (0 < Ty.nc (.pair (.int .i64) (.pair (.int .i64) .unit))))
          (kL1 e s v_4 l types i n_12 (args ++ [(types.getD ((v_42.getD v_44.toNat 0).toNat) (0, 0, ()))]) v_32 v_33 v_34 v_42 v_43 (IntKind.i64.wrap (v_44 + 1)))
          none)
        none)
      none)
    (Option.bind (expr_typeOf n_12 args s) fun x1 =>
    cond (x1.2.1 != 0)
      (some ((0, 0, ()), i, x1.2.1, ()))
      (cond (decide (0 ≤ i) && decide (i < (types.length : Int)))
        (kL0 e s v_4 l (types.set i.toNat x1.1) v_32 v_33 (IntKind.i64.wrap (v_34 + 1)))
        none))
noncomputable def Se (kL0 : (List api_TypeV) → api_SignatureV → api_TypeV → (List Int) → (List api_TypeV) → (List api_TypeV) → Int → Int → R) (e : List api_TypeV) (s : api_SignatureV) : R :=
  Option.bind (expr_starts e) fun x1 =>
  cond (x1.2.2.1 != 0)
    (some ((0, 0, ()), x1.2.1, x1.2.2.1, ()))
    (cond (decide (0 ≤ ((e.length : Int) : Int)) && (decide (((e.length : Int) : Int) ≤ (e.length : Int)) && (decide (((e.length : Int) : Int) * 16 ≤ room) && (decide (((e.length : Int) : Int) ≤ maxLen) && decide (0 < Ty.nc (.pair (.int .i64) (.pair (.int .i64) .unit)))))))
      (kL0 e s (0, 0, ()) x1.1 (List.replicate e.length (0, 0, ())) e (e.length : Int) 0)
      none)
theorem sL0 (jmp : Tgt → ASt → R) (e : List api_TypeV) (s : api_SignatureV) (v_4 : api_TypeV) (l : List Int) (types : List api_TypeV) (v_32 : List api_TypeV) (v_33 : Int) (v_34 : Int) : run E jmp fin depth c1 (.loop c1 K9) (tL0 e s v_4 l types v_32 v_33 v_34) =
    SL0 (fun e s v_4 l types i n_12 args v_32 v_33 v_34 v_42 v_43 v_44 => jmp (.loop c4 K19) (tL1 e s v_4 l types i n_12 args v_32 v_33 v_34 v_42 v_43 v_44)) e s v_4 l types v_32 v_33 v_34 := by kernel_rfl
theorem sL1 (jmp : Tgt → ASt → R) (e : List api_TypeV) (s : api_SignatureV) (v_4 : api_TypeV) (l : List Int) (types : List api_TypeV) (i : Int) (n_12 : api_TypeV) (args : List api_TypeV) (v_32 : List api_TypeV) (v_33 : Int) (v_34 : Int) (v_42 : List Int) (v_43 : Int) (v_44 : Int) : run E jmp fin depth c4 (.loop c4 K19) (tL1 e s v_4 l types i n_12 args v_32 v_33 v_34 v_42 v_43 v_44) =
    SL1 (fun e s v_4 l types i n_12 args v_32 v_33 v_34 v_42 v_43 v_44 => jmp (.loop c4 K19) (tL1 e s v_4 l types i n_12 args v_32 v_33 v_34 v_42 v_43 v_44)) (fun e s v_4 l types v_32 v_33 v_34 => jmp (.loop c1 K9) (tL0 e s v_4 l types v_32 v_33 v_34)) e s v_4 l types i n_12 args v_32 v_33 v_34 v_42 v_43 v_44 := by kernel_rfl
theorem se (jmp : Tgt → ASt → R) (x : (argTy ps).den) : run E jmp fin depth (bodyOf Try.f17) .ret (entryFrom 0 ps x) =
    Se (fun e s v_4 l types v_32 v_33 v_34 => jmp (.loop c1 K9) (tL0 e s v_4 l types v_32 v_33 v_34)) x.1 x.2.1 := by kernel_rfl
noncomputable def L0 (e : List api_TypeV) (s : api_SignatureV) (v_4 : api_TypeV) (l : List Int) (types : List api_TypeV) (v_32 : List api_TypeV) (v_33 : Int) (v_34 : Int) : R := lim E fin (.loop c1 K9) (tL0 e s v_4 l types v_32 v_33 v_34)
noncomputable def L1 (e : List api_TypeV) (s : api_SignatureV) (v_4 : api_TypeV) (l : List Int) (types : List api_TypeV) (i : Int) (n_12 : api_TypeV) (args : List api_TypeV) (v_32 : List api_TypeV) (v_33 : Int) (v_34 : Int) (v_42 : List Int) (v_43 : Int) (v_44 : Int) : R := lim E fin (.loop c4 K19) (tL1 e s v_4 l types i n_12 args v_32 v_33 v_34 v_42 v_43 v_44)
theorem L0_eq (e : List api_TypeV) (s : api_SignatureV) (v_4 : api_TypeV) (l : List Int) (types : List api_TypeV) (v_32 : List api_TypeV) (v_33 : Int) (v_34 : Int) : L0 e s v_4 l types v_32 v_33 v_34 = SL0 L1 e s v_4 l types v_32 v_33 v_34 :=
  (lim_eq (.loop c1 K9) (tL0 e s v_4 l types v_32 v_33 v_34)).trans (sL0 (lim E fin) e s v_4 l types v_32 v_33 v_34)
theorem L1_eq (e : List api_TypeV) (s : api_SignatureV) (v_4 : api_TypeV) (l : List Int) (types : List api_TypeV) (i : Int) (n_12 : api_TypeV) (args : List api_TypeV) (v_32 : List api_TypeV) (v_33 : Int) (v_34 : Int) (v_42 : List Int) (v_43 : Int) (v_44 : Int) : L1 e s v_4 l types i n_12 args v_32 v_33 v_34 v_42 v_43 v_44 = SL1 L1 L0 e s v_4 l types i n_12 args v_32 v_33 v_34 v_42 v_43 v_44 :=
  (lim_eq (.loop c4 K19) (tL1 e s v_4 l types i n_12 args v_32 v_33 v_34 v_42 v_43 v_44)).trans (sL1 (lim E fin) e s v_4 l types i n_12 args v_32 v_33 v_34 v_42 v_43 v_44)
end expr_TypeOf
noncomputable def expr_TypeOf (e : List api_TypeV) (s : api_SignatureV) : expr_TypeOf.R :=
  expr_TypeOf.Se expr_TypeOf.L0 e s
noncomputable def expr_TypeOf.sig : Sig := ⟨expr_TypeOf.ps, expr_TypeOf.rs, fun x => expr_TypeOf x.1 x.2.1⟩
theorem expr_TypeOf.ok : CallOK Try.prog 17 expr_TypeOf.sig :=
  callOK_of_lim (E := expr_TypeOf.E) mixed tt_ok (ctxOk_cons (ctxOk_cons (ctxOk_cons ctxOk_nil expr_typeOf.ok Try.func24 (by kernel_rfl) (by kernel_rfl)) expr_operands.ok Try.func23 (by kernel_rfl) (by kernel_rfl)) expr_starts.ok Try.func21 (by kernel_rfl) (by kernel_rfl)) Try.func17 (by kernel_rfl : Try.f17.body = some (bodyOf Try.f17)) Try.ntmps17 (of_decide_eq_true (by kernel_rfl)) (of_decide_eq_true (by kernel_rfl))
    fun x y h => ((lim_eq (.code (bodyOf Try.f17) .ret) (entryFrom 0 expr_TypeOf.ps x)).trans (expr_TypeOf.se (lim expr_TypeOf.E expr_TypeOf.fin) x)).trans h
theorem expr_TypeOf.val (x : (argTy expr_TypeOf.ps).den) : lim expr_TypeOf.E expr_TypeOf.fin (.code (bodyOf Try.f17) .ret) (entryFrom 0 expr_TypeOf.ps x) = expr_TypeOf.sig.run x :=
  (lim_eq (.code (bodyOf Try.f17) .ret) (entryFrom 0 expr_TypeOf.ps x)).trans (expr_TypeOf.se (lim expr_TypeOf.E expr_TypeOf.fin) x)
noncomputable def expr_TypeOf.ctxc (n : Nat) : List (Nat × Sig) := [(21, expr_starts.sigc n), (23, expr_operands.sigc n), (24, expr_typeOf.sigc n)]
noncomputable def expr_TypeOf.sigc (n : Nat) : Sig := ⟨expr_TypeOf.ps, expr_TypeOf.rs, fun x => runs (withCtx expr_TypeOf.E (expr_TypeOf.ctxc n)) expr_TypeOf.fin n (.code (bodyOf Try.f17) .ret) (entryFrom 0 expr_TypeOf.ps x)⟩
theorem expr_TypeOf.sigc_le (n : Nat) : ∀ x y, (expr_TypeOf.sigc n).run x = some y → expr_TypeOf.sig.run x = some y :=
  fun x y h => (expr_TypeOf.val x).symm.trans (runs_lim (E := expr_TypeOf.E) (c := expr_TypeOf.ctxc n) (ctxLe_cons (ctxLe_cons (ctxLe_cons ctxLe_nil (expr_typeOf.sigc_le n)) (expr_operands.sigc_le n)) (expr_starts.sigc_le n)) h)

end Go.Proofs.Ytbfckejaihblmaa
