/- The functions of the program as typed Lean functions, with the proof that they are what the code computes. -/
import Derived.Test.YtbfckejaihblmaaCode2
set_option maxRecDepth 100000
set_option linter.unusedVariables false
namespace Go.Proofs.Ytbfckejaihblmaa
open Go Go.Lift

/-! ### guerdon/guerdonlaw10.ExprComposition -/
namespace law10_ExprComposition
abbrev ps : List PM := [.pure (.sl api_Type), .pure api_Signature]
abbrev rs : List RM := [.pure .bool]
abbrev R : Type := Option (Bool × Unit)
noncomputable def E : Env := { tt := tt, ctx := [(8, law10_awake.sig), (16, ref10_Small.sig), (17, expr_TypeOf.sig), (9, expr_Starts.sig), (14, expr_Operands.sig), (11, expr_Arity.sig)], nt := 180, ann := [(3, [(0, .keep), (3, .keep)]), (11, [(0, .keep), (3, .keep), (5, .keep), (8, .keep), (10, .keep), (11, .keep)]), (1000017, [(0, .keep), (3, .keep), (5, .keep), (8, .keep), (10, .keep), (11, .keep), (12, .keep), (13, .own api_Type), (14, .own api_Type), (15, .keep)]), (21, [(0, .keep), (3, .keep), (5, .keep), (8, .keep), (10, .keep), (11, .keep), (12, .keep), (13, .own api_Type), (14, .own api_Type), (15, .keep)])] }
noncomputable def c0 : Code := sub [1, 1, 1, 1, 1, 1, 1, 1, 1, 1, 1, 1, 1] (bodyOf Try.f5)
noncomputable def c1 : Code := sub [1, 1, 1, 1, 1, 1, 1, 1, 1, 1, 1, 1, 0, 1, 0, 0] (bodyOf Try.f5)
noncomputable def c2 : Code := sub [1, 1, 1, 1, 1, 1, 1, 1, 1, 1, 1, 1, 0, 1, 0, 0, 1, 1] (bodyOf Try.f5)
noncomputable def c3 : Code := sub [1, 1] (bodyOf Try.f5)
noncomputable def c4 : Code := sub [1, 1, 1, 1, 1, 1, 1, 1] (bodyOf Try.f5)
noncomputable def c5 : Code := sub [1, 1, 1, 1, 1, 1, 1, 1, 1, 1, 1, 1, 0, 1, 0, 0, 1, 0, 0, 1] (bodyOf Try.f5)
noncomputable def K21 : Kont := .seq c0 .ret
noncomputable def K23 : Kont := .blk 0 K21
noncomputable def K24 : Kont := .loop c1 K23
noncomputable def K27 : Kont := .seq c2 K24
noncomputable def K28 : Kont := .blk 1 K27
noncomputable def fin : ASt → R := Kret E Try.f5.results.toList ps rs
def tJ0 (e : List api_TypeV) (s : api_SignatureV) : ASt := ⟨[(3, .one (.optr 3 0 [])), (0, .one (.val (.sl api_Type) e))], [(3, some ⟨.free, api_Signature, [s]⟩)]⟩
def tJ1 (e : List api_TypeV) (s : api_SignatureV) (t : api_TypeV) (starts : List Int) (last : Int) (ops : List Int) : ASt := ⟨[(11, .one (.own 11)), (10, .one (.val (.int .i64) last)), (8, .one (.own 8)), (5, .one (.optr 5 0 [])), (3, .one (.optr 3 0 [])), (0, .one (.val (.sl api_Type) e))], [(11, some ⟨.free, .int .i64, ops⟩), (8, some ⟨.free, .int .i64, starts⟩), (5, some ⟨.free, api_Type, [t]⟩), (3, some ⟨.free, api_Signature, [s]⟩)]⟩
def tL2 (e : List api_TypeV) (s : api_SignatureV) (t : api_TypeV) (starts : List Int) (last : Int) (ops : List Int) (from_12 : Int) (inputs : List api_TypeV) (short : List api_TypeV) (i : Int) : ASt := ⟨[(15, .one (.val (.int .i64) i)), (14, .one (.own 14)), (13, .one (.own 13)), (12, .one (.val (.int .i64) from_12)), (11, .one (.own 11)), (10, .one (.val (.int .i64) last)), (8, .one (.own 8)), (5, .one (.optr 5 0 [])), (3, .one (.optr 3 0 [])), (0, .one (.val (.sl api_Type) e))], [(14, some ⟨.free, api_Type, short⟩), (13, some ⟨.free, api_Type, inputs⟩), (11, some ⟨.free, .int .i64, ops⟩), (8, some ⟨.free, .int .i64, starts⟩), (5, some ⟨.free, api_Type, [t]⟩), (3, some ⟨.free, api_Signature, [s]⟩)]⟩
def tJ3 (e : List api_TypeV) (s : api_SignatureV) (t : api_TypeV) (starts : List Int) (last : Int) (ops : List Int) (from_12 : Int) (inputs : List api_TypeV) (short : List api_TypeV) (i : Int) : ASt := ⟨[(15, .one (.val (.int .i64) i)), (14, .one (.own 14)), (13, .one (.own 13)), (12, .one (.val (.int .i64) from_12)), (11, .one (.own 11)), (10, .one (.val (.int .i64) last)), (8, .one (.own 8)), (5, .one (.optr 5 0 [])), (3, .one (.optr 3 0 [])), (0, .one (.val (.sl api_Type) e))], [(14, some ⟨.free, api_Type, short⟩), (13, some ⟨.free, api_Type, inputs⟩), (11, some ⟨.free, .int .i64, ops⟩), (8, some ⟨.free, .int .i64, starts⟩), (5, some ⟨.free, api_Type, [t]⟩), (3, some ⟨.free, api_Signature, [s]⟩)]⟩
noncomputable def SJ0 (kJ1 : (List api_TypeV) → api_SignatureV → api_TypeV → (List Int) → Int → (List Int) → R) (e : List api_TypeV) (s : api_SignatureV) : R :=
  Option.bind (expr_TypeOf e s) fun x1 =>
  cond (x1.2.2.1 != 0)
    (Option.bind law10_awake fun x2 =>
    some (x2.1, ()))
    (Option.bind (expr_Starts e) fun x3 =>
    Option.bind (expr_Operands e (IntKind.i64.wrap ((e.length : Int) - 1))) fun x4 =>
    cond (x3.2.1 != 0)
      (some (false, ()))
      (cond ((x3.1.length : Int) != (e.length : Int))
        (some (false, ()))
        (cond (decide (0 ≤ IntKind.i64.wrap ((e.length : Int) - 1)) && decide (IntKind.i64.wrap ((e.length : Int) - 1) < (x3.1.length : Int)))
          (cond ((x3.1.getD ((IntKind.i64.wrap ((e.length : Int) - 1)).toNat) 0) != 0)
            (some (false, ()))
            (Option.bind (idx e (IntKind.i64.wrap ((e.length : Int) - 1))) fun x5 =>
            Option.bind (expr_Arity x5.1) fun x6 =>
            cond ((x4.1.length : Int) != x6.1)
              (some (false, ()))
              (kJ1 e s x1.1 x3.1 (IntKind.i64.wrap ((e.length : Int) - 1)) x4.1)))
          none)))
noncomputable def SJ1 (kL2 : (List api_TypeV) → api_SignatureV → api_TypeV → (List Int) → Int → (List Int) → Int → (List api_TypeV) → (List api_TypeV) → Int → R) (e : List api_TypeV) (s : api_SignatureV) (t : api_TypeV) (starts : List Int) (last : Int) (ops : List Int) : R :=
  cond ((ops.length : Int) == 0)
    (cond ((e.length : Int) == 1)
      (Option.bind law10_awake fun x1 =>
      some (x1.1, ()))
      (some (false, ())))
    (kL2 e s t starts last ops 0 [] [] 0)
noncomputable def SL2 (kJ3 : (List api_TypeV) → api_SignatureV → api_TypeV → (List Int) → Int → (List Int) → Int → (List api_TypeV) → (List api_TypeV) → Int → R) (e : List api_TypeV) (s : api_SignatureV) (t : api_TypeV) (starts : List Int) (last : Int) (ops : List Int) (from_12 : Int) (inputs : List api_TypeV) (short : List api_TypeV) (i : Int) : R :=
  cond (decide (i < (ops.length : Int)))
    (cond (decide (0 ≤ i) && decide (i < (ops.length : Int)))
      (cond (decide ((ops.getD i.toNat 0) < from_12))
        (some (false, ()))
        (cond (decide (0 ≤ i) && decide (i < (ops.length : Int)))
          (cond (decide ((ops.getD i.toNat 0) ≥ last))
            (some (false, ()))
            (cond (decide (0 ≤ i) && decide (i < (ops.length : Int)))
              (cond (decide (0 ≤ (ops.getD i.toNat 0)) && decide ((ops.getD i.toNat 0) < (starts.length : Int)))
                (cond ((starts.getD ((ops.getD i.toNat 0).toNat) 0) != from_12)
                  (some (false, ()))
                  (kJ3 e s t starts last ops from_12 inputs short i))
                none)
              none))
          none))
      none)
    (Option.bind (idx e last) fun x1 =>
    cond (decide ((short.length + 1) * 16 ≤ room) && decide (0 < Ty.nc (.pair (.int .i64) (.pair (.int .i64) .unit))))
      (Option.bind (expr_TypeOf (short ++ [x1]) (s.1, s.2.1, inputs, s.2.2.2.1, s.2.2.2.2.1, s.2.2.2.2.2.1, ())) fun x2 =>
      cond (from_12 == last)
        (cond (x2.2.2.1 == 0)
          (cond (eqTy (.pair (.int .i64) (.pair (.int .i64) .unit)) x2.1 t)
            (Option.bind law10_awake fun x3 =>
            some (x3.1, ()))
            (some (false, ())))
          (some (false, ())))
        (some (false, ())))
      none)
noncomputable def SJ3 (kL2 : (List api_TypeV) → api_SignatureV → api_TypeV → (List Int) → Int → (List Int) → Int → (List api_TypeV) → (List api_TypeV) → Int → R) (e : List api_TypeV) (s : api_SignatureV) (t : api_TypeV) (starts : List Int) (last : Int) (ops : List Int) (from_12 : Int) (inputs : List api_TypeV) (short : List api_TypeV) (i : Int) : R :=
  cond (decide (0 ≤ i) && decide (i < (ops.length : Int)))
    (cond (decide ((0 : Int) ≤ from_12) && (decide ((from_12 : Int) ≤ IntKind.i64.wrap ((ops.getD i.toNat 0) + 1)) && decide (IntKind.i64.wrap ((ops.getD i.toNat 0) + 1) ≤ (e.length : Int))))
      (Option.bind (expr_TypeOf ((e.drop from_12.toNat).take ((IntKind.i64.wrap ((ops.getD i.toNat 0) + 1)).toNat - from_12.toNat)) s) fun x1 =>
      cond (x1.2.2.1 != 0)
        (some (false, ()))
        (cond (decide ((inputs.length + 1) * 16 ≤ room) && decide (0 < Ty.nc (.pair (.int .i64) (.pair (.int .i64) .unit))))
          (cond (decide ((short.length + 1) * 16 ≤ room) && decide (0 < Ty.nc (.pair (.int .i64) (.pair (.int .i64) .unit))))
            (cond (decide (0 ≤ i) && decide (i < (ops.length : Int)))
              (kL2 e s t starts last ops (IntKind.i64.wrap ((ops.getD i.toNat 0) + 1)) (inputs ++ [x1.1]) (short ++ [(7, i, ())]) (IntKind.i64.wrap (i + 1)))
              none)
            none)
          none))
      none)
    none
noncomputable def Se (kJ0 : (List api_TypeV) → api_SignatureV → R) (e : List api_TypeV) (s : api_SignatureV) : R :=
  cond (decide ((e.length : Int) > 100))
    (Option.bind law10_awake fun x1 =>
    some (x1.1, ()))
    (Option.bind (ref10_Small s) fun x2 =>
    cond (!x2.1)
      (Option.bind law10_awake fun x3 =>
      some (x3.1, ()))
      (kJ0 e s))
theorem sJ0 (jmp : Tgt → ASt → R) (e : List api_TypeV) (s : api_SignatureV) : run E jmp fin depth c3 .ret (tJ0 e s) =
    SJ0 (fun e s t starts last ops => jmp (.code c4 .ret) (tJ1 e s t starts last ops)) e s := by kernel_rfl
theorem sJ1 (jmp : Tgt → ASt → R) (e : List api_TypeV) (s : api_SignatureV) (t : api_TypeV) (starts : List Int) (last : Int) (ops : List Int) : run E jmp fin depth c4 .ret (tJ1 e s t starts last ops) =
    SJ1 (fun e s t starts last ops from_12 inputs short i => jmp (.loop c1 K23) (tL2 e s t starts last ops from_12 inputs short i)) e s t starts last ops := by kernel_rfl
theorem sL2 (jmp : Tgt → ASt → R) (e : List api_TypeV) (s : api_SignatureV) (t : api_TypeV) (starts : List Int) (last : Int) (ops : List Int) (from_12 : Int) (inputs : List api_TypeV) (short : List api_TypeV) (i : Int) : run E jmp fin depth c1 (.loop c1 K23) (tL2 e s t starts last ops from_12 inputs short i) =
    SL2 (fun e s t starts last ops from_12 inputs short i => jmp (.code c5 K28) (tJ3 e s t starts last ops from_12 inputs short i)) e s t starts last ops from_12 inputs short i := by kernel_rfl
theorem sJ3 (jmp : Tgt → ASt → R) (e : List api_TypeV) (s : api_SignatureV) (t : api_TypeV) (starts : List Int) (last : Int) (ops : List Int) (from_12 : Int) (inputs : List api_TypeV) (short : List api_TypeV) (i : Int) : run E jmp fin depth c5 K28 (tJ3 e s t starts last ops from_12 inputs short i) =
    SJ3 (fun e s t starts last ops from_12 inputs short i => jmp (.loop c1 K23) (tL2 e s t starts last ops from_12 inputs short i)) e s t starts last ops from_12 inputs short i := by kernel_rfl
theorem se (jmp : Tgt → ASt → R) (x : (argTy ps).den) : run E jmp fin depth (bodyOf Try.f5) .ret (entryFrom 0 ps x) =
    Se (fun e s => jmp (.code c3 .ret) (tJ0 e s)) x.1 x.2.1 := by kernel_rfl
noncomputable def J0 (e : List api_TypeV) (s : api_SignatureV) : R := lim E fin (.code c3 .ret) (tJ0 e s)
noncomputable def J1 (e : List api_TypeV) (s : api_SignatureV) (t : api_TypeV) (starts : List Int) (last : Int) (ops : List Int) : R := lim E fin (.code c4 .ret) (tJ1 e s t starts last ops)
noncomputable def L2 (e : List api_TypeV) (s : api_SignatureV) (t : api_TypeV) (starts : List Int) (last : Int) (ops : List Int) (from_12 : Int) (inputs : List api_TypeV) (short : List api_TypeV) (i : Int) : R := lim E fin (.loop c1 K23) (tL2 e s t starts last ops from_12 inputs short i)
noncomputable def J3 (e : List api_TypeV) (s : api_SignatureV) (t : api_TypeV) (starts : List Int) (last : Int) (ops : List Int) (from_12 : Int) (inputs : List api_TypeV) (short : List api_TypeV) (i : Int) : R := lim E fin (.code c5 K28) (tJ3 e s t starts last ops from_12 inputs short i)
theorem J0_eq (e : List api_TypeV) (s : api_SignatureV) : J0 e s = SJ0 J1 e s :=
  (lim_eq (.code c3 .ret) (tJ0 e s)).trans (sJ0 (lim E fin) e s)
theorem J1_eq (e : List api_TypeV) (s : api_SignatureV) (t : api_TypeV) (starts : List Int) (last : Int) (ops : List Int) : J1 e s t starts last ops = SJ1 L2 e s t starts last ops :=
  (lim_eq (.code c4 .ret) (tJ1 e s t starts last ops)).trans (sJ1 (lim E fin) e s t starts last ops)
theorem L2_eq (e : List api_TypeV) (s : api_SignatureV) (t : api_TypeV) (starts : List Int) (last : Int) (ops : List Int) (from_12 : Int) (inputs : List api_TypeV) (short : List api_TypeV) (i : Int) : L2 e s t starts last ops from_12 inputs short i = SL2 J3 e s t starts last ops from_12 inputs short i :=
  (lim_eq (.loop c1 K23) (tL2 e s t starts last ops from_12 inputs short i)).trans (sL2 (lim E fin) e s t starts last ops from_12 inputs short i)
theorem J3_eq (e : List api_TypeV) (s : api_SignatureV) (t : api_TypeV) (starts : List Int) (last : Int) (ops : List Int) (from_12 : Int) (inputs : List api_TypeV) (short : List api_TypeV) (i : Int) : J3 e s t starts last ops from_12 inputs short i = SJ3 L2 e s t starts last ops from_12 inputs short i :=
  (lim_eq (.code c5 K28) (tJ3 e s t starts last ops from_12 inputs short i)).trans (sJ3 (lim E fin) e s t starts last ops from_12 inputs short i)
end law10_ExprComposition
noncomputable def law10_ExprComposition (e : List api_TypeV) (s : api_SignatureV) : law10_ExprComposition.R :=
  law10_ExprComposition.Se law10_ExprComposition.J0 e s
noncomputable def law10_ExprComposition.sig : Sig := ⟨law10_ExprComposition.ps, law10_ExprComposition.rs, fun x => law10_ExprComposition x.1 x.2.1⟩
theorem law10_ExprComposition.ok : CallOK Try.prog 5 law10_ExprComposition.sig :=
  callOK_of_lim (E := law10_ExprComposition.E) mixed tt_ok (ctxOk_cons (ctxOk_cons (ctxOk_cons (ctxOk_cons (ctxOk_cons (ctxOk_cons ctxOk_nil expr_Arity.ok Try.func11 (by kernel_rfl) (by kernel_rfl)) expr_Operands.ok Try.func14 (by kernel_rfl) (by kernel_rfl)) expr_Starts.ok Try.func9 (by kernel_rfl) (by kernel_rfl)) expr_TypeOf.ok Try.func17 (by kernel_rfl) (by kernel_rfl)) ref10_Small.ok Try.func16 (by kernel_rfl) (by kernel_rfl)) law10_awake.ok Try.func8 (by kernel_rfl) (by kernel_rfl)) Try.func5 (by kernel_rfl : Try.f5.body = some (bodyOf Try.f5)) Try.ntmps5 (of_decide_eq_true (by kernel_rfl)) (of_decide_eq_true (by kernel_rfl))
    fun x y h => ((lim_eq (.code (bodyOf Try.f5) .ret) (entryFrom 0 law10_ExprComposition.ps x)).trans (law10_ExprComposition.se (lim law10_ExprComposition.E law10_ExprComposition.fin) x)).trans h
theorem law10_ExprComposition.val (x : (argTy law10_ExprComposition.ps).den) : lim law10_ExprComposition.E law10_ExprComposition.fin (.code (bodyOf Try.f5) .ret) (entryFrom 0 law10_ExprComposition.ps x) = law10_ExprComposition.sig.run x :=
  (lim_eq (.code (bodyOf Try.f5) .ret) (entryFrom 0 law10_ExprComposition.ps x)).trans (law10_ExprComposition.se (lim law10_ExprComposition.E law10_ExprComposition.fin) x)
noncomputable def law10_ExprComposition.ctxc (n : Nat) : List (Nat × Sig) := [(8, law10_awake.sigc n), (16, ref10_Small.sigc n), (17, expr_TypeOf.sigc n), (9, expr_Starts.sigc n), (14, expr_Operands.sigc n), (11, expr_Arity.sigc n)]
noncomputable def law10_ExprComposition.sigc (n : Nat) : Sig := ⟨law10_ExprComposition.ps, law10_ExprComposition.rs, fun x => runs (withCtx law10_ExprComposition.E (law10_ExprComposition.ctxc n)) law10_ExprComposition.fin n (.code (bodyOf Try.f5) .ret) (entryFrom 0 law10_ExprComposition.ps x)⟩
theorem law10_ExprComposition.sigc_le (n : Nat) : ∀ x y, (law10_ExprComposition.sigc n).run x = some y → law10_ExprComposition.sig.run x = some y :=
  fun x y h => (law10_ExprComposition.val x).symm.trans (runs_lim (E := law10_ExprComposition.E) (c := law10_ExprComposition.ctxc n) (ctxLe_cons (ctxLe_cons (ctxLe_cons (ctxLe_cons (ctxLe_cons (ctxLe_cons ctxLe_nil (expr_Arity.sigc_le n)) (expr_Operands.sigc_le n)) (expr_Starts.sigc_le n)) (expr_TypeOf.sigc_le n)) (ref10_Small.sigc_le n)) (law10_awake.sigc_le n)) h)

/-! ### guerdon/guerdonlaw10.ExprStack -/
namespace law10_ExprStack
abbrev ps : List PM := [.pure (.sl api_Type), .pure (.sl api_Type), .pure (.int .i64)]
abbrev rs : List RM := [.pure .bool]
abbrev R : Type := Option (Bool × Unit)
noncomputable def E : Env := { tt := tt, ctx := [(8, law10_awake.sig), (11, expr_Arity.sig), (9, expr_Starts.sig)], nt := 135, ann := [(3, [(0, .keep), (1, .keep), (2, .keep)]), (7, [(0, .keep), (1, .keep), (2, .keep), (7, .keep), (9, .keep)]), (16, [(0, .keep), (1, .keep), (7, .keep), (9, .keep), (12, .keep)]), (1000017, [(0, .keep), (1, .keep), (7, .keep), (9, .keep), (12, .keep), (14, .keep)]), (1000022, [(0, .keep), (1, .keep), (9, .keep), (12, .keep), (15, .keep)])] }
noncomputable def c0 : Code := sub [1, 1, 1, 1, 1, 1, 1, 1, 1, 1, 1, 1, 1] (bodyOf Try.f6)
noncomputable def c1 : Code := sub [1, 1, 1, 1, 1, 1, 1, 1, 1, 1, 1, 1, 1, 1] (bodyOf Try.f6)
noncomputable def c2 : Code := sub [1, 1] (bodyOf Try.f6)
noncomputable def c3 : Code := sub [1, 1, 1, 1, 1] (bodyOf Try.f6)
noncomputable def c4 : Code := sub [1, 1, 1, 1, 1, 1, 1, 1, 1, 1, 1, 1] (bodyOf Try.f6)
noncomputable def c5 : Code := sub [1, 1, 1, 1, 1, 1, 1, 1, 1, 1, 1, 1, 0, 1, 0, 0] (bodyOf Try.f6)
noncomputable def c6 : Code := sub [1, 1, 1, 1, 1, 1, 1, 1, 1, 1, 1, 1, 1, 0, 1, 0, 0] (bodyOf Try.f6)
noncomputable def K21 : Kont := .seq c0 .ret
noncomputable def K23 : Kont := .blk 0 K21
noncomputable def K31 : Kont := .seq c1 .ret
noncomputable def K33 : Kont := .blk 2 K31
noncomputable def fin : ASt → R := Kret E Try.f6.results.toList ps rs
def tJ0 (a : List api_TypeV) (b : List api_TypeV) (op : Int) : ASt := ⟨[(2, .one (.val (.int .i64) op)), (1, .one (.val (.sl api_Type) b)), (0, .one (.val (.sl api_Type) a))], []⟩
def tJ1 (a : List api_TypeV) (b : List api_TypeV) (op : Int) (x_7 : List Int) (y : List Int) : ASt := ⟨[(9, .one (.own 9)), (7, .one (.own 7)), (2, .one (.val (.int .i64) op)), (1, .one (.val (.sl api_Type) b)), (0, .one (.val (.sl api_Type) a))], [(9, some ⟨.free, .int .i64, y⟩), (7, some ⟨.free, .int .i64, x_7⟩)]⟩
def tJ2 (a : List api_TypeV) (b : List api_TypeV) (x_7 : List Int) (y : List Int) (z : List Int) : ASt := ⟨[(12, .one (.own 12)), (9, .one (.own 9)), (7, .one (.own 7)), (1, .one (.val (.sl api_Type) b)), (0, .one (.val (.sl api_Type) a))], [(12, some ⟨.free, .int .i64, z⟩), (9, some ⟨.free, .int .i64, y⟩), (7, some ⟨.free, .int .i64, x_7⟩)]⟩
def tL3 (a : List api_TypeV) (b : List api_TypeV) (x_7 : List Int) (y : List Int) (z : List Int) (i : Int) : ASt := ⟨[(14, .one (.val (.int .i64) i)), (12, .one (.own 12)), (9, .one (.own 9)), (7, .one (.own 7)), (1, .one (.val (.sl api_Type) b)), (0, .one (.val (.sl api_Type) a))], [(12, some ⟨.free, .int .i64, z⟩), (9, some ⟨.free, .int .i64, y⟩), (7, some ⟨.free, .int .i64, x_7⟩)]⟩
def tL4 (a : List api_TypeV) (b : List api_TypeV) (y : List Int) (z : List Int) (i : Int) : ASt := ⟨[(15, .one (.val (.int .i64) i)), (12, .one (.own 12)), (9, .one (.own 9)), (1, .one (.val (.sl api_Type) b)), (0, .one (.val (.sl api_Type) a))], [(12, some ⟨.free, .int .i64, z⟩), (9, some ⟨.free, .int .i64, y⟩)]⟩
noncomputable def SJ0 (kJ1 : (List api_TypeV) → (List api_TypeV) → Int → (List Int) → (List Int) → R) (a : List api_TypeV) (b : List api_TypeV) (op : Int) : R :=
  Option.bind (expr_Starts a) fun x1 =>
  Option.bind (expr_Starts b) fun x2 =>
  cond (x1.2.1 != 0)
    (Option.bind law10_awake fun x3 =>
    some (x3.1, ()))
    (cond (x2.2.1 != 0)
      (Option.bind law10_awake fun x4 =>
      some (x4.1, ()))
      (kJ1 a b op x1.1 x2.1))
noncomputable def SJ1 (kJ2 : (List api_TypeV) → (List api_TypeV) → (List Int) → (List Int) → (List Int) → R) (a : List api_TypeV) (b : List api_TypeV) (op : Int) (x_7 : List Int) (y : List Int) : R :=
  cond (decide ((0 + a.length) * 16 ≤ room) && decide (0 < Ty.nc (.pair (.int .i64) (.pair (.int .i64) .unit))))
    (cond (decide ((a.length + b.length) * 16 ≤ room) && decide (0 < Ty.nc (.pair (.int .i64) (.pair (.int .i64) .unit))))
      (cond (decide (((a ++ b).length + 1) * 16 ≤ room) && decide (0 < Ty.nc (.pair (.int .i64) (.pair (.int .i64) .unit))))
        (Option.bind (expr_Starts ((a ++ b) ++ [(op, 0, ())])) fun x1 =>
        cond (x1.2.1 == 16)
          (Option.bind law10_awake fun x2 =>
          some (x2.1, ()))
          (cond (x1.2.1 != 0)
            (some (false, ()))
            (cond ((x1.1.length : Int) != (((a ++ b) ++ [(op, 0, ())]).length : Int))
              (some (false, ()))
              (cond ((x_7.length : Int) != (a.length : Int))
                (some (false, ()))
                (cond ((y.length : Int) != (b.length : Int))
                  (some (false, ()))
                  (cond (decide (0 ≤ IntKind.i64.wrap ((((a ++ b) ++ [(op, 0, ())]).length : Int) - 1)) && decide (IntKind.i64.wrap ((((a ++ b) ++ [(op, 0, ())]).length : Int) - 1) < (x1.1.length : Int)))
                    (cond ((x1.1.getD ((IntKind.i64.wrap ((((a ++ b) ++ [(op, 0, ())]).length : Int) - 1)).toNat) 0) != 0)
                      (some (false, ()))
                      (kJ2 a b x_7 y x1.1))
                    none))))))
        none)
      none)
    none
noncomputable def SJ2 (kL3 : (List api_TypeV) → (List api_TypeV) → (List Int) → (List Int) → (List Int) → Int → R) (a : List api_TypeV) (b : List api_TypeV) (x_7 : List Int) (y : List Int) (z : List Int) : R :=
  kL3 a b x_7 y z 0
noncomputable def SL3 (kL3 : (List api_TypeV) → (List api_TypeV) → (List Int) → (List Int) → (List Int) → Int → R) (kL4 : (List api_TypeV) → (List api_TypeV) → (List Int) → (List Int) → Int → R) (a : List api_TypeV) (b : List api_TypeV) (x_7 : List Int) (y : List Int) (z : List Int) (i : Int) : R :=
  cond (decide (i < (a.length : Int)))
    (cond (decide (0 ≤ i) && decide (i < (z.length : Int)))
      (cond (decide (0 ≤ i) && decide (i < (x_7.length : Int)))
        (cond ((z.getD i.toNat 0) != (x_7.getD i.toNat 0))
          (some (false, ()))
          (kL3 a b x_7 y z (IntKind.i64.wrap (i + 1))))
        none)
      none)
    (kL4 a b y z 0)
noncomputable def SL4 (kL4 : (List api_TypeV) → (List api_TypeV) → (List Int) → (List Int) → Int → R) (a : List api_TypeV) (b : List api_TypeV) (y : List Int) (z : List Int) (i : Int) : R :=
  cond (decide (i < (b.length : Int)))
    (cond (decide (0 ≤ IntKind.i64.wrap ((a.length : Int) + i)) && decide (IntKind.i64.wrap ((a.length : Int) + i) < (z.length : Int)))
      (cond (decide (0 ≤ i) && decide (i < (y.length : Int)))
        (cond ((z.getD ((IntKind.i64.wrap ((a.length : Int) + i)).toNat) 0) != (IntKind.i64.wrap ((a.length : Int) + (y.getD i.toNat 0))))
          (some (false, ()))
          (kL4 a b y z (IntKind.i64.wrap (i + 1))))
        none)
      none)
    (Option.bind law10_awake fun x1 =>
    some (x1.1, ()))
noncomputable def Se (kJ0 : (List api_TypeV) → (List api_TypeV) → Int → R) (a : List api_TypeV) (b : List api_TypeV) (op : Int) : R :=
  cond (decide ((a.length : Int) > 24))
    (Option.bind law10_awake fun x1 =>
    some (x1.1, ()))
    (cond (decide ((b.length : Int) > 23))
      (Option.bind law10_awake fun x2 =>
      some (x2.1, ()))
      (Option.bind (expr_Arity op) fun x3 =>
      cond (x3.1 != 2)
        (Option.bind law10_awake fun x4 =>
        some (x4.1, ()))
        (kJ0 a b op)))
theorem sJ0 (jmp : Tgt → ASt → R) (a : List api_TypeV) (b : List api_TypeV) (op : Int) : run E jmp fin depth c2 .ret (tJ0 a b op) =
    SJ0 (fun a b op x_7 y => jmp (.code c3 .ret) (tJ1 a b op x_7 y)) a b op := by kernel_rfl
theorem sJ1 (jmp : Tgt → ASt → R) (a : List api_TypeV) (b : List api_TypeV) (op : Int) (x_7 : List Int) (y : List Int) : run E jmp fin depth c3 .ret (tJ1 a b op x_7 y) =
    SJ1 (fun a b x_7 y z => jmp (.code c4 .ret) (tJ2 a b x_7 y z)) a b op x_7 y := by kernel_rfl
theorem sJ2 (jmp : Tgt → ASt → R) (a : List api_TypeV) (b : List api_TypeV) (x_7 : List Int) (y : List Int) (z : List Int) : run E jmp fin depth c4 .ret (tJ2 a b x_7 y z) =
    SJ2 (fun a b x_7 y z i => jmp (.loop c5 K23) (tL3 a b x_7 y z i)) a b x_7 y z := by kernel_rfl
theorem sL3 (jmp : Tgt → ASt → R) (a : List api_TypeV) (b : List api_TypeV) (x_7 : List Int) (y : List Int) (z : List Int) (i : Int) : run E jmp fin depth c5 (.loop c5 K23) (tL3 a b x_7 y z i) =
    SL3 (fun a b x_7 y z i => jmp (.loop c5 K23) (tL3 a b x_7 y z i)) (fun a b y z i => jmp (.loop c6 K33) (tL4 a b y z i)) a b x_7 y z i := by kernel_rfl
theorem sL4 (jmp : Tgt → ASt → R) (a : List api_TypeV) (b : List api_TypeV) (y : List Int) (z : List Int) (i : Int) : run E jmp fin depth c6 (.loop c6 K33) (tL4 a b y z i) =
    SL4 (fun a b y z i => jmp (.loop c6 K33) (tL4 a b y z i)) a b y z i := by kernel_rfl
theorem se (jmp : Tgt → ASt → R) (x : (argTy ps).den) : run E jmp fin depth (bodyOf Try.f6) .ret (entryFrom 0 ps x) =
    Se (fun a b op => jmp (.code c2 .ret) (tJ0 a b op)) x.1 x.2.1 x.2.2.1 := by kernel_rfl
noncomputable def J0 (a : List api_TypeV) (b : List api_TypeV) (op : Int) : R := lim E fin (.code c2 .ret) (tJ0 a b op)
noncomputable def J1 (a : List api_TypeV) (b : List api_TypeV) (op : Int) (x_7 : List Int) (y : List Int) : R := lim E fin (.code c3 .ret) (tJ1 a b op x_7 y)
noncomputable def J2 (a : List api_TypeV) (b : List api_TypeV) (x_7 : List Int) (y : List Int) (z : List Int) : R := lim E fin (.code c4 .ret) (tJ2 a b x_7 y z)
noncomputable def L3 (a : List api_TypeV) (b : List api_TypeV) (x_7 : List Int) (y : List Int) (z : List Int) (i : Int) : R := lim E fin (.loop c5 K23) (tL3 a b x_7 y z i)
noncomputable def L4 (a : List api_TypeV) (b : List api_TypeV) (y : List Int) (z : List Int) (i : Int) : R := lim E fin (.loop c6 K33) (tL4 a b y z i)
theorem J0_eq (a : List api_TypeV) (b : List api_TypeV) (op : Int) : J0 a b op = SJ0 J1 a b op :=
  (lim_eq (.code c2 .ret) (tJ0 a b op)).trans (sJ0 (lim E fin) a b op)
theorem J1_eq (a : List api_TypeV) (b : List api_TypeV) (op : Int) (x_7 : List Int) (y : List Int) : J1 a b op x_7 y = SJ1 J2 a b op x_7 y :=
  (lim_eq (.code c3 .ret) (tJ1 a b op x_7 y)).trans (sJ1 (lim E fin) a b op x_7 y)
theorem J2_eq (a : List api_TypeV) (b : List api_TypeV) (x_7 : List Int) (y : List Int) (z : List Int) : J2 a b x_7 y z = SJ2 L3 a b x_7 y z :=
  (lim_eq (.code c4 .ret) (tJ2 a b x_7 y z)).trans (sJ2 (lim E fin) a b x_7 y z)
theorem L3_eq (a : List api_TypeV) (b : List api_TypeV) (x_7 : List Int) (y : List Int) (z : List Int) (i : Int) : L3 a b x_7 y z i = SL3 L3 L4 a b x_7 y z i :=
  (lim_eq (.loop c5 K23) (tL3 a b x_7 y z i)).trans (sL3 (lim E fin) a b x_7 y z i)
theorem L4_eq (a : List api_TypeV) (b : List api_TypeV) (y : List Int) (z : List Int) (i : Int) : L4 a b y z i = SL4 L4 a b y z i :=
  (lim_eq (.loop c6 K33) (tL4 a b y z i)).trans (sL4 (lim E fin) a b y z i)
end law10_ExprStack
noncomputable def law10_ExprStack (a : List api_TypeV) (b : List api_TypeV) (op : Int) : law10_ExprStack.R :=
  law10_ExprStack.Se law10_ExprStack.J0 a b op
noncomputable def law10_ExprStack.sig : Sig := ⟨law10_ExprStack.ps, law10_ExprStack.rs, fun x => law10_ExprStack x.1 x.2.1 x.2.2.1⟩
theorem law10_ExprStack.ok : CallOK Try.prog 6 law10_ExprStack.sig :=
  callOK_of_lim (E := law10_ExprStack.E) mixed tt_ok (ctxOk_cons (ctxOk_cons (ctxOk_cons ctxOk_nil expr_Starts.ok Try.func9 (by kernel_rfl) (by kernel_rfl)) expr_Arity.ok Try.func11 (by kernel_rfl) (by kernel_rfl)) law10_awake.ok Try.func8 (by kernel_rfl) (by kernel_rfl)) Try.func6 (by kernel_rfl : Try.f6.body = some (bodyOf Try.f6)) Try.ntmps6 (of_decide_eq_true (by kernel_rfl)) (of_decide_eq_true (by kernel_rfl))
    fun x y h => ((lim_eq (.code (bodyOf Try.f6) .ret) (entryFrom 0 law10_ExprStack.ps x)).trans (law10_ExprStack.se (lim law10_ExprStack.E law10_ExprStack.fin) x)).trans h
theorem law10_ExprStack.val (x : (argTy law10_ExprStack.ps).den) : lim law10_ExprStack.E law10_ExprStack.fin (.code (bodyOf Try.f6) .ret) (entryFrom 0 law10_ExprStack.ps x) = law10_ExprStack.sig.run x :=
  (lim_eq (.code (bodyOf Try.f6) .ret) (entryFrom 0 law10_ExprStack.ps x)).trans (law10_ExprStack.se (lim law10_ExprStack.E law10_ExprStack.fin) x)
noncomputable def law10_ExprStack.ctxc (n : Nat) : List (Nat × Sig) := [(8, law10_awake.sigc n), (11, expr_Arity.sigc n), (9, expr_Starts.sigc n)]
noncomputable def law10_ExprStack.sigc (n : Nat) : Sig := ⟨law10_ExprStack.ps, law10_ExprStack.rs, fun x => runs (withCtx law10_ExprStack.E (law10_ExprStack.ctxc n)) law10_ExprStack.fin n (.code (bodyOf Try.f6) .ret) (entryFrom 0 law10_ExprStack.ps x)⟩
theorem law10_ExprStack.sigc_le (n : Nat) : ∀ x y, (law10_ExprStack.sigc n).run x = some y → law10_ExprStack.sig.run x = some y :=
  fun x y h => (law10_ExprStack.val x).symm.trans (runs_lim (E := law10_ExprStack.E) (c := law10_ExprStack.ctxc n) (ctxLe_cons (ctxLe_cons (ctxLe_cons ctxLe_nil (expr_Starts.sigc_le n)) (expr_Arity.sigc_le n)) (law10_awake.sigc_le n)) h)

end Go.Proofs.Ytbfckejaihblmaa
