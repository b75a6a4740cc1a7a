/- The functions of the program as typed Lean functions, with the proof that they are what the code computes. -/
import Derived.Test.YtmkkdjnojcmihaaCode2
set_option maxRecDepth 100000
set_option linter.unusedVariables false
namespace Go.Proofs.Ytmkkdjnojcmihaa
open Go Go.Lift

/-! ### guerdon/expr.at[guerdon/api.Type] -/
namespace expr_at_api_Type
abbrev ps : List PM := [.pure (.sl api_Type), .pure (.int .i64)]
abbrev rs : List RM := [.pure api_Type, .pure (.int .i64)]
abbrev R : Type := Option (api_TypeV × Int × Unit)
noncomputable def E : Env := { tt := tt, ctx := [], nt := 20, ann := [] }
noncomputable def fin : ASt → R := Kret E Try.f72.results.toList ps rs
noncomputable def Se (l : List api_TypeV) (i : Int) : R :=
  cond (decide (i < 0))
    (some ((0, 0, ()), 6, ()))
    (cond (decide (i ≥ (l.length : Int)))
      (some ((0, 0, ()), 6, ()))
      (Option.bind (idx l i) fun x1 =>
      some (x1, 0, ())))
theorem se (jmp : Tgt → ASt → R) (x : (argTy ps).den) : run E jmp fin depth (bodyOf Try.f72) .ret (entryFrom 0 ps x) =
    Se x.1 x.2.1 := by kernel_rfl
end expr_at_api_Type
noncomputable def expr_at_api_Type (l : List api_TypeV) (i : Int) : expr_at_api_Type.R :=
  expr_at_api_Type.Se l i
noncomputable def expr_at_api_Type.sig : Sig := ⟨expr_at_api_Type.ps, expr_at_api_Type.rs, fun x => expr_at_api_Type x.1 x.2.1⟩
theorem expr_at_api_Type.ok : CallOK Try.prog 72 expr_at_api_Type.sig :=
  callOK_of_lim (E := expr_at_api_Type.E) mixed tt_ok ctxOk_nil Try.func72 (by kernel_rfl : Try.f72.body = some (bodyOf Try.f72)) Try.ntmps72 (of_decide_eq_true (by kernel_rfl)) (of_decide_eq_true (by kernel_rfl))
    fun x y h => ((lim_eq (.code (bodyOf Try.f72) .ret) (entryFrom 0 expr_at_api_Type.ps x)).trans (expr_at_api_Type.se (lim expr_at_api_Type.E expr_at_api_Type.fin) x)).trans h
theorem expr_at_api_Type.val (x : (argTy expr_at_api_Type.ps).den) : lim expr_at_api_Type.E expr_at_api_Type.fin (.code (bodyOf Try.f72) .ret) (entryFrom 0 expr_at_api_Type.ps x) = expr_at_api_Type.sig.run x :=
  (lim_eq (.code (bodyOf Try.f72) .ret) (entryFrom 0 expr_at_api_Type.ps x)).trans (expr_at_api_Type.se (lim expr_at_api_Type.E expr_at_api_Type.fin) x)
noncomputable def expr_at_api_Type.ctxc (n : Nat) : List (Nat × Sig) := []
noncomputable def expr_at_api_Type.sigc (n : Nat) : Sig := ⟨expr_at_api_Type.ps, expr_at_api_Type.rs, fun x => runs (withCtx expr_at_api_Type.E (expr_at_api_Type.ctxc n)) expr_at_api_Type.fin n (.code (bodyOf Try.f72) .ret) (entryFrom 0 expr_at_api_Type.ps x)⟩
theorem expr_at_api_Type.sigc_le (n : Nat) : ∀ x y, (expr_at_api_Type.sigc n).run x = some y → expr_at_api_Type.sig.run x = some y :=
  fun x y h => (expr_at_api_Type.val x).symm.trans (runs_lim (E := expr_at_api_Type.E) (c := expr_at_api_Type.ctxc n) ctxLe_nil h)

/-! ### guerdon/expr.numeric -/
namespace expr_numeric
abbrev ps : List PM := [.pure (.int .i64)]
abbrev rs : List RM := [.pure .bool]
abbrev R : Type := Option (Bool × Unit)
noncomputable def E : Env := { tt := tt, ctx := [], nt := 13, ann := [] }
noncomputable def fin : ASt → R := Kret E Try.f76.results.toList ps rs
noncomputable def Se (kind : Int) : R :=
  cond (kind == 2)
    (some (true, ()))
    (cond (kind == 3)
      (some (true, ()))
      (some ((kind == 4), ())))
theorem se (jmp : Tgt → ASt → R) (x : (argTy ps).den) : run E jmp fin depth (bodyOf Try.f76) .ret (entryFrom 0 ps x) =
    Se x.1 := by kernel_rfl
end expr_numeric
noncomputable def expr_numeric (kind : Int) : expr_numeric.R :=
  expr_numeric.Se kind
noncomputable def expr_numeric.sig : Sig := ⟨expr_numeric.ps, expr_numeric.rs, fun x => expr_numeric x.1⟩
theorem expr_numeric.ok : CallOK Try.prog 76 expr_numeric.sig :=
  callOK_of_lim (E := expr_numeric.E) mixed tt_ok ctxOk_nil Try.func76 (by kernel_rfl : Try.f76.body = some (bodyOf Try.f76)) Try.ntmps76 (of_decide_eq_true (by kernel_rfl)) (of_decide_eq_true (by kernel_rfl))
    fun x y h => ((lim_eq (.code (bodyOf Try.f76) .ret) (entryFrom 0 expr_numeric.ps x)).trans (expr_numeric.se (lim expr_numeric.E expr_numeric.fin) x)).trans h
theorem expr_numeric.val (x : (argTy expr_numeric.ps).den) : lim expr_numeric.E expr_numeric.fin (.code (bodyOf Try.f76) .ret) (entryFrom 0 expr_numeric.ps x) = expr_numeric.sig.run x :=
  (lim_eq (.code (bodyOf Try.f76) .ret) (entryFrom 0 expr_numeric.ps x)).trans (expr_numeric.se (lim expr_numeric.E expr_numeric.fin) x)
noncomputable def expr_numeric.ctxc (n : Nat) : List (Nat × Sig) := []
noncomputable def expr_numeric.sigc (n : Nat) : Sig := ⟨expr_numeric.ps, expr_numeric.rs, fun x => runs (withCtx expr_numeric.E (expr_numeric.ctxc n)) expr_numeric.fin n (.code (bodyOf Try.f76) .ret) (entryFrom 0 expr_numeric.ps x)⟩
theorem expr_numeric.sigc_le (n : Nat) : ∀ x y, (expr_numeric.sigc n).run x = some y → expr_numeric.sig.run x = some y :=
  fun x y h => (expr_numeric.val x).symm.trans (runs_lim (E := expr_numeric.E) (c := expr_numeric.ctxc n) ctxLe_nil h)

/-! ### guerdon/expr.ordered -/
namespace expr_ordered
abbrev ps : List PM := [.pure (.int .i64)]
abbrev rs : List RM := [.pure .bool]
abbrev R : Type := Option (Bool × Unit)
noncomputable def E : Env := { tt := tt, ctx := [(76, expr_numeric.sig)], nt := 9, ann := [] }
noncomputable def fin : ASt → R := Kret E Try.f78.results.toList ps rs
noncomputable def Se (kind : Int) : R :=
  Option.bind (expr_numeric kind) fun x1 =>
  cond x1.1
    (some (true, ()))
    (some ((kind == 5), ()))
theorem se (jmp : Tgt → ASt → R) (x : (argTy ps).den) : run E jmp fin depth (bodyOf Try.f78) .ret (entryFrom 0 ps x) =
    Se x.1 := by kernel_rfl
end expr_ordered
noncomputable def expr_ordered (kind : Int) : expr_ordered.R :=
  expr_ordered.Se kind
noncomputable def expr_ordered.sig : Sig := ⟨expr_ordered.ps, expr_ordered.rs, fun x => expr_ordered x.1⟩
theorem expr_ordered.ok : CallOK Try.prog 78 expr_ordered.sig :=
  callOK_of_lim (E := expr_ordered.E) mixed tt_ok (ctxOk_cons ctxOk_nil expr_numeric.ok Try.func76 (by kernel_rfl) (by kernel_rfl)) Try.func78 (by kernel_rfl : Try.f78.body = some (bodyOf Try.f78)) Try.ntmps78 (of_decide_eq_true (by kernel_rfl)) (of_decide_eq_true (by kernel_rfl))
    fun x y h => ((lim_eq (.code (bodyOf Try.f78) .ret) (entryFrom 0 expr_ordered.ps x)).trans (expr_ordered.se (lim expr_ordered.E expr_ordered.fin) x)).trans h
theorem expr_ordered.val (x : (argTy expr_ordered.ps).den) : lim expr_ordered.E expr_ordered.fin (.code (bodyOf Try.f78) .ret) (entryFrom 0 expr_ordered.ps x) = expr_ordered.sig.run x :=
  (lim_eq (.code (bodyOf Try.f78) .ret) (entryFrom 0 expr_ordered.ps x)).trans (expr_ordered.se (lim expr_ordered.E expr_ordered.fin) x)
noncomputable def expr_ordered.ctxc (n : Nat) : List (Nat × Sig) := [(76, expr_numeric.sigc n)]
noncomputable def expr_ordered.sigc (n : Nat) : Sig := ⟨expr_ordered.ps, expr_ordered.rs, fun x => runs (withCtx expr_ordered.E (expr_ordered.ctxc n)) expr_ordered.fin n (.code (bodyOf Try.f78) .ret) (entryFrom 0 expr_ordered.ps x)⟩
theorem expr_ordered.sigc_le (n : Nat) : ∀ x y, (expr_ordered.sigc n).run x = some y → expr_ordered.sig.run x = some y :=
  fun x y h => (expr_ordered.val x).symm.trans (runs_lim (E := expr_ordered.E) (c := expr_ordered.ctxc n) (ctxLe_cons ctxLe_nil (expr_numeric.sigc_le n)) h)

/-! ### guerdon/expr.aggregate -/
namespace expr_aggregate
abbrev ps : List PM := [.pure (.int .i64), .pure (.int .i64)]
abbrev rs : List RM := [.pure .bool]
abbrev R : Type := Option (Bool × Unit)
noncomputable def E : Env := { tt := tt, ctx := [(78, expr_ordered.sig)], nt := 23, ann := [(6, [(1, .keep), (5, .keep), (14, .keep)])] }
noncomputable def c0 : Code := sub [1, 1] (bodyOf Try.f73)
noncomputable def c1 : Code := sub [1, 0, 1, 0, 1, 1, 1] (bodyOf Try.f73)
noncomputable def K2 : Kont := .seq c0 .ret
noncomputable def K4 : Kont := .blk 0 K2
noncomputable def fin : ASt → R := Kret E Try.f73.results.toList ps rs
def tJ0 (kind : Int) (v_5 : Int) (v_14 : Bool) : ASt := ⟨[(14, .one (.val .bool v_14)), (5, .one (.val (.int .i64) v_5)), (1, .one (.val (.int .i64) kind))], []⟩
noncomputable def SJ0 (kind : Int) (v_5 : Int) (v_14 : Bool) : R :=
  cond v_14
    (some ((kind == 1), ()))
    (cond (v_5 == 39)
      (Option.bind (expr_ordered kind) fun x1 =>
      some (x1.1, ()))
      (some (true, ())))
noncomputable def Se (kJ0 : Int → Int → Bool → R) (op : Int) (kind : Int) : R :=
  cond (op == 36)
    (cond (kind == 2)
      (some (true, ()))
      (some ((kind == 3), ())))
    (cond (op == 37)
      (kJ0 kind op (op == 37))
      (kJ0 kind op (op == 38)))
theorem sJ0 (jmp : Tgt → ASt → R) (kind : Int) (v_5 : Int) (v_14 : Bool) : run E jmp fin depth c1 K4 (tJ0 kind v_5 v_14) =
    SJ0 kind v_5 v_14 := by kernel_rfl
theorem se (jmp : Tgt → ASt → R) (x : (argTy ps).den) : run E jmp fin depth (bodyOf Try.f73) .ret (entryFrom 0 ps x) =
    Se (fun kind v_5 v_14 => jmp (.code c1 K4) (tJ0 kind v_5 v_14)) x.1 x.2.1 := by kernel_rfl
noncomputable def J0 (kind : Int) (v_5 : Int) (v_14 : Bool) : R := lim E fin (.code c1 K4) (tJ0 kind v_5 v_14)
theorem J0_eq (kind : Int) (v_5 : Int) (v_14 : Bool) : J0 kind v_5 v_14 = SJ0 kind v_5 v_14 :=
  (lim_eq (.code c1 K4) (tJ0 kind v_5 v_14)).trans (sJ0 (lim E fin) kind v_5 v_14)
end expr_aggregate
noncomputable def expr_aggregate (op : Int) (kind : Int) : expr_aggregate.R :=
  expr_aggregate.Se expr_aggregate.J0 op kind
noncomputable def expr_aggregate.sig : Sig := ⟨expr_aggregate.ps, expr_aggregate.rs, fun x => expr_aggregate x.1 x.2.1⟩
theorem expr_aggregate.ok : CallOK Try.prog 73 expr_aggregate.sig :=
  callOK_of_lim (E := expr_aggregate.E) mixed tt_ok (ctxOk_cons ctxOk_nil expr_ordered.ok Try.func78 (by kernel_rfl) (by kernel_rfl)) Try.func73 (by kernel_rfl : Try.f73.body = some (bodyOf Try.f73)) Try.ntmps73 (of_decide_eq_true (by kernel_rfl)) (of_decide_eq_true (by kernel_rfl))
    fun x y h => ((lim_eq (.code (bodyOf Try.f73) .ret) (entryFrom 0 expr_aggregate.ps x)).trans (expr_aggregate.se (lim expr_aggregate.E expr_aggregate.fin) x)).trans h
theorem expr_aggregate.val (x : (argTy expr_aggregate.ps).den) : lim expr_aggregate.E expr_aggregate.fin (.code (bodyOf Try.f73) .ret) (entryFrom 0 expr_aggregate.ps x) = expr_aggregate.sig.run x :=
  (lim_eq (.code (bodyOf Try.f73) .ret) (entryFrom 0 expr_aggregate.ps x)).trans (expr_aggregate.se (lim expr_aggregate.E expr_aggregate.fin) x)
noncomputable def expr_aggregate.ctxc (n : Nat) : List (Nat × Sig) := [(78, expr_ordered.sigc n)]
noncomputable def expr_aggregate.sigc (n : Nat) : Sig := ⟨expr_aggregate.ps, expr_aggregate.rs, fun x => runs (withCtx expr_aggregate.E (expr_aggregate.ctxc n)) expr_aggregate.fin n (.code (bodyOf Try.f73) .ret) (entryFrom 0 expr_aggregate.ps x)⟩
theorem expr_aggregate.sigc_le (n : Nat) : ∀ x y, (expr_aggregate.sigc n).run x = some y → expr_aggregate.sig.run x = some y :=
  fun x y h => (expr_aggregate.val x).symm.trans (runs_lim (E := expr_aggregate.E) (c := expr_aggregate.ctxc n) (ctxLe_cons ctxLe_nil (expr_ordered.sigc_le n)) h)

/-! ### guerdon/expr.leaf -/
namespace expr_leaf
abbrev ps : List PM := [.pure api_Type, .pure api_Signature]
abbrev rs : List RM := [.pure api_Type, .pure (.int .i64)]
abbrev R : Type := Option (api_TypeV × Int × Unit)
noncomputable def E : Env := { tt := tt, ctx := [(70, expr_at_api_Enum.sig), (71, expr_at_string.sig), (72, expr_at_api_Type.sig), (33, value_ValidType.sig), (73, expr_aggregate.sig)], nt := 109, ann := [(28, [(2, .keep), (3, .keep), (4, .keep), (6, .keep), (7, .keep)]), (9, [(2, .keep), (4, .keep), (6, .keep), (9, .keep)]), (23, [(2, .keep), (3, .keep), (4, .keep), (6, .keep), (68, .keep)])] }
noncomputable def c0 : Code := sub [1, 1, 1, 1] (bodyOf Try.f48)
noncomputable def c1 : Code := sub [1, 1, 1, 0, 1, 0, 1, 0, 1, 1] (bodyOf Try.f48)
noncomputable def c2 : Code := sub [1, 1, 1, 0, 1, 0, 1, 1, 1, 1, 1, 1, 1, 1, 1] (bodyOf Try.f48)
noncomputable def K4 : Kont := .seq c0 .ret
noncomputable def K6 : Kont := .blk 0 K4
noncomputable def fin : ASt → R := Kret E Try.f48.results.toList ps rs
def tJ0 (n_2 : api_TypeV) (s : api_SignatureV) (v_4 : api_TypeV) (t : api_TypeV) (e : Int) : ASt := ⟨[(7, .one (.val (.int .i64) e)), (6, .one (.optr 6 0 [])), (4, .one (.optr 4 0 [])), (3, .one (.optr 3 0 [])), (2, .one (.optr 2 0 []))], [(6, some ⟨.free, api_Type, [t]⟩), (4, some ⟨.free, api_Type, [v_4]⟩), (3, some ⟨.free, api_Signature, [s]⟩), (2, some ⟨.free, api_Type, [n_2]⟩)]⟩
def tJ1 (n_2 : api_TypeV) (v_4 : api_TypeV) (t : api_TypeV) (e : Int) : ASt := ⟨[(9, .one (.val (.int .i64) e)), (6, .one (.optr 6 0 [])), (4, .one (.optr 4 0 [])), (2, .one (.optr 2 0 []))], [(6, some ⟨.free, api_Type, [t]⟩), (4, some ⟨.free, api_Type, [v_4]⟩), (2, some ⟨.free, api_Type, [n_2]⟩)]⟩
def tJ2 (n_2 : api_TypeV) (s : api_SignatureV) (v_4 : api_TypeV) (t : api_TypeV) (v_68 : Bool) : ASt := ⟨[(68, .one (.val .bool v_68)), (6, .one (.optr 6 0 [])), (4, .one (.optr 4 0 [])), (3, .one (.optr 3 0 [])), (2, .one (.optr 2 0 []))], [(6, some ⟨.free, api_Type, [t]⟩), (4, some ⟨.free, api_Type, [v_4]⟩), (3, some ⟨.free, api_Signature, [s]⟩), (2, some ⟨.free, api_Type, [n_2]⟩)]⟩
noncomputable def SJ0 (n_2 : api_TypeV) (s : api_SignatureV) (v_4 : api_TypeV) (t : api_TypeV) (e : Int) : R :=
  cond (e != 0)
    (some ((0, 0, ()), e, ()))
    (Option.bind (value_ValidType t s.1) fun x1 =>
    cond (!x1.1)
      (some ((0, 0, ()), 8, ()))
      (Option.bind (expr_aggregate n_2.1 t.1) fun x2 =>
      cond (!x2.1)
        (some ((0, 0, ()), 8, ()))
        (some (t, 0, ()))))
noncomputable def SJ1 (n_2 : api_TypeV) (v_4 : api_TypeV) (t : api_TypeV) (e : Int) : R :=
  cond (e != 0)
    (some (t, e, ()))
    (some ((6, IntKind.i64.wrap (Int.tdiv n_2.2.1 16), ()), 0, ()))
noncomputable def SJ2 (kJ0 : api_TypeV → api_SignatureV → api_TypeV → api_TypeV → Int → R) (n_2 : api_TypeV) (s : api_SignatureV) (v_4 : api_TypeV) (t : api_TypeV) (v_68 : Bool) : R :=
  cond v_68
    (cond (!s.2.2.2.2.2.1)
      (some (t, 6, ()))
      (cond (n_2.1 == 35)
        (some ((2, 0, ()), 0, ()))
        (Option.bind (expr_at_api_Type s.2.2.2.2.1 n_2.2.1) fun x1 =>
        kJ0 n_2 s v_4 x1.1 x1.2.1)))
    (some ((n_2.1, 0, ()), 0, ()))
noncomputable def Se (kJ1 : api_TypeV → api_TypeV → api_TypeV → Int → R) (kJ0 : api_TypeV → api_SignatureV → api_TypeV → api_TypeV → Int → R) (kJ2 : api_TypeV → api_SignatureV → api_TypeV → api_TypeV → Bool → R) (n_0 : api_TypeV) (s : api_SignatureV) : R :=
  cond (n_0.1 == 6)
    (Option.bind (expr_at_api_Enum s.1 (IntKind.i64.wrap (Int.tdiv n_0.2.1 16))) fun x1 =>
    cond (x1.2.1 == 0)
      (Option.bind (expr_at_string x1.1.2.1 (Int.tmod n_0.2.1 16)) fun x2 =>
      kJ1 n_0 (0, 0, ()) (0, 0, ()) x2.2.1)
      (kJ1 n_0 (0, 0, ()) (0, 0, ()) x1.2.1))
    (cond (n_0.1 == 7)
      (Option.bind (expr_at_api_Type s.2.2.1 n_0.2.1) fun x3 =>
      kJ0 n_0 s (0, 0, ()) x3.1 x3.2.1)
      (cond (n_0.1 == 8)
        (Option.bind (expr_at_api_Type s.2.2.2.1 n_0.2.1) fun x4 =>
        kJ0 n_0 s (0, 0, ()) x4.1 x4.2.1)
        (cond (n_0.1 == 9)
          (some ((5, 0, ()), 0, ()))
          (cond (n_0.1 == 35)
            (kJ2 n_0 s (0, 0, ()) (0, 0, ()) (n_0.1 == 35))
            (cond (n_0.1 == 36)
              (kJ2 n_0 s (0, 0, ()) (0, 0, ()) (n_0.1 == 36))
              (cond (n_0.1 == 37)
                (kJ2 n_0 s (0, 0, ()) (0, 0, ()) (n_0.1 == 37))
                (cond (n_0.1 == 38)
                  (kJ2 n_0 s (0, 0, ()) (0, 0, ()) (n_0.1 == 38))
                  (kJ2 n_0 s (0, 0, ()) (0, 0, ()) (n_0.1 == 39)))))))))
theorem sJ0 (jmp : Tgt → ASt → R) (n_2 : api_TypeV) (s : api_SignatureV) (v_4 : api_TypeV) (t : api_TypeV) (e : Int) : run E jmp fin depth c0 .ret (tJ0 n_2 s v_4 t e) =
    SJ0 n_2 s v_4 t e := by kernel_rfl
theorem sJ1 (jmp : Tgt → ASt → R) (n_2 : api_TypeV) (v_4 : api_TypeV) (t : api_TypeV) (e : Int) : run E jmp fin depth c1 K6 (tJ1 n_2 v_4 t e) =
    SJ1 n_2 v_4 t e := by kernel_rfl
theorem sJ2 (jmp : Tgt → ASt → R) (n_2 : api_TypeV) (s : api_SignatureV) (v_4 : api_TypeV) (t : api_TypeV) (v_68 : Bool) : run E jmp fin depth c2 K6 (tJ2 n_2 s v_4 t v_68) =
    SJ2 (fun n_2 s v_4 t e => jmp (.code c0 .ret) (tJ0 n_2 s v_4 t e)) n_2 s v_4 t v_68 := by kernel_rfl
theorem se (jmp : Tgt → ASt → R) (x : (argTy ps).den) : run E jmp fin depth (bodyOf Try.f48) .ret (entryFrom 0 ps x) =
    Se (fun n_2 v_4 t e => jmp (.code c1 K6) (tJ1 n_2 v_4 t e)) (fun n_2 s v_4 t e => jmp (.code c0 .ret) (tJ0 n_2 s v_4 t e)) (fun n_2 s v_4 t v_68 => jmp (.code c2 K6) (tJ2 n_2 s v_4 t v_68)) x.1 x.2.1 := by kernel_rfl
noncomputable def J0 (n_2 : api_TypeV) (s : api_SignatureV) (v_4 : api_TypeV) (t : api_TypeV) (e : Int) : R := lim E fin (.code c0 .ret) (tJ0 n_2 s v_4 t e)
noncomputable def J1 (n_2 : api_TypeV) (v_4 : api_TypeV) (t : api_TypeV) (e : Int) : R := lim E fin (.code c1 K6) (tJ1 n_2 v_4 t e)
noncomputable def J2 (n_2 : api_TypeV) (s : api_SignatureV) (v_4 : api_TypeV) (t : api_TypeV) (v_68 : Bool) : R := lim E fin (.code c2 K6) (tJ2 n_2 s v_4 t v_68)
theorem J0_eq (n_2 : api_TypeV) (s : api_SignatureV) (v_4 : api_TypeV) (t : api_TypeV) (e : Int) : J0 n_2 s v_4 t e = SJ0 n_2 s v_4 t e :=
  (lim_eq (.code c0 .ret) (tJ0 n_2 s v_4 t e)).trans (sJ0 (lim E fin) n_2 s v_4 t e)
theorem J1_eq (n_2 : api_TypeV) (v_4 : api_TypeV) (t : api_TypeV) (e : Int) : J1 n_2 v_4 t e = SJ1 n_2 v_4 t e :=
  (lim_eq (.code c1 K6) (tJ1 n_2 v_4 t e)).trans (sJ1 (lim E fin) n_2 v_4 t e)
theorem J2_eq (n_2 : api_TypeV) (s : api_SignatureV) (v_4 : api_TypeV) (t : api_TypeV) (v_68 : Bool) : J2 n_2 s v_4 t v_68 = SJ2 J0 n_2 s v_4 t v_68 :=
  (lim_eq (.code c2 K6) (tJ2 n_2 s v_4 t v_68)).trans (sJ2 (lim E fin) n_2 s v_4 t v_68)
end expr_leaf
noncomputable def expr_leaf (n_0 : api_TypeV) (s : api_SignatureV) : expr_leaf.R :=
  expr_leaf.Se expr_leaf.J1 expr_leaf.J0 expr_leaf.J2 n_0 s
noncomputable def expr_leaf.sig : Sig := ⟨expr_leaf.ps, expr_leaf.rs, fun x => expr_leaf x.1 x.2.1⟩
theorem expr_leaf.ok : CallOK Try.prog 48 expr_leaf.sig :=
  callOK_of_lim (E := expr_leaf.E) mixed tt_ok (ctxOk_cons (ctxOk_cons (ctxOk_cons (ctxOk_cons (ctxOk_cons ctxOk_nil expr_aggregate.ok Try.func73 (by kernel_rfl) (by kernel_rfl)) value_ValidType.ok Try.func33 (by kernel_rfl) (by kernel_rfl)) expr_at_api_Type.ok Try.func72 (by kernel_rfl) (by kernel_rfl)) expr_at_string.ok Try.func71 (by kernel_rfl) (by kernel_rfl)) expr_at_api_Enum.ok Try.func70 (by kernel_rfl) (by kernel_rfl)) Try.func48 (by kernel_rfl : Try.f48.body = some (bodyOf Try.f48)) Try.ntmps48 (of_decide_eq_true (by kernel_rfl)) (of_decide_eq_true (by kernel_rfl))
    fun x y h => ((lim_eq (.code (bodyOf Try.f48) .ret) (entryFrom 0 expr_leaf.ps x)).trans (expr_leaf.se (lim expr_leaf.E expr_leaf.fin) x)).trans h
theorem expr_leaf.val (x : (argTy expr_leaf.ps).den) : lim expr_leaf.E expr_leaf.fin (.code (bodyOf Try.f48) .ret) (entryFrom 0 expr_leaf.ps x) = expr_leaf.sig.run x :=
  (lim_eq (.code (bodyOf Try.f48) .ret) (entryFrom 0 expr_leaf.ps x)).trans (expr_leaf.se (lim expr_leaf.E expr_leaf.fin) x)
noncomputable def expr_leaf.ctxc (n : Nat) : List (Nat × Sig) := [(70, expr_at_api_Enum.sigc n), (71, expr_at_string.sigc n), (72, expr_at_api_Type.sigc n), (33, value_ValidType.sigc n), (73, expr_aggregate.sigc n)]
noncomputable def expr_leaf.sigc (n : Nat) : Sig := ⟨expr_leaf.ps, expr_leaf.rs, fun x => runs (withCtx expr_leaf.E (expr_leaf.ctxc n)) expr_leaf.fin n (.code (bodyOf Try.f48) .ret) (entryFrom 0 expr_leaf.ps x)⟩
theorem expr_leaf.sigc_le (n : Nat) : ∀ x y, (expr_leaf.sigc n).run x = some y → expr_leaf.sig.run x = some y :=
  fun x y h => (expr_leaf.val x).symm.trans (runs_lim (E := expr_leaf.E) (c := expr_leaf.ctxc n) (ctxLe_cons (ctxLe_cons (ctxLe_cons (ctxLe_cons (ctxLe_cons ctxLe_nil (expr_aggregate.sigc_le n)) (value_ValidType.sigc_le n)) (expr_at_api_Type.sigc_le n)) (expr_at_string.sigc_le n)) (expr_at_api_Enum.sigc_le n)) h)

/-! ### guerdon/expr.at[guerdon/api.Table] -/
namespace expr_at_api_Table
abbrev ps : List PM := [.pure (.sl api_Table), .pure (.int .i64)]
abbrev rs : List RM := [.pure api_Table, .pure (.int .i64)]
abbrev R : Type := Option (api_TableV × Int × Unit)
noncomputable def E : Env := { tt := tt, ctx := [], nt := 20, ann := [] }
noncomputable def fin : ASt → R := Kret E Try.f74.results.toList ps rs
noncomputable def Se (l : List api_TableV) (i : Int) : R :=
  cond (decide (i < 0))
    (some (([], (0, 0, ()), (0, 0, ()), [], ()), 6, ()))
    (cond (decide (i ≥ (l.length : Int)))
      (some (([], (0, 0, ()), (0, 0, ()), [], ()), 6, ()))
      (Option.bind (idx l i) fun x1 =>
      some (x1, 0, ())))
theorem se (jmp : Tgt → ASt → R) (x : (argTy ps).den) : run E jmp fin depth (bodyOf Try.f74) .ret (entryFrom 0 ps x) =
    Se x.1 x.2.1 := by kernel_rfl
end expr_at_api_Table
noncomputable def expr_at_api_Table (l : List api_TableV) (i : Int) : expr_at_api_Table.R :=
  expr_at_api_Table.Se l i
noncomputable def expr_at_api_Table.sig : Sig := ⟨expr_at_api_Table.ps, expr_at_api_Table.rs, fun x => expr_at_api_Table x.1 x.2.1⟩
theorem expr_at_api_Table.ok : CallOK Try.prog 74 expr_at_api_Table.sig :=
  callOK_of_lim (E := expr_at_api_Table.E) mixed tt_ok ctxOk_nil Try.func74 (by kernel_rfl : Try.f74.body = some (bodyOf Try.f74)) Try.ntmps74 (of_decide_eq_true (by kernel_rfl)) (of_decide_eq_true (by kernel_rfl))
    fun x y h => ((lim_eq (.code (bodyOf Try.f74) .ret) (entryFrom 0 expr_at_api_Table.ps x)).trans (expr_at_api_Table.se (lim expr_at_api_Table.E expr_at_api_Table.fin) x)).trans h
theorem expr_at_api_Table.val (x : (argTy expr_at_api_Table.ps).den) : lim expr_at_api_Table.E expr_at_api_Table.fin (.code (bodyOf Try.f74) .ret) (entryFrom 0 expr_at_api_Table.ps x) = expr_at_api_Table.sig.run x :=
  (lim_eq (.code (bodyOf Try.f74) .ret) (entryFrom 0 expr_at_api_Table.ps x)).trans (expr_at_api_Table.se (lim expr_at_api_Table.E expr_at_api_Table.fin) x)
noncomputable def expr_at_api_Table.ctxc (n : Nat) : List (Nat × Sig) := []
noncomputable def expr_at_api_Table.sigc (n : Nat) : Sig := ⟨expr_at_api_Table.ps, expr_at_api_Table.rs, fun x => runs (withCtx expr_at_api_Table.E (expr_at_api_Table.ctxc n)) expr_at_api_Table.fin n (.code (bodyOf Try.f74) .ret) (entryFrom 0 expr_at_api_Table.ps x)⟩
theorem expr_at_api_Table.sigc_le (n : Nat) : ∀ x y, (expr_at_api_Table.sigc n).run x = some y → expr_at_api_Table.sig.run x = some y :=
  fun x y h => (expr_at_api_Table.val x).symm.trans (runs_lim (E := expr_at_api_Table.E) (c := expr_at_api_Table.ctxc n) ctxLe_nil h)

/-! ### guerdon/expr.table -/
namespace expr_table
abbrev ps : List PM := [.pure api_Type, .pure api_Signature]
abbrev rs : List RM := [.pure api_Table, .pure (.int .i64)]
abbrev R : Type := Option (api_TableV × Int × Unit)
noncomputable def E : Env := { tt := tt, ctx := [(74, expr_at_api_Table.sig)], nt := 24, ann := [] }
noncomputable def fin : ASt → R := Kret E Try.f49.results.toList ps rs
noncomputable def Se (n_0 : api_TypeV) (s : api_SignatureV) : R :=
  cond (n_0.1 == 34)
    (Option.bind (expr_at_api_Table s.2.1 (IntKind.i64.wrap (Int.tdiv n_0.2.1 8))) fun x1 =>
    some (x1.1, x1.2.1, ()))
    (Option.bind (expr_at_api_Table s.2.1 n_0.2.1) fun x2 =>
    some (x2.1, x2.2.1, ()))
theorem se (jmp : Tgt → ASt → R) (x : (argTy ps).den) : run E jmp fin depth (bodyOf Try.f49) .ret (entryFrom 0 ps x) =
    Se x.1 x.2.1 := by kernel_rfl
end expr_table
noncomputable def expr_table (n_0 : api_TypeV) (s : api_SignatureV) : expr_table.R :=
  expr_table.Se n_0 s
noncomputable def expr_table.sig : Sig := ⟨expr_table.ps, expr_table.rs, fun x => expr_table x.1 x.2.1⟩
theorem expr_table.ok : CallOK Try.prog 49 expr_table.sig :=
  callOK_of_lim (E := expr_table.E) mixed tt_ok (ctxOk_cons ctxOk_nil expr_at_api_Table.ok Try.func74 (by kernel_rfl) (by kernel_rfl)) Try.func49 (by kernel_rfl : Try.f49.body = some (bodyOf Try.f49)) Try.ntmps49 (of_decide_eq_true (by kernel_rfl)) (of_decide_eq_true (by kernel_rfl))
    fun x y h => ((lim_eq (.code (bodyOf Try.f49) .ret) (entryFrom 0 expr_table.ps x)).trans (expr_table.se (lim expr_table.E expr_table.fin) x)).trans h
theorem expr_table.val (x : (argTy expr_table.ps).den) : lim expr_table.E expr_table.fin (.code (bodyOf Try.f49) .ret) (entryFrom 0 expr_table.ps x) = expr_table.sig.run x :=
  (lim_eq (.code (bodyOf Try.f49) .ret) (entryFrom 0 expr_table.ps x)).trans (expr_table.se (lim expr_table.E expr_table.fin) x)
noncomputable def expr_table.ctxc (n : Nat) : List (Nat × Sig) := [(74, expr_at_api_Table.sigc n)]
noncomputable def expr_table.sigc (n : Nat) : Sig := ⟨expr_table.ps, expr_table.rs, fun x => runs (withCtx expr_table.E (expr_table.ctxc n)) expr_table.fin n (.code (bodyOf Try.f49) .ret) (entryFrom 0 expr_table.ps x)⟩
theorem expr_table.sigc_le (n : Nat) : ∀ x y, (expr_table.sigc n).run x = some y → expr_table.sig.run x = some y :=
  fun x y h => (expr_table.val x).symm.trans (runs_lim (E := expr_table.E) (c := expr_table.ctxc n) (ctxLe_cons ctxLe_nil (expr_at_api_Table.sigc_le n)) h)

/-! ### guerdon/expr.result$1 -/
namespace expr_result_1
abbrev ps : List PM := [.pure (.int .i64), .pure .bool]
abbrev rs : List RM := [.pure api_Type]
abbrev R : Type := Option (api_TypeV × Unit)
noncomputable def E : Env := { tt := tt, ctx := [], nt := 10, ann := [] }
noncomputable def fin : ASt → R := Kret E Try.f75.results.toList ps rs
noncomputable def Se (k : Int) (ok : Bool) : R :=
  cond (!ok)
    (some ((0, 0, ()), ()))
    (some ((k, 0, ()), ()))
theorem se (jmp : Tgt → ASt → R) (x : (argTy ps).den) : run E jmp fin depth (bodyOf Try.f75) .ret (entryFrom 0 ps x) =
    Se x.1 x.2.1 := by kernel_rfl
end expr_result_1
noncomputable def expr_result_1 (k : Int) (ok : Bool) : expr_result_1.R :=
  expr_result_1.Se k ok
noncomputable def expr_result_1.sig : Sig := ⟨expr_result_1.ps, expr_result_1.rs, fun x => expr_result_1 x.1 x.2.1⟩
theorem expr_result_1.ok : CallOK Try.prog 75 expr_result_1.sig :=
  callOK_of_lim (E := expr_result_1.E) mixed tt_ok ctxOk_nil Try.func75 (by kernel_rfl : Try.f75.body = some (bodyOf Try.f75)) Try.ntmps75 (of_decide_eq_true (by kernel_rfl)) (of_decide_eq_true (by kernel_rfl))
    fun x y h => ((lim_eq (.code (bodyOf Try.f75) .ret) (entryFrom 0 expr_result_1.ps x)).trans (expr_result_1.se (lim expr_result_1.E expr_result_1.fin) x)).trans h
theorem expr_result_1.val (x : (argTy expr_result_1.ps).den) : lim expr_result_1.E expr_result_1.fin (.code (bodyOf Try.f75) .ret) (entryFrom 0 expr_result_1.ps x) = expr_result_1.sig.run x :=
  (lim_eq (.code (bodyOf Try.f75) .ret) (entryFrom 0 expr_result_1.ps x)).trans (expr_result_1.se (lim expr_result_1.E expr_result_1.fin) x)
noncomputable def expr_result_1.ctxc (n : Nat) : List (Nat × Sig) := []
noncomputable def expr_result_1.sigc (n : Nat) : Sig := ⟨expr_result_1.ps, expr_result_1.rs, fun x => runs (withCtx expr_result_1.E (expr_result_1.ctxc n)) expr_result_1.fin n (.code (bodyOf Try.f75) .ret) (entryFrom 0 expr_result_1.ps x)⟩
theorem expr_result_1.sigc_le (n : Nat) : ∀ x y, (expr_result_1.sigc n).run x = some y → expr_result_1.sig.run x = some y :=
  fun x y h => (expr_result_1.val x).symm.trans (runs_lim (E := expr_result_1.E) (c := expr_result_1.ctxc n) ctxLe_nil h)

/-! ### guerdon/expr.arithmetic -/
namespace expr_arithmetic
abbrev ps : List PM := [.pure (.int .i64), .pure (.int .i64), .pure (.int .i64)]
abbrev rs : List RM := [.pure (.int .i64)]
abbrev R : Type := Option (Int × Unit)
noncomputable def E : Env := { tt := tt, ctx := [], nt := 77, ann := [(2, [(0, .keep), (1, .keep), (2, .keep), (7, .keep)]), (4, [(0, .keep), (1, .keep), (2, .keep), (23, .keep)]), (6, [(0, .keep), (1, .keep), (2, .keep), (39, .keep)]), (8, [(0, .keep), (1, .keep), (2, .keep), (55, .keep)])] }
noncomputable def c0 : Code := sub [1, 1] (bodyOf Try.f77)
noncomputable def c1 : Code := sub [1, 0, 0, 1] (bodyOf Try.f77)
noncomputable def c2 : Code := sub [1, 0, 0, 1, 1, 1] (bodyOf Try.f77)
noncomputable def c3 : Code := sub [1, 0, 0, 1, 1, 1, 1, 1] (bodyOf Try.f77)
noncomputable def c4 : Code := sub [1, 0, 0, 1, 1, 1, 1, 1, 1, 1] (bodyOf Try.f77)
noncomputable def K2 : Kont := .seq c0 .ret
noncomputable def K3 : Kont := .blk 0 K2
noncomputable def fin : ASt → R := Kret E Try.f77.results.toList ps rs
def tJ0 (op : Int) (a : Int) (b : Int) (v_7 : Bool) : ASt := ⟨[(7, .one (.val .bool v_7)), (2, .one (.val (.int .i64) b)), (1, .one (.val (.int .i64) a)), (0, .one (.val (.int .i64) op))], []⟩
def tJ1 (op : Int) (a : Int) (b : Int) (v_23 : Bool) : ASt := ⟨[(23, .one (.val .bool v_23)), (2, .one (.val (.int .i64) b)), (1, .one (.val (.int .i64) a)), (0, .one (.val (.int .i64) op))], []⟩
def tJ2 (op : Int) (a : Int) (b : Int) (v_39 : Bool) : ASt := ⟨[(39, .one (.val .bool v_39)), (2, .one (.val (.int .i64) b)), (1, .one (.val (.int .i64) a)), (0, .one (.val (.int .i64) op))], []⟩
def tJ3 (op : Int) (a : Int) (b : Int) (v_55 : Bool) : ASt := ⟨[(55, .one (.val .bool v_55)), (2, .one (.val (.int .i64) b)), (1, .one (.val (.int .i64) a)), (0, .one (.val (.int .i64) op))], []⟩
noncomputable def SJ0 (kJ1 : Int → Int → Int → Bool → R) (op : Int) (a : Int) (b : Int) (v_7 : Bool) : R :=
  cond v_7
    (some (a, ()))
    (cond (op == 14)
      (cond (b == 4)
        (cond (a == 3)
          (kJ1 op a b true)
          (kJ1 op a b (a == 4)))
        (kJ1 op a b false))
      (kJ1 op a b false))
noncomputable def SJ1 (kJ2 : Int → Int → Int → Bool → R) (op : Int) (a : Int) (b : Int) (v_23 : Bool) : R :=
  cond v_23
    (some (a, ()))
    (cond (op == 15)
      (cond (b == 2)
        (cond (a == 2)
          (kJ2 op a b true)
          (kJ2 op a b (a == 3)))
        (kJ2 op a b false))
      (kJ2 op a b false))
noncomputable def SJ2 (kJ3 : Int → Int → Int → Bool → R) (op : Int) (a : Int) (b : Int) (v_39 : Bool) : R :=
  cond v_39
    (some (a, ()))
    (cond (op == 15)
      (cond (a == 3)
        (kJ3 op a b (b == 3))
        (kJ3 op a b false))
      (kJ3 op a b false))
noncomputable def SJ3 (op : Int) (a : Int) (b : Int) (v_55 : Bool) : R :=
  cond v_55
    (some (4, ()))
    (cond (op == 16)
      (cond (a == 3)
        (cond (b == 3)
          (some (3, ()))
          (some (0, ())))
        (some (0, ())))
      (some (0, ())))
noncomputable def Se (kJ0 : Int → Int → Int → Bool → R) (op : Int) (a : Int) (b : Int) : R :=
  cond (op == 13)
    (cond (b == 2)
      (cond (a == 2)
        (kJ0 op a b true)
        (kJ0 op a b (a == 3)))
      (kJ0 op a b false))
    (kJ0 op a b false)
theorem sJ0 (jmp : Tgt → ASt → R) (op : Int) (a : Int) (b : Int) (v_7 : Bool) : run E jmp fin depth c1 K3 (tJ0 op a b v_7) =
    SJ0 (fun op a b v_23 => jmp (.code c2 K3) (tJ1 op a b v_23)) op a b v_7 := by kernel_rfl
theorem sJ1 (jmp : Tgt → ASt → R) (op : Int) (a : Int) (b : Int) (v_23 : Bool) : run E jmp fin depth c2 K3 (tJ1 op a b v_23) =
    SJ1 (fun op a b v_39 => jmp (.code c3 K3) (tJ2 op a b v_39)) op a b v_23 := by kernel_rfl
theorem sJ2 (jmp : Tgt → ASt → R) (op : Int) (a : Int) (b : Int) (v_39 : Bool) : run E jmp fin depth c3 K3 (tJ2 op a b v_39) =
    SJ2 (fun op a b v_55 => jmp (.code c4 K3) (tJ3 op a b v_55)) op a b v_39 := by kernel_rfl
theorem sJ3 (jmp : Tgt → ASt → R) (op : Int) (a : Int) (b : Int) (v_55 : Bool) : run E jmp fin depth c4 K3 (tJ3 op a b v_55) =
    SJ3 op a b v_55 := by kernel_rfl
theorem se (jmp : Tgt → ASt → R) (x : (argTy ps).den) : run E jmp fin depth (bodyOf Try.f77) .ret (entryFrom 0 ps x) =
    Se (fun op a b v_7 => jmp (.code c1 K3) (tJ0 op a b v_7)) x.1 x.2.1 x.2.2.1 := by kernel_rfl
noncomputable def J0 (op : Int) (a : Int) (b : Int) (v_7 : Bool) : R := lim E fin (.code c1 K3) (tJ0 op a b v_7)
noncomputable def J1 (op : Int) (a : Int) (b : Int) (v_23 : Bool) : R := lim E fin (.code c2 K3) (tJ1 op a b v_23)
noncomputable def J2 (op : Int) (a : Int) (b : Int) (v_39 : Bool) : R := lim E fin (.code c3 K3) (tJ2 op a b v_39)
noncomputable def J3 (op : Int) (a : Int) (b : Int) (v_55 : Bool) : R := lim E fin (.code c4 K3) (tJ3 op a b v_55)
theorem J0_eq (op : Int) (a : Int) (b : Int) (v_7 : Bool) : J0 op a b v_7 = SJ0 J1 op a b v_7 :=
  (lim_eq (.code c1 K3) (tJ0 op a b v_7)).trans (sJ0 (lim E fin) op a b v_7)
theorem J1_eq (op : Int) (a : Int) (b : Int) (v_23 : Bool) : J1 op a b v_23 = SJ1 J2 op a b v_23 :=
  (lim_eq (.code c2 K3) (tJ1 op a b v_23)).trans (sJ1 (lim E fin) op a b v_23)
theorem J2_eq (op : Int) (a : Int) (b : Int) (v_39 : Bool) : J2 op a b v_39 = SJ2 J3 op a b v_39 :=
  (lim_eq (.code c3 K3) (tJ2 op a b v_39)).trans (sJ2 (lim E fin) op a b v_39)
theorem J3_eq (op : Int) (a : Int) (b : Int) (v_55 : Bool) : J3 op a b v_55 = SJ3 op a b v_55 :=
  (lim_eq (.code c4 K3) (tJ3 op a b v_55)).trans (sJ3 (lim E fin) op a b v_55)
end expr_arithmetic
noncomputable def expr_arithmetic (op : Int) (a : Int) (b : Int) : expr_arithmetic.R :=
  expr_arithmetic.Se expr_arithmetic.J0 op a b
noncomputable def expr_arithmetic.sig : Sig := ⟨expr_arithmetic.ps, expr_arithmetic.rs, fun x => expr_arithmetic x.1 x.2.1 x.2.2.1⟩
theorem expr_arithmetic.ok : CallOK Try.prog 77 expr_arithmetic.sig :=
  callOK_of_lim (E := expr_arithmetic.E) mixed tt_ok ctxOk_nil Try.func77 (by kernel_rfl : Try.f77.body = some (bodyOf Try.f77)) Try.ntmps77 (of_decide_eq_true (by kernel_rfl)) (of_decide_eq_true (by kernel_rfl))
    fun x y h => ((lim_eq (.code (bodyOf Try.f77) .ret) (entryFrom 0 expr_arithmetic.ps x)).trans (expr_arithmetic.se (lim expr_arithmetic.E expr_arithmetic.fin) x)).trans h
theorem expr_arithmetic.val (x : (argTy expr_arithmetic.ps).den) : lim expr_arithmetic.E expr_arithmetic.fin (.code (bodyOf Try.f77) .ret) (entryFrom 0 expr_arithmetic.ps x) = expr_arithmetic.sig.run x :=
  (lim_eq (.code (bodyOf Try.f77) .ret) (entryFrom 0 expr_arithmetic.ps x)).trans (expr_arithmetic.se (lim expr_arithmetic.E expr_arithmetic.fin) x)
noncomputable def expr_arithmetic.ctxc (n : Nat) : List (Nat × Sig) := []
noncomputable def expr_arithmetic.sigc (n : Nat) : Sig := ⟨expr_arithmetic.ps, expr_arithmetic.rs, fun x => runs (withCtx expr_arithmetic.E (expr_arithmetic.ctxc n)) expr_arithmetic.fin n (.code (bodyOf Try.f77) .ret) (entryFrom 0 expr_arithmetic.ps x)⟩
theorem expr_arithmetic.sigc_le (n : Nat) : ∀ x y, (expr_arithmetic.sigc n).run x = some y → expr_arithmetic.sig.run x = some y :=
  fun x y h => (expr_arithmetic.val x).symm.trans (runs_lim (E := expr_arithmetic.E) (c := expr_arithmetic.ctxc n) ctxLe_nil h)

/-! ### guerdon/expr.result -/
namespace expr_result
abbrev ps : List PM := [.pure (.int .i64), .pure (.sl api_Type)]
abbrev rs : List RM := [.pure api_Type]
abbrev R : Type := Option (api_TypeV × Unit)
noncomputable def E : Env := { tt := tt, ctx := [(76, expr_numeric.sig), (75, expr_result_1.sig), (77, expr_arithmetic.sig), (78, expr_ordered.sig)], nt := 156, ann := [(6, [(0, .keep), (1, .keep), (4, .keep), (5, .keep), (6, .keep), (7, .keep)]), (11, [(0, .keep), (1, .keep), (4, .keep), (5, .keep), (6, .keep), (7, .keep), (17, .keep), (27, .keep)]), (16, [(0, .keep), (1, .keep), (4, .keep), (5, .keep), (6, .keep), (7, .keep), (17, .keep), (42, .keep)]), (19, [(1, .keep), (4, .keep), (5, .keep), (6, .keep), (7, .keep), (17, .keep), (55, .keep)]), (22, [(1, .keep), (4, .keep), (5, .keep), (6, .keep), (7, .keep), (17, .keep), (70, .keep)]), (25, [(1, .keep), (4, .keep), (5, .keep), (6, .keep), (7, .keep), (17, .keep), (78, .keep)]), (28, [(1, .keep), (4, .keep), (5, .keep), (6, .keep), (7, .keep), (17, .keep), (91, .keep)]), (37, [(4, .keep), (5, .keep), (6, .keep), (7, .keep), (17, .keep), (125, .keep)]), (40, [(4, .keep), (5, .keep), (6, .keep), (7, .keep), (138, .keep)])] }
noncomputable def c0 : Code := sub [1, 1, 1, 1, 1, 1] (bodyOf Try.f50)
noncomputable def c1 : Code := sub [1, 1, 1, 1, 1] (bodyOf Try.f50)
noncomputable def c2 : Code := sub [1, 1, 1, 1, 1, 0, 1, 0, 1, 1, 1] (bodyOf Try.f50)
noncomputable def c3 : Code := sub [1, 1, 1, 1, 1, 0, 1, 0, 1, 1, 1, 1, 1] (bodyOf Try.f50)
noncomputable def c4 : Code := sub [1, 1, 1, 1, 1, 0, 1, 0, 1, 1, 1, 1, 1, 1, 1] (bodyOf Try.f50)
noncomputable def c5 : Code := sub [1, 1, 1, 1, 1, 0, 1, 0, 1, 1, 1, 1, 1, 1, 1, 1, 1] (bodyOf Try.f50)
noncomputable def c6 : Code := sub [1, 1, 1, 1, 1, 0, 1, 0, 1, 1, 1, 1, 1, 1, 1, 1, 1, 1, 1] (bodyOf Try.f50)
noncomputable def c7 : Code := sub [1, 1, 1, 1, 1, 0, 1, 0, 1, 1, 1, 1, 1, 1, 1, 1, 1, 1, 1, 1, 1] (bodyOf Try.f50)
noncomputable def c8 : Code := sub [1, 1, 1, 1, 1, 0, 1, 0, 1, 1, 1, 1, 1, 1, 1, 1, 1, 1, 1, 1, 1, 1, 1, 1, 1, 1, 1] (bodyOf Try.f50)
noncomputable def c9 : Code := sub [1, 1, 1, 1, 1, 0, 1, 0, 1, 1, 1, 1, 1, 1, 1, 1, 1, 1, 1, 1, 1, 1, 1, 1, 1, 1, 1, 1, 1] (bodyOf Try.f50)
noncomputable def K7 : Kont := .seq c0 .ret
noncomputable def K9 : Kont := .blk 0 K7
noncomputable def fin : ASt → R := Kret E Try.f50.results.toList ps rs
def tJ0 (op : Int) (l : List api_TypeV) (v_4 : api_TypeV) (a : api_TypeV) (b : api_TypeV) : ASt := ⟨[(7, .one (.optr 7 0 [])), (6, .one (.optr 6 0 [])), (5, .one (.fn 75 [])), (4, .one (.optr 4 0 [])), (1, .one (.val (.sl api_Type) l)), (0, .one (.val (.int .i64) op))], [(7, some ⟨.free, api_Type, [b]⟩), (6, some ⟨.free, api_Type, [a]⟩), (4, some ⟨.free, api_Type, [v_4]⟩)]⟩
def tJ1 (op : Int) (l : List api_TypeV) (v_4 : api_TypeV) (a : api_TypeV) (b : api_TypeV) (v_17 : Int) (v_27 : Bool) : ASt := ⟨[(27, .one (.val .bool v_27)), (17, .one (.val (.int .i64) v_17)), (7, .one (.optr 7 0 [])), (6, .one (.optr 6 0 [])), (5, .one (.fn 75 [])), (4, .one (.optr 4 0 [])), (1, .one (.val (.sl api_Type) l)), (0, .one (.val (.int .i64) op))], [(7, some ⟨.free, api_Type, [b]⟩), (6, some ⟨.free, api_Type, [a]⟩), (4, some ⟨.free, api_Type, [v_4]⟩)]⟩
def tJ2 (op : Int) (l : List api_TypeV) (v_4 : api_TypeV) (a : api_TypeV) (b : api_TypeV) (v_17 : Int) (v_42 : Bool) : ASt := ⟨[(42, .one (.val .bool v_42)), (17, .one (.val (.int .i64) v_17)), (7, .one (.optr 7 0 [])), (6, .one (.optr 6 0 [])), (5, .one (.fn 75 [])), (4, .one (.optr 4 0 [])), (1, .one (.val (.sl api_Type) l)), (0, .one (.val (.int .i64) op))], [(7, some ⟨.free, api_Type, [b]⟩), (6, some ⟨.free, api_Type, [a]⟩), (4, some ⟨.free, api_Type, [v_4]⟩)]⟩
def tJ3 (l : List api_TypeV) (v_4 : api_TypeV) (a : api_TypeV) (b : api_TypeV) (v_17 : Int) (v_55 : Bool) : ASt := ⟨[(55, .one (.val .bool v_55)), (17, .one (.val (.int .i64) v_17)), (7, .one (.optr 7 0 [])), (6, .one (.optr 6 0 [])), (5, .one (.fn 75 [])), (4, .one (.optr 4 0 [])), (1, .one (.val (.sl api_Type) l))], [(7, some ⟨.free, api_Type, [b]⟩), (6, some ⟨.free, api_Type, [a]⟩), (4, some ⟨.free, api_Type, [v_4]⟩)]⟩
def tJ4 (l : List api_TypeV) (v_4 : api_TypeV) (a : api_TypeV) (b : api_TypeV) (v_17 : Int) (v_70 : Bool) : ASt := ⟨[(70, .one (.val .bool v_70)), (17, .one (.val (.int .i64) v_17)), (7, .one (.optr 7 0 [])), (6, .one (.optr 6 0 [])), (5, .one (.fn 75 [])), (4, .one (.optr 4 0 [])), (1, .one (.val (.sl api_Type) l))], [(7, some ⟨.free, api_Type, [b]⟩), (6, some ⟨.free, api_Type, [a]⟩), (4, some ⟨.free, api_Type, [v_4]⟩)]⟩
def tJ5 (l : List api_TypeV) (v_4 : api_TypeV) (a : api_TypeV) (b : api_TypeV) (v_17 : Int) (v_78 : Bool) : ASt := ⟨[(78, .one (.val .bool v_78)), (17, .one (.val (.int .i64) v_17)), (7, .one (.optr 7 0 [])), (6, .one (.optr 6 0 [])), (5, .one (.fn 75 [])), (4, .one (.optr 4 0 [])), (1, .one (.val (.sl api_Type) l))], [(7, some ⟨.free, api_Type, [b]⟩), (6, some ⟨.free, api_Type, [a]⟩), (4, some ⟨.free, api_Type, [v_4]⟩)]⟩
def tJ6 (l : List api_TypeV) (v_4 : api_TypeV) (a : api_TypeV) (b : api_TypeV) (v_17 : Int) (v_91 : Bool) : ASt := ⟨[(91, .one (.val .bool v_91)), (17, .one (.val (.int .i64) v_17)), (7, .one (.optr 7 0 [])), (6, .one (.optr 6 0 [])), (5, .one (.fn 75 [])), (4, .one (.optr 4 0 [])), (1, .one (.val (.sl api_Type) l))], [(7, some ⟨.free, api_Type, [b]⟩), (6, some ⟨.free, api_Type, [a]⟩), (4, some ⟨.free, api_Type, [v_4]⟩)]⟩
def tJ7 (v_4 : api_TypeV) (a : api_TypeV) (b : api_TypeV) (v_17 : Int) (v_125 : Bool) : ASt := ⟨[(125, .one (.val .bool v_125)), (17, .one (.val (.int .i64) v_17)), (7, .one (.optr 7 0 [])), (6, .one (.optr 6 0 [])), (5, .one (.fn 75 [])), (4, .one (.optr 4 0 []))], [(7, some ⟨.free, api_Type, [b]⟩), (6, some ⟨.free, api_Type, [a]⟩), (4, some ⟨.free, api_Type, [v_4]⟩)]⟩
def tJ8 (v_4 : api_TypeV) (a : api_TypeV) (b : api_TypeV) (v_138 : Bool) : ASt := ⟨[(138, .one (.val .bool v_138)), (7, .one (.optr 7 0 [])), (6, .one (.optr 6 0 [])), (5, .one (.fn 75 [])), (4, .one (.optr 4 0 []))], [(7, some ⟨.free, api_Type, [b]⟩), (6, some ⟨.free, api_Type, [a]⟩), (4, some ⟨.free, api_Type, [v_4]⟩)]⟩
noncomputable def SJ0 (kJ1 : Int → (List api_TypeV) → api_TypeV → api_TypeV → api_TypeV → Int → Bool → R) (op : Int) (l : List api_TypeV) (v_4 : api_TypeV) (a : api_TypeV) (b : api_TypeV) : R :=
  cond (op == 10)
    (Option.bind (expr_numeric a.1) fun x1 =>
    Option.bind (expr_result_1 a.1 x1.1) fun x2 =>
    some (x2.1, ()))
    (cond (op == 11)
      (kJ1 op l v_4 a b op (op == 11))
      (kJ1 op l v_4 a b op (op == 12)))
noncomputable def SJ1 (kJ2 : Int → (List api_TypeV) → api_TypeV → api_TypeV → api_TypeV → Int → Bool → R) (op : Int) (l : List api_TypeV) (v_4 : api_TypeV) (a : api_TypeV) (b : api_TypeV) (v_17 : Int) (v_27 : Bool) : R :=
  cond v_27
    (cond (eqTy (.pair (.int .i64) (.pair (.int .i64) .unit)) a b)
      (Option.bind (expr_numeric a.1) fun x1 =>
      Option.bind (expr_result_1 a.1 x1.1) fun x2 =>
      some (x2.1, ()))
      (Option.bind (expr_result_1 a.1 false) fun x3 =>
      some (x3.1, ())))
    (cond (v_17 == 13)
      (kJ2 op l v_4 a b v_17 (v_17 == 13))
      (cond (v_17 == 14)
        (kJ2 op l v_4 a b v_17 (v_17 == 14))
        (cond (v_17 == 15)
          (kJ2 op l v_4 a b v_17 (v_17 == 15))
          (kJ2 op l v_4 a b v_17 (v_17 == 16)))))
noncomputable def SJ2 (kJ3 : (List api_TypeV) → api_TypeV → api_TypeV → api_TypeV → Int → Bool → R) (op : Int) (l : List api_TypeV) (v_4 : api_TypeV) (a : api_TypeV) (b : api_TypeV) (v_17 : Int) (v_42 : Bool) : R :=
  cond v_42
    (Option.bind (expr_arithmetic op a.1 b.1) fun x1 =>
    Option.bind (expr_result_1 x1.1 true) fun x2 =>
    some (x2.1, ()))
    (cond (v_17 == 17)
      (kJ3 l v_4 a b v_17 (v_17 == 17))
      (kJ3 l v_4 a b v_17 (v_17 == 18)))
noncomputable def SJ3 (kJ4 : (List api_TypeV) → api_TypeV → api_TypeV → api_TypeV → Int → Bool → R) (l : List api_TypeV) (v_4 : api_TypeV) (a : api_TypeV) (b : api_TypeV) (v_17 : Int) (v_55 : Bool) : R :=
  cond v_55
    (cond (eqTy (.pair (.int .i64) (.pair (.int .i64) .unit)) a b)
      (Option.bind (expr_ordered a.1) fun x1 =>
      Option.bind (expr_result_1 a.1 x1.1) fun x2 =>
      some (x2.1, ()))
      (Option.bind (expr_result_1 a.1 false) fun x3 =>
      some (x3.1, ())))
    (cond (v_17 == 19)
      (kJ4 l v_4 a b v_17 (v_17 == 19))
      (kJ4 l v_4 a b v_17 (v_17 == 20)))
noncomputable def SJ4 (kJ5 : (List api_TypeV) → api_TypeV → api_TypeV → api_TypeV → Int → Bool → R) (l : List api_TypeV) (v_4 : api_TypeV) (a : api_TypeV) (b : api_TypeV) (v_17 : Int) (v_70 : Bool) : R :=
  cond v_70
    (Option.bind (expr_result_1 1 (eqTy (.pair (.int .i64) (.pair (.int .i64) .unit)) a b)) fun x1 =>
    some (x1.1, ()))
    (cond (v_17 == 21)
      (kJ5 l v_4 a b v_17 (v_17 == 21))
      (kJ5 l v_4 a b v_17 (v_17 == 22)))
noncomputable def SJ5 (kJ6 : (List api_TypeV) → api_TypeV → api_TypeV → api_TypeV → Int → Bool → R) (l : List api_TypeV) (v_4 : api_TypeV) (a : api_TypeV) (b : api_TypeV) (v_17 : Int) (v_78 : Bool) : R :=
  cond v_78
    (cond (eqTy (.pair (.int .i64) (.pair (.int .i64) .unit)) a b)
      (Option.bind (expr_ordered a.1) fun x1 =>
      Option.bind (expr_result_1 1 x1.1) fun x2 =>
      some (x2.1, ()))
      (Option.bind (expr_result_1 1 false) fun x3 =>
      some (x3.1, ())))
    (cond (v_17 == 23)
      (kJ6 l v_4 a b v_17 (v_17 == 23))
      (kJ6 l v_4 a b v_17 (v_17 == 24)))
noncomputable def SJ6 (kJ7 : api_TypeV → api_TypeV → api_TypeV → Int → Bool → R) (l : List api_TypeV) (v_4 : api_TypeV) (a : api_TypeV) (b : api_TypeV) (v_17 : Int) (v_91 : Bool) : R :=
  cond v_91
    (cond (a.1 == 1)
      (Option.bind (expr_result_1 1 (b.1 == 1)) fun x1 =>
      some (x1.1, ()))
      (Option.bind (expr_result_1 1 false) fun x2 =>
      some (x2.1, ())))
    (cond (v_17 == 25)
      (Option.bind (expr_result_1 1 (a.1 == 1)) fun x3 =>
      some (x3.1, ()))
      (cond (v_17 == 26)
        (cond (a.1 == 1)
          (Option.bind (idx l 2) fun x4 =>
          cond (eqTy (.pair (.int .i64) (.pair (.int .i64) .unit)) b x4)
            (some (b, ()))
            (some ((0, 0, ()), ())))
          (some ((0, 0, ()), ())))
        (cond (v_17 == 27)
          (kJ7 v_4 a b v_17 (v_17 == 27))
          (kJ7 v_4 a b v_17 (v_17 == 28)))))
noncomputable def SJ7 (kJ8 : api_TypeV → api_TypeV → api_TypeV → Bool → R) (v_4 : api_TypeV) (a : api_TypeV) (b : api_TypeV) (v_17 : Int) (v_125 : Bool) : R :=
  cond v_125
    (cond (a.1 == 5)
      (Option.bind (expr_result_1 5 (b.1 == 2)) fun x1 =>
      some (x1.1, ()))
      (Option.bind (expr_result_1 5 false) fun x2 =>
      some (x2.1, ())))
    (cond (v_17 == 29)
      (kJ8 v_4 a b (v_17 == 29))
      (kJ8 v_4 a b (v_17 == 30)))
noncomputable def SJ8 (v_4 : api_TypeV) (a : api_TypeV) (b : api_TypeV) (v_138 : Bool) : R :=
  cond v_138
    (cond (a.1 == 5)
      (Option.bind (expr_result_1 2 (b.1 == 5)) fun x1 =>
      some (x1.1, ()))
      (Option.bind (expr_result_1 2 false) fun x2 =>
      some (x2.1, ())))
    (Option.bind (expr_result_1 2 (a.1 == 5)) fun x3 =>
    some (x3.1, ()))
noncomputable def Se (kJ0 : Int → (List api_TypeV) → api_TypeV → api_TypeV → api_TypeV → R) (op : Int) (l : List api_TypeV) : R :=
  Option.bind (idx l 0) fun x1 =>
  cond (decide ((l.length : Int) > 1))
    (Option.bind (idx l 1) fun x2 =>
    kJ0 op l (0, 0, ()) x1 x2)
    (kJ0 op l (0, 0, ()) x1 (0, 0, ()))
theorem sJ0 (jmp : Tgt → ASt → R) (op : Int) (l : List api_TypeV) (v_4 : api_TypeV) (a : api_TypeV) (b : api_TypeV) : run E jmp fin depth c1 .ret (tJ0 op l v_4 a b) =
    SJ0 (fun op l v_4 a b v_17 v_27 => jmp (.code c2 K9) (tJ1 op l v_4 a b v_17 v_27)) op l v_4 a b := by kernel_rfl
theorem sJ1 (jmp : Tgt → ASt → R) (op : Int) (l : List api_TypeV) (v_4 : api_TypeV) (a : api_TypeV) (b : api_TypeV) (v_17 : Int) (v_27 : Bool) : run E jmp fin depth c2 K9 (tJ1 op l v_4 a b v_17 v_27) =
    SJ1 (fun op l v_4 a b v_17 v_42 => jmp (.code c3 K9) (tJ2 op l v_4 a b v_17 v_42)) op l v_4 a b v_17 v_27 := by kernel_rfl
theorem sJ2 (jmp : Tgt → ASt → R) (op : Int) (l : List api_TypeV) (v_4 : api_TypeV) (a : api_TypeV) (b : api_TypeV) (v_17 : Int) (v_42 : Bool) : run E jmp fin depth c3 K9 (tJ2 op l v_4 a b v_17 v_42) =
    SJ2 (fun l v_4 a b v_17 v_55 => jmp (.code c4 K9) (tJ3 l v_4 a b v_17 v_55)) op l v_4 a b v_17 v_42 := by kernel_rfl
theorem sJ3 (jmp : Tgt → ASt → R) (l : List api_TypeV) (v_4 : api_TypeV) (a : api_TypeV) (b : api_TypeV) (v_17 : Int) (v_55 : Bool) : run E jmp fin depth c4 K9 (tJ3 l v_4 a b v_17 v_55) =
    SJ3 (fun l v_4 a b v_17 v_70 => jmp (.code c5 K9) (tJ4 l v_4 a b v_17 v_70)) l v_4 a b v_17 v_55 := by kernel_rfl
theorem sJ4 (jmp : Tgt → ASt → R) (l : List api_TypeV) (v_4 : api_TypeV) (a : api_TypeV) (b : api_TypeV) (v_17 : Int) (v_70 : Bool) : run E jmp fin depth c5 K9 (tJ4 l v_4 a b v_17 v_70) =
    SJ4 (fun l v_4 a b v_17 v_78 => jmp (.code c6 K9) (tJ5 l v_4 a b v_17 v_78)) l v_4 a b v_17 v_70 := by kernel_rfl
theorem sJ5 (jmp : Tgt → ASt → R) (l : List api_TypeV) (v_4 : api_TypeV) (a : api_TypeV) (b : api_TypeV) (v_17 : Int) (v_78 : Bool) : run E jmp fin depth c6 K9 (tJ5 l v_4 a b v_17 v_78) =
    SJ5 (fun l v_4 a b v_17 v_91 => jmp (.code c7 K9) (tJ6 l v_4 a b v_17 v_91)) l v_4 a b v_17 v_78 := by kernel_rfl
theorem sJ6 (jmp : Tgt → ASt → R) (l : List api_TypeV) (v_4 : api_TypeV) (a : api_TypeV) (b : api_TypeV) (v_17 : Int) (v_91 : Bool) : run E jmp fin depth c7 K9 (tJ6 l v_4 a b v_17 v_91) =
    SJ6 (fun v_4 a b v_17 v_125 => jmp (.code c8 K9) (tJ7 v_4 a b v_17 v_125)) l v_4 a b v_17 v_91 := by kernel_rfl
theorem sJ7 (jmp : Tgt → ASt → R) (v_4 : api_TypeV) (a : api_TypeV) (b : api_TypeV) (v_17 : Int) (v_125 : Bool) : run E jmp fin depth c8 K9 (tJ7 v_4 a b v_17 v_125) =
    SJ7 (fun v_4 a b v_138 => jmp (.code c9 K9) (tJ8 v_4 a b v_138)) v_4 a b v_17 v_125 := by kernel_rfl
theorem sJ8 (jmp : Tgt → ASt → R) (v_4 : api_TypeV) (a : api_TypeV) (b : api_TypeV) (v_138 : Bool) : run E jmp fin depth c9 K9 (tJ8 v_4 a b v_138) =
    SJ8 v_4 a b v_138 := by kernel_rfl
theorem se (jmp : Tgt → ASt → R) (x : (argTy ps).den) : run E jmp fin depth (bodyOf Try.f50) .ret (entryFrom 0 ps x) =
    Se (fun op l v_4 a b => jmp (.code c1 .ret) (tJ0 op l v_4 a b)) x.1 x.2.1 := by kernel_rfl
noncomputable def J0 (op : Int) (l : List api_TypeV) (v_4 : api_TypeV) (a : api_TypeV) (b : api_TypeV) : R := lim E fin (.code c1 .ret) (tJ0 op l v_4 a b)
noncomputable def J1 (op : Int) (l : List api_TypeV) (v_4 : api_TypeV) (a : api_TypeV) (b : api_TypeV) (v_17 : Int) (v_27 : Bool) : R := lim E fin (.code c2 K9) (tJ1 op l v_4 a b v_17 v_27)
noncomputable def J2 (op : Int) (l : List api_TypeV) (v_4 : api_TypeV) (a : api_TypeV) (b : api_TypeV) (v_17 : Int) (v_42 : Bool) : R := lim E fin (.code c3 K9) (tJ2 op l v_4 a b v_17 v_42)
noncomputable def J3 (l : List api_TypeV) (v_4 : api_TypeV) (a : api_TypeV) (b : api_TypeV) (v_17 : Int) (v_55 : Bool) : R := lim E fin (.code c4 K9) (tJ3 l v_4 a b v_17 v_55)
noncomputable def J4 (l : List api_TypeV) (v_4 : api_TypeV) (a : api_TypeV) (b : api_TypeV) (v_17 : Int) (v_70 : Bool) : R := lim E fin (.code c5 K9) (tJ4 l v_4 a b v_17 v_70)
noncomputable def J5 (l : List api_TypeV) (v_4 : api_TypeV) (a : api_TypeV) (b : api_TypeV) (v_17 : Int) (v_78 : Bool) : R := lim E fin (.code c6 K9) (tJ5 l v_4 a b v_17 v_78)
noncomputable def J6 (l : List api_TypeV) (v_4 : api_TypeV) (a : api_TypeV) (b : api_TypeV) (v_17 : Int) (v_91 : Bool) : R := lim E fin (.code c7 K9) (tJ6 l v_4 a b v_17 v_91)
noncomputable def J7 (v_4 : api_TypeV) (a : api_TypeV) (b : api_TypeV) (v_17 : Int) (v_125 : Bool) : R := lim E fin (.code c8 K9) (tJ7 v_4 a b v_17 v_125)
noncomputable def J8 (v_4 : api_TypeV) (a : api_TypeV) (b : api_TypeV) (v_138 : Bool) : R := lim E fin (.code c9 K9) (tJ8 v_4 a b v_138)
theorem J0_eq (op : Int) (l : List api_TypeV) (v_4 : api_TypeV) (a : api_TypeV) (b : api_TypeV) : J0 op l v_4 a b = SJ0 J1 op l v_4 a b :=
  (lim_eq (.code c1 .ret) (tJ0 op l v_4 a b)).trans (sJ0 (lim E fin) op l v_4 a b)
theorem J1_eq (op : Int) (l : List api_TypeV) (v_4 : api_TypeV) (a : api_TypeV) (b : api_TypeV) (v_17 : Int) (v_27 : Bool) : J1 op l v_4 a b v_17 v_27 = SJ1 J2 op l v_4 a b v_17 v_27 :=
  (lim_eq (.code c2 K9) (tJ1 op l v_4 a b v_17 v_27)).trans (sJ1 (lim E fin) op l v_4 a b v_17 v_27)
theorem J2_eq (op : Int) (l : List api_TypeV) (v_4 : api_TypeV) (a : api_TypeV) (b : api_TypeV) (v_17 : Int) (v_42 : Bool) : J2 op l v_4 a b v_17 v_42 = SJ2 J3 op l v_4 a b v_17 v_42 :=
  (lim_eq (.code c3 K9) (tJ2 op l v_4 a b v_17 v_42)).trans (sJ2 (lim E fin) op l v_4 a b v_17 v_42)
theorem J3_eq (l : List api_TypeV) (v_4 : api_TypeV) (a : api_TypeV) (b : api_TypeV) (v_17 : Int) (v_55 : Bool) : J3 l v_4 a b v_17 v_55 = SJ3 J4 l v_4 a b v_17 v_55 :=
  (lim_eq (.code c4 K9) (tJ3 l v_4 a b v_17 v_55)).trans (sJ3 (lim E fin) l v_4 a b v_17 v_55)
theorem J4_eq (l : List api_TypeV) (v_4 : api_TypeV) (a : api_TypeV) (b : api_TypeV) (v_17 : Int) (v_70 : Bool) : J4 l v_4 a b v_17 v_70 = SJ4 J5 l v_4 a b v_17 v_70 :=
  (lim_eq (.code c5 K9) (tJ4 l v_4 a b v_17 v_70)).trans (sJ4 (lim E fin) l v_4 a b v_17 v_70)
theorem J5_eq (l : List api_TypeV) (v_4 : api_TypeV) (a : api_TypeV) (b : api_TypeV) (v_17 : Int) (v_78 : Bool) : J5 l v_4 a b v_17 v_78 = SJ5 J6 l v_4 a b v_17 v_78 :=
  (lim_eq (.code c6 K9) (tJ5 l v_4 a b v_17 v_78)).trans (sJ5 (lim E fin) l v_4 a b v_17 v_78)
theorem J6_eq (l : List api_TypeV) (v_4 : api_TypeV) (a : api_TypeV) (b : api_TypeV) (v_17 : Int) (v_91 : Bool) : J6 l v_4 a b v_17 v_91 = SJ6 J7 l v_4 a b v_17 v_91 :=
  (lim_eq (.code c7 K9) (tJ6 l v_4 a b v_17 v_91)).trans (sJ6 (lim E fin) l v_4 a b v_17 v_91)
theorem J7_eq (v_4 : api_TypeV) (a : api_TypeV) (b : api_TypeV) (v_17 : Int) (v_125 : Bool) : J7 v_4 a b v_17 v_125 = SJ7 J8 v_4 a b v_17 v_125 :=
  (lim_eq (.code c8 K9) (tJ7 v_4 a b v_17 v_125)).trans (sJ7 (lim E fin) v_4 a b v_17 v_125)
theorem J8_eq (v_4 : api_TypeV) (a : api_TypeV) (b : api_TypeV) (v_138 : Bool) : J8 v_4 a b v_138 = SJ8 v_4 a b v_138 :=
  (lim_eq (.code c9 K9) (tJ8 v_4 a b v_138)).trans (sJ8 (lim E fin) v_4 a b v_138)
end expr_result
noncomputable def expr_result (op : Int) (l : List api_TypeV) : expr_result.R :=
  expr_result.Se expr_result.J0 op l
noncomputable def expr_result.sig : Sig := ⟨expr_result.ps, expr_result.rs, fun x => expr_result x.1 x.2.1⟩
theorem expr_result.ok : CallOK Try.prog 50 expr_result.sig :=
  callOK_of_lim (E := expr_result.E) mixed tt_ok (ctxOk_cons (ctxOk_cons (ctxOk_cons (ctxOk_cons ctxOk_nil expr_ordered.ok Try.func78 (by kernel_rfl) (by kernel_rfl)) expr_arithmetic.ok Try.func77 (by kernel_rfl) (by kernel_rfl)) expr_result_1.ok Try.func75 (by kernel_rfl) (by kernel_rfl)) expr_numeric.ok Try.func76 (by kernel_rfl) (by kernel_rfl)) Try.func50 (by kernel_rfl : Try.f50.body = some (bodyOf Try.f50)) Try.ntmps50 (of_decide_eq_true (by kernel_rfl)) (of_decide_eq_true (by kernel_rfl))
    fun x y h => ((lim_eq (.code (bodyOf Try.f50) .ret) (entryFrom 0 expr_result.ps x)).trans (expr_result.se (lim expr_result.E expr_result.fin) x)).trans h
theorem expr_result.val (x : (argTy expr_result.ps).den) : lim expr_result.E expr_result.fin (.code (bodyOf Try.f50) .ret) (entryFrom 0 expr_result.ps x) = expr_result.sig.run x :=
  (lim_eq (.code (bodyOf Try.f50) .ret) (entryFrom 0 expr_result.ps x)).trans (expr_result.se (lim expr_result.E expr_result.fin) x)
noncomputable def expr_result.ctxc (n : Nat) : List (Nat × Sig) := [(76, expr_numeric.sigc n), (75, expr_result_1.sigc n), (77, expr_arithmetic.sigc n), (78, expr_ordered.sigc n)]
noncomputable def expr_result.sigc (n : Nat) : Sig := ⟨expr_result.ps, expr_result.rs, fun x => runs (withCtx expr_result.E (expr_result.ctxc n)) expr_result.fin n (.code (bodyOf Try.f50) .ret) (entryFrom 0 expr_result.ps x)⟩
theorem expr_result.sigc_le (n : Nat) : ∀ x y, (expr_result.sigc n).run x = some y → expr_result.sig.run x = some y :=
  fun x y h => (expr_result.val x).symm.trans (runs_lim (E := expr_result.E) (c := expr_result.ctxc n) (ctxLe_cons (ctxLe_cons (ctxLe_cons (ctxLe_cons ctxLe_nil (expr_ordered.sigc_le n)) (expr_arithmetic.sigc_le n)) (expr_result_1.sigc_le n)) (expr_numeric.sigc_le n)) h)

/-! ### guerdon/expr.typeOf -/
namespace expr_typeOf
abbrev ps : List PM := [.pure api_Type, .pure (.sl api_Type), .pure api_Signature]
abbrev rs : List RM := [.pure api_Type, .pure (.int .i64)]
abbrev R : Type := Option (api_TypeV × Int × Unit)
noncomputable def E : Env := { tt := tt, ctx := [(47, expr_number.sig), (48, expr_leaf.sig), (49, expr_table.sig), (33, value_ValidType.sig), (50, expr_result.sig)], nt := 93, ann := [(8, [(1, .keep), (3, .keep), (5, .keep), (6, .keep), (9, .keep), (33, .keep)]), (13, [(3, .keep), (6, .keep), (9, .keep), (10, .keep)])] }
noncomputable def c0 : Code := sub [1, 1, 1, 1, 1] (bodyOf Try.f38)
noncomputable def c1 : Code := sub [1, 1, 1, 1, 0, 1] (bodyOf Try.f38)
noncomputable def c2 : Code := sub [1, 1, 1, 1, 0, 1, 0, 1, 1, 1] (bodyOf Try.f38)
noncomputable def K10 : Kont := .seq c0 .ret
noncomputable def fin : ASt → R := Kret E Try.f38.results.toList ps rs
def tJ0 (l : List api_TypeV) (n_3 : api_TypeV) (s : api_SignatureV) (v_6 : api_TypeV) (t : api_TypeV) (v_33 : Bool) : ASt := ⟨[(33, .one (.val .bool v_33)), (9, .one (.optr 9 0 [])), (6, .one (.optr 6 0 [])), (5, .one (.optr 5 0 [])), (3, .one (.optr 3 0 [])), (1, .one (.val (.sl api_Type) l))], [(9, some ⟨.free, api_Type, [t]⟩), (6, some ⟨.free, api_Type, [v_6]⟩), (5, some ⟨.free, api_Signature, [s]⟩), (3, some ⟨.free, api_Type, [n_3]⟩)]⟩
def tJ1 (n_3 : api_TypeV) (v_6 : api_TypeV) (t : api_TypeV) (x_10 : api_TableV) : ASt := ⟨[(10, .one (.optr 10 0 [])), (9, .one (.optr 9 0 [])), (6, .one (.optr 6 0 [])), (3, .one (.optr 3 0 []))], [(10, some ⟨.free, api_Table, [x_10]⟩), (9, some ⟨.free, api_Type, [t]⟩), (6, some ⟨.free, api_Type, [v_6]⟩), (3, some ⟨.free, api_Type, [n_3]⟩)]⟩
noncomputable def SJ0 (kJ1 : api_TypeV → api_TypeV → api_TypeV → api_TableV → R) (l : List api_TypeV) (n_3 : api_TypeV) (s : api_SignatureV) (v_6 : api_TypeV) (t : api_TypeV) (v_33 : Bool) : R :=
  cond v_33
    (Option.bind (expr_table n_3 s) fun x1 =>
    cond (x1.2.1 != 0)
      (some (t, x1.2.1, ()))
      (Option.bind (value_ValidType x1.1.2.1 s.1) fun x2 =>
      cond (!x2.1)
        (some (t, 8, ()))
        (Option.bind (value_ValidType x1.1.2.2.1 s.1) fun x3 =>
        cond (!x3.1)
          (some (t, 8, ()))
          (Option.bind (idx l 0) fun x4 =>
          cond (!eqTy (.pair (.int .i64) (.pair (.int .i64) .unit)) x4 x1.1.2.1)
            (some (t, 8, ()))
            (kJ1 n_3 v_6 t x1.1)))))
    (Option.bind (expr_result n_3.1 l) fun x5 =>
    cond (x5.1.1 == 0)
      (some (x5.1, 8, ()))
      (some (x5.1, 0, ())))
noncomputable def SJ1 (n_3 : api_TypeV) (v_6 : api_TypeV) (t : api_TypeV) (x_10 : api_TableV) : R :=
  cond (n_3.1 == 33)
    (some (x_10.2.2.1, 0, ()))
    (cond (x_10.2.1.1 != 3)
      (some (t, 8, ()))
      (cond (x_10.2.2.1.1 != 4)
        (some (t, 8, ()))
        (some ((3, 0, ()), 0, ()))))
noncomputable def Se (kJ0 : (List api_TypeV) → api_TypeV → api_SignatureV → api_TypeV → api_TypeV → Bool → R) (n_0 : api_TypeV) (l : List api_TypeV) (s : api_SignatureV) : R :=
  Option.bind (expr_number n_0) fun x1 =>
  cond (x1.1 != 0)
    (some ((0, 0, ()), x1.1, ()))
    (cond ((l.length : Int) == 0)
      (Option.bind (expr_leaf n_0 s) fun x2 =>
      some (x2.1, x2.2.1, ()))
      (cond (n_0.1 == 33)
        (kJ0 l n_0 s (0, 0, ()) (0, 0, ()) true)
        (kJ0 l n_0 s (0, 0, ()) (0, 0, ()) (n_0.1 == 34))))
theorem sJ0 (jmp : Tgt → ASt → R) (l : List api_TypeV) (n_3 : api_TypeV) (s : api_SignatureV) (v_6 : api_TypeV) (t : api_TypeV) (v_33 : Bool) : run E jmp fin depth c1 K10 (tJ0 l n_3 s v_6 t v_33) =
    SJ0 (fun n_3 v_6 t x_10 => jmp (.code c2 K10) (tJ1 n_3 v_6 t x_10)) l n_3 s v_6 t v_33 := by kernel_rfl
theorem sJ1 (jmp : Tgt → ASt → R) (n_3 : api_TypeV) (v_6 : api_TypeV) (t : api_TypeV) (x_10 : api_TableV) : run E jmp fin depth c2 K10 (tJ1 n_3 v_6 t x_10) =
    SJ1 n_3 v_6 t x_10 := by kernel_rfl
theorem se (jmp : Tgt → ASt → R) (x : (argTy ps).den) : run E jmp fin depth (bodyOf Try.f38) .ret (entryFrom 0 ps x) =
    Se (fun l n_3 s v_6 t v_33 => jmp (.code c1 K10) (tJ0 l n_3 s v_6 t v_33)) x.1 x.2.1 x.2.2.1 := by kernel_rfl
noncomputable def J0 (l : List api_TypeV) (n_3 : api_TypeV) (s : api_SignatureV) (v_6 : api_TypeV) (t : api_TypeV) (v_33 : Bool) : R := lim E fin (.code c1 K10) (tJ0 l n_3 s v_6 t v_33)
noncomputable def J1 (n_3 : api_TypeV) (v_6 : api_TypeV) (t : api_TypeV) (x_10 : api_TableV) : R := lim E fin (.code c2 K10) (tJ1 n_3 v_6 t x_10)
theorem J0_eq (l : List api_TypeV) (n_3 : api_TypeV) (s : api_SignatureV) (v_6 : api_TypeV) (t : api_TypeV) (v_33 : Bool) : J0 l n_3 s v_6 t v_33 = SJ0 J1 l n_3 s v_6 t v_33 :=
  (lim_eq (.code c1 K10) (tJ0 l n_3 s v_6 t v_33)).trans (sJ0 (lim E fin) l n_3 s v_6 t v_33)
theorem J1_eq (n_3 : api_TypeV) (v_6 : api_TypeV) (t : api_TypeV) (x_10 : api_TableV) : J1 n_3 v_6 t x_10 = SJ1 n_3 v_6 t x_10 :=
  (lim_eq (.code c2 K10) (tJ1 n_3 v_6 t x_10)).trans (sJ1 (lim E fin) n_3 v_6 t x_10)
end expr_typeOf
noncomputable def expr_typeOf (n_0 : api_TypeV) (l : List api_TypeV) (s : api_SignatureV) : expr_typeOf.R :=
  expr_typeOf.Se expr_typeOf.J0 n_0 l s
noncomputable def expr_typeOf.sig : Sig := ⟨expr_typeOf.ps, expr_typeOf.rs, fun x => expr_typeOf x.1 x.2.1 x.2.2.1⟩
theorem expr_typeOf.ok : CallOK Try.prog 38 expr_typeOf.sig :=
  callOK_of_lim (E := expr_typeOf.E) mixed tt_ok (ctxOk_cons (ctxOk_cons (ctxOk_cons (ctxOk_cons (ctxOk_cons ctxOk_nil expr_result.ok Try.func50 (by kernel_rfl) (by kernel_rfl)) value_ValidType.ok Try.func33 (by kernel_rfl) (by kernel_rfl)) expr_table.ok Try.func49 (by kernel_rfl) (by kernel_rfl)) expr_leaf.ok Try.func48 (by kernel_rfl) (by kernel_rfl)) expr_number.ok Try.func47 (by kernel_rfl) (by kernel_rfl)) Try.func38 (by kernel_rfl : Try.f38.body = some (bodyOf Try.f38)) Try.ntmps38 (of_decide_eq_true (by kernel_rfl)) (of_decide_eq_true (by kernel_rfl))
    fun x y h => ((lim_eq (.code (bodyOf Try.f38) .ret) (entryFrom 0 expr_typeOf.ps x)).trans (expr_typeOf.se (lim expr_typeOf.E expr_typeOf.fin) x)).trans h
theorem expr_typeOf.val (x : (argTy expr_typeOf.ps).den) : lim expr_typeOf.E expr_typeOf.fin (.code (bodyOf Try.f38) .ret) (entryFrom 0 expr_typeOf.ps x) = expr_typeOf.sig.run x :=
  (lim_eq (.code (bodyOf Try.f38) .ret) (entryFrom 0 expr_typeOf.ps x)).trans (expr_typeOf.se (lim expr_typeOf.E expr_typeOf.fin) x)
noncomputable def expr_typeOf.ctxc (n : Nat) : List (Nat × Sig) := [(47, expr_number.sigc n), (48, expr_leaf.sigc n), (49, expr_table.sigc n), (33, value_ValidType.sigc n), (50, expr_result.sigc n)]
noncomputable def expr_typeOf.sigc (n : Nat) : Sig := ⟨expr_typeOf.ps, expr_typeOf.rs, fun x => runs (withCtx expr_typeOf.E (expr_typeOf.ctxc n)) expr_typeOf.fin n (.code (bodyOf Try.f38) .ret) (entryFrom 0 expr_typeOf.ps x)⟩
theorem expr_typeOf.sigc_le (n : Nat) : ∀ x y, (expr_typeOf.sigc n).run x = some y → expr_typeOf.sig.run x = some y :=
  fun x y h => (expr_typeOf.val x).symm.trans (runs_lim (E := expr_typeOf.E) (c := expr_typeOf.ctxc n) (ctxLe_cons (ctxLe_cons (ctxLe_cons (ctxLe_cons (ctxLe_cons ctxLe_nil (expr_result.sigc_le n)) (value_ValidType.sigc_le n)) (expr_table.sigc_le n)) (expr_leaf.sigc_le n)) (expr_number.sigc_le n)) h)

/-! ### guerdon/expr.TypeOf -/
namespace expr_TypeOf
abbrev ps : List PM := [.pure (.sl api_Type), .pure api_Signature]
abbrev rs : List RM := [.pure api_Type, .pure (.int .i64), .pure (.int .i64)]
abbrev R : Type := Option (api_TypeV × Int × Int × Unit)
noncomputable def E : Env := { tt := tt, ctx := [(36, expr_starts.sig), (37, expr_operands.sig), (38, expr_typeOf.sig)], nt := 79, ann := [(1000006, [(0, .keep), (3, .keep), (4, .keep), (7, .keep), (10, .keep), (32, .keep), (33, .keep), (34, .keep)]), (1000010, [(0, .keep), (3, .keep), (4, .keep), (7, .keep), (10, .keep), (11, .keep), (12, .keep), (13, .own api_Type), (32, .keep), (33, .keep), (34, .keep), (42, .keep), (43, .keep), (44, .keep)])] }
noncomputable def c0 : Code := sub [1, 1, 1, 1, 1] (bodyOf Try.f22)
noncomputable def c1 : Code := sub [1, 1, 1, 1, 0, 1, 0, 0] (bodyOf Try.f22)
noncomputable def c2 : Code := sub [1, 1, 1, 1, 0, 1, 0, 0, 1, 1, 1] (bodyOf Try.f22)
noncomputable def c3 : Code := sub [1, 1, 1, 1, 0, 1, 0, 0, 1, 1, 0, 0, 1, 1, 1] (bodyOf Try.f22)
noncomputable def c4 : Code := sub [1, 1, 1, 1, 0, 1, 0, 0, 1, 1, 0, 0, 1, 1, 0, 1, 0, 0] (bodyOf Try.f22)
noncomputable def K7 : Kont := .seq c0 .ret
noncomputable def K9 : Kont := .blk 0 K7
noncomputable def K10 : Kont := .loop c1 K9
noncomputable def K13 : Kont := .seq c2 K10
noncomputable def K14 : Kont := .blk 1 K13
noncomputable def K17 : Kont := .seq c3 K14
noncomputable def K19 : Kont := .blk 2 K17
noncomputable def fin : ASt → R := Kret E Try.f22.results.toList ps rs
def tL0 (e : List api_TypeV) (s : api_SignatureV) (v_4 : api_TypeV) (l : List Int) (types : List api_TypeV) (v_32 : List api_TypeV) (v_33 : Int) (v_34 : Int) : ASt := ⟨[(34, .one (.val (.int .i64) v_34)), (33, .one (.val (.int .i64) v_33)), (32, .one (.val (.sl api_Type) v_32)), (10, .one (.own 10)), (7, .one (.own 7)), (4, .one (.optr 4 0 [])), (3, .one (.optr 3 0 [])), (0, .one (.val (.sl api_Type) e))], [(10, some ⟨.free, api_Type, types⟩), (7, some ⟨.free, .int .i64, l⟩), (4, some ⟨.free, api_Type, [v_4]⟩), (3, some ⟨.free, api_Signature, [s]⟩)]⟩
def tL1 (e : List api_TypeV) (s : api_SignatureV) (v_4 : api_TypeV) (l : List Int) (types : List api_TypeV) (i : Int) (n_12 : api_TypeV) (args : List api_TypeV) (v_32 : List api_TypeV) (v_33 : Int) (v_34 : Int) (v_42 : List Int) (v_43 : Int) (v_44 : Int) : ASt := ⟨[(44, .one (.val (.int .i64) v_44)), (43, .one (.val (.int .i64) v_43)), (42, .one (.own 42)), (34, .one (.val (.int .i64) v_34)), (33, .one (.val (.int .i64) v_33)), (32, .one (.val (.sl api_Type) v_32)), (13, .one (.own 13)), (12, .one (.optr 12 0 [])), (11, .one (.val (.int .i64) i)), (10, .one (.own 10)), (7, .one (.own 7)), (4, .one (.optr 4 0 [])), (3, .one (.optr 3 0 [])), (0, .one (.val (.sl api_Type) e))], [(42, some ⟨.free, .int .i64, v_42⟩), (13, some ⟨.free, api_Type, args⟩), (12, some ⟨.free, api_Type, [n_12]⟩), (10, some ⟨.free, api_Type, types⟩), (7, some ⟨.free, .int .i64, l⟩), (4, some ⟨.free, api_Type, [v_4]⟩), (3, some ⟨.free, api_Signature, [s]⟩)]⟩
noncomputable def SL0 (kL1 : (List api_TypeV) → api_SignatureV → api_TypeV → (List Int) → (List api_TypeV) → Int → api_TypeV → (List api_TypeV) → (List api_TypeV) → Int → Int → (List Int) → Int → Int → R) (e : List api_TypeV) (s : api_SignatureV) (v_4 : api_TypeV) (l : List Int) (types : List api_TypeV) (v_32 : List api_TypeV) (v_33 : Int) (v_34 : Int) : R :=
  cond (decide (v_34 < v_33))
    (Option.bind (idx v_32 v_34) fun x1 =>
    Option.bind (expr_operands e l v_34) fun x2 =>
    kL1 e s v_4 l types v_34 x1 [] v_32 v_33 v_34 x2.1 (x2.1.length : Int) 0)
    (cond (decide (0 ≤ IntKind.i64.wrap ((e.length : Int) - 1)) && decide (IntKind.i64.wrap ((e.length : Int) - 1) < (types.length : Int)))
      (some ((types.getD ((IntKind.i64.wrap ((e.length : Int) - 1)).toNat) (0, 0, ())), 0, 0, ()))
      none)
noncomputable def SL1 (kL1 : (List api_TypeV) → api_SignatureV → api_TypeV → (List Int) → (List api_TypeV) → Int → api_TypeV → (List api_TypeV) → (List api_TypeV) → Int → Int → (List Int) → Int → Int → R) (kL0 : (List api_TypeV) → api_SignatureV → api_TypeV → (List Int) → (List api_TypeV) → (List api_TypeV) → Int → Int → R) (e : List api_TypeV) (s : api_SignatureV) (v_4 : api_TypeV) (l : List Int) (types : List api_TypeV) (i : Int) (n_12 : api_TypeV) (args : List api_TypeV) (v_32 : List api_TypeV) (v_33 : Int) (v_34 : Int) (v_42 : List Int) (v_43 : Int) (v_44 : Int) : R :=
  cond (decide (v_44 < v_43))
    (cond (decide (0 ≤ v_44) && decide (v_44 < (v_42.length : Int)))
      (cond (decide (0 ≤ (v_42.getD v_44.toNat 0)) && decide ((v_42.getD v_44.toNat 0) < (types.length : Int)))
        (cond (decide ((args.length + 1) * 16 ≤ room) && decide (0 < Ty.nc (.pair (.int .i64) (.pair (.int .i64) .unit))))
          (kL1 e s v_4 l types i n_12 (args ++ [(types.getD ((v_42.getD v_44.toNat 0).toNat) (0, 0, ()))]) v_32 v_33 v_34 v_42 v_43 (IntKind.i64.wrap (v_44 + 1)))
          none)
        none)
      none)
    (Option.bind (expr_typeOf n_12 args s) fun x1 =>
    cond (x1.2.1 != 0)
      (some ((0, 0, ()), i, x1.2.1, ()))
      (cond (decide (0 ≤ i) && decide (i < (types.length : Int)))
        (kL0 e s v_4 l (types.set i.toNat x1.1) v_32 v_33 (IntKind.i64.wrap (v_34 + 1)))
        none))
noncomputable def Se (kL0 : (List api_TypeV) → api_SignatureV → api_TypeV → (List Int) → (List api_TypeV) → (List api_TypeV) → Int → Int → R) (e : List api_TypeV) (s : api_SignatureV) : R :=
  Option.bind (expr_starts e) fun x1 =>
  cond (x1.2.2.1 != 0)
    (some ((0, 0, ()), x1.2.1, x1.2.2.1, ()))
    (cond (decide (0 ≤ ((e.length : Int) : Int)) && (decide (((e.length : Int) : Int) ≤ (e.length : Int)) && (decide (((e.length : Int) : Int) * 16 ≤ room) && (decide (((e.length : Int) : Int) ≤ maxLen) && decide (0 < Ty.nc (.pair (.int .i64) (.pair (.int .i64) .unit)))))))
      (kL0 e s (0, 0, ()) x1.1 (List.replicate e.length (0, 0, ())) e (e.length : Int) 0)
      none)
theorem sL0 (jmp : Tgt → ASt → R) (e : List api_TypeV) (s : api_SignatureV) (v_4 : api_TypeV) (l : List Int) (types : List api_TypeV) (v_32 : List api_TypeV) (v_33 : Int) (v_34 : Int) : run E jmp fin depth c1 (.loop c1 K9) (tL0 e s v_4 l types v_32 v_33 v_34) =
    SL0 (fun e s v_4 l types i n_12 args v_32 v_33 v_34 v_42 v_43 v_44 => jmp (.loop c4 K19) (tL1 e s v_4 l types i n_12 args v_32 v_33 v_34 v_42 v_43 v_44)) e s v_4 l types v_32 v_33 v_34 := by kernel_rfl
theorem sL1 (jmp : Tgt → ASt → R) (e : List api_TypeV) (s : api_SignatureV) (v_4 : api_TypeV) (l : List Int) (types : List api_TypeV) (i : Int) (n_12 : api_TypeV) (args : List api_TypeV) (v_32 : List api_TypeV) (v_33 : Int) (v_34 : Int) (v_42 : List Int) (v_43 : Int) (v_44 : Int) : run E jmp fin depth c4 (.loop c4 K19) (tL1 e s v_4 l types i n_12 args v_32 v_33 v_34 v_42 v_43 v_44) =
    SL1 (fun e s v_4 l types i n_12 args v_32 v_33 v_34 v_42 v_43 v_44 => jmp (.loop c4 K19) (tL1 e s v_4 l types i n_12 args v_32 v_33 v_34 v_42 v_43 v_44)) (fun e s v_4 l types v_32 v_33 v_34 => jmp (.loop c1 K9) (tL0 e s v_4 l types v_32 v_33 v_34)) e s v_4 l types i n_12 args v_32 v_33 v_34 v_42 v_43 v_44 := by kernel_rfl
theorem se (jmp : Tgt → ASt → R) (x : (argTy ps).den) : run E jmp fin depth (bodyOf Try.f22) .ret (entryFrom 0 ps x) =
    Se (fun e s v_4 l types v_32 v_33 v_34 => jmp (.loop c1 K9) (tL0 e s v_4 l types v_32 v_33 v_34)) x.1 x.2.1 := by kernel_rfl
noncomputable def L0 (e : List api_TypeV) (s : api_SignatureV) (v_4 : api_TypeV) (l : List Int) (types : List api_TypeV) (v_32 : List api_TypeV) (v_33 : Int) (v_34 : Int) : R := lim E fin (.loop c1 K9) (tL0 e s v_4 l types v_32 v_33 v_34)
noncomputable def L1 (e : List api_TypeV) (s : api_SignatureV) (v_4 : api_TypeV) (l : List Int) (types : List api_TypeV) (i : Int) (n_12 : api_TypeV) (args : List api_TypeV) (v_32 : List api_TypeV) (v_33 : Int) (v_34 : Int) (v_42 : List Int) (v_43 : Int) (v_44 : Int) : R := lim E fin (.loop c4 K19) (tL1 e s v_4 l types i n_12 args v_32 v_33 v_34 v_42 v_43 v_44)
theorem L0_eq (e : List api_TypeV) (s : api_SignatureV) (v_4 : api_TypeV) (l : List Int) (types : List api_TypeV) (v_32 : List api_TypeV) (v_33 : Int) (v_34 : Int) : L0 e s v_4 l types v_32 v_33 v_34 = SL0 L1 e s v_4 l types v_32 v_33 v_34 :=
  (lim_eq (.loop c1 K9) (tL0 e s v_4 l types v_32 v_33 v_34)).trans (sL0 (lim E fin) e s v_4 l types v_32 v_33 v_34)
theorem L1_eq (e : List api_TypeV) (s : api_SignatureV) (v_4 : api_TypeV) (l : List Int) (types : List api_TypeV) (i : Int) (n_12 : api_TypeV) (args : List api_TypeV) (v_32 : List api_TypeV) (v_33 : Int) (v_34 : Int) (v_42 : List Int) (v_43 : Int) (v_44 : Int) : L1 e s v_4 l types i n_12 args v_32 v_33 v_34 v_42 v_43 v_44 = SL1 L1 L0 e s v_4 l types i n_12 args v_32 v_33 v_34 v_42 v_43 v_44 :=
  (lim_eq (.loop c4 K19) (tL1 e s v_4 l types i n_12 args v_32 v_33 v_34 v_42 v_43 v_44)).trans (sL1 (lim E fin) e s v_4 l types i n_12 args v_32 v_33 v_34 v_42 v_43 v_44)
end expr_TypeOf
noncomputable def expr_TypeOf (e : List api_TypeV) (s : api_SignatureV) : expr_TypeOf.R :=
  expr_TypeOf.Se expr_TypeOf.L0 e s
noncomputable def expr_TypeOf.sig : Sig := ⟨expr_TypeOf.ps, expr_TypeOf.rs, fun x => expr_TypeOf x.1 x.2.1⟩
theorem expr_TypeOf.ok : CallOK Try.prog 22 expr_TypeOf.sig :=
  callOK_of_lim (E := expr_TypeOf.E) mixed tt_ok (ctxOk_cons (ctxOk_cons (ctxOk_cons ctxOk_nil expr_typeOf.ok Try.func38 (by kernel_rfl) (by kernel_rfl)) expr_operands.ok Try.func37 (by kernel_rfl) (by kernel_rfl)) expr_starts.ok Try.func36 (by kernel_rfl) (by kernel_rfl)) Try.func22 (by kernel_rfl : Try.f22.body = some (bodyOf Try.f22)) Try.ntmps22 (of_decide_eq_true (by kernel_rfl)) (of_decide_eq_true (by kernel_rfl))
    fun x y h => ((lim_eq (.code (bodyOf Try.f22) .ret) (entryFrom 0 expr_TypeOf.ps x)).trans (expr_TypeOf.se (lim expr_TypeOf.E expr_TypeOf.fin) x)).trans h
theorem expr_TypeOf.val (x : (argTy expr_TypeOf.ps).den) : lim expr_TypeOf.E expr_TypeOf.fin (.code (bodyOf Try.f22) .ret) (entryFrom 0 expr_TypeOf.ps x) = expr_TypeOf.sig.run x :=
  (lim_eq (.code (bodyOf Try.f22) .ret) (entryFrom 0 expr_TypeOf.ps x)).trans (expr_TypeOf.se (lim expr_TypeOf.E expr_TypeOf.fin) x)
noncomputable def expr_TypeOf.ctxc (n : Nat) : List (Nat × Sig) := [(36, expr_starts.sigc n), (37, expr_operands.sigc n), (38, expr_typeOf.sigc n)]
noncomputable def expr_TypeOf.sigc (n : Nat) : Sig := ⟨expr_TypeOf.ps, expr_TypeOf.rs, fun x => runs (withCtx expr_TypeOf.E (expr_TypeOf.ctxc n)) expr_TypeOf.fin n (.code (bodyOf Try.f22) .ret) (entryFrom 0 expr_TypeOf.ps x)⟩
theorem expr_TypeOf.sigc_le (n : Nat) : ∀ x y, (expr_TypeOf.sigc n).run x = some y → expr_TypeOf.sig.run x = some y :=
  fun x y h => (expr_TypeOf.val x).symm.trans (runs_lim (E := expr_TypeOf.E) (c := expr_TypeOf.ctxc n) (ctxLe_cons (ctxLe_cons (ctxLe_cons ctxLe_nil (expr_typeOf.sigc_le n)) (expr_operands.sigc_le n)) (expr_starts.sigc_le n)) h)

/-! ### guerdon/cells.IsFlat -/
namespace cells_IsFlat
abbrev ps : List PM := [.pure (.sl api_Type), .pure api_Signature]
abbrev rs : List RM := [.pure .bool]
abbrev R : Type := Option (Bool × Unit)
noncomputable def E : Env := { tt := tt, ctx := [(22, expr_TypeOf.sig), (24, cells_comparison.sig), (25, cells_simple.sig), (23, cells_literal.sig)], nt := 67, ann := [(4, [(0, .keep)]), (1000005, [(0, .keep), (27, .keep), (28, .keep), (29, .keep)])] }
noncomputable def c0 : Code := sub [1, 1, 1, 1] (bodyOf Try.f10)
noncomputable def c1 : Code := sub [1, 1, 1] (bodyOf Try.f10)
noncomputable def c2 : Code := sub [1, 1, 1, 0, 1, 0, 0] (bodyOf Try.f10)
noncomputable def K6 : Kont := .seq c0 .ret
noncomputable def K8 : Kont := .blk 0 K6
noncomputable def fin : ASt → R := Kret E Try.f10.results.toList ps rs
def tJ0 (e : List api_TypeV) : ASt := ⟨[(0, .one (.val (.sl api_Type) e))], []⟩
def tL1 (e : List api_TypeV) (v_27 : List api_TypeV) (v_28 : Int) (v_29 : Int) : ASt := ⟨[(29, .one (.val (.int .i64) v_29)), (28, .one (.val (.int .i64) v_28)), (27, .one (.val (.sl api_Type) v_27)), (0, .one (.val (.sl api_Type) e))], []⟩
noncomputable def SJ0 (kL1 : (List api_TypeV) → (List api_TypeV) → Int → Int → R) (e : List api_TypeV) : R :=
  kL1 e e (e.length : Int) 0
noncomputable def SL1 (kL1 : (List api_TypeV) → (List api_TypeV) → Int → Int → R) (e : List api_TypeV) (v_27 : List api_TypeV) (v_28 : Int) (v_29 : Int) : R :=
  cond (decide (v_29 < v_28))
    (Option.bind (idx v_27 v_29) fun x1 =>
    cond (x1.1 == 1)
      (cond (x1.1 == 1)
        (kL1 e v_27 v_28 (IntKind.i64.wrap (v_29 + 1)))
        (Option.bind (cells_comparison x1.1) fun x2 =>
        cond x2.1
          (Option.bind (cells_simple e v_29) fun x3 =>
          cond (!x3.2.2.1)
            (some (false, ()))
            (kL1 e v_27 v_28 (IntKind.i64.wrap (v_29 + 1))))
          (some (false, ()))))
      (cond (x1.1 == 23)
        (cond (x1.1 == 23)
          (kL1 e v_27 v_28 (IntKind.i64.wrap (v_29 + 1)))
          (Option.bind (cells_comparison x1.1) fun x4 =>
          cond x4.1
            (Option.bind (cells_simple e v_29) fun x5 =>
            cond (!x5.2.2.1)
              (some (false, ()))
              (kL1 e v_27 v_28 (IntKind.i64.wrap (v_29 + 1))))
            (some (false, ()))))
        (cond (x1.1 == 24)
          (cond (x1.1 == 24)
            (kL1 e v_27 v_28 (IntKind.i64.wrap (v_29 + 1)))
            (Option.bind (cells_comparison x1.1) fun x6 =>
            cond x6.1
              (Option.bind (cells_simple e v_29) fun x7 =>
              cond (!x7.2.2.1)
                (some (false, ()))
                (kL1 e v_27 v_28 (IntKind.i64.wrap (v_29 + 1))))
              (some (false, ()))))
          (cond (x1.1 == 25)
            (cond (x1.1 == 25)
              (kL1 e v_27 v_28 (IntKind.i64.wrap (v_29 + 1)))
              (Option.bind (cells_comparison x1.1) fun x8 =>
              cond x8.1
                (Option.bind (cells_simple e v_29) fun x9 =>
                cond (!x9.2.2.1)
                  (some (false, ()))
                  (kL1 e v_27 v_28 (IntKind.i64.wrap (v_29 + 1))))
                (some (false, ()))))
            (cond (x1.1 == 7)
              (cond (x1.1 == 7)
                (kL1 e v_27 v_28 (IntKind.i64.wrap (v_29 + 1)))
                (Option.bind (cells_comparison x1.1) fun x10 =>
                cond x10.1
                  (Option.bind (cells_simple e v_29) fun x11 =>
                  cond (!x11.2.2.1)
                    (some (false, ()))
                    (kL1 e v_27 v_28 (IntKind.i64.wrap (v_29 + 1))))
                  (some (false, ()))))
              (Option.bind (cells_literal x1.1) fun x12 =>
              cond x12.1
                (kL1 e v_27 v_28 (IntKind.i64.wrap (v_29 + 1)))
                (Option.bind (cells_comparison x1.1) fun x13 =>
                cond x13.1
                  (Option.bind (cells_simple e v_29) fun x14 =>
                  cond (!x14.2.2.1)
                    (some (false, ()))
                    (kL1 e v_27 v_28 (IntKind.i64.wrap (v_29 + 1))))
                  (some (false, ())))))))))
    (some (true, ()))
noncomputable def Se (kJ0 : (List api_TypeV) → R) (e : List api_TypeV) (s : api_SignatureV) : R :=
  Option.bind (expr_TypeOf e s) fun x1 =>
  cond (x1.2.2.1 != 0)
    (some (false, ()))
    (cond (x1.1.1 != 1)
      (some (false, ()))
      (kJ0 e))
theorem sJ0 (jmp : Tgt → ASt → R) (e : List api_TypeV) : run E jmp fin depth c1 .ret (tJ0 e) =
    SJ0 (fun e v_27 v_28 v_29 => jmp (.loop c2 K8) (tL1 e v_27 v_28 v_29)) e := by kernel_rfl
theorem sL1 (jmp : Tgt → ASt → R) (e : List api_TypeV) (v_27 : List api_TypeV) (v_28 : Int) (v_29 : Int) : run E jmp fin depth c2 (.loop c2 K8) (tL1 e v_27 v_28 v_29) =
    SL1 (fun e v_27 v_28 v_29 => jmp (.loop c2 K8) (tL1 e v_27 v_28 v_29)) e v_27 v_28 v_29 := by kernel_rfl
theorem se (jmp : Tgt → ASt → R) (x : (argTy ps).den) : run E jmp fin depth (bodyOf Try.f10) .ret (entryFrom 0 ps x) =
    Se (fun e => jmp (.code c1 .ret) (tJ0 e)) x.1 x.2.1 := by kernel_rfl
noncomputable def J0 (e : List api_TypeV) : R := lim E fin (.code c1 .ret) (tJ0 e)
noncomputable def L1 (e : List api_TypeV) (v_27 : List api_TypeV) (v_28 : Int) (v_29 : Int) : R := lim E fin (.loop c2 K8) (tL1 e v_27 v_28 v_29)
theorem J0_eq (e : List api_TypeV) : J0 e = SJ0 L1 e :=
  (lim_eq (.code c1 .ret) (tJ0 e)).trans (sJ0 (lim E fin) e)
theorem L1_eq (e : List api_TypeV) (v_27 : List api_TypeV) (v_28 : Int) (v_29 : Int) : L1 e v_27 v_28 v_29 = SL1 L1 e v_27 v_28 v_29 :=
  (lim_eq (.loop c2 K8) (tL1 e v_27 v_28 v_29)).trans (sL1 (lim E fin) e v_27 v_28 v_29)
end cells_IsFlat
noncomputable def cells_IsFlat (e : List api_TypeV) (s : api_SignatureV) : cells_IsFlat.R :=
  cells_IsFlat.Se cells_IsFlat.J0 e s
noncomputable def cells_IsFlat.sig : Sig := ⟨cells_IsFlat.ps, cells_IsFlat.rs, fun x => cells_IsFlat x.1 x.2.1⟩
theorem cells_IsFlat.ok : CallOK Try.prog 10 cells_IsFlat.sig :=
  callOK_of_lim (E := cells_IsFlat.E) mixed tt_ok (ctxOk_cons (ctxOk_cons (ctxOk_cons (ctxOk_cons ctxOk_nil cells_literal.ok Try.func23 (by kernel_rfl) (by kernel_rfl)) cells_simple.ok Try.func25 (by kernel_rfl) (by kernel_rfl)) cells_comparison.ok Try.func24 (by kernel_rfl) (by kernel_rfl)) expr_TypeOf.ok Try.func22 (by kernel_rfl) (by kernel_rfl)) Try.func10 (by kernel_rfl : Try.f10.body = some (bodyOf Try.f10)) Try.ntmps10 (of_decide_eq_true (by kernel_rfl)) (of_decide_eq_true (by kernel_rfl))
    fun x y h => ((lim_eq (.code (bodyOf Try.f10) .ret) (entryFrom 0 cells_IsFlat.ps x)).trans (cells_IsFlat.se (lim cells_IsFlat.E cells_IsFlat.fin) x)).trans h
theorem cells_IsFlat.val (x : (argTy cells_IsFlat.ps).den) : lim cells_IsFlat.E cells_IsFlat.fin (.code (bodyOf Try.f10) .ret) (entryFrom 0 cells_IsFlat.ps x) = cells_IsFlat.sig.run x :=
  (lim_eq (.code (bodyOf Try.f10) .ret) (entryFrom 0 cells_IsFlat.ps x)).trans (cells_IsFlat.se (lim cells_IsFlat.E cells_IsFlat.fin) x)
noncomputable def cells_IsFlat.ctxc (n : Nat) : List (Nat × Sig) := [(22, expr_TypeOf.sigc n), (24, cells_comparison.sigc n), (25, cells_simple.sigc n), (23, cells_literal.sigc n)]
noncomputable def cells_IsFlat.sigc (n : Nat) : Sig := ⟨cells_IsFlat.ps, cells_IsFlat.rs, fun x => runs (withCtx cells_IsFlat.E (cells_IsFlat.ctxc n)) cells_IsFlat.fin n (.code (bodyOf Try.f10) .ret) (entryFrom 0 cells_IsFlat.ps x)⟩
theorem cells_IsFlat.sigc_le (n : Nat) : ∀ x y, (cells_IsFlat.sigc n).run x = some y → cells_IsFlat.sig.run x = some y :=
  fun x y h => (cells_IsFlat.val x).symm.trans (runs_lim (E := cells_IsFlat.E) (c := cells_IsFlat.ctxc n) (ctxLe_cons (ctxLe_cons (ctxLe_cons (ctxLe_cons ctxLe_nil (cells_literal.sigc_le n)) (cells_simple.sigc_le n)) (cells_comparison.sigc_le n)) (expr_TypeOf.sigc_le n)) h)

/-! ### guerdon/guerdonsame.Ints -/
namespace same_Ints
abbrev ps : List PM := [.pure (.sl (.int .i64)), .pure (.sl (.int .i64))]
abbrev rs : List RM := [.pure .bool]
abbrev R : Type := Option (Bool × Unit)
noncomputable def E : Env := { tt := tt, ctx := [], nt := 32, ann := [(1000004, [(0, .keep), (1, .keep), (5, .keep)]), (6, [(0, .keep), (1, .keep), (5, .keep)])] }
noncomputable def c0 : Code := sub [1, 1, 1] (bodyOf Try.f12)
noncomputable def c1 : Code := sub [1, 1, 0, 1, 0, 0] (bodyOf Try.f12)
noncomputable def c2 : Code := sub [1, 1, 0, 1, 0, 0, 1] (bodyOf Try.f12)
noncomputable def K5 : Kont := .seq c0 .ret
noncomputable def K7 : Kont := .blk 0 K5
noncomputable def K8 : Kont := .loop c1 K7
noncomputable def fin : ASt → R := Kret E Try.f12.results.toList ps rs
def tL0 (a : List Int) (b : List Int) (i : Int) : ASt := ⟨[(5, .one (.val (.int .i64) i)), (1, .one (.val (.sl (.int .i64)) b)), (0, .one (.val (.sl (.int .i64)) a))], []⟩
def tJ1 (a : List Int) (b : List Int) (i : Int) : ASt := ⟨[(5, .one (.val (.int .i64) i)), (1, .one (.val (.sl (.int .i64)) b)), (0, .one (.val (.sl (.int .i64)) a))], []⟩
noncomputable def SL0 (kJ1 : (List Int) → (List Int) → Int → R) (a : List Int) (b : List Int) (i : Int) : R :=
  cond (decide (i < (a.length : Int)))
    (cond (decide (i < (b.length : Int)))
      (kJ1 a b i)
      (some (true, ())))
    (some (true, ()))
noncomputable def SJ1 (kL0 : (List Int) → (List Int) → Int → R) (a : List Int) (b : List Int) (i : Int) : R :=
  Option.bind (idx a i) fun x1 =>
  Option.bind (idx b i) fun x2 =>
  cond (x1 != x2)
    (some (false, ()))
    (kL0 a b (IntKind.i64.wrap (i + 1)))
noncomputable def Se (kL0 : (List Int) → (List Int) → Int → R) (a : List Int) (b : List Int) : R :=
  cond ((a.length : Int) != (b.length : Int))
    (some (false, ()))
    (kL0 a b 0)
theorem sL0 (jmp : Tgt → ASt → R) (a : List Int) (b : List Int) (i : Int) : run E jmp fin depth c1 (.loop c1 K7) (tL0 a b i) =
    SL0 (fun a b i => jmp (.code c2 K8) (tJ1 a b i)) a b i := by kernel_rfl
theorem sJ1 (jmp : Tgt → ASt → R) (a : List Int) (b : List Int) (i : Int) : run E jmp fin depth c2 K8 (tJ1 a b i) =
    SJ1 (fun a b i => jmp (.loop c1 K7) (tL0 a b i)) a b i := by kernel_rfl
theorem se (jmp : Tgt → ASt → R) (x : (argTy ps).den) : run E jmp fin depth (bodyOf Try.f12) .ret (entryFrom 0 ps x) =
    Se (fun a b i => jmp (.loop c1 K7) (tL0 a b i)) x.1 x.2.1 := by kernel_rfl
noncomputable def L0 (a : List Int) (b : List Int) (i : Int) : R := lim E fin (.loop c1 K7) (tL0 a b i)
noncomputable def J1 (a : List Int) (b : List Int) (i : Int) : R := lim E fin (.code c2 K8) (tJ1 a b i)
theorem L0_eq (a : List Int) (b : List Int) (i : Int) : L0 a b i = SL0 J1 a b i :=
  (lim_eq (.loop c1 K7) (tL0 a b i)).trans (sL0 (lim E fin) a b i)
theorem J1_eq (a : List Int) (b : List Int) (i : Int) : J1 a b i = SJ1 L0 a b i :=
  (lim_eq (.code c2 K8) (tJ1 a b i)).trans (sJ1 (lim E fin) a b i)
end same_Ints
noncomputable def same_Ints (a : List Int) (b : List Int) : same_Ints.R :=
  same_Ints.Se same_Ints.L0 a b
noncomputable def same_Ints.sig : Sig := ⟨same_Ints.ps, same_Ints.rs, fun x => same_Ints x.1 x.2.1⟩
theorem same_Ints.ok : CallOK Try.prog 12 same_Ints.sig :=
  callOK_of_lim (E := same_Ints.E) mixed tt_ok ctxOk_nil Try.func12 (by kernel_rfl : Try.f12.body = some (bodyOf Try.f12)) Try.ntmps12 (of_decide_eq_true (by kernel_rfl)) (of_decide_eq_true (by kernel_rfl))
    fun x y h => ((lim_eq (.code (bodyOf Try.f12) .ret) (entryFrom 0 same_Ints.ps x)).trans (same_Ints.se (lim same_Ints.E same_Ints.fin) x)).trans h
theorem same_Ints.val (x : (argTy same_Ints.ps).den) : lim same_Ints.E same_Ints.fin (.code (bodyOf Try.f12) .ret) (entryFrom 0 same_Ints.ps x) = same_Ints.sig.run x :=
  (lim_eq (.code (bodyOf Try.f12) .ret) (entryFrom 0 same_Ints.ps x)).trans (same_Ints.se (lim same_Ints.E same_Ints.fin) x)
noncomputable def same_Ints.ctxc (n : Nat) : List (Nat × Sig) := []
noncomputable def same_Ints.sigc (n : Nat) : Sig := ⟨same_Ints.ps, same_Ints.rs, fun x => runs (withCtx same_Ints.E (same_Ints.ctxc n)) same_Ints.fin n (.code (bodyOf Try.f12) .ret) (entryFrom 0 same_Ints.ps x)⟩
theorem same_Ints.sigc_le (n : Nat) : ∀ x y, (same_Ints.sigc n).run x = some y → same_Ints.sig.run x = some y :=
  fun x y h => (same_Ints.val x).symm.trans (runs_lim (E := same_Ints.E) (c := same_Ints.ctxc n) ctxLe_nil h)

/-! ### guerdon/cells.Representatives -/
namespace cells_Representatives
abbrev ps : List PM := [.pure api_Type, .pure (.sl api_Enum), .pure (.sl (.int .i64))]
abbrev rs : List RM := [.own (.int .i64)]
abbrev R : Type := Option (List Int × Unit)
noncomputable def E : Env := { tt := tt, ctx := [(33, value_ValidType.sig), (34, value_Bounds.sig), (30, slices_Sort_int_int.sig), (31, slices_Compact_int_int.sig)], nt := 69, ann := [(6, [(2, .keep), (7, .keep), (8, .keep), (9, .keep), (30, .keep)]), (1000007, [(8, .keep), (9, .own (.int .i64)), (10, .keep)]), (1000013, [(7, .keep), (8, .keep), (9, .keep), (46, .keep), (47, .keep), (48, .keep)])] }
noncomputable def c0 : Code := sub [1, 1, 1, 1, 1] (bodyOf Try.f15)
noncomputable def c1 : Code := sub [1, 1, 1, 1, 0, 1, 0, 1] (bodyOf Try.f15)
noncomputable def c2 : Code := sub [1, 1, 1, 1, 1, 1, 1] (bodyOf Try.f15)
noncomputable def c3 : Code := sub [1, 1, 1, 1, 0, 1] (bodyOf Try.f15)
noncomputable def c4 : Code := sub [1, 1, 1, 1, 0, 1, 0, 0, 1, 0, 0] (bodyOf Try.f15)
noncomputable def c5 : Code := sub [1, 1, 1, 1, 1, 1, 0, 1, 0, 0] (bodyOf Try.f15)
noncomputable def K7 : Kont := .seq c0 .ret
noncomputable def K9 : Kont := .seq c1 K7
noncomputable def K11 : Kont := .blk 0 K9
noncomputable def K14 : Kont := .seq c2 .ret
noncomputable def K16 : Kont := .blk 2 K14
noncomputable def fin : ASt → R := Kret E Try.f15.results.toList ps rs
def tJ0 (cuts : List Int) (lo : Int) (hi : Int) (v_30 : Bool) : ASt := ⟨[(30, .one (.val .bool v_30)), (9, .one (.nilsl)), (8, .one (.val (.int .i64) hi)), (7, .one (.val (.int .i64) lo)), (2, .one (.val (.sl (.int .i64)) cuts))], []⟩
def tL1 (hi : Int) (out : List Int) (n_10 : Int) : ASt := ⟨[(10, .one (.val (.int .i64) n_10)), (9, .one (.own 9)), (8, .one (.val (.int .i64) hi))], [(9, some ⟨.free, .int .i64, out⟩)]⟩
def tL2 (lo : Int) (hi : Int) (out : List Int) (v_46 : List Int) (v_47 : Int) (v_48 : Int) : ASt := ⟨[(48, .one (.val (.int .i64) v_48)), (47, .one (.val (.int .i64) v_47)), (46, .one (.val (.sl (.int .i64)) v_46)), (9, .one (.own 9)), (8, .one (.val (.int .i64) hi)), (7, .one (.val (.int .i64) lo))], [(9, some ⟨.free, .int .i64, out⟩)]⟩
noncomputable def SJ0 (kL1 : Int → (List Int) → Int → R) (kL2 : Int → Int → (List Int) → (List Int) → Int → Int → R) (cuts : List Int) (lo : Int) (hi : Int) (v_30 : Bool) : R :=
  cond v_30
    (kL1 hi [] lo)
    (kL2 lo hi [lo] cuts (cuts.length : Int) 0)
noncomputable def SL1 (kL1 : Int → (List Int) → Int → R) (hi : Int) (out : List Int) (n_10 : Int) : R :=
  cond (decide (n_10 ≤ hi))
    (cond (decide ((out.length + 1) * 8 ≤ room) && decide (0 < Ty.nc (.int .i64)))
      (kL1 hi (out ++ [n_10]) (IntKind.i64.wrap (n_10 + 1)))
      none)
    (some (out, ()))
noncomputable def SL2 (kL2 : Int → Int → (List Int) → (List Int) → Int → Int → R) (lo : Int) (hi : Int) (out : List Int) (v_46 : List Int) (v_47 : Int) (v_48 : Int) : R :=
  cond (decide (v_48 < v_47))
    (Option.bind (idx v_46 v_48) fun x1 =>
    cond (decide (x1 ≥ lo))
      (cond (decide (x1 ≤ hi))
        (cond (decide ((out.length + 1) * 8 ≤ room) && decide (0 < Ty.nc (.int .i64)))
          (kL2 lo hi (out ++ [x1]) v_46 v_47 (IntKind.i64.wrap (v_48 + 1)))
          none)
        (kL2 lo hi out v_46 v_47 (IntKind.i64.wrap (v_48 + 1))))
      (kL2 lo hi out v_46 v_47 (IntKind.i64.wrap (v_48 + 1))))
    (Option.bind (slices_Sort_int_int out) fun x2 =>
    Option.bind (slices_Compact_int_int x2.1) fun x3 =>
    some (x3.1, ()))
noncomputable def Se (kJ0 : (List Int) → Int → Int → Bool → R) (t : api_TypeV) (enums : List api_EnumV) (cuts : List Int) : R :=
  Option.bind (value_ValidType t enums) fun x1 =>
  cond (!x1.1)
    (some ([], ()))
    (Option.bind (value_Bounds t enums) fun x2 =>
    cond (t.1 == 1)
      (kJ0 cuts x2.1 x2.2.1 true)
      (kJ0 cuts x2.1 x2.2.1 (t.1 == 6)))
theorem sJ0 (jmp : Tgt → ASt → R) (cuts : List Int) (lo : Int) (hi : Int) (v_30 : Bool) : run E jmp fin depth c3 K7 (tJ0 cuts lo hi v_30) =
    SJ0 (fun hi out n_10 => jmp (.loop c4 K11) (tL1 hi out n_10)) (fun lo hi out v_46 v_47 v_48 => jmp (.loop c5 K16) (tL2 lo hi out v_46 v_47 v_48)) cuts lo hi v_30 := by kernel_rfl
theorem sL1 (jmp : Tgt → ASt → R) (hi : Int) (out : List Int) (n_10 : Int) : run E jmp fin depth c4 (.loop c4 K11) (tL1 hi out n_10) =
    SL1 (fun hi out n_10 => jmp (.loop c4 K11) (tL1 hi out n_10)) hi out n_10 := by kernel_rfl
theorem sL2 (jmp : Tgt → ASt → R) (lo : Int) (hi : Int) (out : List Int) (v_46 : List Int) (v_47 : Int) (v_48 : Int) : run E jmp fin depth c5 (.loop c5 K16) (tL2 lo hi out v_46 v_47 v_48) =
    SL2 (fun lo hi out v_46 v_47 v_48 => jmp (.loop c5 K16) (tL2 lo hi out v_46 v_47 v_48)) lo hi out v_46 v_47 v_48 := by kernel_rfl
theorem se (jmp : Tgt → ASt → R) (x : (argTy ps).den) : run E jmp fin depth (bodyOf Try.f15) .ret (entryFrom 0 ps x) =
    Se (fun cuts lo hi v_30 => jmp (.code c3 K7) (tJ0 cuts lo hi v_30)) x.1 x.2.1 x.2.2.1 := by kernel_rfl
noncomputable def J0 (cuts : List Int) (lo : Int) (hi : Int) (v_30 : Bool) : R := lim E fin (.code c3 K7) (tJ0 cuts lo hi v_30)
noncomputable def L1 (hi : Int) (out : List Int) (n_10 : Int) : R := lim E fin (.loop c4 K11) (tL1 hi out n_10)
noncomputable def L2 (lo : Int) (hi : Int) (out : List Int) (v_46 : List Int) (v_47 : Int) (v_48 : Int) : R := lim E fin (.loop c5 K16) (tL2 lo hi out v_46 v_47 v_48)
theorem J0_eq (cuts : List Int) (lo : Int) (hi : Int) (v_30 : Bool) : J0 cuts lo hi v_30 = SJ0 L1 L2 cuts lo hi v_30 :=
  (lim_eq (.code c3 K7) (tJ0 cuts lo hi v_30)).trans (sJ0 (lim E fin) cuts lo hi v_30)
theorem L1_eq (hi : Int) (out : List Int) (n_10 : Int) : L1 hi out n_10 = SL1 L1 hi out n_10 :=
  (lim_eq (.loop c4 K11) (tL1 hi out n_10)).trans (sL1 (lim E fin) hi out n_10)
theorem L2_eq (lo : Int) (hi : Int) (out : List Int) (v_46 : List Int) (v_47 : Int) (v_48 : Int) : L2 lo hi out v_46 v_47 v_48 = SL2 L2 lo hi out v_46 v_47 v_48 :=
  (lim_eq (.loop c5 K16) (tL2 lo hi out v_46 v_47 v_48)).trans (sL2 (lim E fin) lo hi out v_46 v_47 v_48)
end cells_Representatives
noncomputable def cells_Representatives (t : api_TypeV) (enums : List api_EnumV) (cuts : List Int) : cells_Representatives.R :=
  cells_Representatives.Se cells_Representatives.J0 t enums cuts
noncomputable def cells_Representatives.sig : Sig := ⟨cells_Representatives.ps, cells_Representatives.rs, fun x => cells_Representatives x.1 x.2.1 x.2.2.1⟩
theorem cells_Representatives.ok : CallOK Try.prog 15 cells_Representatives.sig :=
  callOK_of_lim (E := cells_Representatives.E) mixed tt_ok (ctxOk_cons (ctxOk_cons (ctxOk_cons (ctxOk_cons ctxOk_nil slices_Compact_int_int.ok Try.func31 (by kernel_rfl) (by kernel_rfl)) slices_Sort_int_int.ok Try.func30 (by kernel_rfl) (by kernel_rfl)) value_Bounds.ok Try.func34 (by kernel_rfl) (by kernel_rfl)) value_ValidType.ok Try.func33 (by kernel_rfl) (by kernel_rfl)) Try.func15 (by kernel_rfl : Try.f15.body = some (bodyOf Try.f15)) Try.ntmps15 (of_decide_eq_true (by kernel_rfl)) (of_decide_eq_true (by kernel_rfl))
    fun x y h => ((lim_eq (.code (bodyOf Try.f15) .ret) (entryFrom 0 cells_Representatives.ps x)).trans (cells_Representatives.se (lim cells_Representatives.E cells_Representatives.fin) x)).trans h
theorem cells_Representatives.val (x : (argTy cells_Representatives.ps).den) : lim cells_Representatives.E cells_Representatives.fin (.code (bodyOf Try.f15) .ret) (entryFrom 0 cells_Representatives.ps x) = cells_Representatives.sig.run x :=
  (lim_eq (.code (bodyOf Try.f15) .ret) (entryFrom 0 cells_Representatives.ps x)).trans (cells_Representatives.se (lim cells_Representatives.E cells_Representatives.fin) x)
noncomputable def cells_Representatives.ctxc (n : Nat) : List (Nat × Sig) := [(33, value_ValidType.sigc n), (34, value_Bounds.sigc n), (30, slices_Sort_int_int.sigc n), (31, slices_Compact_int_int.sigc n)]
noncomputable def cells_Representatives.sigc (n : Nat) : Sig := ⟨cells_Representatives.ps, cells_Representatives.rs, fun x => runs (withCtx cells_Representatives.E (cells_Representatives.ctxc n)) cells_Representatives.fin n (.code (bodyOf Try.f15) .ret) (entryFrom 0 cells_Representatives.ps x)⟩
theorem cells_Representatives.sigc_le (n : Nat) : ∀ x y, (cells_Representatives.sigc n).run x = some y → cells_Representatives.sig.run x = some y :=
  fun x y h => (cells_Representatives.val x).symm.trans (runs_lim (E := cells_Representatives.E) (c := cells_Representatives.ctxc n) (ctxLe_cons (ctxLe_cons (ctxLe_cons (ctxLe_cons ctxLe_nil (slices_Compact_int_int.sigc_le n)) (slices_Sort_int_int.sigc_le n)) (value_Bounds.sigc_le n)) (value_ValidType.sigc_le n)) h)

/-! ### guerdon/cells.Locate -/
namespace cells_Locate
abbrev ps : List PM := [.pure (.sl (.int .i64)), .pure (.int .i64)]
abbrev rs : List RM := [.pure (.int .i64)]
abbrev R : Type := Option (Int × Unit)
noncomputable def E : Env := { tt := tt, ctx := [], nt := 21, ann := [(1000003, [(1, .keep), (5, .keep), (8, .keep), (9, .keep), (10, .keep)])] }
noncomputable def c0 : Code := sub [1, 1, 1] (bodyOf Try.f18)
noncomputable def c1 : Code := sub [1, 1, 0, 1, 0, 0] (bodyOf Try.f18)
noncomputable def K3 : Kont := .seq c0 .ret
noncomputable def K5 : Kont := .blk 0 K3
noncomputable def fin : ASt → R := Kret E Try.f18.results.toList ps rs
def tL0 (n_1 : Int) (out : Int) (v_8 : List Int) (v_9 : Int) (v_10 : Int) : ASt := ⟨[(10, .one (.val (.int .i64) v_10)), (9, .one (.val (.int .i64) v_9)), (8, .one (.val (.sl (.int .i64)) v_8)), (5, .one (.val (.int .i64) out)), (1, .one (.val (.int .i64) n_1))], []⟩
noncomputable def SL0 (kL0 : Int → Int → (List Int) → Int → Int → R) (n_1 : Int) (out : Int) (v_8 : List Int) (v_9 : Int) (v_10 : Int) : R :=
  cond (decide (v_10 < v_9))
    (Option.bind (idx v_8 v_10) fun x1 =>
    cond (decide (x1 ≤ n_1))
      (kL0 n_1 v_10 v_8 v_9 (IntKind.i64.wrap (v_10 + 1)))
      (kL0 n_1 out v_8 v_9 (IntKind.i64.wrap (v_10 + 1))))
    (some (out, ()))
noncomputable def Se (kL0 : Int → Int → (List Int) → Int → Int → R) (reps : List Int) (n_1 : Int) : R :=
  kL0 n_1 (-1) reps (reps.length : Int) 0
theorem sL0 (jmp : Tgt → ASt → R) (n_1 : Int) (out : Int) (v_8 : List Int) (v_9 : Int) (v_10 : Int) : run E jmp fin depth c1 (.loop c1 K5) (tL0 n_1 out v_8 v_9 v_10) =
    SL0 (fun n_1 out v_8 v_9 v_10 => jmp (.loop c1 K5) (tL0 n_1 out v_8 v_9 v_10)) n_1 out v_8 v_9 v_10 := by kernel_rfl
theorem se (jmp : Tgt → ASt → R) (x : (argTy ps).den) : run E jmp fin depth (bodyOf Try.f18) .ret (entryFrom 0 ps x) =
    Se (fun n_1 out v_8 v_9 v_10 => jmp (.loop c1 K5) (tL0 n_1 out v_8 v_9 v_10)) x.1 x.2.1 := by kernel_rfl
noncomputable def L0 (n_1 : Int) (out : Int) (v_8 : List Int) (v_9 : Int) (v_10 : Int) : R := lim E fin (.loop c1 K5) (tL0 n_1 out v_8 v_9 v_10)
theorem L0_eq (n_1 : Int) (out : Int) (v_8 : List Int) (v_9 : Int) (v_10 : Int) : L0 n_1 out v_8 v_9 v_10 = SL0 L0 n_1 out v_8 v_9 v_10 :=
  (lim_eq (.loop c1 K5) (tL0 n_1 out v_8 v_9 v_10)).trans (sL0 (lim E fin) n_1 out v_8 v_9 v_10)
end cells_Locate
noncomputable def cells_Locate (reps : List Int) (n_1 : Int) : cells_Locate.R :=
  cells_Locate.Se cells_Locate.L0 reps n_1
noncomputable def cells_Locate.sig : Sig := ⟨cells_Locate.ps, cells_Locate.rs, fun x => cells_Locate x.1 x.2.1⟩
theorem cells_Locate.ok : CallOK Try.prog 18 cells_Locate.sig :=
  callOK_of_lim (E := cells_Locate.E) mixed tt_ok ctxOk_nil Try.func18 (by kernel_rfl : Try.f18.body = some (bodyOf Try.f18)) Try.ntmps18 (of_decide_eq_true (by kernel_rfl)) (of_decide_eq_true (by kernel_rfl))
    fun x y h => ((lim_eq (.code (bodyOf Try.f18) .ret) (entryFrom 0 cells_Locate.ps x)).trans (cells_Locate.se (lim cells_Locate.E cells_Locate.fin) x)).trans h
theorem cells_Locate.val (x : (argTy cells_Locate.ps).den) : lim cells_Locate.E cells_Locate.fin (.code (bodyOf Try.f18) .ret) (entryFrom 0 cells_Locate.ps x) = cells_Locate.sig.run x :=
  (lim_eq (.code (bodyOf Try.f18) .ret) (entryFrom 0 cells_Locate.ps x)).trans (cells_Locate.se (lim cells_Locate.E cells_Locate.fin) x)
noncomputable def cells_Locate.ctxc (n : Nat) : List (Nat × Sig) := []
noncomputable def cells_Locate.sigc (n : Nat) : Sig := ⟨cells_Locate.ps, cells_Locate.rs, fun x => runs (withCtx cells_Locate.E (cells_Locate.ctxc n)) cells_Locate.fin n (.code (bodyOf Try.f18) .ret) (entryFrom 0 cells_Locate.ps x)⟩
theorem cells_Locate.sigc_le (n : Nat) : ∀ x y, (cells_Locate.sigc n).run x = some y → cells_Locate.sig.run x = some y :=
  fun x y h => (cells_Locate.val x).symm.trans (runs_lim (E := cells_Locate.E) (c := cells_Locate.ctxc n) ctxLe_nil h)

/-! ### guerdon/cells.Count -/
namespace cells_Count
abbrev ps : List PM := [.pure (.sl (.sl (.int .i64)))]
abbrev rs : List RM := [.pure (.int .i64)]
abbrev R : Type := Option (Int × Unit)
noncomputable def E : Env := { tt := tt, ctx := [], nt := 32, ann := [(1000003, [(0, .keep), (3, .keep), (8, .keep), (9, .keep), (10, .keep)]), (1000009, [(3, .keep), (18, .keep), (19, .keep), (20, .keep)])] }
noncomputable def c0 : Code := sub [1, 1, 1] (bodyOf Try.f20)
noncomputable def c1 : Code := sub [1, 1, 1, 1] (bodyOf Try.f20)
noncomputable def c2 : Code := sub [1, 1, 0, 1, 0, 0] (bodyOf Try.f20)
noncomputable def c3 : Code := sub [1, 1, 1, 0, 1, 0, 0] (bodyOf Try.f20)
noncomputable def K3 : Kont := .seq c0 .ret
noncomputable def K5 : Kont := .blk 0 K3
noncomputable def K14 : Kont := .seq c1 .ret
noncomputable def K16 : Kont := .blk 2 K14
noncomputable def fin : ASt → R := Kret E Try.f20.results.toList ps rs
def tL0 (reps : List (List Int)) (n_3 : Int) (v_8 : List (List Int)) (v_9 : Int) (v_10 : Int) : ASt := ⟨[(10, .one (.val (.int .i64) v_10)), (9, .one (.val (.int .i64) v_9)), (8, .one (.val (.sl (.sl (.int .i64))) v_8)), (3, .one (.val (.int .i64) n_3)), (0, .one (.val (.sl (.sl (.int .i64))) reps))], []⟩
def tL1 (n_3 : Int) (v_18 : List (List Int)) (v_19 : Int) (v_20 : Int) : ASt := ⟨[(20, .one (.val (.int .i64) v_20)), (19, .one (.val (.int .i64) v_19)), (18, .one (.val (.sl (.sl (.int .i64))) v_18)), (3, .one (.val (.int .i64) n_3))], []⟩
noncomputable def SL0 (kL0 : (List (List Int)) → Int → (List (List Int)) → Int → Int → R) (kL1 : Int → (List (List Int)) → Int → Int → R) (reps : List (List Int)) (n_3 : Int) (v_8 : List (List Int)) (v_9 : Int) (v_10 : Int) : R :=
  cond (decide (v_10 < v_9))
    (Option.bind (idx v_8 v_10) fun x1 =>
    cond ((x1.length : Int) == 0)
      (some (0, ()))
      (kL0 reps n_3 v_8 v_9 (IntKind.i64.wrap (v_10 + 1))))
    (kL1 n_3 reps (reps.length : Int) 0)
noncomputable def SL1 (kL1 : Int → (List (List Int)) → Int → Int → R) (n_3 : Int) (v_18 : List (List Int)) (v_19 : Int) (v_20 : Int) : R :=
  cond (decide (v_20 < v_19))
    (Option.bind (idx v_18 v_20) fun x1 =>
    cond (decide ((IntKind.i64.wrap (n_3 * (x1.length : Int))) > 4096))
      (some (4097, ()))
      (kL1 (IntKind.i64.wrap (n_3 * (x1.length : Int))) v_18 v_19 (IntKind.i64.wrap (v_20 + 1))))
    (some (n_3, ()))
noncomputable def Se (kL0 : (List (List Int)) → Int → (List (List Int)) → Int → Int → R) (reps : List (List Int)) : R :=
  kL0 reps 1 reps (reps.length : Int) 0
theorem sL0 (jmp : Tgt → ASt → R) (reps : List (List Int)) (n_3 : Int) (v_8 : List (List Int)) (v_9 : Int) (v_10 : Int) : run E jmp fin depth c2 (.loop c2 K5) (tL0 reps n_3 v_8 v_9 v_10) =
    SL0 (fun reps n_3 v_8 v_9 v_10 => jmp (.loop c2 K5) (tL0 reps n_3 v_8 v_9 v_10)) (fun n_3 v_18 v_19 v_20 => jmp (.loop c3 K16) (tL1 n_3 v_18 v_19 v_20)) reps n_3 v_8 v_9 v_10 := by kernel_rfl
theorem sL1 (jmp : Tgt → ASt → R) (n_3 : Int) (v_18 : List (List Int)) (v_19 : Int) (v_20 : Int) : run E jmp fin depth c3 (.loop c3 K16) (tL1 n_3 v_18 v_19 v_20) =
    SL1 (fun n_3 v_18 v_19 v_20 => jmp (.loop c3 K16) (tL1 n_3 v_18 v_19 v_20)) n_3 v_18 v_19 v_20 := by kernel_rfl
theorem se (jmp : Tgt → ASt → R) (x : (argTy ps).den) : run E jmp fin depth (bodyOf Try.f20) .ret (entryFrom 0 ps x) =
    Se (fun reps n_3 v_8 v_9 v_10 => jmp (.loop c2 K5) (tL0 reps n_3 v_8 v_9 v_10)) x.1 := by kernel_rfl
noncomputable def L0 (reps : List (List Int)) (n_3 : Int) (v_8 : List (List Int)) (v_9 : Int) (v_10 : Int) : R := lim E fin (.loop c2 K5) (tL0 reps n_3 v_8 v_9 v_10)
noncomputable def L1 (n_3 : Int) (v_18 : List (List Int)) (v_19 : Int) (v_20 : Int) : R := lim E fin (.loop c3 K16) (tL1 n_3 v_18 v_19 v_20)
theorem L0_eq (reps : List (List Int)) (n_3 : Int) (v_8 : List (List Int)) (v_9 : Int) (v_10 : Int) : L0 reps n_3 v_8 v_9 v_10 = SL0 L0 L1 reps n_3 v_8 v_9 v_10 :=
  (lim_eq (.loop c2 K5) (tL0 reps n_3 v_8 v_9 v_10)).trans (sL0 (lim E fin) reps n_3 v_8 v_9 v_10)
theorem L1_eq (n_3 : Int) (v_18 : List (List Int)) (v_19 : Int) (v_20 : Int) : L1 n_3 v_18 v_19 v_20 = SL1 L1 n_3 v_18 v_19 v_20 :=
  (lim_eq (.loop c3 K16) (tL1 n_3 v_18 v_19 v_20)).trans (sL1 (lim E fin) n_3 v_18 v_19 v_20)
end cells_Count
noncomputable def cells_Count (reps : List (List Int)) : cells_Count.R :=
  cells_Count.Se cells_Count.L0 reps
noncomputable def cells_Count.sig : Sig := ⟨cells_Count.ps, cells_Count.rs, fun x => cells_Count x.1⟩
theorem cells_Count.ok : CallOK Try.prog 20 cells_Count.sig :=
  callOK_of_lim (E := cells_Count.E) mixed tt_ok ctxOk_nil Try.func20 (by kernel_rfl : Try.f20.body = some (bodyOf Try.f20)) Try.ntmps20 (of_decide_eq_true (by kernel_rfl)) (of_decide_eq_true (by kernel_rfl))
    fun x y h => ((lim_eq (.code (bodyOf Try.f20) .ret) (entryFrom 0 cells_Count.ps x)).trans (cells_Count.se (lim cells_Count.E cells_Count.fin) x)).trans h
theorem cells_Count.val (x : (argTy cells_Count.ps).den) : lim cells_Count.E cells_Count.fin (.code (bodyOf Try.f20) .ret) (entryFrom 0 cells_Count.ps x) = cells_Count.sig.run x :=
  (lim_eq (.code (bodyOf Try.f20) .ret) (entryFrom 0 cells_Count.ps x)).trans (cells_Count.se (lim cells_Count.E cells_Count.fin) x)
noncomputable def cells_Count.ctxc (n : Nat) : List (Nat × Sig) := []
noncomputable def cells_Count.sigc (n : Nat) : Sig := ⟨cells_Count.ps, cells_Count.rs, fun x => runs (withCtx cells_Count.E (cells_Count.ctxc n)) cells_Count.fin n (.code (bodyOf Try.f20) .ret) (entryFrom 0 cells_Count.ps x)⟩
theorem cells_Count.sigc_le (n : Nat) : ∀ x y, (cells_Count.sigc n).run x = some y → cells_Count.sig.run x = some y :=
  fun x y h => (cells_Count.val x).symm.trans (runs_lim (E := cells_Count.E) (c := cells_Count.ctxc n) ctxLe_nil h)

/-! ### guerdon/guerdonlaw23.awake -/
namespace law23_awake
abbrev ps : List PM := []
abbrev rs : List RM := [.pure .bool]
abbrev R : Type := Option (Bool × Unit)
noncomputable def E : Env := { tt := tt, ctx := [(13, cells_CutPoints.sig), (10, cells_IsFlat.sig), (12, same_Ints.sig), (15, cells_Representatives.sig), (18, cells_Locate.sig), (20, cells_Count.sig)], nt := 60, ann := [] }
noncomputable def fin : ASt → R := Kret E Try.f9.results.toList ps rs
noncomputable def Se : R :=
  Option.bind (cells_CutPoints [[(7, 0, ()), (2, 18, ()), (21, 0, ())]] 0) fun x1 =>
  Option.bind (cells_IsFlat [(7, 0, ()), (2, 18, ()), (21, 0, ())] ([], [], [(2, 0, ()), (2, 0, ())], [], [], false, ())) fun x2 =>
  cond x2.1
    (Option.bind (cells_IsFlat [(7, 0, ()), (7, 1, ()), (19, 0, ())] ([], [], [(2, 0, ()), (2, 0, ())], [], [], false, ())) fun x3 =>
    cond (!x3.1)
      (Option.bind (same_Ints x1.1 [18, 19]) fun x4 =>
      cond x4.1
        (Option.bind (cells_Representatives (2, 0, ()) [] x1.1) fun x5 =>
        Option.bind (same_Ints x5.1 [(-1000000000000), 18, 19]) fun x6 =>
        cond x6.1
          (Option.bind (cells_Locate [0, 5, 9] 7) fun x7 =>
          cond (x7.1 == 1)
            (Option.bind (cells_Locate [0, 5, 9] (-1)) fun x8 =>
            cond (x8.1 == (-1))
              (Option.bind (cells_Count [[1, 2, 3], [1, 2]]) fun x9 =>
              some ((x9.1 == 6), ()))
              (some (false, ())))
            (some (false, ())))
          (some (false, ())))
        (some (false, ())))
      (some (false, ())))
    (some (false, ()))
theorem se (jmp : Tgt → ASt → R) (x : (argTy ps).den) : run E jmp fin depth (bodyOf Try.f9) .ret (entryFrom 0 ps x) =
    Se := by kernel_rfl
end law23_awake
noncomputable def law23_awake : law23_awake.R :=
  law23_awake.Se 
noncomputable def law23_awake.sig : Sig := ⟨law23_awake.ps, law23_awake.rs, fun x => law23_awake⟩
theorem law23_awake.ok : CallOK Try.prog 9 law23_awake.sig :=
  callOK_of_lim (E := law23_awake.E) mixed tt_ok (ctxOk_cons (ctxOk_cons (ctxOk_cons (ctxOk_cons (ctxOk_cons (ctxOk_cons ctxOk_nil cells_Count.ok Try.func20 (by kernel_rfl) (by kernel_rfl)) cells_Locate.ok Try.func18 (by kernel_rfl) (by kernel_rfl)) cells_Representatives.ok Try.func15 (by kernel_rfl) (by kernel_rfl)) same_Ints.ok Try.func12 (by kernel_rfl) (by kernel_rfl)) cells_IsFlat.ok Try.func10 (by kernel_rfl) (by kernel_rfl)) cells_CutPoints.ok Try.func13 (by kernel_rfl) (by kernel_rfl)) Try.func9 (by kernel_rfl : Try.f9.body = some (bodyOf Try.f9)) Try.ntmps9 (of_decide_eq_true (by kernel_rfl)) (of_decide_eq_true (by kernel_rfl))
    fun x y h => ((lim_eq (.code (bodyOf Try.f9) .ret) (entryFrom 0 law23_awake.ps x)).trans (law23_awake.se (lim law23_awake.E law23_awake.fin) x)).trans h
theorem law23_awake.val (x : (argTy law23_awake.ps).den) : lim law23_awake.E law23_awake.fin (.code (bodyOf Try.f9) .ret) (entryFrom 0 law23_awake.ps x) = law23_awake.sig.run x :=
  (lim_eq (.code (bodyOf Try.f9) .ret) (entryFrom 0 law23_awake.ps x)).trans (law23_awake.se (lim law23_awake.E law23_awake.fin) x)
noncomputable def law23_awake.ctxc (n : Nat) : List (Nat × Sig) := [(13, cells_CutPoints.sigc n), (10, cells_IsFlat.sigc n), (12, same_Ints.sigc n), (15, cells_Representatives.sigc n), (18, cells_Locate.sigc n), (20, cells_Count.sigc n)]
noncomputable def law23_awake.sigc (n : Nat) : Sig := ⟨law23_awake.ps, law23_awake.rs, fun x => runs (withCtx law23_awake.E (law23_awake.ctxc n)) law23_awake.fin n (.code (bodyOf Try.f9) .ret) (entryFrom 0 law23_awake.ps x)⟩
theorem law23_awake.sigc_le (n : Nat) : ∀ x y, (law23_awake.sigc n).run x = some y → law23_awake.sig.run x = some y :=
  fun x y h => (law23_awake.val x).symm.trans (runs_lim (E := law23_awake.E) (c := law23_awake.ctxc n) (ctxLe_cons (ctxLe_cons (ctxLe_cons (ctxLe_cons (ctxLe_cons (ctxLe_cons ctxLe_nil (cells_Count.sigc_le n)) (cells_Locate.sigc_le n)) (cells_Representatives.sigc_le n)) (same_Ints.sigc_le n)) (cells_IsFlat.sigc_le n)) (cells_CutPoints.sigc_le n)) h)

/-! ### guerdon/guerdonref10.Arity -/
namespace ref10_Arity
abbrev ps : List PM := [.pure (.int .i64)]
abbrev rs : List RM := [.pure (.int .i64)]
abbrev R : Type := Option (Int × Unit)
noncomputable def E : Env := { tt := tt, ctx := [], nt := 33, ann := [(3, [(0, .keep)]), (13, [(0, .keep)])] }
noncomputable def c0 : Code := sub [1, 1] (bodyOf Try.f41)
noncomputable def c1 : Code := sub [1, 1, 1] (bodyOf Try.f41)
noncomputable def fin : ASt → R := Kret E Try.f41.results.toList ps rs
def tJ0 (op : Int) : ASt := ⟨[(0, .one (.val (.int .i64) op))], []⟩
def tJ1 (op : Int) : ASt := ⟨[(0, .one (.val (.int .i64) op))], []⟩
noncomputable def SJ0 (kJ1 : Int → R) (op : Int) : R :=
  cond (op == 10)
    (cond (op == 10)
      (some (1, ()))
      (cond (op == 26)
        (some (3, ()))
        (kJ1 op)))
    (cond (op == 25)
      (cond (op == 25)
        (some (1, ()))
        (cond (op == 26)
          (some (3, ()))
          (kJ1 op)))
      (cond (op == 31)
        (cond (op == 31)
          (some (1, ()))
          (cond (op == 26)
            (some (3, ()))
            (kJ1 op)))
        (cond (op == 32)
          (cond (op == 32)
            (some (1, ()))
            (cond (op == 26)
              (some (3, ()))
              (kJ1 op)))
          (cond (op == 33)
            (cond (op == 33)
              (some (1, ()))
              (cond (op == 26)
                (some (3, ()))
                (kJ1 op)))
            (cond (op == 34)
              (some (1, ()))
              (cond (op == 26)
                (some (3, ()))
                (kJ1 op)))))))
noncomputable def SJ1 (op : Int) : R :=
  cond (decide (op ≥ 11))
    (cond (decide (op ≤ 30))
      (some (2, ()))
      (some ((-1), ())))
    (some ((-1), ()))
noncomputable def Se (kJ0 : Int → R) (op : Int) : R :=
  cond (decide (op ≥ 1))
    (cond (decide (op ≤ 9))
      (some (0, ()))
      (cond (decide (op ≥ 35))
        (cond (decide (op ≤ 39))
          (some (0, ()))
          (kJ0 op))
        (kJ0 op)))
    (cond (decide (op ≥ 35))
      (cond (decide (op ≤ 39))
        (some (0, ()))
        (kJ0 op))
      (kJ0 op))
theorem sJ0 (jmp : Tgt → ASt → R) (op : Int) : run E jmp fin depth c0 .ret (tJ0 op) =
    SJ0 (fun op => jmp (.code c1 .ret) (tJ1 op)) op := by kernel_rfl
theorem sJ1 (jmp : Tgt → ASt → R) (op : Int) : run E jmp fin depth c1 .ret (tJ1 op) =
    SJ1 op := by kernel_rfl
theorem se (jmp : Tgt → ASt → R) (x : (argTy ps).den) : run E jmp fin depth (bodyOf Try.f41) .ret (entryFrom 0 ps x) =
    Se (fun op => jmp (.code c0 .ret) (tJ0 op)) x.1 := by kernel_rfl
noncomputable def J0 (op : Int) : R := lim E fin (.code c0 .ret) (tJ0 op)
noncomputable def J1 (op : Int) : R := lim E fin (.code c1 .ret) (tJ1 op)
theorem J0_eq (op : Int) : J0 op = SJ0 J1 op :=
  (lim_eq (.code c0 .ret) (tJ0 op)).trans (sJ0 (lim E fin) op)
theorem J1_eq (op : Int) : J1 op = SJ1 op :=
  (lim_eq (.code c1 .ret) (tJ1 op)).trans (sJ1 (lim E fin) op)
end ref10_Arity
noncomputable def ref10_Arity (op : Int) : ref10_Arity.R :=
  ref10_Arity.Se ref10_Arity.J0 op
noncomputable def ref10_Arity.sig : Sig := ⟨ref10_Arity.ps, ref10_Arity.rs, fun x => ref10_Arity x.1⟩
theorem ref10_Arity.ok : CallOK Try.prog 41 ref10_Arity.sig :=
  callOK_of_lim (E := ref10_Arity.E) mixed tt_ok ctxOk_nil Try.func41 (by kernel_rfl : Try.f41.body = some (bodyOf Try.f41)) Try.ntmps41 (of_decide_eq_true (by kernel_rfl)) (of_decide_eq_true (by kernel_rfl))
    fun x y h => ((lim_eq (.code (bodyOf Try.f41) .ret) (entryFrom 0 ref10_Arity.ps x)).trans (ref10_Arity.se (lim ref10_Arity.E ref10_Arity.fin) x)).trans h
theorem ref10_Arity.val (x : (argTy ref10_Arity.ps).den) : lim ref10_Arity.E ref10_Arity.fin (.code (bodyOf Try.f41) .ret) (entryFrom 0 ref10_Arity.ps x) = ref10_Arity.sig.run x :=
  (lim_eq (.code (bodyOf Try.f41) .ret) (entryFrom 0 ref10_Arity.ps x)).trans (ref10_Arity.se (lim ref10_Arity.E ref10_Arity.fin) x)
noncomputable def ref10_Arity.ctxc (n : Nat) : List (Nat × Sig) := []
noncomputable def ref10_Arity.sigc (n : Nat) : Sig := ⟨ref10_Arity.ps, ref10_Arity.rs, fun x => runs (withCtx ref10_Arity.E (ref10_Arity.ctxc n)) ref10_Arity.fin n (.code (bodyOf Try.f41) .ret) (entryFrom 0 ref10_Arity.ps x)⟩
theorem ref10_Arity.sigc_le (n : Nat) : ∀ x y, (ref10_Arity.sigc n).run x = some y → ref10_Arity.sig.run x = some y :=
  fun x y h => (ref10_Arity.val x).symm.trans (runs_lim (E := ref10_Arity.E) (c := ref10_Arity.ctxc n) ctxLe_nil h)

/-! ### guerdon/guerdonref10.structure -/
namespace ref10_structure
abbrev ps : List PM := [.pure (.sl api_Type)]
abbrev rs : List RM := [.own (.int .i64), .pure (.int .i64), .pure (.int .i64)]
abbrev R : Type := Option (List Int × Int × Int × Unit)
noncomputable def E : Env := { tt := tt, ctx := [(41, ref10_Arity.sig)], nt := 70, ann := [(1000007, [(0, .keep), (5, .own (.int .i64)), (6, .own (.int .i64)), (7, .keep)]), (18, [(0, .keep), (5, .own (.int .i64)), (6, .own (.int .i64)), (7, .keep), (9, .keep)])] }
noncomputable def c0 : Code := sub [1, 1, 1, 1, 1] (bodyOf Try.f40)
noncomputable def c1 : Code := sub [1, 1, 1, 1, 0, 1, 0, 0] (bodyOf Try.f40)
noncomputable def c2 : Code := sub [1, 1, 1, 1, 0, 1, 0, 0, 1, 1] (bodyOf Try.f40)
noncomputable def c3 : Code := sub [1, 1, 1, 1, 0, 1, 0, 0, 1, 0, 0, 1, 1, 1, 1, 1] (bodyOf Try.f40)
noncomputable def K9 : Kont := .seq c0 .ret
noncomputable def K11 : Kont := .blk 0 K9
noncomputable def K12 : Kont := .loop c1 K11
noncomputable def K15 : Kont := .seq c2 K12
noncomputable def K16 : Kont := .blk 1 K15
noncomputable def fin : ASt → R := Kret E Try.f40.results.toList ps rs
def tL0 (e : List api_TypeV) (starts : List Int) (stack : List Int) (i : Int) : ASt := ⟨[(7, .one (.val (.int .i64) i)), (6, .one (.own 6)), (5, .one (.own 5)), (0, .one (.val (.sl api_Type) e))], [(6, some ⟨.free, .int .i64, stack⟩), (5, some ⟨.free, .int .i64, starts⟩)]⟩
def tJ1 (e : List api_TypeV) (starts : List Int) (stack : List Int) (i : Int) (from_9 : Int) : ASt := ⟨[(9, .one (.val (.int .i64) from_9)), (7, .one (.val (.int .i64) i)), (6, .one (.own 6)), (5, .one (.own 5)), (0, .one (.val (.sl api_Type) e))], [(6, some ⟨.free, .int .i64, stack⟩), (5, some ⟨.free, .int .i64, starts⟩)]⟩
noncomputable def SL0 (kJ1 : (List api_TypeV) → (List Int) → (List Int) → Int → Int → R) (e : List api_TypeV) (starts : List Int) (stack : List Int) (i : Int) : R :=
  cond (decide (i < (e.length : Int)))
    (Option.bind (idx e i) fun x1 =>
    Option.bind (ref10_Arity x1.1) fun x2 =>
    cond (decide (x2.1 < 0))
      (some ([], i, 2, ()))
      (cond (decide (x2.1 > (stack.length : Int)))
        (some ([], i, 5, ()))
        (cond (decide (x2.1 > 0))
          (cond (decide (0 ≤ IntKind.i64.wrap ((stack.length : Int) - x2.1)) && decide (IntKind.i64.wrap ((stack.length : Int) - x2.1) < (stack.length : Int)))
            (cond (decide ((0 : Int) ≤ 0) && (decide ((0 : Int) ≤ IntKind.i64.wrap ((stack.length : Int) - x2.1)) && decide (IntKind.i64.wrap ((stack.length : Int) - x2.1) ≤ (stack.length : Int))))
              (kJ1 e starts (stack.take ((IntKind.i64.wrap ((stack.length : Int) - x2.1)).toNat)) i (stack.getD ((IntKind.i64.wrap ((stack.length : Int) - x2.1)).toNat) 0))
              none)
            none)
          (kJ1 e starts stack i i))))
    (cond (decide ((stack.length : Int) > 1))
      (some ([], (e.length : Int), 4, ()))
      (some (starts, 0, 0, ())))
noncomputable def SJ1 (kL0 : (List api_TypeV) → (List Int) → (List Int) → Int → R) (e : List api_TypeV) (starts : List Int) (stack : List Int) (i : Int) (from_9 : Int) : R :=
  cond (decide ((stack.length + 1) * 8 ≤ room) && decide (0 < Ty.nc (.int .i64)))
    (cond (decide ((starts.length + 1) * 8 ≤ room) && decide (0 < Ty.nc (.int .i64)))
      (cond (decide (((stack ++ [from_9]).length : Int) > 12))
        (some ([], i, 16, ()))
        (kL0 e (starts ++ [from_9]) (stack ++ [from_9]) (IntKind.i64.wrap (i + 1))))
      none)
    none
noncomputable def Se (kL0 : (List api_TypeV) → (List Int) → (List Int) → Int → R) (e : List api_TypeV) : R :=
  cond (decide ((e.length : Int) > 48))
    (some ([], 0, 4, ()))
    (cond ((e.length : Int) == 0)
      (some ([], 0, 5, ()))
      (kL0 e [] [] 0))
theorem sL0 (jmp : Tgt → ASt → R) (e : List api_TypeV) (starts : List Int) (stack : List Int) (i : Int) : run E jmp fin depth c1 (.loop c1 K11) (tL0 e starts stack i) =
    SL0 (fun e starts stack i from_9 => jmp (.code c3 K16) (tJ1 e starts stack i from_9)) e starts stack i := by kernel_rfl
theorem sJ1 (jmp : Tgt → ASt → R) (e : List api_TypeV) (starts : List Int) (stack : List Int) (i : Int) (from_9 : Int) : run E jmp fin depth c3 K16 (tJ1 e starts stack i from_9) =
    SJ1 (fun e starts stack i => jmp (.loop c1 K11) (tL0 e starts stack i)) e starts stack i from_9 := by kernel_rfl
theorem se (jmp : Tgt → ASt → R) (x : (argTy ps).den) : run E jmp fin depth (bodyOf Try.f40) .ret (entryFrom 0 ps x) =
    Se (fun e starts stack i => jmp (.loop c1 K11) (tL0 e starts stack i)) x.1 := by kernel_rfl
noncomputable def L0 (e : List api_TypeV) (starts : List Int) (stack : List Int) (i : Int) : R := lim E fin (.loop c1 K11) (tL0 e starts stack i)
noncomputable def J1 (e : List api_TypeV) (starts : List Int) (stack : List Int) (i : Int) (from_9 : Int) : R := lim E fin (.code c3 K16) (tJ1 e starts stack i from_9)
theorem L0_eq (e : List api_TypeV) (starts : List Int) (stack : List Int) (i : Int) : L0 e starts stack i = SL0 J1 e starts stack i :=
  (lim_eq (.loop c1 K11) (tL0 e starts stack i)).trans (sL0 (lim E fin) e starts stack i)
theorem J1_eq (e : List api_TypeV) (starts : List Int) (stack : List Int) (i : Int) (from_9 : Int) : J1 e starts stack i from_9 = SJ1 L0 e starts stack i from_9 :=
  (lim_eq (.code c3 K16) (tJ1 e starts stack i from_9)).trans (sJ1 (lim E fin) e starts stack i from_9)
end ref10_structure
noncomputable def ref10_structure (e : List api_TypeV) : ref10_structure.R :=
  ref10_structure.Se ref10_structure.L0 e
noncomputable def ref10_structure.sig : Sig := ⟨ref10_structure.ps, ref10_structure.rs, fun x => ref10_structure x.1⟩
theorem ref10_structure.ok : CallOK Try.prog 40 ref10_structure.sig :=
  callOK_of_lim (E := ref10_structure.E) mixed tt_ok (ctxOk_cons ctxOk_nil ref10_Arity.ok Try.func41 (by kernel_rfl) (by kernel_rfl)) Try.func40 (by kernel_rfl : Try.f40.body = some (bodyOf Try.f40)) Try.ntmps40 (of_decide_eq_true (by kernel_rfl)) (of_decide_eq_true (by kernel_rfl))
    fun x y h => ((lim_eq (.code (bodyOf Try.f40) .ret) (entryFrom 0 ref10_structure.ps x)).trans (ref10_structure.se (lim ref10_structure.E ref10_structure.fin) x)).trans h
theorem ref10_structure.val (x : (argTy ref10_structure.ps).den) : lim ref10_structure.E ref10_structure.fin (.code (bodyOf Try.f40) .ret) (entryFrom 0 ref10_structure.ps x) = ref10_structure.sig.run x :=
  (lim_eq (.code (bodyOf Try.f40) .ret) (entryFrom 0 ref10_structure.ps x)).trans (ref10_structure.se (lim ref10_structure.E ref10_structure.fin) x)
noncomputable def ref10_structure.ctxc (n : Nat) : List (Nat × Sig) := [(41, ref10_Arity.sigc n)]
noncomputable def ref10_structure.sigc (n : Nat) : Sig := ⟨ref10_structure.ps, ref10_structure.rs, fun x => runs (withCtx ref10_structure.E (ref10_structure.ctxc n)) ref10_structure.fin n (.code (bodyOf Try.f40) .ret) (entryFrom 0 ref10_structure.ps x)⟩
theorem ref10_structure.sigc_le (n : Nat) : ∀ x y, (ref10_structure.sigc n).run x = some y → ref10_structure.sig.run x = some y :=
  fun x y h => (ref10_structure.val x).symm.trans (runs_lim (E := ref10_structure.E) (c := ref10_structure.ctxc n) (ctxLe_cons ctxLe_nil (ref10_Arity.sigc_le n)) h)

end Go.Proofs.Ytmkkdjnojcmihaa
