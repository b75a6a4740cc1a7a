import Derived.Test.YtgnigfnonoicmaaCode3
set_option maxRecDepth 100000
set_option linter.unusedVariables false
namespace Go.Proofs.Ytgnigfnonoicmaa
open Go Go.Lift
namespace law12_TableValidate
abbrev ps : List PM := [.pure api_Table, .pure (.sl api_Enum)]
abbrev rs : List RM := [.pure .bool]
abbrev R : Type := Option (Bool × Unit)
noncomputable def E : Env := { tt := tt, ctx := [(10, law12_few.sig), (12, law12_awake.sig), (11, law12_enumsFew.sig), (13, table_Validate.sig), (14, ref12_Validate.sig), (15, table_FirstConflict.sig), (16, ref12_FirstConflict.sig)], nt := 74, ann := [(3, [(1, .keep), (2, .keep)])] }
noncomputable def c0 : Code := sub [1, 1] (bodyOf Try.f3)
noncomputable def fin : ASt → R := Kret E Try.f3.results.toList ps rs
def tJ0 (enums : List api_EnumV) (t : api_TableV) : ASt := ⟨[(2, .one (.optr 2 0 [])), (1, .one (.val (.sl api_Enum) enums))], [(2, some ⟨.free, api_Table, [t]⟩)]⟩
noncomputable def SJ0 (enums : List api_EnumV) (t : api_TableV) : R :=
  Option.bind (table_Validate t enums) fun x1 =>
  Option.bind (ref12_Validate t enums) fun x2 =>
  Option.bind (table_FirstConflict t) fun x3 =>
  Option.bind (ref12_FirstConflict t) fun x4 =>
  cond (x1.1 == x2.1)
    (cond (x1.2.1 == x2.2.1)
      (cond (x3.1 == x4.1)
        (cond (x3.2.1 == x4.2.1)
          (cond (x3.2.2.1 == x4.2.2.1)
            (Option.bind law12_awake fun x5 =>
            some (x5.1, ()))
            (some (false, ())))
          (some (false, ())))
        (some (false, ())))
      (some (false, ())))
    (some (false, ()))
noncomputable def Se (kJ0 : (List api_EnumV) → api_TableV → R) (t : api_TableV) (enums : List api_EnumV) : R :=
  Option.bind (law12_few t 80) fun x1 =>
  cond (!x1.1)
    (Option.bind law12_awake fun x2 =>
    some (x2.1, ()))
    (Option.bind (law12_enumsFew enums) fun x3 =>
    cond (!x3.1)
      (Option.bind law12_awake fun x4 =>
      some (x4.1, ()))
      (kJ0 enums t))
theorem sJ0 (jmp : Tgt → ASt → R) (enums : List api_EnumV) (t : api_TableV) : run E jmp fin depth c0 .ret (tJ0 enums t) =
    SJ0 enums t := by kernel_rfl
theorem se (jmp : Tgt → ASt → R) (x : (argTy ps).den) : run E jmp fin depth (bodyOf Try.f3) .ret (entryFrom 0 ps x) =
    Se (fun enums t => jmp (.code c0 .ret) (tJ0 enums t)) x.1 x.2.1 := by kernel_rfl
noncomputable def J0 (enums : List api_EnumV) (t : api_TableV) : R := lim E fin (.code c0 .ret) (tJ0 enums t)
theorem J0_eq (enums : List api_EnumV) (t : api_TableV) : J0 enums t = SJ0 enums t :=
  (lim_eq (.code c0 .ret) (tJ0 enums t)).trans (sJ0 (lim E fin) enums t)
end law12_TableValidate
noncomputable def law12_TableValidate (t : api_TableV) (enums : List api_EnumV) : law12_TableValidate.R :=
  law12_TableValidate.Se law12_TableValidate.J0 t enums
noncomputable def law12_TableValidate.sig : Sig := ⟨law12_TableValidate.ps, law12_TableValidate.rs, fun x => law12_TableValidate x.1 x.2.1⟩
theorem law12_TableValidate.ok : CallOK Try.prog 3 law12_TableValidate.sig :=
  callOK_of_lim (E := law12_TableValidate.E) mixed tt_ok (ctxOk_cons (ctxOk_cons (ctxOk_cons (ctxOk_cons (ctxOk_cons (ctxOk_cons (ctxOk_cons ctxOk_nil ref12_FirstConflict.ok Try.func16 (by kernel_rfl) (by kernel_rfl)) table_FirstConflict.ok Try.func15 (by kernel_rfl) (by kernel_rfl)) ref12_Validate.ok Try.func14 (by kernel_rfl) (by kernel_rfl)) table_Validate.ok Try.func13 (by kernel_rfl) (by kernel_rfl)) law12_enumsFew.ok Try.func11 (by kernel_rfl) (by kernel_rfl)) law12_awake.ok Try.func12 (by kernel_rfl) (by kernel_rfl)) law12_few.ok Try.func10 (by kernel_rfl) (by kernel_rfl)) Try.func3 (by kernel_rfl : Try.f3.body = some (bodyOf Try.f3)) Try.ntmps3 (of_decide_eq_true (by kernel_rfl)) (of_decide_eq_true (by kernel_rfl))
    fun x y h => ((lim_eq (.code (bodyOf Try.f3) .ret) (entryFrom 0 law12_TableValidate.ps x)).trans (law12_TableValidate.se (lim law12_TableValidate.E law12_TableValidate.fin) x)).trans h
theorem law12_TableValidate.val (x : (argTy law12_TableValidate.ps).den) : lim law12_TableValidate.E law12_TableValidate.fin (.code (bodyOf Try.f3) .ret) (entryFrom 0 law12_TableValidate.ps x) = law12_TableValidate.sig.run x :=
  (lim_eq (.code (bodyOf Try.f3) .ret) (entryFrom 0 law12_TableValidate.ps x)).trans (law12_TableValidate.se (lim law12_TableValidate.E law12_TableValidate.fin) x)
noncomputable def law12_TableValidate.ctxc (n : Nat) : List (Nat × Sig) := [(10, law12_few.sigc n), (12, law12_awake.sigc n), (11, law12_enumsFew.sigc n), (13, table_Validate.sigc n), (14, ref12_Validate.sigc n), (15, table_FirstConflict.sigc n), (16, ref12_FirstConflict.sigc n)]
noncomputable def law12_TableValidate.sigc (n : Nat) : Sig := ⟨law12_TableValidate.ps, law12_TableValidate.rs, fun x => runs (withCtx law12_TableValidate.E (law12_TableValidate.ctxc n)) law12_TableValidate.fin n (.code (bodyOf Try.f3) .ret) (entryFrom 0 law12_TableValidate.ps x)⟩
theorem law12_TableValidate.sigc_le (n : Nat) : ∀ x y, (law12_TableValidate.sigc n).run x = some y → law12_TableValidate.sig.run x = some y :=
  fun x y h => (law12_TableValidate.val x).symm.trans (runs_lim (E := law12_TableValidate.E) (c := law12_TableValidate.ctxc n) (ctxLe_cons (ctxLe_cons (ctxLe_cons (ctxLe_cons (ctxLe_cons (ctxLe_cons (ctxLe_cons ctxLe_nil (ref12_FirstConflict.sigc_le n)) (table_FirstConflict.sigc_le n)) (ref12_Validate.sigc_le n)) (table_Validate.sigc_le n)) (law12_enumsFew.sigc_le n)) (law12_awake.sigc_le n)) (law12_few.sigc_le n)) h)
end Go.Proofs.Ytgnigfnonoicmaa
