import Derived.Test.YtgnigfnonoicmaaCode3
set_option maxRecDepth 100000
set_option linter.unusedVariables false
namespace Go.Proofs.Ytgnigfnonoicmaa
open Go Go.Lift
namespace money_MulDiv
abbrev ps : List PM := [.pure (.int .i64), .pure (.int .i64), .pure (.int .i64), .pure (.int .i64)]
abbrev rs : List RM := [.pure (.int .i64), .pure (.int .i64)]
abbrev R : Type := Option (Int × Int × Unit)
noncomputable def E : Env := { tt := tt, ctx := [(51, money_mode.sig), (52, money_abs.sig), (53, math_bits_Mul64.sig), (54, math_bits_Div64.sig), (55, money_round.sig), (56, money_signed.sig)], nt := 78, ann := [(7, [(0, .keep), (1, .keep), (2, .keep), (3, .keep)])] }
noncomputable def c0 : Code := sub [1, 1] (bodyOf Try.f26)
noncomputable def fin : ASt → R := Kret E Try.f26.results.toList ps rs
def tJ0 (c_0 : Int) (num : Int) (den : Int) (m : Int) : ASt := ⟨[(3, .one (.val (.int .i64) m)), (2, .one (.val (.int .i64) den)), (1, .one (.val (.int .i64) num)), (0, .one (.val (.int .i64) c_0))], []⟩
noncomputable def SJ0 (c_0 : Int) (num : Int) (den : Int) (m : Int) : R :=
  Option.bind (money_abs c_0) fun x1 =>
  Option.bind (money_abs num) fun x2 =>
  Option.bind (math_bits_Mul64 x1.1 x2.1) fun x3 =>
  Option.bind (money_abs den) fun x4 =>
  cond (decide (x3.1 ≥ x4.1))
    (some (0, 3, ()))
    (Option.bind (math_bits_Div64 x3.1 x3.2.1 x4.1) fun x5 =>
    cond (decide (x5.1 > 1000000000000000))
      (some (0, 3, ()))
      (Option.bind (money_round x5.1 x5.2.1 x4.1 (!((!((decide (c_0 < 0)) == (decide (num < 0)))) == (decide (den < 0)))) m) fun x6 =>
      cond (decide (x6.1 > 1000000000000000))
        (some (0, 3, ()))
        (Option.bind (money_signed x6.1 (!((!((decide (c_0 < 0)) == (decide (num < 0)))) == (decide (den < 0))))) fun x7 =>
        some (x7.1, 0, ()))))
noncomputable def Se (kJ0 : Int → Int → Int → Int → R) (c_0 : Int) (num : Int) (den : Int) (m : Int) : R :=
  Option.bind (money_mode m) fun x1 =>
  cond (!x1.1)
    (some (0, 1, ()))
    (cond (den == 0)
      (some (0, 12, ()))
      (Option.bind (money_abs c_0) fun x2 =>
      cond (decide (x2.1 > 1000000000000000))
        (some (0, 3, ()))
        (Option.bind (money_abs num) fun x3 =>
        cond (decide (x3.1 > 1000000000))
          (some (0, 3, ()))
          (Option.bind (money_abs den) fun x4 =>
          cond (decide (x4.1 > 1000000000))
            (some (0, 3, ()))
            (kJ0 c_0 num den m)))))
theorem sJ0 (jmp : Tgt → ASt → R) (c_0 : Int) (num : Int) (den : Int) (m : Int) : run E jmp fin depth c0 .ret (tJ0 c_0 num den m) =
    SJ0 c_0 num den m := by kernel_rfl
theorem se (jmp : Tgt → ASt → R) (x : (argTy ps).den) : run E jmp fin depth (bodyOf Try.f26) .ret (entryFrom 0 ps x) =
    Se (fun c_0 num den m => jmp (.code c0 .ret) (tJ0 c_0 num den m)) x.1 x.2.1 x.2.2.1 x.2.2.2.1 := by kernel_rfl
noncomputable def J0 (c_0 : Int) (num : Int) (den : Int) (m : Int) : R := lim E fin (.code c0 .ret) (tJ0 c_0 num den m)
theorem J0_eq (c_0 : Int) (num : Int) (den : Int) (m : Int) : J0 c_0 num den m = SJ0 c_0 num den m :=
  (lim_eq (.code c0 .ret) (tJ0 c_0 num den m)).trans (sJ0 (lim E fin) c_0 num den m)
end money_MulDiv
noncomputable def money_MulDiv (c_0 : Int) (num : Int) (den : Int) (m : Int) : money_MulDiv.R :=
  money_MulDiv.Se money_MulDiv.J0 c_0 num den m
noncomputable def money_MulDiv.sig : Sig := ⟨money_MulDiv.ps, money_MulDiv.rs, fun x => money_MulDiv x.1 x.2.1 x.2.2.1 x.2.2.2.1⟩
theorem money_MulDiv.ok : CallOK Try.prog 26 money_MulDiv.sig :=
  callOK_of_lim (E := money_MulDiv.E) mixed tt_ok (ctxOk_cons (ctxOk_cons (ctxOk_cons (ctxOk_cons (ctxOk_cons (ctxOk_cons ctxOk_nil money_signed.ok Try.func56 (by kernel_rfl) (by kernel_rfl)) money_round.ok Try.func55 (by kernel_rfl) (by kernel_rfl)) math_bits_Div64.ok Try.func54 (by kernel_rfl) (by kernel_rfl)) math_bits_Mul64.ok Try.func53 (by kernel_rfl) (by kernel_rfl)) money_abs.ok Try.func52 (by kernel_rfl) (by kernel_rfl)) money_mode.ok Try.func51 (by kernel_rfl) (by kernel_rfl)) Try.func26 (by kernel_rfl : Try.f26.body = some (bodyOf Try.f26)) Try.ntmps26 (of_decide_eq_true (by kernel_rfl)) (of_decide_eq_true (by kernel_rfl))
    fun x y h => ((lim_eq (.code (bodyOf Try.f26) .ret) (entryFrom 0 money_MulDiv.ps x)).trans (money_MulDiv.se (lim money_MulDiv.E money_MulDiv.fin) x)).trans h
theorem money_MulDiv.val (x : (argTy money_MulDiv.ps).den) : lim money_MulDiv.E money_MulDiv.fin (.code (bodyOf Try.f26) .ret) (entryFrom 0 money_MulDiv.ps x) = money_MulDiv.sig.run x :=
  (lim_eq (.code (bodyOf Try.f26) .ret) (entryFrom 0 money_MulDiv.ps x)).trans (money_MulDiv.se (lim money_MulDiv.E money_MulDiv.fin) x)
noncomputable def money_MulDiv.ctxc (n : Nat) : List (Nat × Sig) := [(51, money_mode.sigc n), (52, money_abs.sigc n), (53, math_bits_Mul64.sigc n), (54, math_bits_Div64.sigc n), (55, money_round.sigc n), (56, money_signed.sigc n)]
noncomputable def money_MulDiv.sigc (n : Nat) : Sig := ⟨money_MulDiv.ps, money_MulDiv.rs, fun x => runs (withCtx money_MulDiv.E (money_MulDiv.ctxc n)) money_MulDiv.fin n (.code (bodyOf Try.f26) .ret) (entryFrom 0 money_MulDiv.ps x)⟩
theorem money_MulDiv.sigc_le (n : Nat) : ∀ x y, (money_MulDiv.sigc n).run x = some y → money_MulDiv.sig.run x = some y :=
  fun x y h => (money_MulDiv.val x).symm.trans (runs_lim (E := money_MulDiv.E) (c := money_MulDiv.ctxc n) (ctxLe_cons (ctxLe_cons (ctxLe_cons (ctxLe_cons (ctxLe_cons (ctxLe_cons ctxLe_nil (money_signed.sigc_le n)) (money_round.sigc_le n)) (math_bits_Div64.sigc_le n)) (math_bits_Mul64.sigc_le n)) (money_abs.sigc_le n)) (money_mode.sigc_le n)) h)
namespace law12_TableFlatRate
abbrev ps : List PM := [.pure (.int .i64), .pure (.int .i64), .pure (.int .i64)]
abbrev rs : List RM := [.pure .bool]
abbrev R : Type := Option (Bool × Unit)
noncomputable def E : Env := { tt := tt, ctx := [(12, law12_awake.sig), (25, law12_schedule.sig), (21, table_Brackets.sig), (26, money_MulDiv.sig)], nt := 50, ann := [(3, [(0, .keep), (1, .keep), (2, .keep)])] }
noncomputable def c0 : Code := sub [1, 1] (bodyOf Try.f8)
noncomputable def fin : ASt → R := Kret E Try.f8.results.toList ps rs
def tJ0 (c_0 : Int) (rate : Int) (mode : Int) : ASt := ⟨[(2, .one (.val (.int .i64) mode)), (1, .one (.val (.int .i64) rate)), (0, .one (.val (.int .i64) c_0))], []⟩
noncomputable def SJ0 (c_0 : Int) (rate : Int) (mode : Int) : R :=
  Option.bind (law12_schedule [((0, 0, ()), 0, 1000000000000001, rate, ())]) fun x1 =>
  Option.bind (table_Brackets x1.1 45000 c_0 mode) fun x2 =>
  Option.bind (money_MulDiv c_0 rate 1000000 mode) fun x3 =>
  cond (x2.1 == x3.1)
    (cond (x2.2.1 == x3.2.1)
      (Option.bind law12_awake fun x4 =>
      some (x4.1, ()))
      (some (false, ())))
    (some (false, ()))
noncomputable def Se (kJ0 : Int → Int → Int → R) (c_0 : Int) (rate : Int) (mode : Int) : R :=
  cond (decide (c_0 < 0))
    (Option.bind law12_awake fun x1 =>
    some (x1.1, ()))
    (cond (decide (rate > 1000000000))
      (Option.bind law12_awake fun x2 =>
      some (x2.1, ()))
      (cond (decide (rate < (-1000000000)))
        (Option.bind law12_awake fun x3 =>
        some (x3.1, ()))
        (kJ0 c_0 rate mode)))
theorem sJ0 (jmp : Tgt → ASt → R) (c_0 : Int) (rate : Int) (mode : Int) : run E jmp fin depth c0 .ret (tJ0 c_0 rate mode) =
    SJ0 c_0 rate mode := by kernel_rfl
theorem se (jmp : Tgt → ASt → R) (x : (argTy ps).den) : run E jmp fin depth (bodyOf Try.f8) .ret (entryFrom 0 ps x) =
    Se (fun c_0 rate mode => jmp (.code c0 .ret) (tJ0 c_0 rate mode)) x.1 x.2.1 x.2.2.1 := by kernel_rfl
noncomputable def J0 (c_0 : Int) (rate : Int) (mode : Int) : R := lim E fin (.code c0 .ret) (tJ0 c_0 rate mode)
theorem J0_eq (c_0 : Int) (rate : Int) (mode : Int) : J0 c_0 rate mode = SJ0 c_0 rate mode :=
  (lim_eq (.code c0 .ret) (tJ0 c_0 rate mode)).trans (sJ0 (lim E fin) c_0 rate mode)
end law12_TableFlatRate
noncomputable def law12_TableFlatRate (c_0 : Int) (rate : Int) (mode : Int) : law12_TableFlatRate.R :=
  law12_TableFlatRate.Se law12_TableFlatRate.J0 c_0 rate mode
noncomputable def law12_TableFlatRate.sig : Sig := ⟨law12_TableFlatRate.ps, law12_TableFlatRate.rs, fun x => law12_TableFlatRate x.1 x.2.1 x.2.2.1⟩
theorem law12_TableFlatRate.ok : CallOK Try.prog 8 law12_TableFlatRate.sig :=
  callOK_of_lim (E := law12_TableFlatRate.E) mixed tt_ok (ctxOk_cons (ctxOk_cons (ctxOk_cons (ctxOk_cons ctxOk_nil money_MulDiv.ok Try.func26 (by kernel_rfl) (by kernel_rfl)) table_Brackets.ok Try.func21 (by kernel_rfl) (by kernel_rfl)) law12_schedule.ok Try.func25 (by kernel_rfl) (by kernel_rfl)) law12_awake.ok Try.func12 (by kernel_rfl) (by kernel_rfl)) Try.func8 (by kernel_rfl : Try.f8.body = some (bodyOf Try.f8)) Try.ntmps8 (of_decide_eq_true (by kernel_rfl)) (of_decide_eq_true (by kernel_rfl))
    fun x y h => ((lim_eq (.code (bodyOf Try.f8) .ret) (entryFrom 0 law12_TableFlatRate.ps x)).trans (law12_TableFlatRate.se (lim law12_TableFlatRate.E law12_TableFlatRate.fin) x)).trans h
theorem law12_TableFlatRate.val (x : (argTy law12_TableFlatRate.ps).den) : lim law12_TableFlatRate.E law12_TableFlatRate.fin (.code (bodyOf Try.f8) .ret) (entryFrom 0 law12_TableFlatRate.ps x) = law12_TableFlatRate.sig.run x :=
  (lim_eq (.code (bodyOf Try.f8) .ret) (entryFrom 0 law12_TableFlatRate.ps x)).trans (law12_TableFlatRate.se (lim law12_TableFlatRate.E law12_TableFlatRate.fin) x)
noncomputable def law12_TableFlatRate.ctxc (n : Nat) : List (Nat × Sig) := [(12, law12_awake.sigc n), (25, law12_schedule.sigc n), (21, table_Brackets.sigc n), (26, money_MulDiv.sigc n)]
noncomputable def law12_TableFlatRate.sigc (n : Nat) : Sig := ⟨law12_TableFlatRate.ps, law12_TableFlatRate.rs, fun x => runs (withCtx law12_TableFlatRate.E (law12_TableFlatRate.ctxc n)) law12_TableFlatRate.fin n (.code (bodyOf Try.f8) .ret) (entryFrom 0 law12_TableFlatRate.ps x)⟩
theorem law12_TableFlatRate.sigc_le (n : Nat) : ∀ x y, (law12_TableFlatRate.sigc n).run x = some y → law12_TableFlatRate.sig.run x = some y :=
  fun x y h => (law12_TableFlatRate.val x).symm.trans (runs_lim (E := law12_TableFlatRate.E) (c := law12_TableFlatRate.ctxc n) (ctxLe_cons (ctxLe_cons (ctxLe_cons (ctxLe_cons ctxLe_nil (money_MulDiv.sigc_le n)) (table_Brackets.sigc_le n)) (law12_schedule.sigc_le n)) (law12_awake.sigc_le n)) h)
end Go.Proofs.Ytgnigfnonoicmaa
