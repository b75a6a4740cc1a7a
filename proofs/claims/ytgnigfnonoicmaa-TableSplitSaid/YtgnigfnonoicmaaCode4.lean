import Derived.Test.YtgnigfnonoicmaaCode3
set_option maxRecDepth 100000
set_option linter.unusedVariables false
namespace Go.Proofs.Ytgnigfnonoicmaa
open Go Go.Lift
namespace law12_split
abbrev ps : List PM := [.pure (.sl api_Row), .pure (.int .i64)]
abbrev rs : List RM := [.own api_Row]
abbrev R : Type := Option (List api_RowV × Unit)
noncomputable def E : Env := { tt := tt, ctx := [], nt := 56, ann := [(1000003, [(0, .keep), (1, .keep), (5, .own api_Row), (6, .keep)]), (6, [(0, .keep), (1, .keep), (5, .own api_Row), (6, .keep), (30, .keep)])] }
noncomputable def c0 : Code := sub [1, 1, 1] (bodyOf Try.f24)
noncomputable def c1 : Code := sub [1, 1, 0, 1, 0, 0] (bodyOf Try.f24)
noncomputable def c2 : Code := sub [1, 1, 0, 1, 0, 0, 1, 1] (bodyOf Try.f24)
noncomputable def c3 : Code := sub [1, 1, 0, 1, 0, 0, 1, 0, 0, 1] (bodyOf Try.f24)
noncomputable def K3 : Kont := .seq c0 .ret
noncomputable def K5 : Kont := .blk 0 K3
noncomputable def K6 : Kont := .loop c1 K5
noncomputable def K9 : Kont := .seq c2 K6
noncomputable def K10 : Kont := .blk 1 K9
noncomputable def fin : ASt → R := Kret E Try.f24.results.toList ps rs
def tL0 (l : List api_RowV) (at_1 : Int) (out : List api_RowV) (i : Int) : ASt := ⟨[(6, .one (.val (.int .i64) i)), (5, .one (.own 5)), (1, .one (.val (.int .i64) at_1)), (0, .one (.val (.sl api_Row) l))], [(5, some ⟨.free, api_Row, out⟩)]⟩
def tJ1 (l : List api_RowV) (at_1 : Int) (out : List api_RowV) (i : Int) (v_30 : Bool) : ASt := ⟨[(30, .one (.val .bool v_30)), (6, .one (.val (.int .i64) i)), (5, .one (.own 5)), (1, .one (.val (.int .i64) at_1)), (0, .one (.val (.sl api_Row) l))], [(5, some ⟨.free, api_Row, out⟩)]⟩
noncomputable def SL0 (kJ1 : (List api_RowV) → Int → (List api_RowV) → Int → Bool → R) (l : List api_RowV) (at_1 : Int) (out : List api_RowV) (i : Int) : R :=
  cond (decide (i < (l.length : Int)))
    (Option.bind (idx l i) fun x1 =>
    cond (decide (x1.2.1 < at_1))
      (Option.bind (idx l i) fun x2 =>
      kJ1 l at_1 out i (decide (at_1 < x2.2.2.1)))
      (kJ1 l at_1 out i false))
    (some (out, ()))
noncomputable def SJ1 (kL0 : (List api_RowV) → Int → (List api_RowV) → Int → R) (l : List api_RowV) (at_1 : Int) (out : List api_RowV) (i : Int) (v_30 : Bool) : R :=
  cond v_30
    (Option.bind (idx l i) fun x1 =>
    Option.bind (idx l i) fun x2 =>
    cond (decide ((out.length + 2) * 40 ≤ room) && decide (0 < Ty.nc (.pair (.pair (.int .i64) (.pair (.int .i64) .unit)) (.pair (.int .i64) (.pair (.int .i64) (.pair (.int .i64) .unit))))))
      (kL0 l at_1 (out ++ [(x1.1, x1.2.1, at_1, x1.2.2.2.1, ()), (x2.1, at_1, x2.2.2.1, x2.2.2.2.1, ())]) (IntKind.i64.wrap (i + 1)))
      none)
    (Option.bind (idx l i) fun x3 =>
    cond (decide ((out.length + 1) * 40 ≤ room) && decide (0 < Ty.nc (.pair (.pair (.int .i64) (.pair (.int .i64) .unit)) (.pair (.int .i64) (.pair (.int .i64) (.pair (.int .i64) .unit))))))
      (kL0 l at_1 (out ++ [x3]) (IntKind.i64.wrap (i + 1)))
      none)
noncomputable def Se (kL0 : (List api_RowV) → Int → (List api_RowV) → Int → R) (l : List api_RowV) (at_1 : Int) : R :=
  kL0 l at_1 [] 0
theorem sL0 (jmp : Tgt → ASt → R) (l : List api_RowV) (at_1 : Int) (out : List api_RowV) (i : Int) : run E jmp fin depth c1 (.loop c1 K5) (tL0 l at_1 out i) =
    SL0 (fun l at_1 out i v_30 => jmp (.code c3 K10) (tJ1 l at_1 out i v_30)) l at_1 out i := by kernel_rfl
theorem sJ1 (jmp : Tgt → ASt → R) (l : List api_RowV) (at_1 : Int) (out : List api_RowV) (i : Int) (v_30 : Bool) : run E jmp fin depth c3 K10 (tJ1 l at_1 out i v_30) =
    SJ1 (fun l at_1 out i => jmp (.loop c1 K5) (tL0 l at_1 out i)) l at_1 out i v_30 := by kernel_rfl
theorem se (jmp : Tgt → ASt → R) (x : (argTy ps).den) : run E jmp fin depth (bodyOf Try.f24) .ret (entryFrom 0 ps x) =
    Se (fun l at_1 out i => jmp (.loop c1 K5) (tL0 l at_1 out i)) x.1 x.2.1 := by kernel_rfl
noncomputable def L0 (l : List api_RowV) (at_1 : Int) (out : List api_RowV) (i : Int) : R := lim E fin (.loop c1 K5) (tL0 l at_1 out i)
noncomputable def J1 (l : List api_RowV) (at_1 : Int) (out : List api_RowV) (i : Int) (v_30 : Bool) : R := lim E fin (.code c3 K10) (tJ1 l at_1 out i v_30)
theorem L0_eq (l : List api_RowV) (at_1 : Int) (out : List api_RowV) (i : Int) : L0 l at_1 out i = SL0 J1 l at_1 out i :=
  (lim_eq (.loop c1 K5) (tL0 l at_1 out i)).trans (sL0 (lim E fin) l at_1 out i)
theorem J1_eq (l : List api_RowV) (at_1 : Int) (out : List api_RowV) (i : Int) (v_30 : Bool) : J1 l at_1 out i v_30 = SJ1 L0 l at_1 out i v_30 :=
  (lim_eq (.code c3 K10) (tJ1 l at_1 out i v_30)).trans (sJ1 (lim E fin) l at_1 out i v_30)
end law12_split
noncomputable def law12_split (l : List api_RowV) (at_1 : Int) : law12_split.R :=
  law12_split.Se law12_split.L0 l at_1
noncomputable def law12_split.sig : Sig := ⟨law12_split.ps, law12_split.rs, fun x => law12_split x.1 x.2.1⟩
theorem law12_split.ok : CallOK Try.prog 24 law12_split.sig :=
  callOK_of_lim (E := law12_split.E) mixed tt_ok ctxOk_nil Try.func24 (by kernel_rfl : Try.f24.body = some (bodyOf Try.f24)) Try.ntmps24 (of_decide_eq_true (by kernel_rfl)) (of_decide_eq_true (by kernel_rfl))
    fun x y h => ((lim_eq (.code (bodyOf Try.f24) .ret) (entryFrom 0 law12_split.ps x)).trans (law12_split.se (lim law12_split.E law12_split.fin) x)).trans h
theorem law12_split.val (x : (argTy law12_split.ps).den) : lim law12_split.E law12_split.fin (.code (bodyOf Try.f24) .ret) (entryFrom 0 law12_split.ps x) = law12_split.sig.run x :=
  (lim_eq (.code (bodyOf Try.f24) .ret) (entryFrom 0 law12_split.ps x)).trans (law12_split.se (lim law12_split.E law12_split.fin) x)
noncomputable def law12_split.ctxc (n : Nat) : List (Nat × Sig) := []
noncomputable def law12_split.sigc (n : Nat) : Sig := ⟨law12_split.ps, law12_split.rs, fun x => runs (withCtx law12_split.E (law12_split.ctxc n)) law12_split.fin n (.code (bodyOf Try.f24) .ret) (entryFrom 0 law12_split.ps x)⟩
theorem law12_split.sigc_le (n : Nat) : ∀ x y, (law12_split.sigc n).run x = some y → law12_split.sig.run x = some y :=
  fun x y h => (law12_split.val x).symm.trans (runs_lim (E := law12_split.E) (c := law12_split.ctxc n) ctxLe_nil h)
namespace law12_TableSplit
abbrev ps : List PM := [.pure api_Table, .pure (.int .i64), .pure (.int .i64), .pure (.int .i64)]
abbrev rs : List RM := [.pure .bool]
abbrev R : Type := Option (Bool × Unit)
noncomputable def E : Env := { tt := tt, ctx := [(10, law12_few.sig), (12, law12_awake.sig), (24, law12_split.sig), (21, table_Brackets.sig)], nt := 57, ann := [(1000006, [(1, .keep), (2, .keep), (4, .keep), (9, .keep), (10, .keep)])] }
noncomputable def c0 : Code := sub [1, 1, 1, 1, 1] (bodyOf Try.f7)
noncomputable def c1 : Code := sub [1, 1, 1, 1, 0, 1, 0, 0] (bodyOf Try.f7)
noncomputable def K7 : Kont := .seq c0 .ret
noncomputable def K9 : Kont := .blk 0 K7
noncomputable def fin : ASt → R := Kret E Try.f7.results.toList ps rs
def tL0 (date : Int) (c_2 : Int) (t : api_TableV) (u : api_TableV) (m : Int) : ASt := ⟨[(10, .one (.val (.int .i64) m)), (9, .one (.optr 9 0 [])), (4, .one (.optr 4 0 [])), (2, .one (.val (.int .i64) c_2)), (1, .one (.val (.int .i64) date))], [(9, some ⟨.free, api_Table, [u]⟩), (4, some ⟨.free, api_Table, [t]⟩)]⟩
noncomputable def SL0 (kL0 : Int → Int → api_TableV → api_TableV → Int → R) (date : Int) (c_2 : Int) (t : api_TableV) (u : api_TableV) (m : Int) : R :=
  cond (decide (m ≤ 5))
    (Option.bind (table_Brackets t date c_2 m) fun x1 =>
    Option.bind (table_Brackets u date c_2 m) fun x2 =>
    cond (x1.2.1 == 0)
      (cond (x2.2.1 != 0)
        (some (false, ()))
        (cond (x1.1 != x2.1)
          (some (false, ()))
          (kL0 date c_2 t u (IntKind.i64.wrap (m + 1)))))
      (kL0 date c_2 t u (IntKind.i64.wrap (m + 1))))
    (Option.bind law12_awake fun x3 =>
    some (x3.1, ()))
noncomputable def Se (kL0 : Int → Int → api_TableV → api_TableV → Int → R) (t : api_TableV) (date : Int) (c_2 : Int) (at_3 : Int) : R :=
  Option.bind (law12_few t 32) fun x1 =>
  cond (!x1.1)
    (Option.bind law12_awake fun x2 =>
    some (x2.1, ()))
    (Option.bind (law12_split t.2.2.2.1 at_3) fun x3 =>
    kL0 date c_2 t (t.1, t.2.1, t.2.2.1, x3.1, ()) 0)
theorem sL0 (jmp : Tgt → ASt → R) (date : Int) (c_2 : Int) (t : api_TableV) (u : api_TableV) (m : Int) : run E jmp fin depth c1 (.loop c1 K9) (tL0 date c_2 t u m) =
    SL0 (fun date c_2 t u m => jmp (.loop c1 K9) (tL0 date c_2 t u m)) date c_2 t u m := by kernel_rfl
theorem se (jmp : Tgt → ASt → R) (x : (argTy ps).den) : run E jmp fin depth (bodyOf Try.f7) .ret (entryFrom 0 ps x) =
    Se (fun date c_2 t u m => jmp (.loop c1 K9) (tL0 date c_2 t u m)) x.1 x.2.1 x.2.2.1 x.2.2.2.1 := by kernel_rfl
noncomputable def L0 (date : Int) (c_2 : Int) (t : api_TableV) (u : api_TableV) (m : Int) : R := lim E fin (.loop c1 K9) (tL0 date c_2 t u m)
theorem L0_eq (date : Int) (c_2 : Int) (t : api_TableV) (u : api_TableV) (m : Int) : L0 date c_2 t u m = SL0 L0 date c_2 t u m :=
  (lim_eq (.loop c1 K9) (tL0 date c_2 t u m)).trans (sL0 (lim E fin) date c_2 t u m)
end law12_TableSplit
noncomputable def law12_TableSplit (t : api_TableV) (date : Int) (c_2 : Int) (at_3 : Int) : law12_TableSplit.R :=
  law12_TableSplit.Se law12_TableSplit.L0 t date c_2 at_3
noncomputable def law12_TableSplit.sig : Sig := ⟨law12_TableSplit.ps, law12_TableSplit.rs, fun x => law12_TableSplit x.1 x.2.1 x.2.2.1 x.2.2.2.1⟩
theorem law12_TableSplit.ok : CallOK Try.prog 7 law12_TableSplit.sig :=
  callOK_of_lim (E := law12_TableSplit.E) mixed tt_ok (ctxOk_cons (ctxOk_cons (ctxOk_cons (ctxOk_cons ctxOk_nil table_Brackets.ok Try.func21 (by kernel_rfl) (by kernel_rfl)) law12_split.ok Try.func24 (by kernel_rfl) (by kernel_rfl)) law12_awake.ok Try.func12 (by kernel_rfl) (by kernel_rfl)) law12_few.ok Try.func10 (by kernel_rfl) (by kernel_rfl)) Try.func7 (by kernel_rfl : Try.f7.body = some (bodyOf Try.f7)) Try.ntmps7 (of_decide_eq_true (by kernel_rfl)) (of_decide_eq_true (by kernel_rfl))
    fun x y h => ((lim_eq (.code (bodyOf Try.f7) .ret) (entryFrom 0 law12_TableSplit.ps x)).trans (law12_TableSplit.se (lim law12_TableSplit.E law12_TableSplit.fin) x)).trans h
theorem law12_TableSplit.val (x : (argTy law12_TableSplit.ps).den) : lim law12_TableSplit.E law12_TableSplit.fin (.code (bodyOf Try.f7) .ret) (entryFrom 0 law12_TableSplit.ps x) = law12_TableSplit.sig.run x :=
  (lim_eq (.code (bodyOf Try.f7) .ret) (entryFrom 0 law12_TableSplit.ps x)).trans (law12_TableSplit.se (lim law12_TableSplit.E law12_TableSplit.fin) x)
noncomputable def law12_TableSplit.ctxc (n : Nat) : List (Nat × Sig) := [(10, law12_few.sigc n), (12, law12_awake.sigc n), (24, law12_split.sigc n), (21, table_Brackets.sigc n)]
noncomputable def law12_TableSplit.sigc (n : Nat) : Sig := ⟨law12_TableSplit.ps, law12_TableSplit.rs, fun x => runs (withCtx law12_TableSplit.E (law12_TableSplit.ctxc n)) law12_TableSplit.fin n (.code (bodyOf Try.f7) .ret) (entryFrom 0 law12_TableSplit.ps x)⟩
theorem law12_TableSplit.sigc_le (n : Nat) : ∀ x y, (law12_TableSplit.sigc n).run x = some y → law12_TableSplit.sig.run x = some y :=
  fun x y h => (law12_TableSplit.val x).symm.trans (runs_lim (E := law12_TableSplit.E) (c := law12_TableSplit.ctxc n) (ctxLe_cons (ctxLe_cons (ctxLe_cons (ctxLe_cons ctxLe_nil (table_Brackets.sigc_le n)) (law12_split.sigc_le n)) (law12_awake.sigc_le n)) (law12_few.sigc_le n)) h)
end Go.Proofs.Ytgnigfnonoicmaa
