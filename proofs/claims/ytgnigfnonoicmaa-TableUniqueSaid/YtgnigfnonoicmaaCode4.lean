import Derived.Test.YtgnigfnonoicmaaCode3
set_option maxRecDepth 100000
set_option linter.unusedVariables false
namespace Go.Proofs.Ytgnigfnonoicmaa
open Go Go.Lift
namespace ref05_Contains
abbrev ps : List PM := [.pure api_Type, .pure (.int .i64)]
abbrev rs : List RM := [.pure .bool]
abbrev R : Type := Option (Bool × Unit)
noncomputable def E : Env := { tt := tt, ctx := [(65, ref05_Valid.sig)], nt := 19, ann := [] }
noncomputable def fin : ASt → R := Kret E Try.f43.results.toList ps rs
noncomputable def Se (r_0 : api_TypeV) (date : Int) : R :=
  Option.bind (ref05_Valid r_0) fun x1 =>
  cond x1.1
    (cond (decide (r_0.1 ≤ date))
      (some (decide (date < r_0.2.1), ()))
      (some (false, ())))
    (some (false, ()))
theorem se (jmp : Tgt → ASt → R) (x : (argTy ps).den) : run E jmp fin depth (bodyOf Try.f43) .ret (entryFrom 0 ps x) =
    Se x.1 x.2.1 := by kernel_rfl
end ref05_Contains
noncomputable def ref05_Contains (r_0 : api_TypeV) (date : Int) : ref05_Contains.R :=
  ref05_Contains.Se r_0 date
noncomputable def ref05_Contains.sig : Sig := ⟨ref05_Contains.ps, ref05_Contains.rs, fun x => ref05_Contains x.1 x.2.1⟩
theorem ref05_Contains.ok : CallOK Try.prog 43 ref05_Contains.sig :=
  callOK_of_lim (E := ref05_Contains.E) mixed tt_ok (ctxOk_cons ctxOk_nil ref05_Valid.ok Try.func65 (by kernel_rfl) (by kernel_rfl)) Try.func43 (by kernel_rfl : Try.f43.body = some (bodyOf Try.f43)) Try.ntmps43 (of_decide_eq_true (by kernel_rfl)) (of_decide_eq_true (by kernel_rfl))
    fun x y h => ((lim_eq (.code (bodyOf Try.f43) .ret) (entryFrom 0 ref05_Contains.ps x)).trans (ref05_Contains.se (lim ref05_Contains.E ref05_Contains.fin) x)).trans h
theorem ref05_Contains.val (x : (argTy ref05_Contains.ps).den) : lim ref05_Contains.E ref05_Contains.fin (.code (bodyOf Try.f43) .ret) (entryFrom 0 ref05_Contains.ps x) = ref05_Contains.sig.run x :=
  (lim_eq (.code (bodyOf Try.f43) .ret) (entryFrom 0 ref05_Contains.ps x)).trans (ref05_Contains.se (lim ref05_Contains.E ref05_Contains.fin) x)
noncomputable def ref05_Contains.ctxc (n : Nat) : List (Nat × Sig) := [(65, ref05_Valid.sigc n)]
noncomputable def ref05_Contains.sigc (n : Nat) : Sig := ⟨ref05_Contains.ps, ref05_Contains.rs, fun x => runs (withCtx ref05_Contains.E (ref05_Contains.ctxc n)) ref05_Contains.fin n (.code (bodyOf Try.f43) .ret) (entryFrom 0 ref05_Contains.ps x)⟩
theorem ref05_Contains.sigc_le (n : Nat) : ∀ x y, (ref05_Contains.sigc n).run x = some y → ref05_Contains.sig.run x = some y :=
  fun x y h => (ref05_Contains.val x).symm.trans (runs_lim (E := ref05_Contains.E) (c := ref05_Contains.ctxc n) (ctxLe_cons ctxLe_nil (ref05_Valid.sigc_le n)) h)
namespace ref12_Matches
abbrev ps : List PM := [.pure api_Row, .pure (.int .i64), .pure (.int .i64)]
abbrev rs : List RM := [.pure .bool]
abbrev R : Type := Option (Bool × Unit)
noncomputable def E : Env := { tt := tt, ctx := [(43, ref05_Contains.sig)], nt := 23, ann := [] }
noncomputable def fin : ASt → R := Kret E Try.f23.results.toList ps rs
noncomputable def Se (x_0 : api_RowV) (date : Int) (key : Int) : R :=
  Option.bind (ref05_Contains x_0.1 date) fun x1 =>
  cond x1.1
    (cond (decide (x_0.2.1 ≤ key))
      (some (decide (key < x_0.2.2.1), ()))
      (some (false, ())))
    (some (false, ()))
theorem se (jmp : Tgt → ASt → R) (x : (argTy ps).den) : run E jmp fin depth (bodyOf Try.f23) .ret (entryFrom 0 ps x) =
    Se x.1 x.2.1 x.2.2.1 := by kernel_rfl
end ref12_Matches
noncomputable def ref12_Matches (x_0 : api_RowV) (date : Int) (key : Int) : ref12_Matches.R :=
  ref12_Matches.Se x_0 date key
noncomputable def ref12_Matches.sig : Sig := ⟨ref12_Matches.ps, ref12_Matches.rs, fun x => ref12_Matches x.1 x.2.1 x.2.2.1⟩
theorem ref12_Matches.ok : CallOK Try.prog 23 ref12_Matches.sig :=
  callOK_of_lim (E := ref12_Matches.E) mixed tt_ok (ctxOk_cons ctxOk_nil ref05_Contains.ok Try.func43 (by kernel_rfl) (by kernel_rfl)) Try.func23 (by kernel_rfl : Try.f23.body = some (bodyOf Try.f23)) Try.ntmps23 (of_decide_eq_true (by kernel_rfl)) (of_decide_eq_true (by kernel_rfl))
    fun x y h => ((lim_eq (.code (bodyOf Try.f23) .ret) (entryFrom 0 ref12_Matches.ps x)).trans (ref12_Matches.se (lim ref12_Matches.E ref12_Matches.fin) x)).trans h
theorem ref12_Matches.val (x : (argTy ref12_Matches.ps).den) : lim ref12_Matches.E ref12_Matches.fin (.code (bodyOf Try.f23) .ret) (entryFrom 0 ref12_Matches.ps x) = ref12_Matches.sig.run x :=
  (lim_eq (.code (bodyOf Try.f23) .ret) (entryFrom 0 ref12_Matches.ps x)).trans (ref12_Matches.se (lim ref12_Matches.E ref12_Matches.fin) x)
noncomputable def ref12_Matches.ctxc (n : Nat) : List (Nat × Sig) := [(43, ref05_Contains.sigc n)]
noncomputable def ref12_Matches.sigc (n : Nat) : Sig := ⟨ref12_Matches.ps, ref12_Matches.rs, fun x => runs (withCtx ref12_Matches.E (ref12_Matches.ctxc n)) ref12_Matches.fin n (.code (bodyOf Try.f23) .ret) (entryFrom 0 ref12_Matches.ps x)⟩
theorem ref12_Matches.sigc_le (n : Nat) : ∀ x y, (ref12_Matches.sigc n).run x = some y → ref12_Matches.sig.run x = some y :=
  fun x y h => (ref12_Matches.val x).symm.trans (runs_lim (E := ref12_Matches.E) (c := ref12_Matches.ctxc n) (ctxLe_cons ctxLe_nil (ref05_Contains.sigc_le n)) h)
namespace law12_TableUnique
abbrev ps : List PM := [.pure api_Table, .pure (.sl api_Enum), .pure (.int .i64), .pure (.int .i64)]
abbrev rs : List RM := [.pure .bool]
abbrev R : Type := Option (Bool × Unit)
noncomputable def E : Env := { tt := tt, ctx := [(10, law12_few.sig), (12, law12_awake.sig), (11, law12_enumsFew.sig), (13, table_Validate.sig), (18, table_Lookup.sig), (23, ref12_Matches.sig), (15, table_FirstConflict.sig)], nt := 88, ann := [(3, [(1, .keep), (2, .keep), (3, .keep), (4, .keep)]), (1000009, [(2, .keep), (3, .keep), (4, .keep), (11, .keep), (12, .keep), (13, .keep), (14, .keep)])] }
noncomputable def c0 : Code := sub [1, 1, 1, 1, 1, 1] (bodyOf Try.f6)
noncomputable def c1 : Code := sub [1, 1] (bodyOf Try.f6)
noncomputable def c2 : Code := sub [1, 1, 1, 1, 1, 0, 1, 0, 0] (bodyOf Try.f6)
noncomputable def K11 : Kont := .seq c0 .ret
noncomputable def K13 : Kont := .blk 0 K11
noncomputable def fin : ASt → R := Kret E Try.f6.results.toList ps rs
def tJ0 (enums : List api_EnumV) (date : Int) (key : Int) (t : api_TableV) : ASt := ⟨[(4, .one (.optr 4 0 [])), (3, .one (.val (.int .i64) key)), (2, .one (.val (.int .i64) date)), (1, .one (.val (.sl api_Enum) enums))], [(4, some ⟨.free, api_Table, [t]⟩)]⟩
def tL1 (date : Int) (key : Int) (t : api_TableV) (at_11 : Int) (ok : Bool) (n_13 : Int) (i : Int) : ASt := ⟨[(14, .one (.val (.int .i64) i)), (13, .one (.val (.int .i64) n_13)), (12, .one (.val .bool ok)), (11, .one (.val (.int .i64) at_11)), (4, .one (.optr 4 0 [])), (3, .one (.val (.int .i64) key)), (2, .one (.val (.int .i64) date))], [(4, some ⟨.free, api_Table, [t]⟩)]⟩
noncomputable def SJ0 (kL1 : Int → Int → api_TableV → Int → Bool → Int → Int → R) (enums : List api_EnumV) (date : Int) (key : Int) (t : api_TableV) : R :=
  Option.bind (table_Validate t enums) fun x1 =>
  cond (x1.2.1 != 0)
    (Option.bind law12_awake fun x2 =>
    some (x2.1, ()))
    (Option.bind (table_Lookup t date key) fun x3 =>
    kL1 date key t x3.1 x3.2.1 0 0)
noncomputable def SL1 (kL1 : Int → Int → api_TableV → Int → Bool → Int → Int → R) (date : Int) (key : Int) (t : api_TableV) (at_11 : Int) (ok : Bool) (n_13 : Int) (i : Int) : R :=
  cond (decide (i < (t.2.2.2.1.length : Int)))
    (Option.bind (idx t.2.2.2.1 i) fun x1 =>
    Option.bind (ref12_Matches x1 date key) fun x2 =>
    cond x2.1
      (cond (!ok)
        (some (false, ()))
        (cond (at_11 != i)
          (some (false, ()))
          (kL1 date key t at_11 ok (IntKind.i64.wrap (n_13 + 1)) (IntKind.i64.wrap (i + 1)))))
      (kL1 date key t at_11 ok n_13 (IntKind.i64.wrap (i + 1))))
    (Option.bind (table_FirstConflict t) fun x3 =>
    cond (decide (n_13 ≤ 1))
      (cond (ok == (n_13 == 1))
        (cond (!x3.2.2.1)
          (Option.bind law12_awake fun x4 =>
          some (x4.1, ()))
          (some (false, ())))
        (some (false, ())))
      (some (false, ())))
noncomputable def Se (kJ0 : (List api_EnumV) → Int → Int → api_TableV → R) (t : api_TableV) (enums : List api_EnumV) (date : Int) (key : Int) : R :=
  Option.bind (law12_few t 64) fun x1 =>
  cond (!x1.1)
    (Option.bind law12_awake fun x2 =>
    some (x2.1, ()))
    (Option.bind (law12_enumsFew enums) fun x3 =>
    cond (!x3.1)
      (Option.bind law12_awake fun x4 =>
      some (x4.1, ()))
      (kJ0 enums date key t))
theorem sJ0 (jmp : Tgt → ASt → R) (enums : List api_EnumV) (date : Int) (key : Int) (t : api_TableV) : run E jmp fin depth c1 .ret (tJ0 enums date key t) =
    SJ0 (fun date key t at_11 ok n_13 i => jmp (.loop c2 K13) (tL1 date key t at_11 ok n_13 i)) enums date key t := by kernel_rfl
theorem sL1 (jmp : Tgt → ASt → R) (date : Int) (key : Int) (t : api_TableV) (at_11 : Int) (ok : Bool) (n_13 : Int) (i : Int) : run E jmp fin depth c2 (.loop c2 K13) (tL1 date key t at_11 ok n_13 i) =
    SL1 (fun date key t at_11 ok n_13 i => jmp (.loop c2 K13) (tL1 date key t at_11 ok n_13 i)) date key t at_11 ok n_13 i := by kernel_rfl
theorem se (jmp : Tgt → ASt → R) (x : (argTy ps).den) : run E jmp fin depth (bodyOf Try.f6) .ret (entryFrom 0 ps x) =
    Se (fun enums date key t => jmp (.code c1 .ret) (tJ0 enums date key t)) x.1 x.2.1 x.2.2.1 x.2.2.2.1 := by kernel_rfl
noncomputable def J0 (enums : List api_EnumV) (date : Int) (key : Int) (t : api_TableV) : R := lim E fin (.code c1 .ret) (tJ0 enums date key t)
noncomputable def L1 (date : Int) (key : Int) (t : api_TableV) (at_11 : Int) (ok : Bool) (n_13 : Int) (i : Int) : R := lim E fin (.loop c2 K13) (tL1 date key t at_11 ok n_13 i)
theorem J0_eq (enums : List api_EnumV) (date : Int) (key : Int) (t : api_TableV) : J0 enums date key t = SJ0 L1 enums date key t :=
  (lim_eq (.code c1 .ret) (tJ0 enums date key t)).trans (sJ0 (lim E fin) enums date key t)
theorem L1_eq (date : Int) (key : Int) (t : api_TableV) (at_11 : Int) (ok : Bool) (n_13 : Int) (i : Int) : L1 date key t at_11 ok n_13 i = SL1 L1 date key t at_11 ok n_13 i :=
  (lim_eq (.loop c2 K13) (tL1 date key t at_11 ok n_13 i)).trans (sL1 (lim E fin) date key t at_11 ok n_13 i)
end law12_TableUnique
noncomputable def law12_TableUnique (t : api_TableV) (enums : List api_EnumV) (date : Int) (key : Int) : law12_TableUnique.R :=
  law12_TableUnique.Se law12_TableUnique.J0 t enums date key
noncomputable def law12_TableUnique.sig : Sig := ⟨law12_TableUnique.ps, law12_TableUnique.rs, fun x => law12_TableUnique x.1 x.2.1 x.2.2.1 x.2.2.2.1⟩
theorem law12_TableUnique.ok : CallOK Try.prog 6 law12_TableUnique.sig :=
  callOK_of_lim (E := law12_TableUnique.E) mixed tt_ok (ctxOk_cons (ctxOk_cons (ctxOk_cons (ctxOk_cons (ctxOk_cons (ctxOk_cons (ctxOk_cons ctxOk_nil table_FirstConflict.ok Try.func15 (by kernel_rfl) (by kernel_rfl)) ref12_Matches.ok Try.func23 (by kernel_rfl) (by kernel_rfl)) table_Lookup.ok Try.func18 (by kernel_rfl) (by kernel_rfl)) table_Validate.ok Try.func13 (by kernel_rfl) (by kernel_rfl)) law12_enumsFew.ok Try.func11 (by kernel_rfl) (by kernel_rfl)) law12_awake.ok Try.func12 (by kernel_rfl) (by kernel_rfl)) law12_few.ok Try.func10 (by kernel_rfl) (by kernel_rfl)) Try.func6 (by kernel_rfl : Try.f6.body = some (bodyOf Try.f6)) Try.ntmps6 (of_decide_eq_true (by kernel_rfl)) (of_decide_eq_true (by kernel_rfl))
    fun x y h => ((lim_eq (.code (bodyOf Try.f6) .ret) (entryFrom 0 law12_TableUnique.ps x)).trans (law12_TableUnique.se (lim law12_TableUnique.E law12_TableUnique.fin) x)).trans h
theorem law12_TableUnique.val (x : (argTy law12_TableUnique.ps).den) : lim law12_TableUnique.E law12_TableUnique.fin (.code (bodyOf Try.f6) .ret) (entryFrom 0 law12_TableUnique.ps x) = law12_TableUnique.sig.run x :=
  (lim_eq (.code (bodyOf Try.f6) .ret) (entryFrom 0 law12_TableUnique.ps x)).trans (law12_TableUnique.se (lim law12_TableUnique.E law12_TableUnique.fin) x)
noncomputable def law12_TableUnique.ctxc (n : Nat) : List (Nat × Sig) := [(10, law12_few.sigc n), (12, law12_awake.sigc n), (11, law12_enumsFew.sigc n), (13, table_Validate.sigc n), (18, table_Lookup.sigc n), (23, ref12_Matches.sigc n), (15, table_FirstConflict.sigc n)]
noncomputable def law12_TableUnique.sigc (n : Nat) : Sig := ⟨law12_TableUnique.ps, law12_TableUnique.rs, fun x => runs (withCtx law12_TableUnique.E (law12_TableUnique.ctxc n)) law12_TableUnique.fin n (.code (bodyOf Try.f6) .ret) (entryFrom 0 law12_TableUnique.ps x)⟩
theorem law12_TableUnique.sigc_le (n : Nat) : ∀ x y, (law12_TableUnique.sigc n).run x = some y → law12_TableUnique.sig.run x = some y :=
  fun x y h => (law12_TableUnique.val x).symm.trans (runs_lim (E := law12_TableUnique.E) (c := law12_TableUnique.ctxc n) (ctxLe_cons (ctxLe_cons (ctxLe_cons (ctxLe_cons (ctxLe_cons (ctxLe_cons (ctxLe_cons ctxLe_nil (table_FirstConflict.sigc_le n)) (ref12_Matches.sigc_le n)) (table_Lookup.sigc_le n)) (table_Validate.sigc_le n)) (law12_enumsFew.sigc_le n)) (law12_awake.sigc_le n)) (law12_few.sigc_le n)) h)
end Go.Proofs.Ytgnigfnonoicmaa
