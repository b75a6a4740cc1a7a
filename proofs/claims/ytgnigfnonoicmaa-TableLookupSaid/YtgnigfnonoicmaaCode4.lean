import Derived.Test.YtgnigfnonoicmaaCode3
set_option maxRecDepth 100000
set_option linter.unusedVariables false
namespace Go.Proofs.Ytgnigfnonoicmaa
open Go Go.Lift
namespace ref05_Contains
abbrev ps : List PM := [.pure api_Type, .pure (.int .i64)]
abbrev rs : List RM := [.pure .bool]
abbrev R : Type := Option (Bool × Unit)
noncomputable def E : Env := { tt := tt, ctx := [(65, ref05_Valid.sig)], nt := 19, ann := [] }
noncomputable def fin : ASt → R := Kret E Try.f43.results.toList ps rs
noncomputable def Se (r_0 : api_TypeV) (date : Int) : R :=
  Option.bind (ref05_Valid r_0) fun x1 =>
  cond x1.1
    (cond (decide (r_0.1 ≤ date))
      (some (decide (date < r_0.2.1), ()))
      (some (false, ())))
    (some (false, ()))
theorem se (jmp : Tgt → ASt → R) (x : (argTy ps).den) : run E jmp fin depth (bodyOf Try.f43) .ret (entryFrom 0 ps x) =
    Se x.1 x.2.1 := by kernel_rfl
end ref05_Contains
noncomputable def ref05_Contains (r_0 : api_TypeV) (date : Int) : ref05_Contains.R :=
  ref05_Contains.Se r_0 date
noncomputable def ref05_Contains.sig : Sig := ⟨ref05_Contains.ps, ref05_Contains.rs, fun x => ref05_Contains x.1 x.2.1⟩
theorem ref05_Contains.ok : CallOK Try.prog 43 ref05_Contains.sig :=
  callOK_of_lim (E := ref05_Contains.E) mixed tt_ok (ctxOk_cons ctxOk_nil ref05_Valid.ok Try.func65 (by kernel_rfl) (by kernel_rfl)) Try.func43 (by kernel_rfl : Try.f43.body = some (bodyOf Try.f43)) Try.ntmps43 (of_decide_eq_true (by kernel_rfl)) (of_decide_eq_true (by kernel_rfl))
    fun x y h => ((lim_eq (.code (bodyOf Try.f43) .ret) (entryFrom 0 ref05_Contains.ps x)).trans (ref05_Contains.se (lim ref05_Contains.E ref05_Contains.fin) x)).trans h
theorem ref05_Contains.val (x : (argTy ref05_Contains.ps).den) : lim ref05_Contains.E ref05_Contains.fin (.code (bodyOf Try.f43) .ret) (entryFrom 0 ref05_Contains.ps x) = ref05_Contains.sig.run x :=
  (lim_eq (.code (bodyOf Try.f43) .ret) (entryFrom 0 ref05_Contains.ps x)).trans (ref05_Contains.se (lim ref05_Contains.E ref05_Contains.fin) x)
noncomputable def ref05_Contains.ctxc (n : Nat) : List (Nat × Sig) := [(65, ref05_Valid.sigc n)]
noncomputable def ref05_Contains.sigc (n : Nat) : Sig := ⟨ref05_Contains.ps, ref05_Contains.rs, fun x => runs (withCtx ref05_Contains.E (ref05_Contains.ctxc n)) ref05_Contains.fin n (.code (bodyOf Try.f43) .ret) (entryFrom 0 ref05_Contains.ps x)⟩
theorem ref05_Contains.sigc_le (n : Nat) : ∀ x y, (ref05_Contains.sigc n).run x = some y → ref05_Contains.sig.run x = some y :=
  fun x y h => (ref05_Contains.val x).symm.trans (runs_lim (E := ref05_Contains.E) (c := ref05_Contains.ctxc n) (ctxLe_cons ctxLe_nil (ref05_Valid.sigc_le n)) h)
namespace ref12_Matches
abbrev ps : List PM := [.pure api_Row, .pure (.int .i64), .pure (.int .i64)]
abbrev rs : List RM := [.pure .bool]
abbrev R : Type := Option (Bool × Unit)
noncomputable def E : Env := { tt := tt, ctx := [(43, ref05_Contains.sig)], nt := 23, ann := [] }
noncomputable def fin : ASt → R := Kret E Try.f23.results.toList ps rs
noncomputable def Se (x_0 : api_RowV) (date : Int) (key : Int) : R :=
  Option.bind (ref05_Contains x_0.1 date) fun x1 =>
  cond x1.1
    (cond (decide (x_0.2.1 ≤ key))
      (some (decide (key < x_0.2.2.1), ()))
      (some (false, ())))
    (some (false, ()))
theorem se (jmp : Tgt → ASt → R) (x : (argTy ps).den) : run E jmp fin depth (bodyOf Try.f23) .ret (entryFrom 0 ps x) =
    Se x.1 x.2.1 x.2.2.1 := by kernel_rfl
end ref12_Matches
noncomputable def ref12_Matches (x_0 : api_RowV) (date : Int) (key : Int) : ref12_Matches.R :=
  ref12_Matches.Se x_0 date key
noncomputable def ref12_Matches.sig : Sig := ⟨ref12_Matches.ps, ref12_Matches.rs, fun x => ref12_Matches x.1 x.2.1 x.2.2.1⟩
theorem ref12_Matches.ok : CallOK Try.prog 23 ref12_Matches.sig :=
  callOK_of_lim (E := ref12_Matches.E) mixed tt_ok (ctxOk_cons ctxOk_nil ref05_Contains.ok Try.func43 (by kernel_rfl) (by kernel_rfl)) Try.func23 (by kernel_rfl : Try.f23.body = some (bodyOf Try.f23)) Try.ntmps23 (of_decide_eq_true (by kernel_rfl)) (of_decide_eq_true (by kernel_rfl))
    fun x y h => ((lim_eq (.code (bodyOf Try.f23) .ret) (entryFrom 0 ref12_Matches.ps x)).trans (ref12_Matches.se (lim ref12_Matches.E ref12_Matches.fin) x)).trans h
theorem ref12_Matches.val (x : (argTy ref12_Matches.ps).den) : lim ref12_Matches.E ref12_Matches.fin (.code (bodyOf Try.f23) .ret) (entryFrom 0 ref12_Matches.ps x) = ref12_Matches.sig.run x :=
  (lim_eq (.code (bodyOf Try.f23) .ret) (entryFrom 0 ref12_Matches.ps x)).trans (ref12_Matches.se (lim ref12_Matches.E ref12_Matches.fin) x)
noncomputable def ref12_Matches.ctxc (n : Nat) : List (Nat × Sig) := [(43, ref05_Contains.sigc n)]
noncomputable def ref12_Matches.sigc (n : Nat) : Sig := ⟨ref12_Matches.ps, ref12_Matches.rs, fun x => runs (withCtx ref12_Matches.E (ref12_Matches.ctxc n)) ref12_Matches.fin n (.code (bodyOf Try.f23) .ret) (entryFrom 0 ref12_Matches.ps x)⟩
theorem ref12_Matches.sigc_le (n : Nat) : ∀ x y, (ref12_Matches.sigc n).run x = some y → ref12_Matches.sig.run x = some y :=
  fun x y h => (ref12_Matches.val x).symm.trans (runs_lim (E := ref12_Matches.E) (c := ref12_Matches.ctxc n) (ctxLe_cons ctxLe_nil (ref05_Contains.sigc_le n)) h)
namespace ref12_Lookup
abbrev ps : List PM := [.pure api_Table, .pure (.int .i64), .pure (.int .i64)]
abbrev rs : List RM := [.pure (.int .i64), .pure .bool]
abbrev R : Type := Option (Int × Bool × Unit)
noncomputable def E : Env := { tt := tt, ctx := [(23, ref12_Matches.sig)], nt := 25, ann := [(1000002, [(1, .keep), (2, .keep), (3, .keep), (8, .keep)])] }
noncomputable def c0 : Code := sub [1, 1] (bodyOf Try.f27)
noncomputable def c1 : Code := sub [1, 0, 1, 0, 0] (bodyOf Try.f27)
noncomputable def K2 : Kont := .seq c0 .ret
noncomputable def K4 : Kont := .blk 0 K2
noncomputable def fin : ASt → R := Kret E Try.f27.results.toList ps rs
def tL0 (date : Int) (key : Int) (t : api_TableV) (i : Int) : ASt := ⟨[(8, .one (.val (.int .i64) i)), (3, .one (.optr 3 0 [])), (2, .one (.val (.int .i64) key)), (1, .one (.val (.int .i64) date))], [(3, some ⟨.free, api_Table, [t]⟩)]⟩
noncomputable def SL0 (kL0 : Int → Int → api_TableV → Int → R) (date : Int) (key : Int) (t : api_TableV) (i : Int) : R :=
  cond (decide (i < (t.2.2.2.1.length : Int)))
    (Option.bind (idx t.2.2.2.1 i) fun x1 =>
    Option.bind (ref12_Matches x1 date key) fun x2 =>
    cond x2.1
      (some (i, true, ()))
      (kL0 date key t (IntKind.i64.wrap (i + 1))))
    (some (0, false, ()))
noncomputable def Se (kL0 : Int → Int → api_TableV → Int → R) (t : api_TableV) (date : Int) (key : Int) : R :=
  kL0 date key t 0
theorem sL0 (jmp : Tgt → ASt → R) (date : Int) (key : Int) (t : api_TableV) (i : Int) : run E jmp fin depth c1 (.loop c1 K4) (tL0 date key t i) =
    SL0 (fun date key t i => jmp (.loop c1 K4) (tL0 date key t i)) date key t i := by kernel_rfl
theorem se (jmp : Tgt → ASt → R) (x : (argTy ps).den) : run E jmp fin depth (bodyOf Try.f27) .ret (entryFrom 0 ps x) =
    Se (fun date key t i => jmp (.loop c1 K4) (tL0 date key t i)) x.1 x.2.1 x.2.2.1 := by kernel_rfl
noncomputable def L0 (date : Int) (key : Int) (t : api_TableV) (i : Int) : R := lim E fin (.loop c1 K4) (tL0 date key t i)
theorem L0_eq (date : Int) (key : Int) (t : api_TableV) (i : Int) : L0 date key t i = SL0 L0 date key t i :=
  (lim_eq (.loop c1 K4) (tL0 date key t i)).trans (sL0 (lim E fin) date key t i)
end ref12_Lookup
noncomputable def ref12_Lookup (t : api_TableV) (date : Int) (key : Int) : ref12_Lookup.R :=
  ref12_Lookup.Se ref12_Lookup.L0 t date key
noncomputable def ref12_Lookup.sig : Sig := ⟨ref12_Lookup.ps, ref12_Lookup.rs, fun x => ref12_Lookup x.1 x.2.1 x.2.2.1⟩
theorem ref12_Lookup.ok : CallOK Try.prog 27 ref12_Lookup.sig :=
  callOK_of_lim (E := ref12_Lookup.E) mixed tt_ok (ctxOk_cons ctxOk_nil ref12_Matches.ok Try.func23 (by kernel_rfl) (by kernel_rfl)) Try.func27 (by kernel_rfl : Try.f27.body = some (bodyOf Try.f27)) Try.ntmps27 (of_decide_eq_true (by kernel_rfl)) (of_decide_eq_true (by kernel_rfl))
    fun x y h => ((lim_eq (.code (bodyOf Try.f27) .ret) (entryFrom 0 ref12_Lookup.ps x)).trans (ref12_Lookup.se (lim ref12_Lookup.E ref12_Lookup.fin) x)).trans h
theorem ref12_Lookup.val (x : (argTy ref12_Lookup.ps).den) : lim ref12_Lookup.E ref12_Lookup.fin (.code (bodyOf Try.f27) .ret) (entryFrom 0 ref12_Lookup.ps x) = ref12_Lookup.sig.run x :=
  (lim_eq (.code (bodyOf Try.f27) .ret) (entryFrom 0 ref12_Lookup.ps x)).trans (ref12_Lookup.se (lim ref12_Lookup.E ref12_Lookup.fin) x)
noncomputable def ref12_Lookup.ctxc (n : Nat) : List (Nat × Sig) := [(23, ref12_Matches.sigc n)]
noncomputable def ref12_Lookup.sigc (n : Nat) : Sig := ⟨ref12_Lookup.ps, ref12_Lookup.rs, fun x => runs (withCtx ref12_Lookup.E (ref12_Lookup.ctxc n)) ref12_Lookup.fin n (.code (bodyOf Try.f27) .ret) (entryFrom 0 ref12_Lookup.ps x)⟩
theorem ref12_Lookup.sigc_le (n : Nat) : ∀ x y, (ref12_Lookup.sigc n).run x = some y → ref12_Lookup.sig.run x = some y :=
  fun x y h => (ref12_Lookup.val x).symm.trans (runs_lim (E := ref12_Lookup.E) (c := ref12_Lookup.ctxc n) (ctxLe_cons ctxLe_nil (ref12_Matches.sigc_le n)) h)
namespace cmp_Less_int
abbrev ps : List PM := [.pure (.int .i64), .pure (.int .i64)]
abbrev rs : List RM := [.pure .bool]
abbrev R : Type := Option (Bool × Unit)
noncomputable def E : Env := { tt := tt, ctx := [(70, cmp_isNaN_int.sig)], nt := 17, ann := [] }
noncomputable def fin : ASt → R := Kret E Try.f103.results.toList ps rs
noncomputable def Se (x_0 : Int) (y : Int) : R :=
  Option.bind (cmp_isNaN_int x_0) fun x1 =>
  cond x1.1
    (Option.bind (cmp_isNaN_int y) fun x2 =>
    cond (!x2.1)
      (some (true, ()))
      (some (decide (x_0 < y), ())))
    (some (decide (x_0 < y), ()))
theorem se (jmp : Tgt → ASt → R) (x : (argTy ps).den) : run E jmp fin depth (bodyOf Try.f103) .ret (entryFrom 0 ps x) =
    Se x.1 x.2.1 := by kernel_rfl
end cmp_Less_int
noncomputable def cmp_Less_int (x_0 : Int) (y : Int) : cmp_Less_int.R :=
  cmp_Less_int.Se x_0 y
noncomputable def cmp_Less_int.sig : Sig := ⟨cmp_Less_int.ps, cmp_Less_int.rs, fun x => cmp_Less_int x.1 x.2.1⟩
theorem cmp_Less_int.ok : CallOK Try.prog 103 cmp_Less_int.sig :=
  callOK_of_lim (E := cmp_Less_int.E) mixed tt_ok (ctxOk_cons ctxOk_nil cmp_isNaN_int.ok Try.func70 (by kernel_rfl) (by kernel_rfl)) Try.func103 (by kernel_rfl : Try.f103.body = some (bodyOf Try.f103)) Try.ntmps103 (of_decide_eq_true (by kernel_rfl)) (of_decide_eq_true (by kernel_rfl))
    fun x y h => ((lim_eq (.code (bodyOf Try.f103) .ret) (entryFrom 0 cmp_Less_int.ps x)).trans (cmp_Less_int.se (lim cmp_Less_int.E cmp_Less_int.fin) x)).trans h
theorem cmp_Less_int.val (x : (argTy cmp_Less_int.ps).den) : lim cmp_Less_int.E cmp_Less_int.fin (.code (bodyOf Try.f103) .ret) (entryFrom 0 cmp_Less_int.ps x) = cmp_Less_int.sig.run x :=
  (lim_eq (.code (bodyOf Try.f103) .ret) (entryFrom 0 cmp_Less_int.ps x)).trans (cmp_Less_int.se (lim cmp_Less_int.E cmp_Less_int.fin) x)
noncomputable def cmp_Less_int.ctxc (n : Nat) : List (Nat × Sig) := [(70, cmp_isNaN_int.sigc n)]
noncomputable def cmp_Less_int.sigc (n : Nat) : Sig := ⟨cmp_Less_int.ps, cmp_Less_int.rs, fun x => runs (withCtx cmp_Less_int.E (cmp_Less_int.ctxc n)) cmp_Less_int.fin n (.code (bodyOf Try.f103) .ret) (entryFrom 0 cmp_Less_int.ps x)⟩
theorem cmp_Less_int.sigc_le (n : Nat) : ∀ x y, (cmp_Less_int.sigc n).run x = some y → cmp_Less_int.sig.run x = some y :=
  fun x y h => (cmp_Less_int.val x).symm.trans (runs_lim (E := cmp_Less_int.E) (c := cmp_Less_int.ctxc n) (ctxLe_cons ctxLe_nil (cmp_isNaN_int.sigc_le n)) h)
namespace slices_insertionSortOrdered_int
abbrev ps : List PM := [.own (.int .i64), .pure (.int .i64), .pure (.int .i64)]
abbrev rs : List RM := []
abbrev R : Type := Option (List Int × Unit)
noncomputable def E : Env := { tt := tt, ctx := [(103, cmp_Less_int.sig)], nt := 49, ann := [(1000001, [(0, .keep), (1, .keep), (2, .keep), (6, .keep)]), (1000004, [(0, .keep), (1, .keep), (2, .keep), (6, .keep), (7, .keep)]), (6, [(0, .keep), (1, .keep), (2, .keep), (6, .keep), (7, .keep)])] }
noncomputable def c0 : Code := sub [1, 0, 0] (bodyOf Try.f97)
noncomputable def c1 : Code := sub [1, 0, 0, 1, 1] (bodyOf Try.f97)
noncomputable def c2 : Code := sub [1, 0, 0, 1, 0, 0, 1, 0, 0] (bodyOf Try.f97)
noncomputable def c3 : Code := sub [1, 0, 0, 1, 0, 0, 1, 0, 0, 1] (bodyOf Try.f97)
noncomputable def K2 : Kont := .blk 0 .ret
noncomputable def K3 : Kont := .loop c0 K2
noncomputable def K6 : Kont := .seq c1 K3
noncomputable def K7 : Kont := .blk 1 K6
noncomputable def K9 : Kont := .blk 2 K7
noncomputable def K10 : Kont := .loop c2 K9
noncomputable def fin : ASt → R := Kret E Try.f97.results.toList ps rs
def tL0 (a : Int) (b : Int) (i : Int) (data_P : List Int) : ASt := ⟨[(6, .one (.val (.int .i64) i)), (2, .one (.val (.int .i64) b)), (1, .one (.val (.int .i64) a)), (0, .one (.own 10000))], [(10000, some ⟨.fixed, .int .i64, data_P⟩)]⟩
def tL1 (a : Int) (b : Int) (i : Int) (j : Int) (data_P : List Int) : ASt := ⟨[(7, .one (.val (.int .i64) j)), (6, .one (.val (.int .i64) i)), (2, .one (.val (.int .i64) b)), (1, .one (.val (.int .i64) a)), (0, .one (.own 10000))], [(10000, some ⟨.fixed, .int .i64, data_P⟩)]⟩
def tJ2 (a : Int) (b : Int) (i : Int) (j : Int) (data_P : List Int) : ASt := ⟨[(7, .one (.val (.int .i64) j)), (6, .one (.val (.int .i64) i)), (2, .one (.val (.int .i64) b)), (1, .one (.val (.int .i64) a)), (0, .one (.own 10000))], [(10000, some ⟨.fixed, .int .i64, data_P⟩)]⟩
noncomputable def SL0 (kL1 : Int → Int → Int → Int → (List Int) → R) (a : Int) (b : Int) (i : Int) (data_P : List Int) : R :=
  cond (decide (i < b))
    (kL1 a b i i data_P)
    (some (data_P, ()))
noncomputable def SL1 (kJ2 : Int → Int → Int → Int → (List Int) → R) (kL0 : Int → Int → Int → (List Int) → R) (a : Int) (b : Int) (i : Int) (j : Int) (data_P : List Int) : R :=
  cond (decide (j > a))
    (cond (decide (0 ≤ j) && decide (j < (data_P.length : Int)))
      (cond (decide (0 ≤ IntKind.i64.wrap (j - 1)) && decide (IntKind.i64.wrap (j - 1) < (data_P.length : Int)))
        (Option.bind (cmp_Less_int (data_P.getD j.toNat 0) (data_P.getD ((IntKind.i64.wrap (j - 1)).toNat) 0)) fun x1 =>
        cond x1.1
          (kJ2 a b i j data_P)
          (kL0 a b (IntKind.i64.wrap (i + 1)) data_P))
        none)
      none)
    (kL0 a b (IntKind.i64.wrap (i + 1)) data_P)
noncomputable def SJ2 (kL1 : Int → Int → Int → Int → (List Int) → R) (a : Int) (b : Int) (i : Int) (j : Int) (data_P : List Int) : R :=
  cond (decide (0 ≤ IntKind.i64.wrap (j - 1)) && decide (IntKind.i64.wrap (j - 1) < (data_P.length : Int)))
    (cond (decide (0 ≤ j) && decide (j < (data_P.length : Int)))
      (cond (decide (0 ≤ j) && decide (j < (data_P.length : Int)))
        (cond (decide (0 ≤ IntKind.i64.wrap (j - 1)) && decide (IntKind.i64.wrap (j - 1) < ((data_P.set j.toNat (data_P.getD ((IntKind.i64.wrap (j - 1)).toNat) 0)).length : Int)))
          (kL1 a b i (IntKind.i64.wrap (j - 1)) ((data_P.set j.toNat (data_P.getD ((IntKind.i64.wrap (j - 1)).toNat) 0)).set ((IntKind.i64.wrap (j - 1)).toNat) (data_P.getD j.toNat 0)))
          none)
        none)
      none)
    none
noncomputable def Se (kL0 : Int → Int → Int → (List Int) → R) (data : List Int) (a : Int) (b : Int) : R :=
  kL0 a b (IntKind.i64.wrap (a + 1)) data
theorem sL0 (jmp : Tgt → ASt → R) (a : Int) (b : Int) (i : Int) (data_P : List Int) : run E jmp fin depth c0 (.loop c0 K2) (tL0 a b i data_P) =
    SL0 (fun a b i j data_P => jmp (.loop c2 K9) (tL1 a b i j data_P)) a b i data_P := by kernel_rfl
theorem sL1 (jmp : Tgt → ASt → R) (a : Int) (b : Int) (i : Int) (j : Int) (data_P : List Int) : run E jmp fin depth c2 (.loop c2 K9) (tL1 a b i j data_P) =
    SL1 (fun a b i j data_P => jmp (.code c3 K10) (tJ2 a b i j data_P)) (fun a b i data_P => jmp (.loop c0 K2) (tL0 a b i data_P)) a b i j data_P := by kernel_rfl
theorem sJ2 (jmp : Tgt → ASt → R) (a : Int) (b : Int) (i : Int) (j : Int) (data_P : List Int) : run E jmp fin depth c3 K10 (tJ2 a b i j data_P) =
    SJ2 (fun a b i j data_P => jmp (.loop c2 K9) (tL1 a b i j data_P)) a b i j data_P := by kernel_rfl
theorem se (jmp : Tgt → ASt → R) (x : (argTy ps).den) : run E jmp fin depth (bodyOf Try.f97) .ret (entryFrom 0 ps x) =
    Se (fun a b i data_P => jmp (.loop c0 K2) (tL0 a b i data_P)) x.1 x.2.1 x.2.2.1 := by kernel_rfl
noncomputable def L0 (a : Int) (b : Int) (i : Int) (data_P : List Int) : R := lim E fin (.loop c0 K2) (tL0 a b i data_P)
noncomputable def L1 (a : Int) (b : Int) (i : Int) (j : Int) (data_P : List Int) : R := lim E fin (.loop c2 K9) (tL1 a b i j data_P)
noncomputable def J2 (a : Int) (b : Int) (i : Int) (j : Int) (data_P : List Int) : R := lim E fin (.code c3 K10) (tJ2 a b i j data_P)
theorem L0_eq (a : Int) (b : Int) (i : Int) (data_P : List Int) : L0 a b i data_P = SL0 L1 a b i data_P :=
  (lim_eq (.loop c0 K2) (tL0 a b i data_P)).trans (sL0 (lim E fin) a b i data_P)
theorem L1_eq (a : Int) (b : Int) (i : Int) (j : Int) (data_P : List Int) : L1 a b i j data_P = SL1 J2 L0 a b i j data_P :=
  (lim_eq (.loop c2 K9) (tL1 a b i j data_P)).trans (sL1 (lim E fin) a b i j data_P)
theorem J2_eq (a : Int) (b : Int) (i : Int) (j : Int) (data_P : List Int) : J2 a b i j data_P = SJ2 L1 a b i j data_P :=
  (lim_eq (.code c3 K10) (tJ2 a b i j data_P)).trans (sJ2 (lim E fin) a b i j data_P)
end slices_insertionSortOrdered_int
noncomputable def slices_insertionSortOrdered_int (data : List Int) (a : Int) (b : Int) : slices_insertionSortOrdered_int.R :=
  slices_insertionSortOrdered_int.Se slices_insertionSortOrdered_int.L0 data a b
noncomputable def slices_insertionSortOrdered_int.sig : Sig := ⟨slices_insertionSortOrdered_int.ps, slices_insertionSortOrdered_int.rs, fun x => slices_insertionSortOrdered_int x.1 x.2.1 x.2.2.1⟩
theorem slices_insertionSortOrdered_int.ok : CallOK Try.prog 97 slices_insertionSortOrdered_int.sig :=
  callOK_of_lim (E := slices_insertionSortOrdered_int.E) mixed tt_ok (ctxOk_cons ctxOk_nil cmp_Less_int.ok Try.func103 (by kernel_rfl) (by kernel_rfl)) Try.func97 (by kernel_rfl : Try.f97.body = some (bodyOf Try.f97)) Try.ntmps97 (of_decide_eq_true (by kernel_rfl)) (of_decide_eq_true (by kernel_rfl))
    fun x y h => ((lim_eq (.code (bodyOf Try.f97) .ret) (entryFrom 0 slices_insertionSortOrdered_int.ps x)).trans (slices_insertionSortOrdered_int.se (lim slices_insertionSortOrdered_int.E slices_insertionSortOrdered_int.fin) x)).trans h
theorem slices_insertionSortOrdered_int.val (x : (argTy slices_insertionSortOrdered_int.ps).den) : lim slices_insertionSortOrdered_int.E slices_insertionSortOrdered_int.fin (.code (bodyOf Try.f97) .ret) (entryFrom 0 slices_insertionSortOrdered_int.ps x) = slices_insertionSortOrdered_int.sig.run x :=
  (lim_eq (.code (bodyOf Try.f97) .ret) (entryFrom 0 slices_insertionSortOrdered_int.ps x)).trans (slices_insertionSortOrdered_int.se (lim slices_insertionSortOrdered_int.E slices_insertionSortOrdered_int.fin) x)
noncomputable def slices_insertionSortOrdered_int.ctxc (n : Nat) : List (Nat × Sig) := [(103, cmp_Less_int.sigc n)]
noncomputable def slices_insertionSortOrdered_int.sigc (n : Nat) : Sig := ⟨slices_insertionSortOrdered_int.ps, slices_insertionSortOrdered_int.rs, fun x => runs (withCtx slices_insertionSortOrdered_int.E (slices_insertionSortOrdered_int.ctxc n)) slices_insertionSortOrdered_int.fin n (.code (bodyOf Try.f97) .ret) (entryFrom 0 slices_insertionSortOrdered_int.ps x)⟩
theorem slices_insertionSortOrdered_int.sigc_le (n : Nat) : ∀ x y, (slices_insertionSortOrdered_int.sigc n).run x = some y → slices_insertionSortOrdered_int.sig.run x = some y :=
  fun x y h => (slices_insertionSortOrdered_int.val x).symm.trans (runs_lim (E := slices_insertionSortOrdered_int.E) (c := slices_insertionSortOrdered_int.ctxc n) (ctxLe_cons ctxLe_nil (cmp_Less_int.sigc_le n)) h)
namespace slices_siftDownOrdered_int
abbrev ps : List PM := [.own (.int .i64), .pure (.int .i64), .pure (.int .i64), .pure (.int .i64)]
abbrev rs : List RM := []
abbrev R : Type := Option (List Int × Unit)
noncomputable def E : Env := { tt := tt, ctx := [(103, cmp_Less_int.sig)], nt := 76, ann := [(1000001, [(0, .keep), (2, .keep), (3, .keep), (8, .keep)]), (5, [(0, .keep), (2, .keep), (3, .keep), (8, .keep), (9, .keep)])] }
noncomputable def c0 : Code := sub [1, 0, 0] (bodyOf Try.f107)
noncomputable def c1 : Code := sub [1, 0, 0, 0, 1, 1, 1] (bodyOf Try.f107)
noncomputable def K2 : Kont := .blk 0 .ret
noncomputable def K3 : Kont := .loop c0 K2
noncomputable def K4 : Kont := .blk 1 K3
noncomputable def fin : ASt → R := Kret E Try.f107.results.toList ps rs
def tL0 (hi : Int) (first : Int) (root : Int) (data_P : List Int) : ASt := ⟨[(8, .one (.val (.int .i64) root)), (3, .one (.val (.int .i64) first)), (2, .one (.val (.int .i64) hi)), (0, .one (.own 10000))], [(10000, some ⟨.fixed, .int .i64, data_P⟩)]⟩
def tJ1 (hi : Int) (first : Int) (root : Int) (child : Int) (data_P : List Int) : ASt := ⟨[(9, .one (.val (.int .i64) child)), (8, .one (.val (.int .i64) root)), (3, .one (.val (.int .i64) first)), (2, .one (.val (.int .i64) hi)), (0, .one (.own 10000))], [(10000, some ⟨.fixed, .int .i64, data_P⟩)]⟩
noncomputable def SL0 (kJ1 : Int → Int → Int → Int → (List Int) → R) (hi : Int) (first : Int) (root : Int) (data_P : List Int) : R :=
  cond (decide ((IntKind.i64.wrap ((IntKind.i64.wrap (2 * root)) + 1)) ≥ hi))
    (some (data_P, ()))
    (cond (decide ((IntKind.i64.wrap ((IntKind.i64.wrap ((IntKind.i64.wrap (2 * root)) + 1)) + 1)) < hi))
      (cond (decide (0 ≤ IntKind.i64.wrap (first + (IntKind.i64.wrap ((IntKind.i64.wrap (2 * root)) + 1)))) && decide (IntKind.i64.wrap (first + (IntKind.i64.wrap ((IntKind.i64.wrap (2 * root)) + 1))) < (data_P.length : Int)))
        (cond (decide (0 ≤ IntKind.i64.wrap ((IntKind.i64.wrap (first + (IntKind.i64.wrap ((IntKind.i64.wrap (2 * root)) + 1)))) + 1)) && decide (IntKind.i64.wrap ((IntKind.i64.wrap (first + (IntKind.i64.wrap ((IntKind.i64.wrap (2 * root)) + 1)))) + 1) < (data_P.length : Int)))
          (Option.bind (cmp_Less_int (data_P.getD ((IntKind.i64.wrap (first + (IntKind.i64.wrap ((IntKind.i64.wrap (2 * root)) + 1)))).toNat) 0) (data_P.getD ((IntKind.i64.wrap ((IntKind.i64.wrap (first + (IntKind.i64.wrap ((IntKind.i64.wrap (2 * root)) + 1)))) + 1)).toNat) 0)) fun x1 =>
          cond x1.1
            (kJ1 hi first root (IntKind.i64.wrap ((IntKind.i64.wrap ((IntKind.i64.wrap (2 * root)) + 1)) + 1)) data_P)
            (kJ1 hi first root (IntKind.i64.wrap ((IntKind.i64.wrap (2 * root)) + 1)) data_P))
          none)
        none)
      (kJ1 hi first root (IntKind.i64.wrap ((IntKind.i64.wrap (2 * root)) + 1)) data_P))
noncomputable def SJ1 (kL0 : Int → Int → Int → (List Int) → R) (hi : Int) (first : Int) (root : Int) (child : Int) (data_P : List Int) : R :=
  cond (decide (0 ≤ IntKind.i64.wrap (first + root)) && decide (IntKind.i64.wrap (first + root) < (data_P.length : Int)))
    (cond (decide (0 ≤ IntKind.i64.wrap (first + child)) && decide (IntKind.i64.wrap (first + child) < (data_P.length : Int)))
      (Option.bind (cmp_Less_int (data_P.getD ((IntKind.i64.wrap (first + root)).toNat) 0) (data_P.getD ((IntKind.i64.wrap (first + child)).toNat) 0)) fun x1 =>
      cond (!x1.1)
        (some (data_P, ()))
        (cond (decide (0 ≤ IntKind.i64.wrap (first + child)) && decide (IntKind.i64.wrap (first + child) < (data_P.length : Int)))
          (cond (decide (0 ≤ IntKind.i64.wrap (first + root)) && decide (IntKind.i64.wrap (first + root) < (data_P.length : Int)))
            (cond (decide (0 ≤ IntKind.i64.wrap (first + root)) && decide (IntKind.i64.wrap (first + root) < (data_P.length : Int)))
              (cond (decide (0 ≤ IntKind.i64.wrap (first + child)) && decide (IntKind.i64.wrap (first + child) < ((data_P.set ((IntKind.i64.wrap (first + root)).toNat) (data_P.getD ((IntKind.i64.wrap (first + child)).toNat) 0)).length : Int)))
                (kL0 hi first child ((data_P.set ((IntKind.i64.wrap (first + root)).toNat) (data_P.getD ((IntKind.i64.wrap (first + child)).toNat) 0)).set ((IntKind.i64.wrap (first + child)).toNat) (data_P.getD ((IntKind.i64.wrap (first + root)).toNat) 0)))
                none)
              none)
            none)
          none))
      none)
    none
noncomputable def Se (kL0 : Int → Int → Int → (List Int) → R) (data : List Int) (lo : Int) (hi : Int) (first : Int) : R :=
  kL0 hi first lo data
theorem sL0 (jmp : Tgt → ASt → R) (hi : Int) (first : Int) (root : Int) (data_P : List Int) : run E jmp fin depth c0 (.loop c0 K2) (tL0 hi first root data_P) =
    SL0 (fun hi first root child data_P => jmp (.code c1 K4) (tJ1 hi first root child data_P)) hi first root data_P := by kernel_rfl
theorem sJ1 (jmp : Tgt → ASt → R) (hi : Int) (first : Int) (root : Int) (child : Int) (data_P : List Int) : run E jmp fin depth c1 K4 (tJ1 hi first root child data_P) =
    SJ1 (fun hi first root data_P => jmp (.loop c0 K2) (tL0 hi first root data_P)) hi first root child data_P := by kernel_rfl
theorem se (jmp : Tgt → ASt → R) (x : (argTy ps).den) : run E jmp fin depth (bodyOf Try.f107) .ret (entryFrom 0 ps x) =
    Se (fun hi first root data_P => jmp (.loop c0 K2) (tL0 hi first root data_P)) x.1 x.2.1 x.2.2.1 x.2.2.2.1 := by kernel_rfl
noncomputable def L0 (hi : Int) (first : Int) (root : Int) (data_P : List Int) : R := lim E fin (.loop c0 K2) (tL0 hi first root data_P)
noncomputable def J1 (hi : Int) (first : Int) (root : Int) (child : Int) (data_P : List Int) : R := lim E fin (.code c1 K4) (tJ1 hi first root child data_P)
theorem L0_eq (hi : Int) (first : Int) (root : Int) (data_P : List Int) : L0 hi first root data_P = SL0 J1 hi first root data_P :=
  (lim_eq (.loop c0 K2) (tL0 hi first root data_P)).trans (sL0 (lim E fin) hi first root data_P)
theorem J1_eq (hi : Int) (first : Int) (root : Int) (child : Int) (data_P : List Int) : J1 hi first root child data_P = SJ1 L0 hi first root child data_P :=
  (lim_eq (.code c1 K4) (tJ1 hi first root child data_P)).trans (sJ1 (lim E fin) hi first root child data_P)
end slices_siftDownOrdered_int
noncomputable def slices_siftDownOrdered_int (data : List Int) (lo : Int) (hi : Int) (first : Int) : slices_siftDownOrdered_int.R :=
  slices_siftDownOrdered_int.Se slices_siftDownOrdered_int.L0 data lo hi first
noncomputable def slices_siftDownOrdered_int.sig : Sig := ⟨slices_siftDownOrdered_int.ps, slices_siftDownOrdered_int.rs, fun x => slices_siftDownOrdered_int x.1 x.2.1 x.2.2.1 x.2.2.2.1⟩
theorem slices_siftDownOrdered_int.ok : CallOK Try.prog 107 slices_siftDownOrdered_int.sig :=
  callOK_of_lim (E := slices_siftDownOrdered_int.E) mixed tt_ok (ctxOk_cons ctxOk_nil cmp_Less_int.ok Try.func103 (by kernel_rfl) (by kernel_rfl)) Try.func107 (by kernel_rfl : Try.f107.body = some (bodyOf Try.f107)) Try.ntmps107 (of_decide_eq_true (by kernel_rfl)) (of_decide_eq_true (by kernel_rfl))
    fun x y h => ((lim_eq (.code (bodyOf Try.f107) .ret) (entryFrom 0 slices_siftDownOrdered_int.ps x)).trans (slices_siftDownOrdered_int.se (lim slices_siftDownOrdered_int.E slices_siftDownOrdered_int.fin) x)).trans h
theorem slices_siftDownOrdered_int.val (x : (argTy slices_siftDownOrdered_int.ps).den) : lim slices_siftDownOrdered_int.E slices_siftDownOrdered_int.fin (.code (bodyOf Try.f107) .ret) (entryFrom 0 slices_siftDownOrdered_int.ps x) = slices_siftDownOrdered_int.sig.run x :=
  (lim_eq (.code (bodyOf Try.f107) .ret) (entryFrom 0 slices_siftDownOrdered_int.ps x)).trans (slices_siftDownOrdered_int.se (lim slices_siftDownOrdered_int.E slices_siftDownOrdered_int.fin) x)
noncomputable def slices_siftDownOrdered_int.ctxc (n : Nat) : List (Nat × Sig) := [(103, cmp_Less_int.sigc n)]
noncomputable def slices_siftDownOrdered_int.sigc (n : Nat) : Sig := ⟨slices_siftDownOrdered_int.ps, slices_siftDownOrdered_int.rs, fun x => runs (withCtx slices_siftDownOrdered_int.E (slices_siftDownOrdered_int.ctxc n)) slices_siftDownOrdered_int.fin n (.code (bodyOf Try.f107) .ret) (entryFrom 0 slices_siftDownOrdered_int.ps x)⟩
theorem slices_siftDownOrdered_int.sigc_le (n : Nat) : ∀ x y, (slices_siftDownOrdered_int.sigc n).run x = some y → slices_siftDownOrdered_int.sig.run x = some y :=
  fun x y h => (slices_siftDownOrdered_int.val x).symm.trans (runs_lim (E := slices_siftDownOrdered_int.E) (c := slices_siftDownOrdered_int.ctxc n) (ctxLe_cons ctxLe_nil (cmp_Less_int.sigc_le n)) h)
end Go.Proofs.Ytgnigfnonoicmaa
