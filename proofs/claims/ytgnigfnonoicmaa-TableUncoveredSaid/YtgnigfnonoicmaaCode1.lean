import Derived.Test.YtgnigfnonoicmaaTys
set_option maxRecDepth 100000
set_option linter.unusedVariables false
namespace Go.Proofs.Ytgnigfnonoicmaa
open Go Go.Lift
namespace law12_few
abbrev ps : List PM := [.pure api_Table, .pure (.int .i64)]
abbrev rs : List RM := [.pure .bool]
abbrev R : Type := Option (Bool × Unit)
noncomputable def E : Env := { tt := tt, ctx := [], nt := 10, ann := [] }
noncomputable def fin : ASt → R := Kret E Try.f10.results.toList ps rs
noncomputable def Se (t : api_TableV) (most : Int) : R :=
  some (decide ((t.2.2.2.1.length : Int) ≤ most), ())
theorem se (jmp : Tgt → ASt → R) (x : (argTy ps).den) : run E jmp fin depth (bodyOf Try.f10) .ret (entryFrom 0 ps x) =
    Se x.1 x.2.1 := by kernel_rfl
end law12_few
noncomputable def law12_few (t : api_TableV) (most : Int) : law12_few.R :=
  law12_few.Se t most
noncomputable def law12_few.sig : Sig := ⟨law12_few.ps, law12_few.rs, fun x => law12_few x.1 x.2.1⟩
theorem law12_few.ok : CallOK Try.prog 10 law12_few.sig :=
  callOK_of_lim (E := law12_few.E) mixed tt_ok ctxOk_nil Try.func10 (by kernel_rfl : Try.f10.body = some (bodyOf Try.f10)) Try.ntmps10 (of_decide_eq_true (by kernel_rfl)) (of_decide_eq_true (by kernel_rfl))
    fun x y h => ((lim_eq (.code (bodyOf Try.f10) .ret) (entryFrom 0 law12_few.ps x)).trans (law12_few.se (lim law12_few.E law12_few.fin) x)).trans h
theorem law12_few.val (x : (argTy law12_few.ps).den) : lim law12_few.E law12_few.fin (.code (bodyOf Try.f10) .ret) (entryFrom 0 law12_few.ps x) = law12_few.sig.run x :=
  (lim_eq (.code (bodyOf Try.f10) .ret) (entryFrom 0 law12_few.ps x)).trans (law12_few.se (lim law12_few.E law12_few.fin) x)
noncomputable def law12_few.ctxc (n : Nat) : List (Nat × Sig) := []
noncomputable def law12_few.sigc (n : Nat) : Sig := ⟨law12_few.ps, law12_few.rs, fun x => runs (withCtx law12_few.E (law12_few.ctxc n)) law12_few.fin n (.code (bodyOf Try.f10) .ret) (entryFrom 0 law12_few.ps x)⟩
theorem law12_few.sigc_le (n : Nat) : ∀ x y, (law12_few.sigc n).run x = some y → law12_few.sig.run x = some y :=
  fun x y h => (law12_few.val x).symm.trans (runs_lim (E := law12_few.E) (c := law12_few.ctxc n) ctxLe_nil h)
namespace law12_schedule
abbrev ps : List PM := [.give api_Row]
abbrev rs : List RM := [.pure api_Table]
abbrev R : Type := Option (api_TableV × Unit)
noncomputable def E : Env := { tt := tt, ctx := [], nt := 23, ann := [(1000003, [(2, .keep), (3, .var [(0, .keep), (1, .keep), (2, .keep), (3, .keep), (4, .keep), (5, .keep)]), (4, .keep)]), (2000003, []), (2000008, [])] }
noncomputable def c0 : Code := sub [1, 1, 1] (bodyOf Try.f25)
noncomputable def c1 : Code := sub [1, 1, 0, 1, 0, 0] (bodyOf Try.f25)
noncomputable def K3 : Kont := .seq c0 .ret
noncomputable def K5 : Kont := .blk 0 K3
noncomputable def fin : ASt → R := Kret E Try.f25.results.toList ps rs
def tL0 (v_2 : api_TableV) (t_0 : List UInt8) (t_1 : Int) (t_2 : Int) (t_3 : Int) (t_4 : Int) (t_5 : List api_RowV) (i : Int) : ASt := ⟨[(4, .one (.val (.int .i64) i)), (3, .one (.vptr 3 api_Table 0)), (2, .one (.optr 2 0 []))], [(3, some ⟨.var [(0, .val .str t_0), (1, .val (.int .i64) t_1), (2, .val (.int .i64) t_2), (3, .val (.int .i64) t_3), (4, .val (.int .i64) t_4), (5, .own 100197)], api_Table, []⟩), (100197, some ⟨.free, api_Row, t_5⟩), (2, some ⟨.free, api_Table, [v_2]⟩)]⟩
noncomputable def SL0 (kL0 : api_TableV → (List UInt8) → Int → Int → Int → Int → (List api_RowV) → Int → R) (v_2 : api_TableV) (t_0 : List UInt8) (t_1 : Int) (t_2 : Int) (t_3 : Int) (t_4 : Int) (t_5 : List api_RowV) (i : Int) : R :=
  cond (decide (i < (t_5.length : Int)))
    (cond (decide (0 ≤ i) && decide (i < (t_5.length : Int)))
      (kL0 v_2 t_0 t_1 t_2 t_3 t_4 (t_5.set i.toNat ((0, 109573, ()), (t_5.getD i.toNat ((0, 0, ()), 0, 0, 0, ())).2.1, (t_5.getD i.toNat ((0, 0, ()), 0, 0, 0, ())).2.2.1, (t_5.getD i.toNat ((0, 0, ()), 0, 0, 0, ())).2.2.2.1, ())) (IntKind.i64.wrap (i + 1)))
      none)
    (some ((t_0, (t_1, t_2, ()), (t_3, t_4, ()), t_5, ()), ()))
noncomputable def Se (kL0 : api_TableV → (List UInt8) → Int → Int → Int → Int → (List api_RowV) → Int → R) (rows : List api_RowV) : R :=
  kL0 ([], (0, 0, ()), (0, 0, ()), [], ()) [] 3 0 4 0 rows 0
theorem sL0 (jmp : Tgt → ASt → R) (v_2 : api_TableV) (t_0 : List UInt8) (t_1 : Int) (t_2 : Int) (t_3 : Int) (t_4 : Int) (t_5 : List api_RowV) (i : Int) : run E jmp fin depth c1 (.loop c1 K5) (tL0 v_2 t_0 t_1 t_2 t_3 t_4 t_5 i) =
    SL0 (fun v_2 t_0 t_1 t_2 t_3 t_4 t_5 i => jmp (.loop c1 K5) (tL0 v_2 t_0 t_1 t_2 t_3 t_4 t_5 i)) v_2 t_0 t_1 t_2 t_3 t_4 t_5 i := by kernel_rfl
theorem se (jmp : Tgt → ASt → R) (x : (argTy ps).den) : run E jmp fin depth (bodyOf Try.f25) .ret (entryFrom 0 ps x) =
    Se (fun v_2 t_0 t_1 t_2 t_3 t_4 t_5 i => jmp (.loop c1 K5) (tL0 v_2 t_0 t_1 t_2 t_3 t_4 t_5 i)) x.1 := by kernel_rfl
noncomputable def L0 (v_2 : api_TableV) (t_0 : List UInt8) (t_1 : Int) (t_2 : Int) (t_3 : Int) (t_4 : Int) (t_5 : List api_RowV) (i : Int) : R := lim E fin (.loop c1 K5) (tL0 v_2 t_0 t_1 t_2 t_3 t_4 t_5 i)
theorem L0_eq (v_2 : api_TableV) (t_0 : List UInt8) (t_1 : Int) (t_2 : Int) (t_3 : Int) (t_4 : Int) (t_5 : List api_RowV) (i : Int) : L0 v_2 t_0 t_1 t_2 t_3 t_4 t_5 i = SL0 L0 v_2 t_0 t_1 t_2 t_3 t_4 t_5 i :=
  (lim_eq (.loop c1 K5) (tL0 v_2 t_0 t_1 t_2 t_3 t_4 t_5 i)).trans (sL0 (lim E fin) v_2 t_0 t_1 t_2 t_3 t_4 t_5 i)
end law12_schedule
noncomputable def law12_schedule (rows : List api_RowV) : law12_schedule.R :=
  law12_schedule.Se law12_schedule.L0 rows
noncomputable def law12_schedule.sig : Sig := ⟨law12_schedule.ps, law12_schedule.rs, fun x => law12_schedule x.1⟩
theorem law12_schedule.ok : CallOK Try.prog 25 law12_schedule.sig :=
  callOK_of_lim (E := law12_schedule.E) mixed tt_ok ctxOk_nil Try.func25 (by kernel_rfl : Try.f25.body = some (bodyOf Try.f25)) Try.ntmps25 (of_decide_eq_true (by kernel_rfl)) (of_decide_eq_true (by kernel_rfl))
    fun x y h => ((lim_eq (.code (bodyOf Try.f25) .ret) (entryFrom 0 law12_schedule.ps x)).trans (law12_schedule.se (lim law12_schedule.E law12_schedule.fin) x)).trans h
theorem law12_schedule.val (x : (argTy law12_schedule.ps).den) : lim law12_schedule.E law12_schedule.fin (.code (bodyOf Try.f25) .ret) (entryFrom 0 law12_schedule.ps x) = law12_schedule.sig.run x :=
  (lim_eq (.code (bodyOf Try.f25) .ret) (entryFrom 0 law12_schedule.ps x)).trans (law12_schedule.se (lim law12_schedule.E law12_schedule.fin) x)
noncomputable def law12_schedule.ctxc (n : Nat) : List (Nat × Sig) := []
noncomputable def law12_schedule.sigc (n : Nat) : Sig := ⟨law12_schedule.ps, law12_schedule.rs, fun x => runs (withCtx law12_schedule.E (law12_schedule.ctxc n)) law12_schedule.fin n (.code (bodyOf Try.f25) .ret) (entryFrom 0 law12_schedule.ps x)⟩
theorem law12_schedule.sigc_le (n : Nat) : ∀ x y, (law12_schedule.sigc n).run x = some y → law12_schedule.sig.run x = some y :=
  fun x y h => (law12_schedule.val x).symm.trans (runs_lim (E := law12_schedule.E) (c := law12_schedule.ctxc n) ctxLe_nil h)
namespace daterange_Valid
abbrev ps : List PM := [.pure api_Type]
abbrev rs : List RM := [.pure .bool]
abbrev R : Type := Option (Bool × Unit)
noncomputable def E : Env := { tt := tt, ctx := [], nt := 18, ann := [] }
noncomputable def fin : ASt → R := Kret E Try.f63.results.toList ps rs
noncomputable def Se (r_0 : api_TypeV) : R :=
  cond (decide (0 ≤ r_0.1))
    (cond (decide (r_0.1 ≤ r_0.2.1))
      (some (decide (r_0.2.1 ≤ 109573), ()))
      (some (false, ())))
    (some (false, ()))
theorem se (jmp : Tgt → ASt → R) (x : (argTy ps).den) : run E jmp fin depth (bodyOf Try.f63) .ret (entryFrom 0 ps x) =
    Se x.1 := by kernel_rfl
end daterange_Valid
noncomputable def daterange_Valid (r_0 : api_TypeV) : daterange_Valid.R :=
  daterange_Valid.Se r_0
noncomputable def daterange_Valid.sig : Sig := ⟨daterange_Valid.ps, daterange_Valid.rs, fun x => daterange_Valid x.1⟩
theorem daterange_Valid.ok : CallOK Try.prog 63 daterange_Valid.sig :=
  callOK_of_lim (E := daterange_Valid.E) mixed tt_ok ctxOk_nil Try.func63 (by kernel_rfl : Try.f63.body = some (bodyOf Try.f63)) Try.ntmps63 (of_decide_eq_true (by kernel_rfl)) (of_decide_eq_true (by kernel_rfl))
    fun x y h => ((lim_eq (.code (bodyOf Try.f63) .ret) (entryFrom 0 daterange_Valid.ps x)).trans (daterange_Valid.se (lim daterange_Valid.E daterange_Valid.fin) x)).trans h
theorem daterange_Valid.val (x : (argTy daterange_Valid.ps).den) : lim daterange_Valid.E daterange_Valid.fin (.code (bodyOf Try.f63) .ret) (entryFrom 0 daterange_Valid.ps x) = daterange_Valid.sig.run x :=
  (lim_eq (.code (bodyOf Try.f63) .ret) (entryFrom 0 daterange_Valid.ps x)).trans (daterange_Valid.se (lim daterange_Valid.E daterange_Valid.fin) x)
noncomputable def daterange_Valid.ctxc (n : Nat) : List (Nat × Sig) := []
noncomputable def daterange_Valid.sigc (n : Nat) : Sig := ⟨daterange_Valid.ps, daterange_Valid.rs, fun x => runs (withCtx daterange_Valid.E (daterange_Valid.ctxc n)) daterange_Valid.fin n (.code (bodyOf Try.f63) .ret) (entryFrom 0 daterange_Valid.ps x)⟩
theorem daterange_Valid.sigc_le (n : Nat) : ∀ x y, (daterange_Valid.sigc n).run x = some y → daterange_Valid.sig.run x = some y :=
  fun x y h => (daterange_Valid.val x).symm.trans (runs_lim (E := daterange_Valid.E) (c := daterange_Valid.ctxc n) ctxLe_nil h)
namespace daterange_Contains
abbrev ps : List PM := [.pure api_Type, .pure (.int .i64)]
abbrev rs : List RM := [.pure .bool]
abbrev R : Type := Option (Bool × Unit)
noncomputable def E : Env := { tt := tt, ctx := [(63, daterange_Valid.sig)], nt := 19, ann := [] }
noncomputable def fin : ASt → R := Kret E Try.f39.results.toList ps rs
noncomputable def Se (r_0 : api_TypeV) (date : Int) : R :=
  Option.bind (daterange_Valid r_0) fun x1 =>
  cond x1.1
    (cond (decide (r_0.1 ≤ date))
      (some (decide (date < r_0.2.1), ()))
      (some (false, ())))
    (some (false, ()))
theorem se (jmp : Tgt → ASt → R) (x : (argTy ps).den) : run E jmp fin depth (bodyOf Try.f39) .ret (entryFrom 0 ps x) =
    Se x.1 x.2.1 := by kernel_rfl
end daterange_Contains
noncomputable def daterange_Contains (r_0 : api_TypeV) (date : Int) : daterange_Contains.R :=
  daterange_Contains.Se r_0 date
noncomputable def daterange_Contains.sig : Sig := ⟨daterange_Contains.ps, daterange_Contains.rs, fun x => daterange_Contains x.1 x.2.1⟩
theorem daterange_Contains.ok : CallOK Try.prog 39 daterange_Contains.sig :=
  callOK_of_lim (E := daterange_Contains.E) mixed tt_ok (ctxOk_cons ctxOk_nil daterange_Valid.ok Try.func63 (by kernel_rfl) (by kernel_rfl)) Try.func39 (by kernel_rfl : Try.f39.body = some (bodyOf Try.f39)) Try.ntmps39 (of_decide_eq_true (by kernel_rfl)) (of_decide_eq_true (by kernel_rfl))
    fun x y h => ((lim_eq (.code (bodyOf Try.f39) .ret) (entryFrom 0 daterange_Contains.ps x)).trans (daterange_Contains.se (lim daterange_Contains.E daterange_Contains.fin) x)).trans h
theorem daterange_Contains.val (x : (argTy daterange_Contains.ps).den) : lim daterange_Contains.E daterange_Contains.fin (.code (bodyOf Try.f39) .ret) (entryFrom 0 daterange_Contains.ps x) = daterange_Contains.sig.run x :=
  (lim_eq (.code (bodyOf Try.f39) .ret) (entryFrom 0 daterange_Contains.ps x)).trans (daterange_Contains.se (lim daterange_Contains.E daterange_Contains.fin) x)
noncomputable def daterange_Contains.ctxc (n : Nat) : List (Nat × Sig) := [(63, daterange_Valid.sigc n)]
noncomputable def daterange_Contains.sigc (n : Nat) : Sig := ⟨daterange_Contains.ps, daterange_Contains.rs, fun x => runs (withCtx daterange_Contains.E (daterange_Contains.ctxc n)) daterange_Contains.fin n (.code (bodyOf Try.f39) .ret) (entryFrom 0 daterange_Contains.ps x)⟩
theorem daterange_Contains.sigc_le (n : Nat) : ∀ x y, (daterange_Contains.sigc n).run x = some y → daterange_Contains.sig.run x = some y :=
  fun x y h => (daterange_Contains.val x).symm.trans (runs_lim (E := daterange_Contains.E) (c := daterange_Contains.ctxc n) (ctxLe_cons ctxLe_nil (daterange_Valid.sigc_le n)) h)
namespace math_bits_Mul64
abbrev ps : List PM := [.pure (.int .u64), .pure (.int .u64)]
abbrev rs : List RM := [.pure (.int .u64), .pure (.int .u64)]
abbrev R : Type := Option (Int × Int × Unit)
noncomputable def E : Env := { tt := tt, ctx := [], nt := 51, ann := [] }
noncomputable def fin : ASt → R := Kret E Try.f53.results.toList ps rs
noncomputable def Se (x_0 : Int) (y : Int) : R :=
  some (IntKind.u64.wrap ((IntKind.u64.wrap ((IntKind.u64.wrap ((Int.fdiv x_0 (2 ^ (min 32 IntKind.u64.bits))) * (Int.fdiv y (2 ^ (min 32 IntKind.u64.bits))))) + (Int.fdiv (IntKind.u64.wrap ((IntKind.u64.wrap ((Int.fdiv x_0 (2 ^ (min 32 IntKind.u64.bits))) * (IntKind.u64.wrap (BitVec.ofInt IntKind.u64.bits y &&& BitVec.ofInt IntKind.u64.bits 4294967295).toNat))) + (Int.fdiv (IntKind.u64.wrap ((IntKind.u64.wrap (BitVec.ofInt IntKind.u64.bits x_0 &&& BitVec.ofInt IntKind.u64.bits 4294967295).toNat) * (IntKind.u64.wrap (BitVec.ofInt IntKind.u64.bits y &&& BitVec.ofInt IntKind.u64.bits 4294967295).toNat))) (2 ^ (min 32 IntKind.u64.bits))))) (2 ^ (min 32 IntKind.u64.bits))))) + (Int.fdiv (IntKind.u64.wrap ((IntKind.u64.wrap (BitVec.ofInt IntKind.u64.bits (IntKind.u64.wrap ((IntKind.u64.wrap ((Int.fdiv x_0 (2 ^ (min 32 IntKind.u64.bits))) * (IntKind.u64.wrap (BitVec.ofInt IntKind.u64.bits y &&& BitVec.ofInt IntKind.u64.bits 4294967295).toNat))) + (Int.fdiv (IntKind.u64.wrap ((IntKind.u64.wrap (BitVec.ofInt IntKind.u64.bits x_0 &&& BitVec.ofInt IntKind.u64.bits 4294967295).toNat) * (IntKind.u64.wrap (BitVec.ofInt IntKind.u64.bits y &&& BitVec.ofInt IntKind.u64.bits 4294967295).toNat))) (2 ^ (min 32 IntKind.u64.bits))))) &&& BitVec.ofInt IntKind.u64.bits 4294967295).toNat) + (IntKind.u64.wrap ((IntKind.u64.wrap (BitVec.ofInt IntKind.u64.bits x_0 &&& BitVec.ofInt IntKind.u64.bits 4294967295).toNat) * (Int.fdiv y (2 ^ (min 32 IntKind.u64.bits))))))) (2 ^ (min 32 IntKind.u64.bits)))), IntKind.u64.wrap (x_0 * y), ())
theorem se (jmp : Tgt → ASt → R) (x : (argTy ps).den) : run E jmp fin depth (bodyOf Try.f53) .ret (entryFrom 0 ps x) =
    Se x.1 x.2.1 := by kernel_rfl
end math_bits_Mul64
noncomputable def math_bits_Mul64 (x_0 : Int) (y : Int) : math_bits_Mul64.R :=
  math_bits_Mul64.Se x_0 y
noncomputable def math_bits_Mul64.sig : Sig := ⟨math_bits_Mul64.ps, math_bits_Mul64.rs, fun x => math_bits_Mul64 x.1 x.2.1⟩
theorem math_bits_Mul64.ok : CallOK Try.prog 53 math_bits_Mul64.sig :=
  callOK_of_lim (E := math_bits_Mul64.E) mixed tt_ok ctxOk_nil Try.func53 (by kernel_rfl : Try.f53.body = some (bodyOf Try.f53)) Try.ntmps53 (of_decide_eq_true (by kernel_rfl)) (of_decide_eq_true (by kernel_rfl))
    fun x y h => ((lim_eq (.code (bodyOf Try.f53) .ret) (entryFrom 0 math_bits_Mul64.ps x)).trans (math_bits_Mul64.se (lim math_bits_Mul64.E math_bits_Mul64.fin) x)).trans h
theorem math_bits_Mul64.val (x : (argTy math_bits_Mul64.ps).den) : lim math_bits_Mul64.E math_bits_Mul64.fin (.code (bodyOf Try.f53) .ret) (entryFrom 0 math_bits_Mul64.ps x) = math_bits_Mul64.sig.run x :=
  (lim_eq (.code (bodyOf Try.f53) .ret) (entryFrom 0 math_bits_Mul64.ps x)).trans (math_bits_Mul64.se (lim math_bits_Mul64.E math_bits_Mul64.fin) x)
noncomputable def math_bits_Mul64.ctxc (n : Nat) : List (Nat × Sig) := []
noncomputable def math_bits_Mul64.sigc (n : Nat) : Sig := ⟨math_bits_Mul64.ps, math_bits_Mul64.rs, fun x => runs (withCtx math_bits_Mul64.E (math_bits_Mul64.ctxc n)) math_bits_Mul64.fin n (.code (bodyOf Try.f53) .ret) (entryFrom 0 math_bits_Mul64.ps x)⟩
theorem math_bits_Mul64.sigc_le (n : Nat) : ∀ x y, (math_bits_Mul64.sigc n).run x = some y → math_bits_Mul64.sig.run x = some y :=
  fun x y h => (math_bits_Mul64.val x).symm.trans (runs_lim (E := math_bits_Mul64.E) (c := math_bits_Mul64.ctxc n) ctxLe_nil h)
namespace math_bits_Len64
abbrev ps : List PM := [.pure (.int .u64)]
abbrev rs : List RM := [.pure (.int .i64)]
abbrev R : Type := Option (Int × Unit)
noncomputable def E : Env := { tt := tt, ctx := [], nt := 25, ann := [(4, [(0, .keep), (2, .keep)]), (7, [(0, .keep), (2, .keep)])] }
noncomputable def c0 : Code := sub [1, 1] (bodyOf Try.f90)
noncomputable def c1 : Code := sub [1, 1, 1] (bodyOf Try.f90)
noncomputable def fin : ASt → R := Kret E Try.f90.results.toList ps rs
def tJ0 (x_0 : Int) (n_2 : Int) : ASt := ⟨[(2, .one (.val (.int .i64) n_2)), (0, .one (.val (.int .u64) x_0))], []⟩
def tJ1 (x_0 : Int) (n_2 : Int) : ASt := ⟨[(2, .one (.val (.int .i64) n_2)), (0, .one (.val (.int .u64) x_0))], []⟩
noncomputable def SJ0 (kJ1 : Int → Int → R) (x_0 : Int) (n_2 : Int) : R :=
  cond (decide (x_0 ≥ 65536))
    (kJ1 (Int.fdiv x_0 (2 ^ (min 16 IntKind.u64.bits))) (IntKind.i64.wrap (n_2 + 16)))
    (kJ1 x_0 n_2)
noncomputable def SJ1 (x_0 : Int) (n_2 : Int) : R :=
  cond (decide (x_0 ≥ 256))
    (Option.bind (idx ([0, 1, 2, 2, 3, 3, 3, 3, 4, 4, 4, 4, 4, 4, 4, 4, 5, 5, 5, 5, 5, 5, 5, 5, 5, 5, 5, 5, 5, 5, 5, 5, 6, 6, 6, 6, 6, 6, 6, 6, 6, 6, 6, 6, 6, 6, 6, 6, 6, 6, 6, 6, 6, 6, 6, 6, 6, 6, 6, 6, 6, 6, 6, 6, 7, 7, 7, 7, 7, 7, 7, 7, 7, 7, 7, 7, 7, 7, 7, 7, 7, 7, 7, 7, 7, 7, 7, 7, 7, 7, 7, 7, 7, 7, 7, 7, 7, 7, 7, 7, 7, 7, 7, 7, 7, 7, 7, 7, 7, 7, 7, 7, 7, 7, 7, 7, 7, 7, 7, 7, 7, 7, 7, 7, 7, 7, 7, 7, 8, 8, 8, 8, 8, 8, 8, 8, 8, 8, 8, 8, 8, 8, 8, 8, 8, 8, 8, 8, 8, 8, 8, 8, 8, 8, 8, 8, 8, 8, 8, 8, 8, 8, 8, 8, 8, 8, 8, 8, 8, 8, 8, 8, 8, 8, 8, 8, 8, 8, 8, 8, 8, 8, 8, 8, 8, 8, 8, 8, 8, 8, 8, 8, 8, 8, 8, 8, 8, 8, 8, 8, 8, 8, 8, 8, 8, 8, 8, 8, 8, 8, 8, 8, 8, 8, 8, 8, 8, 8, 8, 8, 8, 8, 8, 8, 8, 8, 8, 8, 8, 8, 8, 8, 8, 8, 8, 8, 8, 8, 8, 8, 8, 8, 8, 8, 8, 8, 8, 8, 8, 8, 8, 8, 8, 8, 8, 8] : List UInt8) (IntKind.u8.wrap (Int.fdiv x_0 (2 ^ (min 8 IntKind.u64.bits))))) fun x1 =>
    some (IntKind.i64.wrap ((IntKind.i64.wrap (n_2 + 8)) + (IntKind.i64.wrap (x1.toNat : Int))), ()))
    (Option.bind (idx ([0, 1, 2, 2, 3, 3, 3, 3, 4, 4, 4, 4, 4, 4, 4, 4, 5, 5, 5, 5, 5, 5, 5, 5, 5, 5, 5, 5, 5, 5, 5, 5, 6, 6, 6, 6, 6, 6, 6, 6, 6, 6, 6, 6, 6, 6, 6, 6, 6, 6, 6, 6, 6, 6, 6, 6, 6, 6, 6, 6, 6, 6, 6, 6, 7, 7, 7, 7, 7, 7, 7, 7, 7, 7, 7, 7, 7, 7, 7, 7, 7, 7, 7, 7, 7, 7, 7, 7, 7, 7, 7, 7, 7, 7, 7, 7, 7, 7, 7, 7, 7, 7, 7, 7, 7, 7, 7, 7, 7, 7, 7, 7, 7, 7, 7, 7, 7, 7, 7, 7, 7, 7, 7, 7, 7, 7, 7, 7, 8, 8, 8, 8, 8, 8, 8, 8, 8, 8, 8, 8, 8, 8, 8, 8, 8, 8, 8, 8, 8, 8, 8, 8, 8, 8, 8, 8, 8, 8, 8, 8, 8, 8, 8, 8, 8, 8, 8, 8, 8, 8, 8, 8, 8, 8, 8, 8, 8, 8, 8, 8, 8, 8, 8, 8, 8, 8, 8, 8, 8, 8, 8, 8, 8, 8, 8, 8, 8, 8, 8, 8, 8, 8, 8, 8, 8, 8, 8, 8, 8, 8, 8, 8, 8, 8, 8, 8, 8, 8, 8, 8, 8, 8, 8, 8, 8, 8, 8, 8, 8, 8, 8, 8, 8, 8, 8, 8, 8, 8, 8, 8, 8, 8, 8, 8, 8, 8, 8, 8, 8, 8, 8, 8, 8, 8, 8, 8] : List UInt8) (IntKind.u8.wrap x_0)) fun x2 =>
    some (IntKind.i64.wrap (n_2 + (IntKind.i64.wrap (x2.toNat : Int))), ()))
noncomputable def Se (kJ0 : Int → Int → R) (x_0 : Int) : R :=
  cond (decide (x_0 ≥ 4294967296))
    (kJ0 (Int.fdiv x_0 (2 ^ (min 32 IntKind.u64.bits))) 32)
    (kJ0 x_0 0)
theorem sJ0 (jmp : Tgt → ASt → R) (x_0 : Int) (n_2 : Int) : run E jmp fin depth c0 .ret (tJ0 x_0 n_2) =
    SJ0 (fun x_0 n_2 => jmp (.code c1 .ret) (tJ1 x_0 n_2)) x_0 n_2 := by kernel_rfl
theorem sJ1 (jmp : Tgt → ASt → R) (x_0 : Int) (n_2 : Int) : run E jmp fin depth c1 .ret (tJ1 x_0 n_2) =
    SJ1 x_0 n_2 := by kernel_rfl
theorem se (jmp : Tgt → ASt → R) (x : (argTy ps).den) : run E jmp fin depth (bodyOf Try.f90) .ret (entryFrom 0 ps x) =
    Se (fun x_0 n_2 => jmp (.code c0 .ret) (tJ0 x_0 n_2)) x.1 := by kernel_rfl
noncomputable def J0 (x_0 : Int) (n_2 : Int) : R := lim E fin (.code c0 .ret) (tJ0 x_0 n_2)
noncomputable def J1 (x_0 : Int) (n_2 : Int) : R := lim E fin (.code c1 .ret) (tJ1 x_0 n_2)
theorem J0_eq (x_0 : Int) (n_2 : Int) : J0 x_0 n_2 = SJ0 J1 x_0 n_2 :=
  (lim_eq (.code c0 .ret) (tJ0 x_0 n_2)).trans (sJ0 (lim E fin) x_0 n_2)
theorem J1_eq (x_0 : Int) (n_2 : Int) : J1 x_0 n_2 = SJ1 x_0 n_2 :=
  (lim_eq (.code c1 .ret) (tJ1 x_0 n_2)).trans (sJ1 (lim E fin) x_0 n_2)
end math_bits_Len64
noncomputable def math_bits_Len64 (x_0 : Int) : math_bits_Len64.R :=
  math_bits_Len64.Se math_bits_Len64.J0 x_0
noncomputable def math_bits_Len64.sig : Sig := ⟨math_bits_Len64.ps, math_bits_Len64.rs, fun x => math_bits_Len64 x.1⟩
theorem math_bits_Len64.ok : CallOK Try.prog 90 math_bits_Len64.sig :=
  callOK_of_lim (E := math_bits_Len64.E) mixed tt_ok ctxOk_nil Try.func90 (by kernel_rfl : Try.f90.body = some (bodyOf Try.f90)) Try.ntmps90 (of_decide_eq_true (by kernel_rfl)) (of_decide_eq_true (by kernel_rfl))
    fun x y h => ((lim_eq (.code (bodyOf Try.f90) .ret) (entryFrom 0 math_bits_Len64.ps x)).trans (math_bits_Len64.se (lim math_bits_Len64.E math_bits_Len64.fin) x)).trans h
theorem math_bits_Len64.val (x : (argTy math_bits_Len64.ps).den) : lim math_bits_Len64.E math_bits_Len64.fin (.code (bodyOf Try.f90) .ret) (entryFrom 0 math_bits_Len64.ps x) = math_bits_Len64.sig.run x :=
  (lim_eq (.code (bodyOf Try.f90) .ret) (entryFrom 0 math_bits_Len64.ps x)).trans (math_bits_Len64.se (lim math_bits_Len64.E math_bits_Len64.fin) x)
noncomputable def math_bits_Len64.ctxc (n : Nat) : List (Nat × Sig) := []
noncomputable def math_bits_Len64.sigc (n : Nat) : Sig := ⟨math_bits_Len64.ps, math_bits_Len64.rs, fun x => runs (withCtx math_bits_Len64.E (math_bits_Len64.ctxc n)) math_bits_Len64.fin n (.code (bodyOf Try.f90) .ret) (entryFrom 0 math_bits_Len64.ps x)⟩
theorem math_bits_Len64.sigc_le (n : Nat) : ∀ x y, (math_bits_Len64.sigc n).run x = some y → math_bits_Len64.sig.run x = some y :=
  fun x y h => (math_bits_Len64.val x).symm.trans (runs_lim (E := math_bits_Len64.E) (c := math_bits_Len64.ctxc n) ctxLe_nil h)
namespace math_bits_LeadingZeros64
abbrev ps : List PM := [.pure (.int .u64)]
abbrev rs : List RM := [.pure (.int .i64)]
abbrev R : Type := Option (Int × Unit)
noncomputable def E : Env := { tt := tt, ctx := [(90, math_bits_Len64.sig)], nt := 6, ann := [] }
noncomputable def fin : ASt → R := Kret E Try.f73.results.toList ps rs
noncomputable def Se (x_0 : Int) : R :=
  Option.bind (math_bits_Len64 x_0) fun x1 =>
  some (IntKind.i64.wrap (64 - x1.1), ())
theorem se (jmp : Tgt → ASt → R) (x : (argTy ps).den) : run E jmp fin depth (bodyOf Try.f73) .ret (entryFrom 0 ps x) =
    Se x.1 := by kernel_rfl
end math_bits_LeadingZeros64
noncomputable def math_bits_LeadingZeros64 (x_0 : Int) : math_bits_LeadingZeros64.R :=
  math_bits_LeadingZeros64.Se x_0
noncomputable def math_bits_LeadingZeros64.sig : Sig := ⟨math_bits_LeadingZeros64.ps, math_bits_LeadingZeros64.rs, fun x => math_bits_LeadingZeros64 x.1⟩
theorem math_bits_LeadingZeros64.ok : CallOK Try.prog 73 math_bits_LeadingZeros64.sig :=
  callOK_of_lim (E := math_bits_LeadingZeros64.E) mixed tt_ok (ctxOk_cons ctxOk_nil math_bits_Len64.ok Try.func90 (by kernel_rfl) (by kernel_rfl)) Try.func73 (by kernel_rfl : Try.f73.body = some (bodyOf Try.f73)) Try.ntmps73 (of_decide_eq_true (by kernel_rfl)) (of_decide_eq_true (by kernel_rfl))
    fun x y h => ((lim_eq (.code (bodyOf Try.f73) .ret) (entryFrom 0 math_bits_LeadingZeros64.ps x)).trans (math_bits_LeadingZeros64.se (lim math_bits_LeadingZeros64.E math_bits_LeadingZeros64.fin) x)).trans h
theorem math_bits_LeadingZeros64.val (x : (argTy math_bits_LeadingZeros64.ps).den) : lim math_bits_LeadingZeros64.E math_bits_LeadingZeros64.fin (.code (bodyOf Try.f73) .ret) (entryFrom 0 math_bits_LeadingZeros64.ps x) = math_bits_LeadingZeros64.sig.run x :=
  (lim_eq (.code (bodyOf Try.f73) .ret) (entryFrom 0 math_bits_LeadingZeros64.ps x)).trans (math_bits_LeadingZeros64.se (lim math_bits_LeadingZeros64.E math_bits_LeadingZeros64.fin) x)
noncomputable def math_bits_LeadingZeros64.ctxc (n : Nat) : List (Nat × Sig) := [(90, math_bits_Len64.sigc n)]
noncomputable def math_bits_LeadingZeros64.sigc (n : Nat) : Sig := ⟨math_bits_LeadingZeros64.ps, math_bits_LeadingZeros64.rs, fun x => runs (withCtx math_bits_LeadingZeros64.E (math_bits_LeadingZeros64.ctxc n)) math_bits_LeadingZeros64.fin n (.code (bodyOf Try.f73) .ret) (entryFrom 0 math_bits_LeadingZeros64.ps x)⟩
theorem math_bits_LeadingZeros64.sigc_le (n : Nat) : ∀ x y, (math_bits_LeadingZeros64.sigc n).run x = some y → math_bits_LeadingZeros64.sig.run x = some y :=
  fun x y h => (math_bits_LeadingZeros64.val x).symm.trans (runs_lim (E := math_bits_LeadingZeros64.E) (c := math_bits_LeadingZeros64.ctxc n) (ctxLe_cons ctxLe_nil (math_bits_Len64.sigc_le n)) h)
namespace math_bits_Div64
abbrev ps : List PM := [.pure (.int .u64), .pure (.int .u64), .pure (.int .u64)]
abbrev rs : List RM := [.pure (.int .u64), .pure (.int .u64)]
abbrev R : Type := Option (Int × Int × Unit)
noncomputable def E : Env := { tt := tt, ctx := [(73, math_bits_LeadingZeros64.sig)], nt := 135, ann := [(3, [(0, .keep), (1, .keep), (2, .keep)]), (5, [(0, .keep), (1, .keep), (2, .keep)]), (21, [(2, .keep), (8, .keep), (9, .keep), (10, .keep), (11, .keep), (13, .keep), (14, .keep), (15, .keep)]), (1000017, [(2, .keep), (8, .keep), (9, .keep), (10, .keep), (11, .keep), (13, .keep), (14, .keep), (15, .keep), (16, .keep)]), (18, [(2, .keep), (8, .keep), (9, .keep), (10, .keep), (11, .keep), (13, .keep), (14, .keep), (15, .keep), (16, .keep)]), (28, [(2, .keep), (8, .keep), (14, .keep), (15, .keep), (17, .keep), (18, .keep)]), (1000024, [(2, .keep), (8, .keep), (9, .keep), (10, .keep), (14, .keep), (15, .keep), (16, .keep), (17, .keep), (18, .keep)]), (25, [(2, .keep), (8, .keep), (9, .keep), (10, .keep), (14, .keep), (15, .keep), (16, .keep), (17, .keep), (18, .keep)])] }
noncomputable def c0 : Code := sub [1, 1, 1, 1, 1, 1, 1, 1, 1, 1, 1, 1, 1, 1, 1] (bodyOf Try.f54)
noncomputable def c1 : Code := sub [1, 1, 1, 1, 1, 1, 1, 1, 1, 1, 1, 1, 1, 1, 0, 0, 0] (bodyOf Try.f54)
noncomputable def c2 : Code := sub [1, 1, 1, 1, 1, 1, 1, 1, 1, 1, 1, 1, 1, 1, 1, 1, 1, 1, 1] (bodyOf Try.f54)
noncomputable def c3 : Code := sub [1, 1, 1, 1, 1, 1, 1, 1, 1, 1, 1, 1, 1, 1, 1, 1, 1, 1, 0, 0, 0] (bodyOf Try.f54)
noncomputable def c4 : Code := sub [1, 1] (bodyOf Try.f54)
noncomputable def c5 : Code := sub [1, 1, 1] (bodyOf Try.f54)
noncomputable def c6 : Code := sub [1, 1, 1, 1, 1, 1, 1, 1, 1, 1, 1, 1, 1, 1, 0, 0, 0, 1] (bodyOf Try.f54)
noncomputable def c7 : Code := sub [1, 1, 1, 1, 1, 1, 1, 1, 1, 1, 1, 1, 1, 1, 1, 1, 1, 1, 0, 0, 0, 1] (bodyOf Try.f54)
noncomputable def K19 : Kont := .seq c0 .ret
noncomputable def K20 : Kont := .blk 0 K19
noncomputable def K21 : Kont := .loop c1 K20
noncomputable def K27 : Kont := .seq c2 .ret
noncomputable def K28 : Kont := .blk 2 K27
noncomputable def K29 : Kont := .loop c3 K28
noncomputable def fin : ASt → R := Kret E Try.f54.results.toList ps rs
def tJ0 (hi : Int) (lo : Int) (y : Int) : ASt := ⟨[(2, .one (.val (.int .u64) y)), (1, .one (.val (.int .u64) lo)), (0, .one (.val (.int .u64) hi))], []⟩
def tJ1 (hi : Int) (lo : Int) (y : Int) : ASt := ⟨[(2, .one (.val (.int .u64) y)), (1, .one (.val (.int .u64) lo)), (0, .one (.val (.int .u64) hi))], []⟩
def tJ2 (y : Int) (s : Int) (yn1 : Int) (yn0 : Int) (un32 : Int) (un1 : Int) (un0 : Int) (q1 : Int) : ASt := ⟨[(15, .one (.val (.int .u64) q1)), (14, .one (.val (.int .u64) un0)), (13, .one (.val (.int .u64) un1)), (11, .one (.val (.int .u64) un32)), (10, .one (.val (.int .u64) yn0)), (9, .one (.val (.int .u64) yn1)), (8, .one (.val (.int .u64) s)), (2, .one (.val (.int .u64) y))], []⟩
def tL3 (y : Int) (s : Int) (yn1 : Int) (yn0 : Int) (un32 : Int) (un1 : Int) (un0 : Int) (q1 : Int) (rhat : Int) : ASt := ⟨[(16, .one (.val (.int .u64) rhat)), (15, .one (.val (.int .u64) q1)), (14, .one (.val (.int .u64) un0)), (13, .one (.val (.int .u64) un1)), (11, .one (.val (.int .u64) un32)), (10, .one (.val (.int .u64) yn0)), (9, .one (.val (.int .u64) yn1)), (8, .one (.val (.int .u64) s)), (2, .one (.val (.int .u64) y))], []⟩
def tJ4 (y : Int) (s : Int) (yn1 : Int) (yn0 : Int) (un32 : Int) (un1 : Int) (un0 : Int) (q1 : Int) (rhat : Int) : ASt := ⟨[(16, .one (.val (.int .u64) rhat)), (15, .one (.val (.int .u64) q1)), (14, .one (.val (.int .u64) un0)), (13, .one (.val (.int .u64) un1)), (11, .one (.val (.int .u64) un32)), (10, .one (.val (.int .u64) yn0)), (9, .one (.val (.int .u64) yn1)), (8, .one (.val (.int .u64) s)), (2, .one (.val (.int .u64) y))], []⟩
def tJ5 (y : Int) (s : Int) (un0 : Int) (q1 : Int) (un21 : Int) (q0 : Int) : ASt := ⟨[(18, .one (.val (.int .u64) q0)), (17, .one (.val (.int .u64) un21)), (15, .one (.val (.int .u64) q1)), (14, .one (.val (.int .u64) un0)), (8, .one (.val (.int .u64) s)), (2, .one (.val (.int .u64) y))], []⟩
def tL6 (y : Int) (s : Int) (yn1 : Int) (yn0 : Int) (un0 : Int) (q1 : Int) (rhat : Int) (un21 : Int) (q0 : Int) : ASt := ⟨[(18, .one (.val (.int .u64) q0)), (17, .one (.val (.int .u64) un21)), (16, .one (.val (.int .u64) rhat)), (15, .one (.val (.int .u64) q1)), (14, .one (.val (.int .u64) un0)), (10, .one (.val (.int .u64) yn0)), (9, .one (.val (.int .u64) yn1)), (8, .one (.val (.int .u64) s)), (2, .one (.val (.int .u64) y))], []⟩
def tJ7 (y : Int) (s : Int) (yn1 : Int) (yn0 : Int) (un0 : Int) (q1 : Int) (rhat : Int) (un21 : Int) (q0 : Int) : ASt := ⟨[(18, .one (.val (.int .u64) q0)), (17, .one (.val (.int .u64) un21)), (16, .one (.val (.int .u64) rhat)), (15, .one (.val (.int .u64) q1)), (14, .one (.val (.int .u64) un0)), (10, .one (.val (.int .u64) yn0)), (9, .one (.val (.int .u64) yn1)), (8, .one (.val (.int .u64) s)), (2, .one (.val (.int .u64) y))], []⟩
noncomputable def SJ0 (kJ1 : Int → Int → Int → R) (hi : Int) (lo : Int) (y : Int) : R :=
  cond (decide (y ≤ hi))
    none
    (kJ1 hi lo y)
noncomputable def SJ1 (kL3 : Int → Int → Int → Int → Int → Int → Int → Int → Int → R) (hi : Int) (lo : Int) (y : Int) : R :=
  cond (hi == 0)
    (cond (decide (y = 0))
      none
      (cond (decide (y = 0))
        none
        (some (IntKind.u64.wrap (Int.tdiv lo y), (Int.tmod lo y), ()))))
    (Option.bind (math_bits_LeadingZeros64 y) fun x1 =>
    cond (decide (IntKind.u64.wrap x1.1 < 0))
      none
      (cond (decide (IntKind.u64.wrap x1.1 < 0))
        none
        (cond (decide (IntKind.u64.wrap (64 - (IntKind.u64.wrap x1.1)) < 0))
          none
          (cond (decide (IntKind.u64.wrap x1.1 < 0))
            none
            (cond (decide ((Int.fdiv (IntKind.u64.wrap (y * 2 ^ (min (IntKind.u64.wrap x1.1).toNat IntKind.u64.bits))) (2 ^ (min 32 IntKind.u64.bits))) = 0))
              none
              (kL3 (IntKind.u64.wrap (y * 2 ^ (min (IntKind.u64.wrap x1.1).toNat IntKind.u64.bits))) (IntKind.u64.wrap x1.1) (Int.fdiv (IntKind.u64.wrap (y * 2 ^ (min (IntKind.u64.wrap x1.1).toNat IntKind.u64.bits))) (2 ^ (min 32 IntKind.u64.bits))) (IntKind.u64.wrap (BitVec.ofInt IntKind.u64.bits (IntKind.u64.wrap (y * 2 ^ (min (IntKind.u64.wrap x1.1).toNat IntKind.u64.bits))) &&& BitVec.ofInt IntKind.u64.bits 4294967295).toNat) (IntKind.u64.wrap (BitVec.ofInt IntKind.u64.bits (IntKind.u64.wrap (hi * 2 ^ (min (IntKind.u64.wrap x1.1).toNat IntKind.u64.bits))) ||| BitVec.ofInt IntKind.u64.bits (Int.fdiv lo (2 ^ (min (IntKind.u64.wrap (64 - (IntKind.u64.wrap x1.1))).toNat IntKind.u64.bits)))).toNat) (Int.fdiv (IntKind.u64.wrap (lo * 2 ^ (min (IntKind.u64.wrap x1.1).toNat IntKind.u64.bits))) (2 ^ (min 32 IntKind.u64.bits))) (IntKind.u64.wrap (BitVec.ofInt IntKind.u64.bits (IntKind.u64.wrap (lo * 2 ^ (min (IntKind.u64.wrap x1.1).toNat IntKind.u64.bits))) &&& BitVec.ofInt IntKind.u64.bits 4294967295).toNat) (IntKind.u64.wrap (Int.tdiv (IntKind.u64.wrap (BitVec.ofInt IntKind.u64.bits (IntKind.u64.wrap (hi * 2 ^ (min (IntKind.u64.wrap x1.1).toNat IntKind.u64.bits))) ||| BitVec.ofInt IntKind.u64.bits (Int.fdiv lo (2 ^ (min (IntKind.u64.wrap (64 - (IntKind.u64.wrap x1.1))).toNat IntKind.u64.bits)))).toNat) (Int.fdiv (IntKind.u64.wrap (y * 2 ^ (min (IntKind.u64.wrap x1.1).toNat IntKind.u64.bits))) (2 ^ (min 32 IntKind.u64.bits))))) (IntKind.u64.wrap ((IntKind.u64.wrap (BitVec.ofInt IntKind.u64.bits (IntKind.u64.wrap (hi * 2 ^ (min (IntKind.u64.wrap x1.1).toNat IntKind.u64.bits))) ||| BitVec.ofInt IntKind.u64.bits (Int.fdiv lo (2 ^ (min (IntKind.u64.wrap (64 - (IntKind.u64.wrap x1.1))).toNat IntKind.u64.bits)))).toNat) - (IntKind.u64.wrap ((IntKind.u64.wrap (Int.tdiv (IntKind.u64.wrap (BitVec.ofInt IntKind.u64.bits (IntKind.u64.wrap (hi * 2 ^ (min (IntKind.u64.wrap x1.1).toNat IntKind.u64.bits))) ||| BitVec.ofInt IntKind.u64.bits (Int.fdiv lo (2 ^ (min (IntKind.u64.wrap (64 - (IntKind.u64.wrap x1.1))).toNat IntKind.u64.bits)))).toNat) (Int.fdiv (IntKind.u64.wrap (y * 2 ^ (min (IntKind.u64.wrap x1.1).toNat IntKind.u64.bits))) (2 ^ (min 32 IntKind.u64.bits))))) * (Int.fdiv (IntKind.u64.wrap (y * 2 ^ (min (IntKind.u64.wrap x1.1).toNat IntKind.u64.bits))) (2 ^ (min 32 IntKind.u64.bits)))))))))))))
noncomputable def SJ2 (kL6 : Int → Int → Int → Int → Int → Int → Int → Int → Int → R) (y : Int) (s : Int) (yn1 : Int) (yn0 : Int) (un32 : Int) (un1 : Int) (un0 : Int) (q1 : Int) : R :=
  cond (decide (yn1 = 0))
    none
    (kL6 y s yn1 yn0 un0 q1 (IntKind.u64.wrap ((IntKind.u64.wrap ((IntKind.u64.wrap ((IntKind.u64.wrap (un32 * 4294967296)) + un1)) - (IntKind.u64.wrap (q1 * y)))) - (IntKind.u64.wrap ((IntKind.u64.wrap (Int.tdiv (IntKind.u64.wrap ((IntKind.u64.wrap ((IntKind.u64.wrap (un32 * 4294967296)) + un1)) - (IntKind.u64.wrap (q1 * y)))) yn1)) * yn1)))) (IntKind.u64.wrap ((IntKind.u64.wrap ((IntKind.u64.wrap (un32 * 4294967296)) + un1)) - (IntKind.u64.wrap (q1 * y)))) (IntKind.u64.wrap (Int.tdiv (IntKind.u64.wrap ((IntKind.u64.wrap ((IntKind.u64.wrap (un32 * 4294967296)) + un1)) - (IntKind.u64.wrap (q1 * y)))) yn1)))
noncomputable def SL3 (kJ4 : Int → Int → Int → Int → Int → Int → Int → Int → Int → R) (kJ2 : Int → Int → Int → Int → Int → Int → Int → Int → R) (y : Int) (s : Int) (yn1 : Int) (yn0 : Int) (un32 : Int) (un1 : Int) (un0 : Int) (q1 : Int) (rhat : Int) : R :=
  cond (decide (q1 ≥ 4294967296))
    (kJ4 y s yn1 yn0 un32 un1 un0 q1 rhat)
    (cond (decide ((IntKind.u64.wrap (q1 * yn0)) > (IntKind.u64.wrap ((IntKind.u64.wrap (4294967296 * rhat)) + un1))))
      (kJ4 y s yn1 yn0 un32 un1 un0 q1 rhat)
      (kJ2 y s yn1 yn0 un32 un1 un0 q1))
noncomputable def SJ4 (kJ2 : Int → Int → Int → Int → Int → Int → Int → Int → R) (kL3 : Int → Int → Int → Int → Int → Int → Int → Int → Int → R) (y : Int) (s : Int) (yn1 : Int) (yn0 : Int) (un32 : Int) (un1 : Int) (un0 : Int) (q1 : Int) (rhat : Int) : R :=
  cond (decide ((IntKind.u64.wrap (rhat + yn1)) ≥ 4294967296))
    (kJ2 y s yn1 yn0 un32 un1 un0 (IntKind.u64.wrap (q1 - 1)))
    (kL3 y s yn1 yn0 un32 un1 un0 (IntKind.u64.wrap (q1 - 1)) (IntKind.u64.wrap (rhat + yn1)))
noncomputable def SJ5 (y : Int) (s : Int) (un0 : Int) (q1 : Int) (un21 : Int) (q0 : Int) : R :=
  cond (decide (s < 0))
    none
    (some (IntKind.u64.wrap ((IntKind.u64.wrap (q1 * 4294967296)) + q0), (Int.fdiv (IntKind.u64.wrap ((IntKind.u64.wrap ((IntKind.u64.wrap (un21 * 4294967296)) + un0)) - (IntKind.u64.wrap (q0 * y)))) (2 ^ (min s.toNat IntKind.u64.bits))), ()))
noncomputable def SL6 (kJ7 : Int → Int → Int → Int → Int → Int → Int → Int → Int → R) (kJ5 : Int → Int → Int → Int → Int → Int → R) (y : Int) (s : Int) (yn1 : Int) (yn0 : Int) (un0 : Int) (q1 : Int) (rhat : Int) (un21 : Int) (q0 : Int) : R :=
  cond (decide (q0 ≥ 4294967296))
    (kJ7 y s yn1 yn0 un0 q1 rhat un21 q0)
    (cond (decide ((IntKind.u64.wrap (q0 * yn0)) > (IntKind.u64.wrap ((IntKind.u64.wrap (4294967296 * rhat)) + un0))))
      (kJ7 y s yn1 yn0 un0 q1 rhat un21 q0)
      (kJ5 y s un0 q1 un21 q0))
noncomputable def SJ7 (kJ5 : Int → Int → Int → Int → Int → Int → R) (kL6 : Int → Int → Int → Int → Int → Int → Int → Int → Int → R) (y : Int) (s : Int) (yn1 : Int) (yn0 : Int) (un0 : Int) (q1 : Int) (rhat : Int) (un21 : Int) (q0 : Int) : R :=
  cond (decide ((IntKind.u64.wrap (rhat + yn1)) ≥ 4294967296))
    (kJ5 y s un0 q1 un21 (IntKind.u64.wrap (q0 - 1)))
    (kL6 y s yn1 yn0 un0 q1 (IntKind.u64.wrap (rhat + yn1)) un21 (IntKind.u64.wrap (q0 - 1)))
noncomputable def Se (kJ0 : Int → Int → Int → R) (hi : Int) (lo : Int) (y : Int) : R :=
  cond (y == 0)
    none
    (kJ0 hi lo y)
theorem sJ0 (jmp : Tgt → ASt → R) (hi : Int) (lo : Int) (y : Int) : run E jmp fin depth c4 .ret (tJ0 hi lo y) =
    SJ0 (fun hi lo y => jmp (.code c5 .ret) (tJ1 hi lo y)) hi lo y := by kernel_rfl
theorem sJ1 (jmp : Tgt → ASt → R) (hi : Int) (lo : Int) (y : Int) : run E jmp fin depth c5 .ret (tJ1 hi lo y) =
    SJ1 (fun y s yn1 yn0 un32 un1 un0 q1 rhat => jmp (.loop c1 K20) (tL3 y s yn1 yn0 un32 un1 un0 q1 rhat)) hi lo y := by kernel_rfl
theorem sJ2 (jmp : Tgt → ASt → R) (y : Int) (s : Int) (yn1 : Int) (yn0 : Int) (un32 : Int) (un1 : Int) (un0 : Int) (q1 : Int) : run E jmp fin depth c0 .ret (tJ2 y s yn1 yn0 un32 un1 un0 q1) =
    SJ2 (fun y s yn1 yn0 un0 q1 rhat un21 q0 => jmp (.loop c3 K28) (tL6 y s yn1 yn0 un0 q1 rhat un21 q0)) y s yn1 yn0 un32 un1 un0 q1 := by kernel_rfl
theorem sL3 (jmp : Tgt → ASt → R) (y : Int) (s : Int) (yn1 : Int) (yn0 : Int) (un32 : Int) (un1 : Int) (un0 : Int) (q1 : Int) (rhat : Int) : run E jmp fin depth c1 (.loop c1 K20) (tL3 y s yn1 yn0 un32 un1 un0 q1 rhat) =
    SL3 (fun y s yn1 yn0 un32 un1 un0 q1 rhat => jmp (.code c6 K21) (tJ4 y s yn1 yn0 un32 un1 un0 q1 rhat)) (fun y s yn1 yn0 un32 un1 un0 q1 => jmp (.code c0 .ret) (tJ2 y s yn1 yn0 un32 un1 un0 q1)) y s yn1 yn0 un32 un1 un0 q1 rhat := by kernel_rfl
theorem sJ4 (jmp : Tgt → ASt → R) (y : Int) (s : Int) (yn1 : Int) (yn0 : Int) (un32 : Int) (un1 : Int) (un0 : Int) (q1 : Int) (rhat : Int) : run E jmp fin depth c6 K21 (tJ4 y s yn1 yn0 un32 un1 un0 q1 rhat) =
    SJ4 (fun y s yn1 yn0 un32 un1 un0 q1 => jmp (.code c0 .ret) (tJ2 y s yn1 yn0 un32 un1 un0 q1)) (fun y s yn1 yn0 un32 un1 un0 q1 rhat => jmp (.loop c1 K20) (tL3 y s yn1 yn0 un32 un1 un0 q1 rhat)) y s yn1 yn0 un32 un1 un0 q1 rhat := by kernel_rfl
theorem sJ5 (jmp : Tgt → ASt → R) (y : Int) (s : Int) (un0 : Int) (q1 : Int) (un21 : Int) (q0 : Int) : run E jmp fin depth c2 .ret (tJ5 y s un0 q1 un21 q0) =
    SJ5 y s un0 q1 un21 q0 := by kernel_rfl
theorem sL6 (jmp : Tgt → ASt → R) (y : Int) (s : Int) (yn1 : Int) (yn0 : Int) (un0 : Int) (q1 : Int) (rhat : Int) (un21 : Int) (q0 : Int) : run E jmp fin depth c3 (.loop c3 K28) (tL6 y s yn1 yn0 un0 q1 rhat un21 q0) =
    SL6 (fun y s yn1 yn0 un0 q1 rhat un21 q0 => jmp (.code c7 K29) (tJ7 y s yn1 yn0 un0 q1 rhat un21 q0)) (fun y s un0 q1 un21 q0 => jmp (.code c2 .ret) (tJ5 y s un0 q1 un21 q0)) y s yn1 yn0 un0 q1 rhat un21 q0 := by kernel_rfl
theorem sJ7 (jmp : Tgt → ASt → R) (y : Int) (s : Int) (yn1 : Int) (yn0 : Int) (un0 : Int) (q1 : Int) (rhat : Int) (un21 : Int) (q0 : Int) : run E jmp fin depth c7 K29 (tJ7 y s yn1 yn0 un0 q1 rhat un21 q0) =
    SJ7 (fun y s un0 q1 un21 q0 => jmp (.code c2 .ret) (tJ5 y s un0 q1 un21 q0)) (fun y s yn1 yn0 un0 q1 rhat un21 q0 => jmp (.loop c3 K28) (tL6 y s yn1 yn0 un0 q1 rhat un21 q0)) y s yn1 yn0 un0 q1 rhat un21 q0 := by kernel_rfl
theorem se (jmp : Tgt → ASt → R) (x : (argTy ps).den) : run E jmp fin depth (bodyOf Try.f54) .ret (entryFrom 0 ps x) =
    Se (fun hi lo y => jmp (.code c4 .ret) (tJ0 hi lo y)) x.1 x.2.1 x.2.2.1 := by kernel_rfl
noncomputable def J0 (hi : Int) (lo : Int) (y : Int) : R := lim E fin (.code c4 .ret) (tJ0 hi lo y)
noncomputable def J1 (hi : Int) (lo : Int) (y : Int) : R := lim E fin (.code c5 .ret) (tJ1 hi lo y)
noncomputable def J2 (y : Int) (s : Int) (yn1 : Int) (yn0 : Int) (un32 : Int) (un1 : Int) (un0 : Int) (q1 : Int) : R := lim E fin (.code c0 .ret) (tJ2 y s yn1 yn0 un32 un1 un0 q1)
noncomputable def L3 (y : Int) (s : Int) (yn1 : Int) (yn0 : Int) (un32 : Int) (un1 : Int) (un0 : Int) (q1 : Int) (rhat : Int) : R := lim E fin (.loop c1 K20) (tL3 y s yn1 yn0 un32 un1 un0 q1 rhat)
noncomputable def J4 (y : Int) (s : Int) (yn1 : Int) (yn0 : Int) (un32 : Int) (un1 : Int) (un0 : Int) (q1 : Int) (rhat : Int) : R := lim E fin (.code c6 K21) (tJ4 y s yn1 yn0 un32 un1 un0 q1 rhat)
noncomputable def J5 (y : Int) (s : Int) (un0 : Int) (q1 : Int) (un21 : Int) (q0 : Int) : R := lim E fin (.code c2 .ret) (tJ5 y s un0 q1 un21 q0)
noncomputable def L6 (y : Int) (s : Int) (yn1 : Int) (yn0 : Int) (un0 : Int) (q1 : Int) (rhat : Int) (un21 : Int) (q0 : Int) : R := lim E fin (.loop c3 K28) (tL6 y s yn1 yn0 un0 q1 rhat un21 q0)
noncomputable def J7 (y : Int) (s : Int) (yn1 : Int) (yn0 : Int) (un0 : Int) (q1 : Int) (rhat : Int) (un21 : Int) (q0 : Int) : R := lim E fin (.code c7 K29) (tJ7 y s yn1 yn0 un0 q1 rhat un21 q0)
theorem J0_eq (hi : Int) (lo : Int) (y : Int) : J0 hi lo y = SJ0 J1 hi lo y :=
  (lim_eq (.code c4 .ret) (tJ0 hi lo y)).trans (sJ0 (lim E fin) hi lo y)
theorem J1_eq (hi : Int) (lo : Int) (y : Int) : J1 hi lo y = SJ1 L3 hi lo y :=
  (lim_eq (.code c5 .ret) (tJ1 hi lo y)).trans (sJ1 (lim E fin) hi lo y)
theorem J2_eq (y : Int) (s : Int) (yn1 : Int) (yn0 : Int) (un32 : Int) (un1 : Int) (un0 : Int) (q1 : Int) : J2 y s yn1 yn0 un32 un1 un0 q1 = SJ2 L6 y s yn1 yn0 un32 un1 un0 q1 :=
  (lim_eq (.code c0 .ret) (tJ2 y s yn1 yn0 un32 un1 un0 q1)).trans (sJ2 (lim E fin) y s yn1 yn0 un32 un1 un0 q1)
theorem L3_eq (y : Int) (s : Int) (yn1 : Int) (yn0 : Int) (un32 : Int) (un1 : Int) (un0 : Int) (q1 : Int) (rhat : Int) : L3 y s yn1 yn0 un32 un1 un0 q1 rhat = SL3 J4 J2 y s yn1 yn0 un32 un1 un0 q1 rhat :=
  (lim_eq (.loop c1 K20) (tL3 y s yn1 yn0 un32 un1 un0 q1 rhat)).trans (sL3 (lim E fin) y s yn1 yn0 un32 un1 un0 q1 rhat)
theorem J4_eq (y : Int) (s : Int) (yn1 : Int) (yn0 : Int) (un32 : Int) (un1 : Int) (un0 : Int) (q1 : Int) (rhat : Int) : J4 y s yn1 yn0 un32 un1 un0 q1 rhat = SJ4 J2 L3 y s yn1 yn0 un32 un1 un0 q1 rhat :=
  (lim_eq (.code c6 K21) (tJ4 y s yn1 yn0 un32 un1 un0 q1 rhat)).trans (sJ4 (lim E fin) y s yn1 yn0 un32 un1 un0 q1 rhat)
theorem J5_eq (y : Int) (s : Int) (un0 : Int) (q1 : Int) (un21 : Int) (q0 : Int) : J5 y s un0 q1 un21 q0 = SJ5 y s un0 q1 un21 q0 :=
  (lim_eq (.code c2 .ret) (tJ5 y s un0 q1 un21 q0)).trans (sJ5 (lim E fin) y s un0 q1 un21 q0)
theorem L6_eq (y : Int) (s : Int) (yn1 : Int) (yn0 : Int) (un0 : Int) (q1 : Int) (rhat : Int) (un21 : Int) (q0 : Int) : L6 y s yn1 yn0 un0 q1 rhat un21 q0 = SL6 J7 J5 y s yn1 yn0 un0 q1 rhat un21 q0 :=
  (lim_eq (.loop c3 K28) (tL6 y s yn1 yn0 un0 q1 rhat un21 q0)).trans (sL6 (lim E fin) y s yn1 yn0 un0 q1 rhat un21 q0)
theorem J7_eq (y : Int) (s : Int) (yn1 : Int) (yn0 : Int) (un0 : Int) (q1 : Int) (rhat : Int) (un21 : Int) (q0 : Int) : J7 y s yn1 yn0 un0 q1 rhat un21 q0 = SJ7 J5 L6 y s yn1 yn0 un0 q1 rhat un21 q0 :=
  (lim_eq (.code c7 K29) (tJ7 y s yn1 yn0 un0 q1 rhat un21 q0)).trans (sJ7 (lim E fin) y s yn1 yn0 un0 q1 rhat un21 q0)
end math_bits_Div64
noncomputable def math_bits_Div64 (hi : Int) (lo : Int) (y : Int) : math_bits_Div64.R :=
  math_bits_Div64.Se math_bits_Div64.J0 hi lo y
noncomputable def math_bits_Div64.sig : Sig := ⟨math_bits_Div64.ps, math_bits_Div64.rs, fun x => math_bits_Div64 x.1 x.2.1 x.2.2.1⟩
theorem math_bits_Div64.ok : CallOK Try.prog 54 math_bits_Div64.sig :=
  callOK_of_lim (E := math_bits_Div64.E) mixed tt_ok (ctxOk_cons ctxOk_nil math_bits_LeadingZeros64.ok Try.func73 (by kernel_rfl) (by kernel_rfl)) Try.func54 (by kernel_rfl : Try.f54.body = some (bodyOf Try.f54)) Try.ntmps54 (of_decide_eq_true (by kernel_rfl)) (of_decide_eq_true (by kernel_rfl))
    fun x y h => ((lim_eq (.code (bodyOf Try.f54) .ret) (entryFrom 0 math_bits_Div64.ps x)).trans (math_bits_Div64.se (lim math_bits_Div64.E math_bits_Div64.fin) x)).trans h
theorem math_bits_Div64.val (x : (argTy math_bits_Div64.ps).den) : lim math_bits_Div64.E math_bits_Div64.fin (.code (bodyOf Try.f54) .ret) (entryFrom 0 math_bits_Div64.ps x) = math_bits_Div64.sig.run x :=
  (lim_eq (.code (bodyOf Try.f54) .ret) (entryFrom 0 math_bits_Div64.ps x)).trans (math_bits_Div64.se (lim math_bits_Div64.E math_bits_Div64.fin) x)
noncomputable def math_bits_Div64.ctxc (n : Nat) : List (Nat × Sig) := [(73, math_bits_LeadingZeros64.sigc n)]
noncomputable def math_bits_Div64.sigc (n : Nat) : Sig := ⟨math_bits_Div64.ps, math_bits_Div64.rs, fun x => runs (withCtx math_bits_Div64.E (math_bits_Div64.ctxc n)) math_bits_Div64.fin n (.code (bodyOf Try.f54) .ret) (entryFrom 0 math_bits_Div64.ps x)⟩
theorem math_bits_Div64.sigc_le (n : Nat) : ∀ x y, (math_bits_Div64.sigc n).run x = some y → math_bits_Div64.sig.run x = some y :=
  fun x y h => (math_bits_Div64.val x).symm.trans (runs_lim (E := math_bits_Div64.E) (c := math_bits_Div64.ctxc n) (ctxLe_cons ctxLe_nil (math_bits_LeadingZeros64.sigc_le n)) h)
namespace table_contribution
abbrev ps : List PM := [.pure api_Row, .pure (.int .i64)]
abbrev rs : List RM := [.pure (.int .i64), .pure (.int .i64), .pure .bool]
abbrev R : Type := Option (Int × Int × Bool × Unit)
noncomputable def E : Env := { tt := tt, ctx := [(53, math_bits_Mul64.sig), (54, math_bits_Div64.sig)], nt := 64, ann := [(7, [(7, .keep), (8, .keep), (9, .keep), (10, .keep)])] }
noncomputable def c0 : Code := sub [1, 1, 1, 1, 1] (bodyOf Try.f45)
noncomputable def fin : ASt → R := Kret E Try.f45.results.toList ps rs
def tJ0 (lo : Int) (hi : Int) (n_9 : Int) (neg : Bool) : ASt := ⟨[(10, .one (.val .bool neg)), (9, .one (.val (.int .u64) n_9)), (8, .one (.val (.int .i64) hi)), (7, .one (.val (.int .i64) lo))], []⟩
noncomputable def SJ0 (lo : Int) (hi : Int) (n_9 : Int) (neg : Bool) : R :=
  Option.bind (math_bits_Mul64 (IntKind.u64.wrap (IntKind.i64.wrap (hi - lo))) n_9) fun x1 =>
  cond (decide (x1.1 ≥ 1000000))
    (some (0, 0, false, ()))
    (Option.bind (math_bits_Div64 x1.1 x1.2.1 1000000) fun x2 =>
    cond (decide (x2.1 > 1000000000000000))
      (some (0, 0, false, ()))
      (cond neg
        (some (IntKind.i64.wrap (0 - IntKind.i64.wrap x2.1), IntKind.i64.wrap (0 - IntKind.i64.wrap x2.2.1), true, ()))
        (some (IntKind.i64.wrap x2.1, IntKind.i64.wrap x2.2.1, true, ()))))
noncomputable def Se (kJ0 : Int → Int → Int → Bool → R) (r_0 : api_RowV) (c_1 : Int) : R :=
  cond (decide ((cond (decide (0 > r_0.2.1)) 0 r_0.2.1) ≥ (cond (decide (c_1 < r_0.2.2.1)) c_1 r_0.2.2.1)))
    (some (0, 0, true, ()))
    (cond (decide (r_0.2.2.2.1 < 0))
      (kJ0 (cond (decide (0 > r_0.2.1)) 0 r_0.2.1) (cond (decide (c_1 < r_0.2.2.1)) c_1 r_0.2.2.1) (IntKind.u64.wrap (0 - IntKind.u64.wrap r_0.2.2.2.1)) (decide (r_0.2.2.2.1 < 0)))
      (kJ0 (cond (decide (0 > r_0.2.1)) 0 r_0.2.1) (cond (decide (c_1 < r_0.2.2.1)) c_1 r_0.2.2.1) (IntKind.u64.wrap r_0.2.2.2.1) (decide (r_0.2.2.2.1 < 0))))
theorem sJ0 (jmp : Tgt → ASt → R) (lo : Int) (hi : Int) (n_9 : Int) (neg : Bool) : run E jmp fin depth c0 .ret (tJ0 lo hi n_9 neg) =
    SJ0 lo hi n_9 neg := by kernel_rfl
theorem se (jmp : Tgt → ASt → R) (x : (argTy ps).den) : run E jmp fin depth (bodyOf Try.f45) .ret (entryFrom 0 ps x) =
    Se (fun lo hi n_9 neg => jmp (.code c0 .ret) (tJ0 lo hi n_9 neg)) x.1 x.2.1 := by kernel_rfl
noncomputable def J0 (lo : Int) (hi : Int) (n_9 : Int) (neg : Bool) : R := lim E fin (.code c0 .ret) (tJ0 lo hi n_9 neg)
theorem J0_eq (lo : Int) (hi : Int) (n_9 : Int) (neg : Bool) : J0 lo hi n_9 neg = SJ0 lo hi n_9 neg :=
  (lim_eq (.code c0 .ret) (tJ0 lo hi n_9 neg)).trans (sJ0 (lim E fin) lo hi n_9 neg)
end table_contribution
noncomputable def table_contribution (r_0 : api_RowV) (c_1 : Int) : table_contribution.R :=
  table_contribution.Se table_contribution.J0 r_0 c_1
noncomputable def table_contribution.sig : Sig := ⟨table_contribution.ps, table_contribution.rs, fun x => table_contribution x.1 x.2.1⟩
theorem table_contribution.ok : CallOK Try.prog 45 table_contribution.sig :=
  callOK_of_lim (E := table_contribution.E) mixed tt_ok (ctxOk_cons (ctxOk_cons ctxOk_nil math_bits_Div64.ok Try.func54 (by kernel_rfl) (by kernel_rfl)) math_bits_Mul64.ok Try.func53 (by kernel_rfl) (by kernel_rfl)) Try.func45 (by kernel_rfl : Try.f45.body = some (bodyOf Try.f45)) Try.ntmps45 (of_decide_eq_true (by kernel_rfl)) (of_decide_eq_true (by kernel_rfl))
    fun x y h => ((lim_eq (.code (bodyOf Try.f45) .ret) (entryFrom 0 table_contribution.ps x)).trans (table_contribution.se (lim table_contribution.E table_contribution.fin) x)).trans h
theorem table_contribution.val (x : (argTy table_contribution.ps).den) : lim table_contribution.E table_contribution.fin (.code (bodyOf Try.f45) .ret) (entryFrom 0 table_contribution.ps x) = table_contribution.sig.run x :=
  (lim_eq (.code (bodyOf Try.f45) .ret) (entryFrom 0 table_contribution.ps x)).trans (table_contribution.se (lim table_contribution.E table_contribution.fin) x)
noncomputable def table_contribution.ctxc (n : Nat) : List (Nat × Sig) := [(53, math_bits_Mul64.sigc n), (54, math_bits_Div64.sigc n)]
noncomputable def table_contribution.sigc (n : Nat) : Sig := ⟨table_contribution.ps, table_contribution.rs, fun x => runs (withCtx table_contribution.E (table_contribution.ctxc n)) table_contribution.fin n (.code (bodyOf Try.f45) .ret) (entryFrom 0 table_contribution.ps x)⟩
theorem table_contribution.sigc_le (n : Nat) : ∀ x y, (table_contribution.sigc n).run x = some y → table_contribution.sig.run x = some y :=
  fun x y h => (table_contribution.val x).symm.trans (runs_lim (E := table_contribution.E) (c := table_contribution.ctxc n) (ctxLe_cons (ctxLe_cons ctxLe_nil (math_bits_Div64.sigc_le n)) (math_bits_Mul64.sigc_le n)) h)
namespace money_mode
abbrev ps : List PM := [.pure (.int .i64)]
abbrev rs : List RM := [.pure .bool]
abbrev R : Type := Option (Bool × Unit)
noncomputable def E : Env := { tt := tt, ctx := [], nt := 9, ann := [] }
noncomputable def fin : ASt → R := Kret E Try.f51.results.toList ps rs
noncomputable def Se (m : Int) : R :=
  cond (decide (m ≥ 0))
    (some (decide (m ≤ 5), ()))
    (some (false, ()))
theorem se (jmp : Tgt → ASt → R) (x : (argTy ps).den) : run E jmp fin depth (bodyOf Try.f51) .ret (entryFrom 0 ps x) =
    Se x.1 := by kernel_rfl
end money_mode
noncomputable def money_mode (m : Int) : money_mode.R :=
  money_mode.Se m
noncomputable def money_mode.sig : Sig := ⟨money_mode.ps, money_mode.rs, fun x => money_mode x.1⟩
theorem money_mode.ok : CallOK Try.prog 51 money_mode.sig :=
  callOK_of_lim (E := money_mode.E) mixed tt_ok ctxOk_nil Try.func51 (by kernel_rfl : Try.f51.body = some (bodyOf Try.f51)) Try.ntmps51 (of_decide_eq_true (by kernel_rfl)) (of_decide_eq_true (by kernel_rfl))
    fun x y h => ((lim_eq (.code (bodyOf Try.f51) .ret) (entryFrom 0 money_mode.ps x)).trans (money_mode.se (lim money_mode.E money_mode.fin) x)).trans h
theorem money_mode.val (x : (argTy money_mode.ps).den) : lim money_mode.E money_mode.fin (.code (bodyOf Try.f51) .ret) (entryFrom 0 money_mode.ps x) = money_mode.sig.run x :=
  (lim_eq (.code (bodyOf Try.f51) .ret) (entryFrom 0 money_mode.ps x)).trans (money_mode.se (lim money_mode.E money_mode.fin) x)
noncomputable def money_mode.ctxc (n : Nat) : List (Nat × Sig) := []
noncomputable def money_mode.sigc (n : Nat) : Sig := ⟨money_mode.ps, money_mode.rs, fun x => runs (withCtx money_mode.E (money_mode.ctxc n)) money_mode.fin n (.code (bodyOf Try.f51) .ret) (entryFrom 0 money_mode.ps x)⟩
theorem money_mode.sigc_le (n : Nat) : ∀ x y, (money_mode.sigc n).run x = some y → money_mode.sig.run x = some y :=
  fun x y h => (money_mode.val x).symm.trans (runs_lim (E := money_mode.E) (c := money_mode.ctxc n) ctxLe_nil h)
namespace money_abs
abbrev ps : List PM := [.pure (.int .i64)]
abbrev rs : List RM := [.pure (.int .u64)]
abbrev R : Type := Option (Int × Unit)
noncomputable def E : Env := { tt := tt, ctx := [], nt := 10, ann := [] }
noncomputable def fin : ASt → R := Kret E Try.f52.results.toList ps rs
noncomputable def Se (n_0 : Int) : R :=
  cond (decide (n_0 < 0))
    (some (IntKind.u64.wrap (0 - IntKind.u64.wrap n_0), ()))
    (some (IntKind.u64.wrap n_0, ()))
theorem se (jmp : Tgt → ASt → R) (x : (argTy ps).den) : run E jmp fin depth (bodyOf Try.f52) .ret (entryFrom 0 ps x) =
    Se x.1 := by kernel_rfl
end money_abs
noncomputable def money_abs (n_0 : Int) : money_abs.R :=
  money_abs.Se n_0
noncomputable def money_abs.sig : Sig := ⟨money_abs.ps, money_abs.rs, fun x => money_abs x.1⟩
theorem money_abs.ok : CallOK Try.prog 52 money_abs.sig :=
  callOK_of_lim (E := money_abs.E) mixed tt_ok ctxOk_nil Try.func52 (by kernel_rfl : Try.f52.body = some (bodyOf Try.f52)) Try.ntmps52 (of_decide_eq_true (by kernel_rfl)) (of_decide_eq_true (by kernel_rfl))
    fun x y h => ((lim_eq (.code (bodyOf Try.f52) .ret) (entryFrom 0 money_abs.ps x)).trans (money_abs.se (lim money_abs.E money_abs.fin) x)).trans h
theorem money_abs.val (x : (argTy money_abs.ps).den) : lim money_abs.E money_abs.fin (.code (bodyOf Try.f52) .ret) (entryFrom 0 money_abs.ps x) = money_abs.sig.run x :=
  (lim_eq (.code (bodyOf Try.f52) .ret) (entryFrom 0 money_abs.ps x)).trans (money_abs.se (lim money_abs.E money_abs.fin) x)
noncomputable def money_abs.ctxc (n : Nat) : List (Nat × Sig) := []
noncomputable def money_abs.sigc (n : Nat) : Sig := ⟨money_abs.ps, money_abs.rs, fun x => runs (withCtx money_abs.E (money_abs.ctxc n)) money_abs.fin n (.code (bodyOf Try.f52) .ret) (entryFrom 0 money_abs.ps x)⟩
theorem money_abs.sigc_le (n : Nat) : ∀ x y, (money_abs.sigc n).run x = some y → money_abs.sig.run x = some y :=
  fun x y h => (money_abs.val x).symm.trans (runs_lim (E := money_abs.E) (c := money_abs.ctxc n) ctxLe_nil h)
namespace money_round
abbrev ps : List PM := [.pure (.int .u64), .pure (.int .u64), .pure (.int .u64), .pure .bool, .pure (.int .i64)]
abbrev rs : List RM := [.pure (.int .u64)]
abbrev R : Type := Option (Int × Unit)
noncomputable def E : Env := { tt := tt, ctx := [], nt := 62, ann := [] }
noncomputable def fin : ASt → R := Kret E Try.f55.results.toList ps rs
noncomputable def Se (q : Int) (r_1 : Int) (d : Int) (neg : Bool) (mode : Int) : R :=
  cond (mode == 0)
    (cond neg
      (cond (decide (r_1 > 0))
        (some (IntKind.u64.wrap (q + 1), ()))
        (some (q, ())))
      (some (q, ())))
    (cond (mode == 1)
      (cond (!neg)
        (cond (decide (r_1 > 0))
          (some (IntKind.u64.wrap (q + 1), ()))
          (some (q, ())))
        (some (q, ())))
      (cond (mode == 3)
        (cond (decide (r_1 > 0))
          (some (IntKind.u64.wrap (q + 1), ()))
          (some (q, ())))
        (cond (mode == 4)
          (cond (decide (r_1 ≥ (IntKind.u64.wrap (d - r_1))))
            (some (IntKind.u64.wrap (q + 1), ()))
            (some (q, ())))
          (cond (mode == 5)
            (cond (decide (r_1 > (IntKind.u64.wrap (d - r_1))))
              (some (IntKind.u64.wrap (q + 1), ()))
              (cond (r_1 == (IntKind.u64.wrap (d - r_1)))
                (cond ((Int.tmod q 2) == 1)
                  (some (IntKind.u64.wrap (q + 1), ()))
                  (some (q, ())))
                (some (q, ()))))
            (some (q, ()))))))
theorem se (jmp : Tgt → ASt → R) (x : (argTy ps).den) : run E jmp fin depth (bodyOf Try.f55) .ret (entryFrom 0 ps x) =
    Se x.1 x.2.1 x.2.2.1 x.2.2.2.1 x.2.2.2.2.1 := by kernel_rfl
end money_round
noncomputable def money_round (q : Int) (r_1 : Int) (d : Int) (neg : Bool) (mode : Int) : money_round.R :=
  money_round.Se q r_1 d neg mode
noncomputable def money_round.sig : Sig := ⟨money_round.ps, money_round.rs, fun x => money_round x.1 x.2.1 x.2.2.1 x.2.2.2.1 x.2.2.2.2.1⟩
theorem money_round.ok : CallOK Try.prog 55 money_round.sig :=
  callOK_of_lim (E := money_round.E) mixed tt_ok ctxOk_nil Try.func55 (by kernel_rfl : Try.f55.body = some (bodyOf Try.f55)) Try.ntmps55 (of_decide_eq_true (by kernel_rfl)) (of_decide_eq_true (by kernel_rfl))
    fun x y h => ((lim_eq (.code (bodyOf Try.f55) .ret) (entryFrom 0 money_round.ps x)).trans (money_round.se (lim money_round.E money_round.fin) x)).trans h
theorem money_round.val (x : (argTy money_round.ps).den) : lim money_round.E money_round.fin (.code (bodyOf Try.f55) .ret) (entryFrom 0 money_round.ps x) = money_round.sig.run x :=
  (lim_eq (.code (bodyOf Try.f55) .ret) (entryFrom 0 money_round.ps x)).trans (money_round.se (lim money_round.E money_round.fin) x)
noncomputable def money_round.ctxc (n : Nat) : List (Nat × Sig) := []
noncomputable def money_round.sigc (n : Nat) : Sig := ⟨money_round.ps, money_round.rs, fun x => runs (withCtx money_round.E (money_round.ctxc n)) money_round.fin n (.code (bodyOf Try.f55) .ret) (entryFrom 0 money_round.ps x)⟩
theorem money_round.sigc_le (n : Nat) : ∀ x y, (money_round.sigc n).run x = some y → money_round.sig.run x = some y :=
  fun x y h => (money_round.val x).symm.trans (runs_lim (E := money_round.E) (c := money_round.ctxc n) ctxLe_nil h)
namespace money_signed
abbrev ps : List PM := [.pure (.int .u64), .pure .bool]
abbrev rs : List RM := [.pure (.int .i64)]
abbrev R : Type := Option (Int × Unit)
noncomputable def E : Env := { tt := tt, ctx := [], nt := 11, ann := [] }
noncomputable def fin : ASt → R := Kret E Try.f56.results.toList ps rs
noncomputable def Se (n_0 : Int) (neg : Bool) : R :=
  cond neg
    (some (IntKind.i64.wrap (0 - IntKind.i64.wrap n_0), ()))
    (some (IntKind.i64.wrap n_0, ()))
theorem se (jmp : Tgt → ASt → R) (x : (argTy ps).den) : run E jmp fin depth (bodyOf Try.f56) .ret (entryFrom 0 ps x) =
    Se x.1 x.2.1 := by kernel_rfl
end money_signed
noncomputable def money_signed (n_0 : Int) (neg : Bool) : money_signed.R :=
  money_signed.Se n_0 neg
noncomputable def money_signed.sig : Sig := ⟨money_signed.ps, money_signed.rs, fun x => money_signed x.1 x.2.1⟩
theorem money_signed.ok : CallOK Try.prog 56 money_signed.sig :=
  callOK_of_lim (E := money_signed.E) mixed tt_ok ctxOk_nil Try.func56 (by kernel_rfl : Try.f56.body = some (bodyOf Try.f56)) Try.ntmps56 (of_decide_eq_true (by kernel_rfl)) (of_decide_eq_true (by kernel_rfl))
    fun x y h => ((lim_eq (.code (bodyOf Try.f56) .ret) (entryFrom 0 money_signed.ps x)).trans (money_signed.se (lim money_signed.E money_signed.fin) x)).trans h
theorem money_signed.val (x : (argTy money_signed.ps).den) : lim money_signed.E money_signed.fin (.code (bodyOf Try.f56) .ret) (entryFrom 0 money_signed.ps x) = money_signed.sig.run x :=
  (lim_eq (.code (bodyOf Try.f56) .ret) (entryFrom 0 money_signed.ps x)).trans (money_signed.se (lim money_signed.E money_signed.fin) x)
noncomputable def money_signed.ctxc (n : Nat) : List (Nat × Sig) := []
noncomputable def money_signed.sigc (n : Nat) : Sig := ⟨money_signed.ps, money_signed.rs, fun x => runs (withCtx money_signed.E (money_signed.ctxc n)) money_signed.fin n (.code (bodyOf Try.f56) .ret) (entryFrom 0 money_signed.ps x)⟩
theorem money_signed.sigc_le (n : Nat) : ∀ x y, (money_signed.sigc n).run x = some y → money_signed.sig.run x = some y :=
  fun x y h => (money_signed.val x).symm.trans (runs_lim (E := money_signed.E) (c := money_signed.ctxc n) ctxLe_nil h)
namespace money_DivRound
abbrev ps : List PM := [.pure (.int .i64), .pure (.int .i64), .pure (.int .i64)]
abbrev rs : List RM := [.pure (.int .i64), .pure (.int .i64)]
abbrev R : Type := Option (Int × Int × Unit)
noncomputable def E : Env := { tt := tt, ctx := [(51, money_mode.sig), (52, money_abs.sig), (55, money_round.sig), (56, money_signed.sig)], nt := 48, ann := [(7, [(0, .keep), (1, .keep), (2, .keep)])] }
noncomputable def c0 : Code := sub [1, 1] (bodyOf Try.f71)
noncomputable def fin : ASt → R := Kret E Try.f71.results.toList ps rs
def tJ0 (n_0 : Int) (d : Int) (m : Int) : ASt := ⟨[(2, .one (.val (.int .i64) m)), (1, .one (.val (.int .i64) d)), (0, .one (.val (.int .i64) n_0))], []⟩
noncomputable def SJ0 (n_0 : Int) (d : Int) (m : Int) : R :=
  Option.bind (money_abs n_0) fun x1 =>
  Option.bind (money_abs d) fun x2 =>
  cond (decide (x2.1 = 0))
    none
    (cond (decide (x2.1 = 0))
      none
      (Option.bind (money_round (IntKind.u64.wrap (Int.tdiv x1.1 x2.1)) (Int.tmod x1.1 x2.1) x2.1 (!((decide (n_0 < 0)) == (decide (d < 0)))) m) fun x3 =>
      Option.bind (money_signed x3.1 (!((decide (n_0 < 0)) == (decide (d < 0))))) fun x4 =>
      some (x4.1, 0, ())))
noncomputable def Se (kJ0 : Int → Int → Int → R) (n_0 : Int) (d : Int) (m : Int) : R :=
  Option.bind (money_mode m) fun x1 =>
  cond (!x1.1)
    (some (0, 1, ()))
    (cond (d == 0)
      (some (0, 12, ()))
      (Option.bind (money_abs n_0) fun x2 =>
      cond (decide (x2.1 > 4611686018427387904))
        (some (0, 3, ()))
        (Option.bind (money_abs d) fun x3 =>
        cond (decide (x3.1 > 4611686018427387904))
          (some (0, 3, ()))
          (kJ0 n_0 d m))))
theorem sJ0 (jmp : Tgt → ASt → R) (n_0 : Int) (d : Int) (m : Int) : run E jmp fin depth c0 .ret (tJ0 n_0 d m) =
    SJ0 n_0 d m := by kernel_rfl
theorem se (jmp : Tgt → ASt → R) (x : (argTy ps).den) : run E jmp fin depth (bodyOf Try.f71) .ret (entryFrom 0 ps x) =
    Se (fun n_0 d m => jmp (.code c0 .ret) (tJ0 n_0 d m)) x.1 x.2.1 x.2.2.1 := by kernel_rfl
noncomputable def J0 (n_0 : Int) (d : Int) (m : Int) : R := lim E fin (.code c0 .ret) (tJ0 n_0 d m)
theorem J0_eq (n_0 : Int) (d : Int) (m : Int) : J0 n_0 d m = SJ0 n_0 d m :=
  (lim_eq (.code c0 .ret) (tJ0 n_0 d m)).trans (sJ0 (lim E fin) n_0 d m)
end money_DivRound
noncomputable def money_DivRound (n_0 : Int) (d : Int) (m : Int) : money_DivRound.R :=
  money_DivRound.Se money_DivRound.J0 n_0 d m
noncomputable def money_DivRound.sig : Sig := ⟨money_DivRound.ps, money_DivRound.rs, fun x => money_DivRound x.1 x.2.1 x.2.2.1⟩
theorem money_DivRound.ok : CallOK Try.prog 71 money_DivRound.sig :=
  callOK_of_lim (E := money_DivRound.E) mixed tt_ok (ctxOk_cons (ctxOk_cons (ctxOk_cons (ctxOk_cons ctxOk_nil money_signed.ok Try.func56 (by kernel_rfl) (by kernel_rfl)) money_round.ok Try.func55 (by kernel_rfl) (by kernel_rfl)) money_abs.ok Try.func52 (by kernel_rfl) (by kernel_rfl)) money_mode.ok Try.func51 (by kernel_rfl) (by kernel_rfl)) Try.func71 (by kernel_rfl : Try.f71.body = some (bodyOf Try.f71)) Try.ntmps71 (of_decide_eq_true (by kernel_rfl)) (of_decide_eq_true (by kernel_rfl))
    fun x y h => ((lim_eq (.code (bodyOf Try.f71) .ret) (entryFrom 0 money_DivRound.ps x)).trans (money_DivRound.se (lim money_DivRound.E money_DivRound.fin) x)).trans h
theorem money_DivRound.val (x : (argTy money_DivRound.ps).den) : lim money_DivRound.E money_DivRound.fin (.code (bodyOf Try.f71) .ret) (entryFrom 0 money_DivRound.ps x) = money_DivRound.sig.run x :=
  (lim_eq (.code (bodyOf Try.f71) .ret) (entryFrom 0 money_DivRound.ps x)).trans (money_DivRound.se (lim money_DivRound.E money_DivRound.fin) x)
noncomputable def money_DivRound.ctxc (n : Nat) : List (Nat × Sig) := [(51, money_mode.sigc n), (52, money_abs.sigc n), (55, money_round.sigc n), (56, money_signed.sigc n)]
noncomputable def money_DivRound.sigc (n : Nat) : Sig := ⟨money_DivRound.ps, money_DivRound.rs, fun x => runs (withCtx money_DivRound.E (money_DivRound.ctxc n)) money_DivRound.fin n (.code (bodyOf Try.f71) .ret) (entryFrom 0 money_DivRound.ps x)⟩
theorem money_DivRound.sigc_le (n : Nat) : ∀ x y, (money_DivRound.sigc n).run x = some y → money_DivRound.sig.run x = some y :=
  fun x y h => (money_DivRound.val x).symm.trans (runs_lim (E := money_DivRound.E) (c := money_DivRound.ctxc n) (ctxLe_cons (ctxLe_cons (ctxLe_cons (ctxLe_cons ctxLe_nil (money_signed.sigc_le n)) (money_round.sigc_le n)) (money_abs.sigc_le n)) (money_mode.sigc_le n)) h)
namespace table_rounding
abbrev ps : List PM := [.pure (.int .i64), .pure (.int .i64), .pure (.int .i64)]
abbrev rs : List RM := [.pure (.int .i64)]
abbrev R : Type := Option (Int × Unit)
noncomputable def E : Env := { tt := tt, ctx := [(71, money_DivRound.sig)], nt := 23, ann := [] }
noncomputable def fin : ASt → R := Kret E Try.f46.results.toList ps rs
noncomputable def Se (whole : Int) (parts : Int) (mode : Int) : R :=
  Option.bind (money_DivRound (IntKind.i64.wrap ((IntKind.i64.wrap ((Int.tmod whole 2) * 1000000)) + parts)) 1000000 mode) fun x1 =>
  some (IntKind.i64.wrap (x1.1 - (Int.tmod whole 2)), ())
theorem se (jmp : Tgt → ASt → R) (x : (argTy ps).den) : run E jmp fin depth (bodyOf Try.f46) .ret (entryFrom 0 ps x) =
    Se x.1 x.2.1 x.2.2.1 := by kernel_rfl
end table_rounding
noncomputable def table_rounding (whole : Int) (parts : Int) (mode : Int) : table_rounding.R :=
  table_rounding.Se whole parts mode
noncomputable def table_rounding.sig : Sig := ⟨table_rounding.ps, table_rounding.rs, fun x => table_rounding x.1 x.2.1 x.2.2.1⟩
theorem table_rounding.ok : CallOK Try.prog 46 table_rounding.sig :=
  callOK_of_lim (E := table_rounding.E) mixed tt_ok (ctxOk_cons ctxOk_nil money_DivRound.ok Try.func71 (by kernel_rfl) (by kernel_rfl)) Try.func46 (by kernel_rfl : Try.f46.body = some (bodyOf Try.f46)) Try.ntmps46 (of_decide_eq_true (by kernel_rfl)) (of_decide_eq_true (by kernel_rfl))
    fun x y h => ((lim_eq (.code (bodyOf Try.f46) .ret) (entryFrom 0 table_rounding.ps x)).trans (table_rounding.se (lim table_rounding.E table_rounding.fin) x)).trans h
theorem table_rounding.val (x : (argTy table_rounding.ps).den) : lim table_rounding.E table_rounding.fin (.code (bodyOf Try.f46) .ret) (entryFrom 0 table_rounding.ps x) = table_rounding.sig.run x :=
  (lim_eq (.code (bodyOf Try.f46) .ret) (entryFrom 0 table_rounding.ps x)).trans (table_rounding.se (lim table_rounding.E table_rounding.fin) x)
noncomputable def table_rounding.ctxc (n : Nat) : List (Nat × Sig) := [(71, money_DivRound.sigc n)]
noncomputable def table_rounding.sigc (n : Nat) : Sig := ⟨table_rounding.ps, table_rounding.rs, fun x => runs (withCtx table_rounding.E (table_rounding.ctxc n)) table_rounding.fin n (.code (bodyOf Try.f46) .ret) (entryFrom 0 table_rounding.ps x)⟩
theorem table_rounding.sigc_le (n : Nat) : ∀ x y, (table_rounding.sigc n).run x = some y → table_rounding.sig.run x = some y :=
  fun x y h => (table_rounding.val x).symm.trans (runs_lim (E := table_rounding.E) (c := table_rounding.ctxc n) (ctxLe_cons ctxLe_nil (money_DivRound.sigc_le n)) h)
namespace table_Brackets
abbrev ps : List PM := [.pure api_Table, .pure (.int .i64), .pure (.int .i64), .pure (.int .i64)]
abbrev rs : List RM := [.pure (.int .i64), .pure (.int .i64)]
abbrev R : Type := Option (Int × Int × Unit)
noncomputable def E : Env := { tt := tt, ctx := [(39, daterange_Contains.sig), (45, table_contribution.sig), (46, table_rounding.sig)], nt := 110, ann := [(7, [(1, .keep), (2, .keep), (3, .keep), (4, .keep)]), (2, [(1, .keep), (2, .keep), (3, .keep), (4, .keep), (18, .keep)]), (4, [(1, .keep), (2, .keep), (3, .keep), (4, .keep), (25, .keep)]), (1000009, [(1, .keep), (2, .keep), (3, .keep), (10, .keep), (11, .keep), (44, .keep), (45, .keep), (46, .keep)]), (24, [(3, .keep), (10, .keep), (11, .keep)]), (21, [(3, .keep), (10, .keep), (11, .keep), (82, .keep)])] }
noncomputable def c0 : Code := sub [1, 1] (bodyOf Try.f21)
noncomputable def c1 : Code := sub [1, 1, 1, 1] (bodyOf Try.f21)
noncomputable def c2 : Code := sub [1, 1, 1, 1, 1, 1, 1] (bodyOf Try.f21)
noncomputable def c3 : Code := sub [1, 0, 0, 1] (bodyOf Try.f21)
noncomputable def c4 : Code := sub [1, 0, 0, 1, 1, 1] (bodyOf Try.f21)
noncomputable def c5 : Code := sub [1, 1, 1, 0, 1, 0, 0] (bodyOf Try.f21)
noncomputable def c6 : Code := sub [1, 1, 1, 1, 1, 1, 0, 1] (bodyOf Try.f21)
noncomputable def K2 : Kont := .seq c0 .ret
noncomputable def K3 : Kont := .blk 0 K2
noncomputable def K11 : Kont := .seq c1 .ret
noncomputable def K13 : Kont := .blk 1 K11
noncomputable def K29 : Kont := .seq c2 .ret
noncomputable def fin : ASt → R := Kret E Try.f21.results.toList ps rs
def tJ0 (date : Int) (c_2 : Int) (mode : Int) (t : api_TableV) : ASt := ⟨[(4, .one (.optr 4 0 [])), (3, .one (.val (.int .i64) mode)), (2, .one (.val (.int .i64) c_2)), (1, .one (.val (.int .i64) date))], [(4, some ⟨.free, api_Table, [t]⟩)]⟩
def tJ1 (date : Int) (c_2 : Int) (mode : Int) (t : api_TableV) (v_18 : Bool) : ASt := ⟨[(18, .one (.val .bool v_18)), (4, .one (.optr 4 0 [])), (3, .one (.val (.int .i64) mode)), (2, .one (.val (.int .i64) c_2)), (1, .one (.val (.int .i64) date))], [(4, some ⟨.free, api_Table, [t]⟩)]⟩
def tJ2 (date : Int) (c_2 : Int) (mode : Int) (t : api_TableV) (v_25 : Bool) : ASt := ⟨[(25, .one (.val .bool v_25)), (4, .one (.optr 4 0 [])), (3, .one (.val (.int .i64) mode)), (2, .one (.val (.int .i64) c_2)), (1, .one (.val (.int .i64) date))], [(4, some ⟨.free, api_Table, [t]⟩)]⟩
def tL3 (date : Int) (c_2 : Int) (mode : Int) (whole : Int) (parts : Int) (v_44 : List api_RowV) (v_45 : Int) (v_46 : Int) : ASt := ⟨[(46, .one (.val (.int .i64) v_46)), (45, .one (.val (.int .i64) v_45)), (44, .one (.val (.sl api_Row) v_44)), (11, .one (.val (.int .i64) parts)), (10, .one (.val (.int .i64) whole)), (3, .one (.val (.int .i64) mode)), (2, .one (.val (.int .i64) c_2)), (1, .one (.val (.int .i64) date))], []⟩
def tJ4 (mode : Int) (whole : Int) (parts : Int) : ASt := ⟨[(11, .one (.val (.int .i64) parts)), (10, .one (.val (.int .i64) whole)), (3, .one (.val (.int .i64) mode))], []⟩
def tJ5 (mode : Int) (whole : Int) (parts : Int) (v_82 : Bool) : ASt := ⟨[(82, .one (.val .bool v_82)), (11, .one (.val (.int .i64) parts)), (10, .one (.val (.int .i64) whole)), (3, .one (.val (.int .i64) mode))], []⟩
noncomputable def SJ0 (kL3 : Int → Int → Int → Int → Int → (List api_RowV) → Int → Int → R) (date : Int) (c_2 : Int) (mode : Int) (t : api_TableV) : R :=
  kL3 date c_2 mode 0 0 t.2.2.2.1 (t.2.2.2.1.length : Int) 0
noncomputable def SJ1 (kJ2 : Int → Int → Int → api_TableV → Bool → R) (date : Int) (c_2 : Int) (mode : Int) (t : api_TableV) (v_18 : Bool) : R :=
  cond v_18
    (some (0, 1, ()))
    (cond (!eqTy (.pair (.int .i64) (.pair (.int .i64) .unit)) t.2.1 (3, 0, ()))
      (kJ2 date c_2 mode t true)
      (kJ2 date c_2 mode t (!eqTy (.pair (.int .i64) (.pair (.int .i64) .unit)) t.2.2.1 (4, 0, ()))))
noncomputable def SJ2 (kJ0 : Int → Int → Int → api_TableV → R) (date : Int) (c_2 : Int) (mode : Int) (t : api_TableV) (v_25 : Bool) : R :=
  cond v_25
    (some (0, 8, ()))
    (cond (decide (c_2 > 1000000000000000))
      (some (0, 3, ()))
      (cond (decide (c_2 < (-1000000000000000)))
        (some (0, 3, ()))
        (kJ0 date c_2 mode t)))
noncomputable def SL3 (kL3 : Int → Int → Int → Int → Int → (List api_RowV) → Int → Int → R) (kJ5 : Int → Int → Int → Bool → R) (date : Int) (c_2 : Int) (mode : Int) (whole : Int) (parts : Int) (v_44 : List api_RowV) (v_45 : Int) (v_46 : Int) : R :=
  cond (decide (v_46 < v_45))
    (Option.bind (idx v_44 v_46) fun x1 =>
    Option.bind (daterange_Contains x1.1 date) fun x2 =>
    cond (!x2.1)
      (kL3 date c_2 mode whole parts v_44 v_45 (IntKind.i64.wrap (v_46 + 1)))
      (Option.bind (table_contribution x1 c_2) fun x3 =>
      cond (!x3.2.2.1)
        (some (0, 3, ()))
        (kL3 date c_2 mode (IntKind.i64.wrap (whole + x3.1)) (IntKind.i64.wrap (parts + x3.2.1)) v_44 v_45 (IntKind.i64.wrap (v_46 + 1)))))
    (cond (decide ((IntKind.i64.wrap (whole + (IntKind.i64.wrap (Int.tdiv parts 1000000)))) > 0))
      (kJ5 mode (IntKind.i64.wrap (whole + (IntKind.i64.wrap (Int.tdiv parts 1000000)))) (Int.tmod parts 1000000) (decide ((Int.tmod parts 1000000) < 0)))
      (kJ5 mode (IntKind.i64.wrap (whole + (IntKind.i64.wrap (Int.tdiv parts 1000000)))) (Int.tmod parts 1000000) false))
noncomputable def SJ4 (mode : Int) (whole : Int) (parts : Int) : R :=
  Option.bind (table_rounding whole parts mode) fun x1 =>
  cond (decide ((IntKind.i64.wrap (whole + x1.1)) > 1000000000000000))
    (some (0, 3, ()))
    (cond (decide ((IntKind.i64.wrap (whole + x1.1)) < (-1000000000000000)))
      (some (0, 3, ()))
      (some (IntKind.i64.wrap (whole + x1.1), 0, ())))
noncomputable def SJ5 (kJ4 : Int → Int → Int → R) (mode : Int) (whole : Int) (parts : Int) (v_82 : Bool) : R :=
  cond v_82
    (kJ4 mode (IntKind.i64.wrap (whole - 1)) (IntKind.i64.wrap (parts + 1000000)))
    (cond (decide (whole < 0))
      (cond (decide (parts > 0))
        (kJ4 mode (IntKind.i64.wrap (whole + 1)) (IntKind.i64.wrap (parts - 1000000)))
        (kJ4 mode whole parts))
      (kJ4 mode whole parts))
noncomputable def Se (kJ1 : Int → Int → Int → api_TableV → Bool → R) (t : api_TableV) (date : Int) (c_2 : Int) (mode : Int) : R :=
  cond (decide (mode < 0))
    (kJ1 date c_2 mode t true)
    (kJ1 date c_2 mode t (decide (mode > 5)))
theorem sJ0 (jmp : Tgt → ASt → R) (date : Int) (c_2 : Int) (mode : Int) (t : api_TableV) : run E jmp fin depth c0 .ret (tJ0 date c_2 mode t) =
    SJ0 (fun date c_2 mode whole parts v_44 v_45 v_46 => jmp (.loop c5 K13) (tL3 date c_2 mode whole parts v_44 v_45 v_46)) date c_2 mode t := by kernel_rfl
theorem sJ1 (jmp : Tgt → ASt → R) (date : Int) (c_2 : Int) (mode : Int) (t : api_TableV) (v_18 : Bool) : run E jmp fin depth c3 K3 (tJ1 date c_2 mode t v_18) =
    SJ1 (fun date c_2 mode t v_25 => jmp (.code c4 K3) (tJ2 date c_2 mode t v_25)) date c_2 mode t v_18 := by kernel_rfl
theorem sJ2 (jmp : Tgt → ASt → R) (date : Int) (c_2 : Int) (mode : Int) (t : api_TableV) (v_25 : Bool) : run E jmp fin depth c4 K3 (tJ2 date c_2 mode t v_25) =
    SJ2 (fun date c_2 mode t => jmp (.code c0 .ret) (tJ0 date c_2 mode t)) date c_2 mode t v_25 := by kernel_rfl
theorem sL3 (jmp : Tgt → ASt → R) (date : Int) (c_2 : Int) (mode : Int) (whole : Int) (parts : Int) (v_44 : List api_RowV) (v_45 : Int) (v_46 : Int) : run E jmp fin depth c5 (.loop c5 K13) (tL3 date c_2 mode whole parts v_44 v_45 v_46) =
    SL3 (fun date c_2 mode whole parts v_44 v_45 v_46 => jmp (.loop c5 K13) (tL3 date c_2 mode whole parts v_44 v_45 v_46)) (fun mode whole parts v_82 => jmp (.code c6 K29) (tJ5 mode whole parts v_82)) date c_2 mode whole parts v_44 v_45 v_46 := by kernel_rfl
theorem sJ4 (jmp : Tgt → ASt → R) (mode : Int) (whole : Int) (parts : Int) : run E jmp fin depth c2 .ret (tJ4 mode whole parts) =
    SJ4 mode whole parts := by kernel_rfl
theorem sJ5 (jmp : Tgt → ASt → R) (mode : Int) (whole : Int) (parts : Int) (v_82 : Bool) : run E jmp fin depth c6 K29 (tJ5 mode whole parts v_82) =
    SJ5 (fun mode whole parts => jmp (.code c2 .ret) (tJ4 mode whole parts)) mode whole parts v_82 := by kernel_rfl
theorem se (jmp : Tgt → ASt → R) (x : (argTy ps).den) : run E jmp fin depth (bodyOf Try.f21) .ret (entryFrom 0 ps x) =
    Se (fun date c_2 mode t v_18 => jmp (.code c3 K3) (tJ1 date c_2 mode t v_18)) x.1 x.2.1 x.2.2.1 x.2.2.2.1 := by kernel_rfl
noncomputable def J0 (date : Int) (c_2 : Int) (mode : Int) (t : api_TableV) : R := lim E fin (.code c0 .ret) (tJ0 date c_2 mode t)
noncomputable def J1 (date : Int) (c_2 : Int) (mode : Int) (t : api_TableV) (v_18 : Bool) : R := lim E fin (.code c3 K3) (tJ1 date c_2 mode t v_18)
noncomputable def J2 (date : Int) (c_2 : Int) (mode : Int) (t : api_TableV) (v_25 : Bool) : R := lim E fin (.code c4 K3) (tJ2 date c_2 mode t v_25)
noncomputable def L3 (date : Int) (c_2 : Int) (mode : Int) (whole : Int) (parts : Int) (v_44 : List api_RowV) (v_45 : Int) (v_46 : Int) : R := lim E fin (.loop c5 K13) (tL3 date c_2 mode whole parts v_44 v_45 v_46)
noncomputable def J4 (mode : Int) (whole : Int) (parts : Int) : R := lim E fin (.code c2 .ret) (tJ4 mode whole parts)
noncomputable def J5 (mode : Int) (whole : Int) (parts : Int) (v_82 : Bool) : R := lim E fin (.code c6 K29) (tJ5 mode whole parts v_82)
theorem J0_eq (date : Int) (c_2 : Int) (mode : Int) (t : api_TableV) : J0 date c_2 mode t = SJ0 L3 date c_2 mode t :=
  (lim_eq (.code c0 .ret) (tJ0 date c_2 mode t)).trans (sJ0 (lim E fin) date c_2 mode t)
theorem J1_eq (date : Int) (c_2 : Int) (mode : Int) (t : api_TableV) (v_18 : Bool) : J1 date c_2 mode t v_18 = SJ1 J2 date c_2 mode t v_18 :=
  (lim_eq (.code c3 K3) (tJ1 date c_2 mode t v_18)).trans (sJ1 (lim E fin) date c_2 mode t v_18)
theorem J2_eq (date : Int) (c_2 : Int) (mode : Int) (t : api_TableV) (v_25 : Bool) : J2 date c_2 mode t v_25 = SJ2 J0 date c_2 mode t v_25 :=
  (lim_eq (.code c4 K3) (tJ2 date c_2 mode t v_25)).trans (sJ2 (lim E fin) date c_2 mode t v_25)
theorem L3_eq (date : Int) (c_2 : Int) (mode : Int) (whole : Int) (parts : Int) (v_44 : List api_RowV) (v_45 : Int) (v_46 : Int) : L3 date c_2 mode whole parts v_44 v_45 v_46 = SL3 L3 J5 date c_2 mode whole parts v_44 v_45 v_46 :=
  (lim_eq (.loop c5 K13) (tL3 date c_2 mode whole parts v_44 v_45 v_46)).trans (sL3 (lim E fin) date c_2 mode whole parts v_44 v_45 v_46)
theorem J4_eq (mode : Int) (whole : Int) (parts : Int) : J4 mode whole parts = SJ4 mode whole parts :=
  (lim_eq (.code c2 .ret) (tJ4 mode whole parts)).trans (sJ4 (lim E fin) mode whole parts)
theorem J5_eq (mode : Int) (whole : Int) (parts : Int) (v_82 : Bool) : J5 mode whole parts v_82 = SJ5 J4 mode whole parts v_82 :=
  (lim_eq (.code c6 K29) (tJ5 mode whole parts v_82)).trans (sJ5 (lim E fin) mode whole parts v_82)
end table_Brackets
noncomputable def table_Brackets (t : api_TableV) (date : Int) (c_2 : Int) (mode : Int) : table_Brackets.R :=
  table_Brackets.Se table_Brackets.J1 t date c_2 mode
noncomputable def table_Brackets.sig : Sig := ⟨table_Brackets.ps, table_Brackets.rs, fun x => table_Brackets x.1 x.2.1 x.2.2.1 x.2.2.2.1⟩
theorem table_Brackets.ok : CallOK Try.prog 21 table_Brackets.sig :=
  callOK_of_lim (E := table_Brackets.E) mixed tt_ok (ctxOk_cons (ctxOk_cons (ctxOk_cons ctxOk_nil table_rounding.ok Try.func46 (by kernel_rfl) (by kernel_rfl)) table_contribution.ok Try.func45 (by kernel_rfl) (by kernel_rfl)) daterange_Contains.ok Try.func39 (by kernel_rfl) (by kernel_rfl)) Try.func21 (by kernel_rfl : Try.f21.body = some (bodyOf Try.f21)) Try.ntmps21 (of_decide_eq_true (by kernel_rfl)) (of_decide_eq_true (by kernel_rfl))
    fun x y h => ((lim_eq (.code (bodyOf Try.f21) .ret) (entryFrom 0 table_Brackets.ps x)).trans (table_Brackets.se (lim table_Brackets.E table_Brackets.fin) x)).trans h
theorem table_Brackets.val (x : (argTy table_Brackets.ps).den) : lim table_Brackets.E table_Brackets.fin (.code (bodyOf Try.f21) .ret) (entryFrom 0 table_Brackets.ps x) = table_Brackets.sig.run x :=
  (lim_eq (.code (bodyOf Try.f21) .ret) (entryFrom 0 table_Brackets.ps x)).trans (table_Brackets.se (lim table_Brackets.E table_Brackets.fin) x)
noncomputable def table_Brackets.ctxc (n : Nat) : List (Nat × Sig) := [(39, daterange_Contains.sigc n), (45, table_contribution.sigc n), (46, table_rounding.sigc n)]
noncomputable def table_Brackets.sigc (n : Nat) : Sig := ⟨table_Brackets.ps, table_Brackets.rs, fun x => runs (withCtx table_Brackets.E (table_Brackets.ctxc n)) table_Brackets.fin n (.code (bodyOf Try.f21) .ret) (entryFrom 0 table_Brackets.ps x)⟩
theorem table_Brackets.sigc_le (n : Nat) : ∀ x y, (table_Brackets.sigc n).run x = some y → table_Brackets.sig.run x = some y :=
  fun x y h => (table_Brackets.val x).symm.trans (runs_lim (E := table_Brackets.E) (c := table_Brackets.ctxc n) (ctxLe_cons (ctxLe_cons (ctxLe_cons ctxLe_nil (table_rounding.sigc_le n)) (table_contribution.sigc_le n)) (daterange_Contains.sigc_le n)) h)
namespace table_Lookup
abbrev ps : List PM := [.pure api_Table, .pure (.int .i64), .pure (.int .i64)]
abbrev rs : List RM := [.pure (.int .i64), .pure .bool]
abbrev R : Type := Option (Int × Bool × Unit)
noncomputable def E : Env := { tt := tt, ctx := [(39, daterange_Contains.sig)], nt := 36, ann := [(1000002, [(1, .keep), (2, .keep), (11, .keep), (12, .keep), (13, .keep)])] }
noncomputable def c0 : Code := sub [1, 1] (bodyOf Try.f18)
noncomputable def c1 : Code := sub [1, 0, 1, 0, 0] (bodyOf Try.f18)
noncomputable def K2 : Kont := .seq c0 .ret
noncomputable def K4 : Kont := .blk 0 K2
noncomputable def fin : ASt → R := Kret E Try.f18.results.toList ps rs
def tL0 (date : Int) (key : Int) (v_11 : List api_RowV) (v_12 : Int) (v_13 : Int) : ASt := ⟨[(13, .one (.val (.int .i64) v_13)), (12, .one (.val (.int .i64) v_12)), (11, .one (.val (.sl api_Row) v_11)), (2, .one (.val (.int .i64) key)), (1, .one (.val (.int .i64) date))], []⟩
noncomputable def SL0 (kL0 : Int → Int → (List api_RowV) → Int → Int → R) (date : Int) (key : Int) (v_11 : List api_RowV) (v_12 : Int) (v_13 : Int) : R :=
  cond (decide (v_13 < v_12))
    (Option.bind (idx v_11 v_13) fun x1 =>
    Option.bind (daterange_Contains x1.1 date) fun x2 =>
    cond x2.1
      (cond (decide (x1.2.1 ≤ key))
        (cond (decide (key < x1.2.2.1))
          (some (v_13, true, ()))
          (kL0 date key v_11 v_12 (IntKind.i64.wrap (v_13 + 1))))
        (kL0 date key v_11 v_12 (IntKind.i64.wrap (v_13 + 1))))
      (kL0 date key v_11 v_12 (IntKind.i64.wrap (v_13 + 1))))
    (some (0, false, ()))
noncomputable def Se (kL0 : Int → Int → (List api_RowV) → Int → Int → R) (t : api_TableV) (date : Int) (key : Int) : R :=
  kL0 date key t.2.2.2.1 (t.2.2.2.1.length : Int) 0
theorem sL0 (jmp : Tgt → ASt → R) (date : Int) (key : Int) (v_11 : List api_RowV) (v_12 : Int) (v_13 : Int) : run E jmp fin depth c1 (.loop c1 K4) (tL0 date key v_11 v_12 v_13) =
    SL0 (fun date key v_11 v_12 v_13 => jmp (.loop c1 K4) (tL0 date key v_11 v_12 v_13)) date key v_11 v_12 v_13 := by kernel_rfl
theorem se (jmp : Tgt → ASt → R) (x : (argTy ps).den) : run E jmp fin depth (bodyOf Try.f18) .ret (entryFrom 0 ps x) =
    Se (fun date key v_11 v_12 v_13 => jmp (.loop c1 K4) (tL0 date key v_11 v_12 v_13)) x.1 x.2.1 x.2.2.1 := by kernel_rfl
noncomputable def L0 (date : Int) (key : Int) (v_11 : List api_RowV) (v_12 : Int) (v_13 : Int) : R := lim E fin (.loop c1 K4) (tL0 date key v_11 v_12 v_13)
theorem L0_eq (date : Int) (key : Int) (v_11 : List api_RowV) (v_12 : Int) (v_13 : Int) : L0 date key v_11 v_12 v_13 = SL0 L0 date key v_11 v_12 v_13 :=
  (lim_eq (.loop c1 K4) (tL0 date key v_11 v_12 v_13)).trans (sL0 (lim E fin) date key v_11 v_12 v_13)
end table_Lookup
noncomputable def table_Lookup (t : api_TableV) (date : Int) (key : Int) : table_Lookup.R :=
  table_Lookup.Se table_Lookup.L0 t date key
noncomputable def table_Lookup.sig : Sig := ⟨table_Lookup.ps, table_Lookup.rs, fun x => table_Lookup x.1 x.2.1 x.2.2.1⟩
theorem table_Lookup.ok : CallOK Try.prog 18 table_Lookup.sig :=
  callOK_of_lim (E := table_Lookup.E) mixed tt_ok (ctxOk_cons ctxOk_nil daterange_Contains.ok Try.func39 (by kernel_rfl) (by kernel_rfl)) Try.func18 (by kernel_rfl : Try.f18.body = some (bodyOf Try.f18)) Try.ntmps18 (of_decide_eq_true (by kernel_rfl)) (of_decide_eq_true (by kernel_rfl))
    fun x y h => ((lim_eq (.code (bodyOf Try.f18) .ret) (entryFrom 0 table_Lookup.ps x)).trans (table_Lookup.se (lim table_Lookup.E table_Lookup.fin) x)).trans h
theorem table_Lookup.val (x : (argTy table_Lookup.ps).den) : lim table_Lookup.E table_Lookup.fin (.code (bodyOf Try.f18) .ret) (entryFrom 0 table_Lookup.ps x) = table_Lookup.sig.run x :=
  (lim_eq (.code (bodyOf Try.f18) .ret) (entryFrom 0 table_Lookup.ps x)).trans (table_Lookup.se (lim table_Lookup.E table_Lookup.fin) x)
noncomputable def table_Lookup.ctxc (n : Nat) : List (Nat × Sig) := [(39, daterange_Contains.sigc n)]
noncomputable def table_Lookup.sigc (n : Nat) : Sig := ⟨table_Lookup.ps, table_Lookup.rs, fun x => runs (withCtx table_Lookup.E (table_Lookup.ctxc n)) table_Lookup.fin n (.code (bodyOf Try.f18) .ret) (entryFrom 0 table_Lookup.ps x)⟩
theorem table_Lookup.sigc_le (n : Nat) : ∀ x y, (table_Lookup.sigc n).run x = some y → table_Lookup.sig.run x = some y :=
  fun x y h => (table_Lookup.val x).symm.trans (runs_lim (E := table_Lookup.E) (c := table_Lookup.ctxc n) (ctxLe_cons ctxLe_nil (daterange_Contains.sigc_le n)) h)
namespace value_ValidType
abbrev ps : List PM := [.pure api_Type, .pure (.sl api_Enum)]
abbrev rs : List RM := [.pure .bool]
abbrev R : Type := Option (Bool × Unit)
noncomputable def E : Env := { tt := tt, ctx := [], nt := 28, ann := [(7, [(1, .keep), (2, .keep), (6, .keep), (7, .keep)])] }
noncomputable def c0 : Code := sub [1, 1] (bodyOf Try.f31)
noncomputable def c1 : Code := sub [1, 0, 1, 0, 1] (bodyOf Try.f31)
noncomputable def K2 : Kont := .seq c0 .ret
noncomputable def K4 : Kont := .blk 0 K2
noncomputable def fin : ASt → R := Kret E Try.f31.results.toList ps rs
def tJ0 (enums : List api_EnumV) (t : api_TypeV) (v_6 : Int) (v_7 : Bool) : ASt := ⟨[(7, .one (.val .bool v_7)), (6, .one (.val (.int .i64) v_6)), (2, .one (.optr 2 0 [])), (1, .one (.val (.sl api_Enum) enums))], [(2, some ⟨.free, api_Type, [t]⟩)]⟩
noncomputable def SJ0 (enums : List api_EnumV) (t : api_TypeV) (v_6 : Int) (v_7 : Bool) : R :=
  cond v_7
    (some ((t.2.1 == 0), ()))
    (cond (v_6 == 6)
      (cond (decide (t.2.1 ≥ 0))
        (some (decide (t.2.1 < (enums.length : Int)), ()))
        (some (false, ())))
      (some (false, ())))
noncomputable def Se (kJ0 : (List api_EnumV) → api_TypeV → Int → Bool → R) (t : api_TypeV) (enums : List api_EnumV) : R :=
  cond (t.1 == 1)
    (kJ0 enums t t.1 (t.1 == 1))
    (cond (t.1 == 2)
      (kJ0 enums t t.1 (t.1 == 2))
      (cond (t.1 == 3)
        (kJ0 enums t t.1 (t.1 == 3))
        (cond (t.1 == 4)
          (kJ0 enums t t.1 (t.1 == 4))
          (kJ0 enums t t.1 (t.1 == 5)))))
theorem sJ0 (jmp : Tgt → ASt → R) (enums : List api_EnumV) (t : api_TypeV) (v_6 : Int) (v_7 : Bool) : run E jmp fin depth c1 K4 (tJ0 enums t v_6 v_7) =
    SJ0 enums t v_6 v_7 := by kernel_rfl
theorem se (jmp : Tgt → ASt → R) (x : (argTy ps).den) : run E jmp fin depth (bodyOf Try.f31) .ret (entryFrom 0 ps x) =
    Se (fun enums t v_6 v_7 => jmp (.code c1 K4) (tJ0 enums t v_6 v_7)) x.1 x.2.1 := by kernel_rfl
noncomputable def J0 (enums : List api_EnumV) (t : api_TypeV) (v_6 : Int) (v_7 : Bool) : R := lim E fin (.code c1 K4) (tJ0 enums t v_6 v_7)
theorem J0_eq (enums : List api_EnumV) (t : api_TypeV) (v_6 : Int) (v_7 : Bool) : J0 enums t v_6 v_7 = SJ0 enums t v_6 v_7 :=
  (lim_eq (.code c1 K4) (tJ0 enums t v_6 v_7)).trans (sJ0 (lim E fin) enums t v_6 v_7)
end value_ValidType
noncomputable def value_ValidType (t : api_TypeV) (enums : List api_EnumV) : value_ValidType.R :=
  value_ValidType.Se value_ValidType.J0 t enums
noncomputable def value_ValidType.sig : Sig := ⟨value_ValidType.ps, value_ValidType.rs, fun x => value_ValidType x.1 x.2.1⟩
theorem value_ValidType.ok : CallOK Try.prog 31 value_ValidType.sig :=
  callOK_of_lim (E := value_ValidType.E) mixed tt_ok ctxOk_nil Try.func31 (by kernel_rfl : Try.f31.body = some (bodyOf Try.f31)) Try.ntmps31 (of_decide_eq_true (by kernel_rfl)) (of_decide_eq_true (by kernel_rfl))
    fun x y h => ((lim_eq (.code (bodyOf Try.f31) .ret) (entryFrom 0 value_ValidType.ps x)).trans (value_ValidType.se (lim value_ValidType.E value_ValidType.fin) x)).trans h
theorem value_ValidType.val (x : (argTy value_ValidType.ps).den) : lim value_ValidType.E value_ValidType.fin (.code (bodyOf Try.f31) .ret) (entryFrom 0 value_ValidType.ps x) = value_ValidType.sig.run x :=
  (lim_eq (.code (bodyOf Try.f31) .ret) (entryFrom 0 value_ValidType.ps x)).trans (value_ValidType.se (lim value_ValidType.E value_ValidType.fin) x)
noncomputable def value_ValidType.ctxc (n : Nat) : List (Nat × Sig) := []
noncomputable def value_ValidType.sigc (n : Nat) : Sig := ⟨value_ValidType.ps, value_ValidType.rs, fun x => runs (withCtx value_ValidType.E (value_ValidType.ctxc n)) value_ValidType.fin n (.code (bodyOf Try.f31) .ret) (entryFrom 0 value_ValidType.ps x)⟩
theorem value_ValidType.sigc_le (n : Nat) : ∀ x y, (value_ValidType.sigc n).run x = some y → value_ValidType.sig.run x = some y :=
  fun x y h => (value_ValidType.val x).symm.trans (runs_lim (E := value_ValidType.E) (c := value_ValidType.ctxc n) ctxLe_nil h)
namespace value_Bounds
abbrev ps : List PM := [.pure api_Type, .pure (.sl api_Enum)]
abbrev rs : List RM := [.pure (.int .i64), .pure (.int .i64)]
abbrev R : Type := Option (Int × Int × Unit)
noncomputable def E : Env := { tt := tt, ctx := [(31, value_ValidType.sig)], nt := 30, ann := [] }
noncomputable def fin : ASt → R := Kret E Try.f62.results.toList ps rs
noncomputable def Se (t : api_TypeV) (enums : List api_EnumV) : R :=
  Option.bind (value_ValidType t enums) fun x1 =>
  cond (!x1.1)
    (some (0, (-1), ()))
    (cond (t.1 == 1)
      (some (0, 1, ()))
      (cond (t.1 == 2)
        (some ((-1000000000000), 1000000000000, ()))
        (cond (t.1 == 3)
          (some ((-1000000000000000), 1000000000000000, ()))
          (cond (t.1 == 4)
            (some ((-1000000000), 1000000000, ()))
            (cond (t.1 == 5)
              (some (0, 109572, ()))
              (Option.bind (idx enums t.2.1) fun x2 =>
              some (0, IntKind.i64.wrap ((x2.2.1.length : Int) - 1), ())))))))
theorem se (jmp : Tgt → ASt → R) (x : (argTy ps).den) : run E jmp fin depth (bodyOf Try.f62) .ret (entryFrom 0 ps x) =
    Se x.1 x.2.1 := by kernel_rfl
end value_Bounds
noncomputable def value_Bounds (t : api_TypeV) (enums : List api_EnumV) : value_Bounds.R :=
  value_Bounds.Se t enums
noncomputable def value_Bounds.sig : Sig := ⟨value_Bounds.ps, value_Bounds.rs, fun x => value_Bounds x.1 x.2.1⟩
theorem value_Bounds.ok : CallOK Try.prog 62 value_Bounds.sig :=
  callOK_of_lim (E := value_Bounds.E) mixed tt_ok (ctxOk_cons ctxOk_nil value_ValidType.ok Try.func31 (by kernel_rfl) (by kernel_rfl)) Try.func62 (by kernel_rfl : Try.f62.body = some (bodyOf Try.f62)) Try.ntmps62 (of_decide_eq_true (by kernel_rfl)) (of_decide_eq_true (by kernel_rfl))
    fun x y h => ((lim_eq (.code (bodyOf Try.f62) .ret) (entryFrom 0 value_Bounds.ps x)).trans (value_Bounds.se (lim value_Bounds.E value_Bounds.fin) x)).trans h
theorem value_Bounds.val (x : (argTy value_Bounds.ps).den) : lim value_Bounds.E value_Bounds.fin (.code (bodyOf Try.f62) .ret) (entryFrom 0 value_Bounds.ps x) = value_Bounds.sig.run x :=
  (lim_eq (.code (bodyOf Try.f62) .ret) (entryFrom 0 value_Bounds.ps x)).trans (value_Bounds.se (lim value_Bounds.E value_Bounds.fin) x)
noncomputable def value_Bounds.ctxc (n : Nat) : List (Nat × Sig) := [(31, value_ValidType.sigc n)]
noncomputable def value_Bounds.sigc (n : Nat) : Sig := ⟨value_Bounds.ps, value_Bounds.rs, fun x => runs (withCtx value_Bounds.E (value_Bounds.ctxc n)) value_Bounds.fin n (.code (bodyOf Try.f62) .ret) (entryFrom 0 value_Bounds.ps x)⟩
theorem value_Bounds.sigc_le (n : Nat) : ∀ x y, (value_Bounds.sigc n).run x = some y → value_Bounds.sig.run x = some y :=
  fun x y h => (value_Bounds.val x).symm.trans (runs_lim (E := value_Bounds.E) (c := value_Bounds.ctxc n) (ctxLe_cons ctxLe_nil (value_ValidType.sigc_le n)) h)
namespace table_check
abbrev ps : List PM := [.pure api_Row, .pure api_Table, .pure (.sl api_Enum)]
abbrev rs : List RM := [.pure (.int .i64)]
abbrev R : Type := Option (Int × Unit)
noncomputable def E : Env := { tt := tt, ctx := [(62, value_Bounds.sig), (63, daterange_Valid.sig)], nt := 82, ann := [(4, [(3, .keep), (7, .keep), (8, .keep), (9, .keep), (10, .keep), (25, .keep)]), (6, [(3, .keep), (9, .keep), (10, .keep), (39, .keep)])] }
noncomputable def c0 : Code := sub [1, 1, 1, 1] (bodyOf Try.f32)
noncomputable def c1 : Code := sub [1, 1, 1, 0, 0, 1] (bodyOf Try.f32)
noncomputable def c2 : Code := sub [1, 1, 1, 0, 0, 1, 1, 1] (bodyOf Try.f32)
noncomputable def K4 : Kont := .seq c0 .ret
noncomputable def K5 : Kont := .blk 0 K4
noncomputable def fin : ASt → R := Kret E Try.f32.results.toList ps rs
def tJ0 (r_3 : api_RowV) (lo : Int) (hi : Int) (least : Int) (most : Int) (v_25 : Bool) : ASt := ⟨[(25, .one (.val .bool v_25)), (10, .one (.val (.int .i64) most)), (9, .one (.val (.int .i64) least)), (8, .one (.val (.int .i64) hi)), (7, .one (.val (.int .i64) lo)), (3, .one (.optr 3 0 []))], [(3, some ⟨.free, api_Row, [r_3]⟩)]⟩
def tJ1 (r_3 : api_RowV) (least : Int) (most : Int) (v_39 : Bool) : ASt := ⟨[(39, .one (.val .bool v_39)), (10, .one (.val (.int .i64) most)), (9, .one (.val (.int .i64) least)), (3, .one (.optr 3 0 []))], [(3, some ⟨.free, api_Row, [r_3]⟩)]⟩
noncomputable def SJ0 (kJ1 : api_RowV → Int → Int → Bool → R) (r_3 : api_RowV) (lo : Int) (hi : Int) (least : Int) (most : Int) (v_25 : Bool) : R :=
  cond v_25
    (some (3, ()))
    (cond (decide (r_3.2.1 ≥ r_3.2.2.1))
      (kJ1 r_3 least most true)
      (cond (decide (r_3.2.1 < lo))
        (kJ1 r_3 least most true)
        (cond (decide (r_3.2.1 > hi))
          (kJ1 r_3 least most true)
          (cond (decide ((IntKind.i64.wrap (r_3.2.2.1 - 1)) < lo))
            (kJ1 r_3 least most true)
            (kJ1 r_3 least most (decide ((IntKind.i64.wrap (r_3.2.2.1 - 1)) > hi)))))))
noncomputable def SJ1 (r_3 : api_RowV) (least : Int) (most : Int) (v_39 : Bool) : R :=
  cond v_39
    (some (3, ()))
    (cond (decide (r_3.2.2.2.1 < least))
      (some (3, ()))
      (cond (decide (r_3.2.2.2.1 > most))
        (some (3, ()))
        (some (0, ()))))
noncomputable def Se (kJ0 : api_RowV → Int → Int → Int → Int → Bool → R) (r_0 : api_RowV) (t : api_TableV) (enums : List api_EnumV) : R :=
  Option.bind (value_Bounds t.2.1 enums) fun x1 =>
  Option.bind (value_Bounds t.2.2.1 enums) fun x2 =>
  Option.bind (daterange_Valid r_0.1) fun x3 =>
  cond (!x3.1)
    (kJ0 r_0 x1.1 x1.2.1 x2.1 x2.2.1 true)
    (kJ0 r_0 x1.1 x1.2.1 x2.1 x2.2.1 (r_0.1.1 == r_0.1.2.1))
theorem sJ0 (jmp : Tgt → ASt → R) (r_3 : api_RowV) (lo : Int) (hi : Int) (least : Int) (most : Int) (v_25 : Bool) : run E jmp fin depth c1 K5 (tJ0 r_3 lo hi least most v_25) =
    SJ0 (fun r_3 least most v_39 => jmp (.code c2 K5) (tJ1 r_3 least most v_39)) r_3 lo hi least most v_25 := by kernel_rfl
theorem sJ1 (jmp : Tgt → ASt → R) (r_3 : api_RowV) (least : Int) (most : Int) (v_39 : Bool) : run E jmp fin depth c2 K5 (tJ1 r_3 least most v_39) =
    SJ1 r_3 least most v_39 := by kernel_rfl
theorem se (jmp : Tgt → ASt → R) (x : (argTy ps).den) : run E jmp fin depth (bodyOf Try.f32) .ret (entryFrom 0 ps x) =
    Se (fun r_3 lo hi least most v_25 => jmp (.code c1 K5) (tJ0 r_3 lo hi least most v_25)) x.1 x.2.1 x.2.2.1 := by kernel_rfl
noncomputable def J0 (r_3 : api_RowV) (lo : Int) (hi : Int) (least : Int) (most : Int) (v_25 : Bool) : R := lim E fin (.code c1 K5) (tJ0 r_3 lo hi least most v_25)
noncomputable def J1 (r_3 : api_RowV) (least : Int) (most : Int) (v_39 : Bool) : R := lim E fin (.code c2 K5) (tJ1 r_3 least most v_39)
theorem J0_eq (r_3 : api_RowV) (lo : Int) (hi : Int) (least : Int) (most : Int) (v_25 : Bool) : J0 r_3 lo hi least most v_25 = SJ0 J1 r_3 lo hi least most v_25 :=
  (lim_eq (.code c1 K5) (tJ0 r_3 lo hi least most v_25)).trans (sJ0 (lim E fin) r_3 lo hi least most v_25)
theorem J1_eq (r_3 : api_RowV) (least : Int) (most : Int) (v_39 : Bool) : J1 r_3 least most v_39 = SJ1 r_3 least most v_39 :=
  (lim_eq (.code c2 K5) (tJ1 r_3 least most v_39)).trans (sJ1 (lim E fin) r_3 least most v_39)
end table_check
noncomputable def table_check (r_0 : api_RowV) (t : api_TableV) (enums : List api_EnumV) : table_check.R :=
  table_check.Se table_check.J0 r_0 t enums
noncomputable def table_check.sig : Sig := ⟨table_check.ps, table_check.rs, fun x => table_check x.1 x.2.1 x.2.2.1⟩
theorem table_check.ok : CallOK Try.prog 32 table_check.sig :=
  callOK_of_lim (E := table_check.E) mixed tt_ok (ctxOk_cons (ctxOk_cons ctxOk_nil daterange_Valid.ok Try.func63 (by kernel_rfl) (by kernel_rfl)) value_Bounds.ok Try.func62 (by kernel_rfl) (by kernel_rfl)) Try.func32 (by kernel_rfl : Try.f32.body = some (bodyOf Try.f32)) Try.ntmps32 (of_decide_eq_true (by kernel_rfl)) (of_decide_eq_true (by kernel_rfl))
    fun x y h => ((lim_eq (.code (bodyOf Try.f32) .ret) (entryFrom 0 table_check.ps x)).trans (table_check.se (lim table_check.E table_check.fin) x)).trans h
theorem table_check.val (x : (argTy table_check.ps).den) : lim table_check.E table_check.fin (.code (bodyOf Try.f32) .ret) (entryFrom 0 table_check.ps x) = table_check.sig.run x :=
  (lim_eq (.code (bodyOf Try.f32) .ret) (entryFrom 0 table_check.ps x)).trans (table_check.se (lim table_check.E table_check.fin) x)
noncomputable def table_check.ctxc (n : Nat) : List (Nat × Sig) := [(62, value_Bounds.sigc n), (63, daterange_Valid.sigc n)]
noncomputable def table_check.sigc (n : Nat) : Sig := ⟨table_check.ps, table_check.rs, fun x => runs (withCtx table_check.E (table_check.ctxc n)) table_check.fin n (.code (bodyOf Try.f32) .ret) (entryFrom 0 table_check.ps x)⟩
theorem table_check.sigc_le (n : Nat) : ∀ x y, (table_check.sigc n).run x = some y → table_check.sig.run x = some y :=
  fun x y h => (table_check.val x).symm.trans (runs_lim (E := table_check.E) (c := table_check.ctxc n) (ctxLe_cons (ctxLe_cons ctxLe_nil (daterange_Valid.sigc_le n)) (value_Bounds.sigc_le n)) h)
namespace daterange_proper
abbrev ps : List PM := [.pure api_Type]
abbrev rs : List RM := [.pure .bool]
abbrev R : Type := Option (Bool × Unit)
noncomputable def E : Env := { tt := tt, ctx := [(63, daterange_Valid.sig)], nt := 12, ann := [] }
noncomputable def fin : ASt → R := Kret E Try.f75.results.toList ps rs
noncomputable def Se (r_0 : api_TypeV) : R :=
  Option.bind (daterange_Valid r_0) fun x1 =>
  cond x1.1
    (some (decide (r_0.1 < r_0.2.1), ()))
    (some (false, ()))
theorem se (jmp : Tgt → ASt → R) (x : (argTy ps).den) : run E jmp fin depth (bodyOf Try.f75) .ret (entryFrom 0 ps x) =
    Se x.1 := by kernel_rfl
end daterange_proper
noncomputable def daterange_proper (r_0 : api_TypeV) : daterange_proper.R :=
  daterange_proper.Se r_0
noncomputable def daterange_proper.sig : Sig := ⟨daterange_proper.ps, daterange_proper.rs, fun x => daterange_proper x.1⟩
theorem daterange_proper.ok : CallOK Try.prog 75 daterange_proper.sig :=
  callOK_of_lim (E := daterange_proper.E) mixed tt_ok (ctxOk_cons ctxOk_nil daterange_Valid.ok Try.func63 (by kernel_rfl) (by kernel_rfl)) Try.func75 (by kernel_rfl : Try.f75.body = some (bodyOf Try.f75)) Try.ntmps75 (of_decide_eq_true (by kernel_rfl)) (of_decide_eq_true (by kernel_rfl))
    fun x y h => ((lim_eq (.code (bodyOf Try.f75) .ret) (entryFrom 0 daterange_proper.ps x)).trans (daterange_proper.se (lim daterange_proper.E daterange_proper.fin) x)).trans h
theorem daterange_proper.val (x : (argTy daterange_proper.ps).den) : lim daterange_proper.E daterange_proper.fin (.code (bodyOf Try.f75) .ret) (entryFrom 0 daterange_proper.ps x) = daterange_proper.sig.run x :=
  (lim_eq (.code (bodyOf Try.f75) .ret) (entryFrom 0 daterange_proper.ps x)).trans (daterange_proper.se (lim daterange_proper.E daterange_proper.fin) x)
noncomputable def daterange_proper.ctxc (n : Nat) : List (Nat × Sig) := [(63, daterange_Valid.sigc n)]
noncomputable def daterange_proper.sigc (n : Nat) : Sig := ⟨daterange_proper.ps, daterange_proper.rs, fun x => runs (withCtx daterange_proper.E (daterange_proper.ctxc n)) daterange_proper.fin n (.code (bodyOf Try.f75) .ret) (entryFrom 0 daterange_proper.ps x)⟩
theorem daterange_proper.sigc_le (n : Nat) : ∀ x y, (daterange_proper.sigc n).run x = some y → daterange_proper.sig.run x = some y :=
  fun x y h => (daterange_proper.val x).symm.trans (runs_lim (E := daterange_proper.E) (c := daterange_proper.ctxc n) (ctxLe_cons ctxLe_nil (daterange_Valid.sigc_le n)) h)
namespace daterange_Intersect
abbrev ps : List PM := [.pure api_Type, .pure api_Type]
abbrev rs : List RM := [.pure api_Type, .pure .bool]
abbrev R : Type := Option (api_TypeV × Bool × Unit)
noncomputable def E : Env := { tt := tt, ctx := [(75, daterange_proper.sig)], nt := 35, ann := [] }
noncomputable def fin : ASt → R := Kret E Try.f64.results.toList ps rs
noncomputable def Se (a : api_TypeV) (b : api_TypeV) : R :=
  Option.bind (daterange_proper a) fun x1 =>
  cond (!x1.1)
    (some ((0, 0, ()), false, ()))
    (Option.bind (daterange_proper b) fun x2 =>
    cond (!x2.1)
      (some ((0, 0, ()), false, ()))
      (cond (decide ((cond (decide (b.1 > a.1)) b.1 a.1) ≥ (cond (decide (b.2.1 < a.2.1)) b.2.1 a.2.1)))
        (some ((0, 0, ()), false, ()))
        (some (((cond (decide (b.1 > a.1)) b.1 a.1), (cond (decide (b.2.1 < a.2.1)) b.2.1 a.2.1), ()), true, ()))))
theorem se (jmp : Tgt → ASt → R) (x : (argTy ps).den) : run E jmp fin depth (bodyOf Try.f64) .ret (entryFrom 0 ps x) =
    Se x.1 x.2.1 := by kernel_rfl
end daterange_Intersect
noncomputable def daterange_Intersect (a : api_TypeV) (b : api_TypeV) : daterange_Intersect.R :=
  daterange_Intersect.Se a b
noncomputable def daterange_Intersect.sig : Sig := ⟨daterange_Intersect.ps, daterange_Intersect.rs, fun x => daterange_Intersect x.1 x.2.1⟩
theorem daterange_Intersect.ok : CallOK Try.prog 64 daterange_Intersect.sig :=
  callOK_of_lim (E := daterange_Intersect.E) mixed tt_ok (ctxOk_cons ctxOk_nil daterange_proper.ok Try.func75 (by kernel_rfl) (by kernel_rfl)) Try.func64 (by kernel_rfl : Try.f64.body = some (bodyOf Try.f64)) Try.ntmps64 (of_decide_eq_true (by kernel_rfl)) (of_decide_eq_true (by kernel_rfl))
    fun x y h => ((lim_eq (.code (bodyOf Try.f64) .ret) (entryFrom 0 daterange_Intersect.ps x)).trans (daterange_Intersect.se (lim daterange_Intersect.E daterange_Intersect.fin) x)).trans h
theorem daterange_Intersect.val (x : (argTy daterange_Intersect.ps).den) : lim daterange_Intersect.E daterange_Intersect.fin (.code (bodyOf Try.f64) .ret) (entryFrom 0 daterange_Intersect.ps x) = daterange_Intersect.sig.run x :=
  (lim_eq (.code (bodyOf Try.f64) .ret) (entryFrom 0 daterange_Intersect.ps x)).trans (daterange_Intersect.se (lim daterange_Intersect.E daterange_Intersect.fin) x)
noncomputable def daterange_Intersect.ctxc (n : Nat) : List (Nat × Sig) := [(75, daterange_proper.sigc n)]
noncomputable def daterange_Intersect.sigc (n : Nat) : Sig := ⟨daterange_Intersect.ps, daterange_Intersect.rs, fun x => runs (withCtx daterange_Intersect.E (daterange_Intersect.ctxc n)) daterange_Intersect.fin n (.code (bodyOf Try.f64) .ret) (entryFrom 0 daterange_Intersect.ps x)⟩
theorem daterange_Intersect.sigc_le (n : Nat) : ∀ x y, (daterange_Intersect.sigc n).run x = some y → daterange_Intersect.sig.run x = some y :=
  fun x y h => (daterange_Intersect.val x).symm.trans (runs_lim (E := daterange_Intersect.E) (c := daterange_Intersect.ctxc n) (ctxLe_cons ctxLe_nil (daterange_proper.sigc_le n)) h)
namespace table_conflict
abbrev ps : List PM := [.pure api_Row, .pure api_Row]
abbrev rs : List RM := [.pure .bool]
abbrev R : Type := Option (Bool × Unit)
noncomputable def E : Env := { tt := tt, ctx := [(64, daterange_Intersect.sig)], nt := 29, ann := [] }
noncomputable def fin : ASt → R := Kret E Try.f33.results.toList ps rs
noncomputable def Se (a : api_RowV) (b : api_RowV) : R :=
  Option.bind (daterange_Intersect a.1 b.1) fun x1 =>
  cond x1.2.1
    (some (decide ((cond (decide (b.2.1 > a.2.1)) b.2.1 a.2.1) < (cond (decide (b.2.2.1 < a.2.2.1)) b.2.2.1 a.2.2.1)), ()))
    (some (false, ()))
theorem se (jmp : Tgt → ASt → R) (x : (argTy ps).den) : run E jmp fin depth (bodyOf Try.f33) .ret (entryFrom 0 ps x) =
    Se x.1 x.2.1 := by kernel_rfl
end table_conflict
noncomputable def table_conflict (a : api_RowV) (b : api_RowV) : table_conflict.R :=
  table_conflict.Se a b
noncomputable def table_conflict.sig : Sig := ⟨table_conflict.ps, table_conflict.rs, fun x => table_conflict x.1 x.2.1⟩
theorem table_conflict.ok : CallOK Try.prog 33 table_conflict.sig :=
  callOK_of_lim (E := table_conflict.E) mixed tt_ok (ctxOk_cons ctxOk_nil daterange_Intersect.ok Try.func64 (by kernel_rfl) (by kernel_rfl)) Try.func33 (by kernel_rfl : Try.f33.body = some (bodyOf Try.f33)) Try.ntmps33 (of_decide_eq_true (by kernel_rfl)) (of_decide_eq_true (by kernel_rfl))
    fun x y h => ((lim_eq (.code (bodyOf Try.f33) .ret) (entryFrom 0 table_conflict.ps x)).trans (table_conflict.se (lim table_conflict.E table_conflict.fin) x)).trans h
theorem table_conflict.val (x : (argTy table_conflict.ps).den) : lim table_conflict.E table_conflict.fin (.code (bodyOf Try.f33) .ret) (entryFrom 0 table_conflict.ps x) = table_conflict.sig.run x :=
  (lim_eq (.code (bodyOf Try.f33) .ret) (entryFrom 0 table_conflict.ps x)).trans (table_conflict.se (lim table_conflict.E table_conflict.fin) x)
noncomputable def table_conflict.ctxc (n : Nat) : List (Nat × Sig) := [(64, daterange_Intersect.sigc n)]
noncomputable def table_conflict.sigc (n : Nat) : Sig := ⟨table_conflict.ps, table_conflict.rs, fun x => runs (withCtx table_conflict.E (table_conflict.ctxc n)) table_conflict.fin n (.code (bodyOf Try.f33) .ret) (entryFrom 0 table_conflict.ps x)⟩
theorem table_conflict.sigc_le (n : Nat) : ∀ x y, (table_conflict.sigc n).run x = some y → table_conflict.sig.run x = some y :=
  fun x y h => (table_conflict.val x).symm.trans (runs_lim (E := table_conflict.E) (c := table_conflict.ctxc n) (ctxLe_cons ctxLe_nil (daterange_Intersect.sigc_le n)) h)
namespace table_Validate
abbrev ps : List PM := [.pure api_Table, .pure (.sl api_Enum)]
abbrev rs : List RM := [.pure (.int .i64), .pure (.int .i64)]
abbrev R : Type := Option (Int × Int × Unit)
noncomputable def E : Env := { tt := tt, ctx := [(31, value_ValidType.sig), (32, table_check.sig), (33, table_conflict.sig)], nt := 58, ann := [(5, [(1, .keep), (2, .keep)]), (1000006, [(1, .keep), (2, .keep), (28, .keep), (29, .keep), (30, .keep)]), (1000012, [(1, .keep), (2, .keep), (6, .keep), (7, .keep), (28, .keep), (29, .keep), (30, .keep), (46, .keep), (47, .keep), (48, .keep)])] }
noncomputable def c0 : Code := sub [1, 1, 1, 1] (bodyOf Try.f13)
noncomputable def c1 : Code := sub [1, 1, 1, 0, 1, 0, 0] (bodyOf Try.f13)
noncomputable def c2 : Code := sub [1, 1, 1, 0, 1, 0, 0, 1, 1, 1] (bodyOf Try.f13)
noncomputable def c3 : Code := sub [1, 1, 1] (bodyOf Try.f13)
noncomputable def c4 : Code := sub [1, 1, 1, 0, 1, 0, 0, 1, 1, 0, 0, 1, 1, 1, 0, 0] (bodyOf Try.f13)
noncomputable def K8 : Kont := .seq c0 .ret
noncomputable def K10 : Kont := .blk 0 K8
noncomputable def K11 : Kont := .loop c1 K10
noncomputable def K14 : Kont := .seq c2 K11
noncomputable def K15 : Kont := .blk 1 K14
noncomputable def K22 : Kont := .blk 2 K15
noncomputable def fin : ASt → R := Kret E Try.f13.results.toList ps rs
def tJ0 (enums : List api_EnumV) (t : api_TableV) : ASt := ⟨[(2, .one (.optr 2 0 [])), (1, .one (.val (.sl api_Enum) enums))], [(2, some ⟨.free, api_Table, [t]⟩)]⟩
def tL1 (enums : List api_EnumV) (t : api_TableV) (v_28 : List api_RowV) (v_29 : Int) (v_30 : Int) : ASt := ⟨[(30, .one (.val (.int .i64) v_30)), (29, .one (.val (.int .i64) v_29)), (28, .one (.val (.sl api_Row) v_28)), (2, .one (.optr 2 0 [])), (1, .one (.val (.sl api_Enum) enums))], [(2, some ⟨.free, api_Table, [t]⟩)]⟩
def tL2 (enums : List api_EnumV) (t : api_TableV) (i : Int) (r_7 : api_RowV) (v_28 : List api_RowV) (v_29 : Int) (v_30 : Int) (v_46 : List api_RowV) (v_47 : Int) (v_48 : Int) : ASt := ⟨[(48, .one (.val (.int .i64) v_48)), (47, .one (.val (.int .i64) v_47)), (46, .one (.val (.sl api_Row) v_46)), (30, .one (.val (.int .i64) v_30)), (29, .one (.val (.int .i64) v_29)), (28, .one (.val (.sl api_Row) v_28)), (7, .one (.optr 7 0 [])), (6, .one (.val (.int .i64) i)), (2, .one (.optr 2 0 [])), (1, .one (.val (.sl api_Enum) enums))], [(7, some ⟨.free, api_Row, [r_7]⟩), (2, some ⟨.free, api_Table, [t]⟩)]⟩
noncomputable def SJ0 (kL1 : (List api_EnumV) → api_TableV → (List api_RowV) → Int → Int → R) (enums : List api_EnumV) (t : api_TableV) : R :=
  kL1 enums t t.2.2.2.1 (t.2.2.2.1.length : Int) 0
noncomputable def SL1 (kL2 : (List api_EnumV) → api_TableV → Int → api_RowV → (List api_RowV) → Int → Int → (List api_RowV) → Int → Int → R) (enums : List api_EnumV) (t : api_TableV) (v_28 : List api_RowV) (v_29 : Int) (v_30 : Int) : R :=
  cond (decide (v_30 < v_29))
    (Option.bind (idx v_28 v_30) fun x1 =>
    Option.bind (table_check x1 t enums) fun x2 =>
    cond (x2.1 != 0)
      (some (v_30, x2.1, ()))
      (cond (decide ((0 : Int) ≤ 0) && (decide ((0 : Int) ≤ v_30) && decide (v_30 ≤ (t.2.2.2.1.length : Int))))
        (kL2 enums t v_30 x1 v_28 v_29 v_30 (t.2.2.2.1.take v_30.toNat) ((t.2.2.2.1.take v_30.toNat).length : Int) 0)
        none))
    (some (0, 0, ()))
noncomputable def SL2 (kL2 : (List api_EnumV) → api_TableV → Int → api_RowV → (List api_RowV) → Int → Int → (List api_RowV) → Int → Int → R) (kL1 : (List api_EnumV) → api_TableV → (List api_RowV) → Int → Int → R) (enums : List api_EnumV) (t : api_TableV) (i : Int) (r_7 : api_RowV) (v_28 : List api_RowV) (v_29 : Int) (v_30 : Int) (v_46 : List api_RowV) (v_47 : Int) (v_48 : Int) : R :=
  cond (decide (v_48 < v_47))
    (Option.bind (idx v_46 v_48) fun x1 =>
    Option.bind (table_conflict x1 r_7) fun x2 =>
    cond x2.1
      (some (i, 11, ()))
      (kL2 enums t i r_7 v_28 v_29 v_30 v_46 v_47 (IntKind.i64.wrap (v_48 + 1))))
    (kL1 enums t v_28 v_29 (IntKind.i64.wrap (v_30 + 1)))
noncomputable def Se (kJ0 : (List api_EnumV) → api_TableV → R) (t : api_TableV) (enums : List api_EnumV) : R :=
  cond (decide ((t.2.2.2.1.length : Int) > 64))
    (some (64, 4, ()))
    (Option.bind (value_ValidType t.2.1 enums) fun x1 =>
    cond (!x1.1)
      (some ((-1), 8, ()))
      (Option.bind (value_ValidType t.2.2.1 enums) fun x2 =>
      cond (!x2.1)
        (some ((-1), 8, ()))
        (kJ0 enums t)))
theorem sJ0 (jmp : Tgt → ASt → R) (enums : List api_EnumV) (t : api_TableV) : run E jmp fin depth c3 .ret (tJ0 enums t) =
    SJ0 (fun enums t v_28 v_29 v_30 => jmp (.loop c1 K10) (tL1 enums t v_28 v_29 v_30)) enums t := by kernel_rfl
theorem sL1 (jmp : Tgt → ASt → R) (enums : List api_EnumV) (t : api_TableV) (v_28 : List api_RowV) (v_29 : Int) (v_30 : Int) : run E jmp fin depth c1 (.loop c1 K10) (tL1 enums t v_28 v_29 v_30) =
    SL1 (fun enums t i r_7 v_28 v_29 v_30 v_46 v_47 v_48 => jmp (.loop c4 K22) (tL2 enums t i r_7 v_28 v_29 v_30 v_46 v_47 v_48)) enums t v_28 v_29 v_30 := by kernel_rfl
theorem sL2 (jmp : Tgt → ASt → R) (enums : List api_EnumV) (t : api_TableV) (i : Int) (r_7 : api_RowV) (v_28 : List api_RowV) (v_29 : Int) (v_30 : Int) (v_46 : List api_RowV) (v_47 : Int) (v_48 : Int) : run E jmp fin depth c4 (.loop c4 K22) (tL2 enums t i r_7 v_28 v_29 v_30 v_46 v_47 v_48) =
    SL2 (fun enums t i r_7 v_28 v_29 v_30 v_46 v_47 v_48 => jmp (.loop c4 K22) (tL2 enums t i r_7 v_28 v_29 v_30 v_46 v_47 v_48)) (fun enums t v_28 v_29 v_30 => jmp (.loop c1 K10) (tL1 enums t v_28 v_29 v_30)) enums t i r_7 v_28 v_29 v_30 v_46 v_47 v_48 := by kernel_rfl
theorem se (jmp : Tgt → ASt → R) (x : (argTy ps).den) : run E jmp fin depth (bodyOf Try.f13) .ret (entryFrom 0 ps x) =
    Se (fun enums t => jmp (.code c3 .ret) (tJ0 enums t)) x.1 x.2.1 := by kernel_rfl
noncomputable def J0 (enums : List api_EnumV) (t : api_TableV) : R := lim E fin (.code c3 .ret) (tJ0 enums t)
noncomputable def L1 (enums : List api_EnumV) (t : api_TableV) (v_28 : List api_RowV) (v_29 : Int) (v_30 : Int) : R := lim E fin (.loop c1 K10) (tL1 enums t v_28 v_29 v_30)
noncomputable def L2 (enums : List api_EnumV) (t : api_TableV) (i : Int) (r_7 : api_RowV) (v_28 : List api_RowV) (v_29 : Int) (v_30 : Int) (v_46 : List api_RowV) (v_47 : Int) (v_48 : Int) : R := lim E fin (.loop c4 K22) (tL2 enums t i r_7 v_28 v_29 v_30 v_46 v_47 v_48)
theorem J0_eq (enums : List api_EnumV) (t : api_TableV) : J0 enums t = SJ0 L1 enums t :=
  (lim_eq (.code c3 .ret) (tJ0 enums t)).trans (sJ0 (lim E fin) enums t)
theorem L1_eq (enums : List api_EnumV) (t : api_TableV) (v_28 : List api_RowV) (v_29 : Int) (v_30 : Int) : L1 enums t v_28 v_29 v_30 = SL1 L2 enums t v_28 v_29 v_30 :=
  (lim_eq (.loop c1 K10) (tL1 enums t v_28 v_29 v_30)).trans (sL1 (lim E fin) enums t v_28 v_29 v_30)
theorem L2_eq (enums : List api_EnumV) (t : api_TableV) (i : Int) (r_7 : api_RowV) (v_28 : List api_RowV) (v_29 : Int) (v_30 : Int) (v_46 : List api_RowV) (v_47 : Int) (v_48 : Int) : L2 enums t i r_7 v_28 v_29 v_30 v_46 v_47 v_48 = SL2 L2 L1 enums t i r_7 v_28 v_29 v_30 v_46 v_47 v_48 :=
  (lim_eq (.loop c4 K22) (tL2 enums t i r_7 v_28 v_29 v_30 v_46 v_47 v_48)).trans (sL2 (lim E fin) enums t i r_7 v_28 v_29 v_30 v_46 v_47 v_48)
end table_Validate
noncomputable def table_Validate (t : api_TableV) (enums : List api_EnumV) : table_Validate.R :=
  table_Validate.Se table_Validate.J0 t enums
noncomputable def table_Validate.sig : Sig := ⟨table_Validate.ps, table_Validate.rs, fun x => table_Validate x.1 x.2.1⟩
theorem table_Validate.ok : CallOK Try.prog 13 table_Validate.sig :=
  callOK_of_lim (E := table_Validate.E) mixed tt_ok (ctxOk_cons (ctxOk_cons (ctxOk_cons ctxOk_nil table_conflict.ok Try.func33 (by kernel_rfl) (by kernel_rfl)) table_check.ok Try.func32 (by kernel_rfl) (by kernel_rfl)) value_ValidType.ok Try.func31 (by kernel_rfl) (by kernel_rfl)) Try.func13 (by kernel_rfl : Try.f13.body = some (bodyOf Try.f13)) Try.ntmps13 (of_decide_eq_true (by kernel_rfl)) (of_decide_eq_true (by kernel_rfl))
    fun x y h => ((lim_eq (.code (bodyOf Try.f13) .ret) (entryFrom 0 table_Validate.ps x)).trans (table_Validate.se (lim table_Validate.E table_Validate.fin) x)).trans h
theorem table_Validate.val (x : (argTy table_Validate.ps).den) : lim table_Validate.E table_Validate.fin (.code (bodyOf Try.f13) .ret) (entryFrom 0 table_Validate.ps x) = table_Validate.sig.run x :=
  (lim_eq (.code (bodyOf Try.f13) .ret) (entryFrom 0 table_Validate.ps x)).trans (table_Validate.se (lim table_Validate.E table_Validate.fin) x)
noncomputable def table_Validate.ctxc (n : Nat) : List (Nat × Sig) := [(31, value_ValidType.sigc n), (32, table_check.sigc n), (33, table_conflict.sigc n)]
noncomputable def table_Validate.sigc (n : Nat) : Sig := ⟨table_Validate.ps, table_Validate.rs, fun x => runs (withCtx table_Validate.E (table_Validate.ctxc n)) table_Validate.fin n (.code (bodyOf Try.f13) .ret) (entryFrom 0 table_Validate.ps x)⟩
theorem table_Validate.sigc_le (n : Nat) : ∀ x y, (table_Validate.sigc n).run x = some y → table_Validate.sig.run x = some y :=
  fun x y h => (table_Validate.val x).symm.trans (runs_lim (E := table_Validate.E) (c := table_Validate.ctxc n) (ctxLe_cons (ctxLe_cons (ctxLe_cons ctxLe_nil (table_conflict.sigc_le n)) (table_check.sigc_le n)) (value_ValidType.sigc_le n)) h)
namespace math_bits_Len
abbrev ps : List PM := [.pure (.int .u64)]
abbrev rs : List RM := [.pure (.int .i64)]
abbrev R : Type := Option (Int × Unit)
noncomputable def E : Env := { tt := tt, ctx := [(90, math_bits_Len64.sig)], nt := 8, ann := [] }
noncomputable def fin : ASt → R := Kret E Try.f69.results.toList ps rs
noncomputable def Se (x_0 : Int) : R :=
  Option.bind (math_bits_Len64 x_0) fun x1 =>
  some (x1.1, ())
theorem se (jmp : Tgt → ASt → R) (x : (argTy ps).den) : run E jmp fin depth (bodyOf Try.f69) .ret (entryFrom 0 ps x) =
    Se x.1 := by kernel_rfl
end math_bits_Len
noncomputable def math_bits_Len (x_0 : Int) : math_bits_Len.R :=
  math_bits_Len.Se x_0
noncomputable def math_bits_Len.sig : Sig := ⟨math_bits_Len.ps, math_bits_Len.rs, fun x => math_bits_Len x.1⟩
theorem math_bits_Len.ok : CallOK Try.prog 69 math_bits_Len.sig :=
  callOK_of_lim (E := math_bits_Len.E) mixed tt_ok (ctxOk_cons ctxOk_nil math_bits_Len64.ok Try.func90 (by kernel_rfl) (by kernel_rfl)) Try.func69 (by kernel_rfl : Try.f69.body = some (bodyOf Try.f69)) Try.ntmps69 (of_decide_eq_true (by kernel_rfl)) (of_decide_eq_true (by kernel_rfl))
    fun x y h => ((lim_eq (.code (bodyOf Try.f69) .ret) (entryFrom 0 math_bits_Len.ps x)).trans (math_bits_Len.se (lim math_bits_Len.E math_bits_Len.fin) x)).trans h
theorem math_bits_Len.val (x : (argTy math_bits_Len.ps).den) : lim math_bits_Len.E math_bits_Len.fin (.code (bodyOf Try.f69) .ret) (entryFrom 0 math_bits_Len.ps x) = math_bits_Len.sig.run x :=
  (lim_eq (.code (bodyOf Try.f69) .ret) (entryFrom 0 math_bits_Len.ps x)).trans (math_bits_Len.se (lim math_bits_Len.E math_bits_Len.fin) x)
noncomputable def math_bits_Len.ctxc (n : Nat) : List (Nat × Sig) := [(90, math_bits_Len64.sigc n)]
noncomputable def math_bits_Len.sigc (n : Nat) : Sig := ⟨math_bits_Len.ps, math_bits_Len.rs, fun x => runs (withCtx math_bits_Len.E (math_bits_Len.ctxc n)) math_bits_Len.fin n (.code (bodyOf Try.f69) .ret) (entryFrom 0 math_bits_Len.ps x)⟩
theorem math_bits_Len.sigc_le (n : Nat) : ∀ x y, (math_bits_Len.sigc n).run x = some y → math_bits_Len.sig.run x = some y :=
  fun x y h => (math_bits_Len.val x).symm.trans (runs_lim (E := math_bits_Len.E) (c := math_bits_Len.ctxc n) (ctxLe_cons ctxLe_nil (math_bits_Len64.sigc_le n)) h)
namespace cmp_isNaN_int
abbrev ps : List PM := [.pure (.int .i64)]
abbrev rs : List RM := [.pure .bool]
abbrev R : Type := Option (Bool × Unit)
noncomputable def E : Env := { tt := tt, ctx := [], nt := 6, ann := [] }
noncomputable def fin : ASt → R := Kret E Try.f70.results.toList ps rs
noncomputable def Se (x_0 : Int) : R :=
  some ((x_0 != x_0), ())
theorem se (jmp : Tgt → ASt → R) (x : (argTy ps).den) : run E jmp fin depth (bodyOf Try.f70) .ret (entryFrom 0 ps x) =
    Se x.1 := by kernel_rfl
end cmp_isNaN_int
noncomputable def cmp_isNaN_int (x_0 : Int) : cmp_isNaN_int.R :=
  cmp_isNaN_int.Se x_0
noncomputable def cmp_isNaN_int.sig : Sig := ⟨cmp_isNaN_int.ps, cmp_isNaN_int.rs, fun x => cmp_isNaN_int x.1⟩
theorem cmp_isNaN_int.ok : CallOK Try.prog 70 cmp_isNaN_int.sig :=
  callOK_of_lim (E := cmp_isNaN_int.E) mixed tt_ok ctxOk_nil Try.func70 (by kernel_rfl : Try.f70.body = some (bodyOf Try.f70)) Try.ntmps70 (of_decide_eq_true (by kernel_rfl)) (of_decide_eq_true (by kernel_rfl))
    fun x y h => ((lim_eq (.code (bodyOf Try.f70) .ret) (entryFrom 0 cmp_isNaN_int.ps x)).trans (cmp_isNaN_int.se (lim cmp_isNaN_int.E cmp_isNaN_int.fin) x)).trans h
theorem cmp_isNaN_int.val (x : (argTy cmp_isNaN_int.ps).den) : lim cmp_isNaN_int.E cmp_isNaN_int.fin (.code (bodyOf Try.f70) .ret) (entryFrom 0 cmp_isNaN_int.ps x) = cmp_isNaN_int.sig.run x :=
  (lim_eq (.code (bodyOf Try.f70) .ret) (entryFrom 0 cmp_isNaN_int.ps x)).trans (cmp_isNaN_int.se (lim cmp_isNaN_int.E cmp_isNaN_int.fin) x)
noncomputable def cmp_isNaN_int.ctxc (n : Nat) : List (Nat × Sig) := []
noncomputable def cmp_isNaN_int.sigc (n : Nat) : Sig := ⟨cmp_isNaN_int.ps, cmp_isNaN_int.rs, fun x => runs (withCtx cmp_isNaN_int.E (cmp_isNaN_int.ctxc n)) cmp_isNaN_int.fin n (.code (bodyOf Try.f70) .ret) (entryFrom 0 cmp_isNaN_int.ps x)⟩
theorem cmp_isNaN_int.sigc_le (n : Nat) : ∀ x y, (cmp_isNaN_int.sigc n).run x = some y → cmp_isNaN_int.sig.run x = some y :=
  fun x y h => (cmp_isNaN_int.val x).symm.trans (runs_lim (E := cmp_isNaN_int.E) (c := cmp_isNaN_int.ctxc n) ctxLe_nil h)
end Go.Proofs.Ytgnigfnonoicmaa
