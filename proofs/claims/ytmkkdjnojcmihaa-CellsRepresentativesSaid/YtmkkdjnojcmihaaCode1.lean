/- The functions of the program as typed Lean functions, with the proof that they are what the code computes. -/
import Derived.Test.YtmkkdjnojcmihaaTys
set_option maxRecDepth 100000
set_option linter.unusedVariables false
namespace Go.Proofs.Ytmkkdjnojcmihaa
open Go Go.Lift

/-! ### guerdon/guerdonlaw23.few -/
namespace law23_few
abbrev ps : List PM := [.pure (.sl api_Type), .pure api_Signature]
abbrev rs : List RM := [.pure .bool]
abbrev R : Type := Option (Bool × Unit)
noncomputable def E : Env := { tt := tt, ctx := [], nt := 54, ann := [(3, [(3, .keep)]), (1000004, [(3, .keep), (5, .keep)])] }
noncomputable def c0 : Code := sub [1, 1, 1] (bodyOf Try.f8)
noncomputable def c1 : Code := sub [1, 1] (bodyOf Try.f8)
noncomputable def c2 : Code := sub [1, 1, 0, 1, 0, 0] (bodyOf Try.f8)
noncomputable def K5 : Kont := .seq c0 .ret
noncomputable def K7 : Kont := .blk 0 K5
noncomputable def fin : ASt → R := Kret E Try.f8.results.toList ps rs
def tJ0 (s : api_SignatureV) : ASt := ⟨[(3, .one (.optr 3 0 []))], [(3, some ⟨.free, api_Signature, [s]⟩)]⟩
def tL1 (s : api_SignatureV) (i : Int) : ASt := ⟨[(5, .one (.val (.int .i64) i)), (3, .one (.optr 3 0 []))], [(3, some ⟨.free, api_Signature, [s]⟩)]⟩
noncomputable def SJ0 (kL1 : api_SignatureV → Int → R) (s : api_SignatureV) : R :=
  kL1 s 0
noncomputable def SL1 (kL1 : api_SignatureV → Int → R) (s : api_SignatureV) (i : Int) : R :=
  cond (decide (i < (s.1.length : Int)))
    (Option.bind (idx s.1 i) fun x1 =>
    cond (decide ((x1.2.1.length : Int) > 40))
      (some (false, ()))
      (kL1 s (IntKind.i64.wrap (i + 1))))
    (some (true, ()))
noncomputable def Se (kJ0 : api_SignatureV → R) (e : List api_TypeV) (s : api_SignatureV) : R :=
  cond (decide ((e.length : Int) > 60))
    (some (false, ()))
    (cond (decide ((s.1.length : Int) > 20))
      (some (false, ()))
      (cond (decide ((s.2.1.length : Int) > 20))
        (some (false, ()))
        (cond (decide ((s.2.2.1.length : Int) > 20))
          (some (false, ()))
          (cond (decide ((s.2.2.2.1.length : Int) > 20))
            (some (false, ()))
            (cond (decide ((s.2.2.2.2.1.length : Int) > 20))
              (some (false, ()))
              (kJ0 s))))))
theorem sJ0 (jmp : Tgt → ASt → R) (s : api_SignatureV) : run E jmp fin depth c1 .ret (tJ0 s) =
    SJ0 (fun s i => jmp (.loop c2 K7) (tL1 s i)) s := by kernel_rfl
theorem sL1 (jmp : Tgt → ASt → R) (s : api_SignatureV) (i : Int) : run E jmp fin depth c2 (.loop c2 K7) (tL1 s i) =
    SL1 (fun s i => jmp (.loop c2 K7) (tL1 s i)) s i := by kernel_rfl
theorem se (jmp : Tgt → ASt → R) (x : (argTy ps).den) : run E jmp fin depth (bodyOf Try.f8) .ret (entryFrom 0 ps x) =
    Se (fun s => jmp (.code c1 .ret) (tJ0 s)) x.1 x.2.1 := by kernel_rfl
noncomputable def J0 (s : api_SignatureV) : R := lim E fin (.code c1 .ret) (tJ0 s)
noncomputable def L1 (s : api_SignatureV) (i : Int) : R := lim E fin (.loop c2 K7) (tL1 s i)
theorem J0_eq (s : api_SignatureV) : J0 s = SJ0 L1 s :=
  (lim_eq (.code c1 .ret) (tJ0 s)).trans (sJ0 (lim E fin) s)
theorem L1_eq (s : api_SignatureV) (i : Int) : L1 s i = SL1 L1 s i :=
  (lim_eq (.loop c2 K7) (tL1 s i)).trans (sL1 (lim E fin) s i)
end law23_few
noncomputable def law23_few (e : List api_TypeV) (s : api_SignatureV) : law23_few.R :=
  law23_few.Se law23_few.J0 e s
noncomputable def law23_few.sig : Sig := ⟨law23_few.ps, law23_few.rs, fun x => law23_few x.1 x.2.1⟩
theorem law23_few.ok : CallOK Try.prog 8 law23_few.sig :=
  callOK_of_lim (E := law23_few.E) mixed tt_ok ctxOk_nil Try.func8 (by kernel_rfl : Try.f8.body = some (bodyOf Try.f8)) Try.ntmps8 (of_decide_eq_true (by kernel_rfl)) (of_decide_eq_true (by kernel_rfl))
    fun x y h => ((lim_eq (.code (bodyOf Try.f8) .ret) (entryFrom 0 law23_few.ps x)).trans (law23_few.se (lim law23_few.E law23_few.fin) x)).trans h
theorem law23_few.val (x : (argTy law23_few.ps).den) : lim law23_few.E law23_few.fin (.code (bodyOf Try.f8) .ret) (entryFrom 0 law23_few.ps x) = law23_few.sig.run x :=
  (lim_eq (.code (bodyOf Try.f8) .ret) (entryFrom 0 law23_few.ps x)).trans (law23_few.se (lim law23_few.E law23_few.fin) x)
noncomputable def law23_few.ctxc (n : Nat) : List (Nat × Sig) := []
noncomputable def law23_few.sigc (n : Nat) : Sig := ⟨law23_few.ps, law23_few.rs, fun x => runs (withCtx law23_few.E (law23_few.ctxc n)) law23_few.fin n (.code (bodyOf Try.f8) .ret) (entryFrom 0 law23_few.ps x)⟩
theorem law23_few.sigc_le (n : Nat) : ∀ x y, (law23_few.sigc n).run x = some y → law23_few.sig.run x = some y :=
  fun x y h => (law23_few.val x).symm.trans (runs_lim (E := law23_few.E) (c := law23_few.ctxc n) ctxLe_nil h)

/-! ### math/bits.Len64 -/
namespace math_bits_Len64
abbrev ps : List PM := [.pure (.int .u64)]
abbrev rs : List RM := [.pure (.int .i64)]
abbrev R : Type := Option (Int × Unit)
noncomputable def E : Env := { tt := tt, ctx := [], nt := 25, ann := [(4, [(0, .keep), (2, .keep)]), (7, [(0, .keep), (2, .keep)])] }
noncomputable def c0 : Code := sub [1, 1] (bodyOf Try.f68)
noncomputable def c1 : Code := sub [1, 1, 1] (bodyOf Try.f68)
noncomputable def fin : ASt → R := Kret E Try.f68.results.toList ps rs
def tJ0 (x_0 : Int) (n_2 : Int) : ASt := ⟨[(2, .one (.val (.int .i64) n_2)), (0, .one (.val (.int .u64) x_0))], []⟩
def tJ1 (x_0 : Int) (n_2 : Int) : ASt := ⟨[(2, .one (.val (.int .i64) n_2)), (0, .one (.val (.int .u64) x_0))], []⟩
noncomputable def SJ0 (kJ1 : Int → Int → R) (x_0 : Int) (n_2 : Int) : R :=
  cond (decide (x_0 ≥ 65536))
    (kJ1 (Int.fdiv x_0 (2 ^ (min 16 IntKind.u64.bits))) (IntKind.i64.wrap (n_2 + 16)))
    (kJ1 x_0 n_2)
noncomputable def SJ1 (x_0 : Int) (n_2 : Int) : R :=
  cond (decide (x_0 ≥ 256))
    (Option.bind (idx ([0, 1, 2, 2, 3, 3, 3, 3, 4, 4, 4, 4, 4, 4, 4, 4, 5, 5, 5, 5, 5, 5, 5, 5, 5, 5, 5, 5, 5, 5, 5, 5, 6, 6, 6, 6, 6, 6, 6, 6, 6, 6, 6, 6, 6, 6, 6, 6, 6, 6, 6, 6, 6, 6, 6, 6, 6, 6, 6, 6, 6, 6, 6, 6, 7, 7, 7, 7, 7, 7, 7, 7, 7, 7, 7, 7, 7, 7, 7, 7, 7, 7, 7, 7, 7, 7, 7, 7, 7, 7, 7, 7, 7, 7, 7, 7, 7, 7, 7, 7, 7, 7, 7, 7, 7, 7, 7, 7, 7, 7, 7, 7, 7, 7, 7, 7, 7, 7, 7, 7, 7, 7, 7, 7, 7, 7, 7, 7, 8, 8, 8, 8, 8, 8, 8, 8, 8, 8, 8, 8, 8, 8, 8, 8, 8, 8, 8, 8, 8, 8, 8, 8, 8, 8, 8, 8, 8, 8, 8, 8, 8, 8, 8, 8, 8, 8, 8, 8, 8, 8, 8, 8, 8, 8, 8, 8, 8, 8, 8, 8, 8, 8, 8, 8, 8, 8, 8, 8, 8, 8, 8, 8, 8, 8, 8, 8, 8, 8, 8, 8, 8, 8, 8, 8, 8, 8, 8, 8, 8, 8, 8, 8, 8, 8, 8, 8, 8, 8, 8, 8, 8, 8, 8, 8, 8, 8, 8, 8, 8, 8, 8, 8, 8, 8, 8, 8, 8, 8, 8, 8, 8, 8, 8, 8, 8, 8, 8, 8, 8, 8, 8, 8, 8, 8, 8, 8] : List UInt8) (IntKind.u8.wrap (Int.fdiv x_0 (2 ^ (min 8 IntKind.u64.bits))))) fun x1 =>
    some (IntKind.i64.wrap ((IntKind.i64.wrap (n_2 + 8)) + (IntKind.i64.wrap (x1.toNat : Int))), ()))
    (Option.bind (idx ([0, 1, 2, 2, 3, 3, 3, 3, 4, 4, 4, 4, 4, 4, 4, 4, 5, 5, 5, 5, 5, 5, 5, 5, 5, 5, 5, 5, 5, 5, 5, 5, 6, 6, 6, 6, 6, 6, 6, 6, 6, 6, 6, 6, 6, 6, 6, 6, 6, 6, 6, 6, 6, 6, 6, 6, 6, 6, 6, 6, 6, 6, 6, 6, 7, 7, 7, 7, 7, 7, 7, 7, 7, 7, 7, 7, 7, 7, 7, 7, 7, 7, 7, 7, 7, 7, 7, 7, 7, 7, 7, 7, 7, 7, 7, 7, 7, 7, 7, 7, 7, 7, 7, 7, 7, 7, 7, 7, 7, 7, 7, 7, 7, 7, 7, 7, 7, 7, 7, 7, 7, 7, 7, 7, 7, 7, 7, 7, 8, 8, 8, 8, 8, 8, 8, 8, 8, 8, 8, 8, 8, 8, 8, 8, 8, 8, 8, 8, 8, 8, 8, 8, 8, 8, 8, 8, 8, 8, 8, 8, 8, 8, 8, 8, 8, 8, 8, 8, 8, 8, 8, 8, 8, 8, 8, 8, 8, 8, 8, 8, 8, 8, 8, 8, 8, 8, 8, 8, 8, 8, 8, 8, 8, 8, 8, 8, 8, 8, 8, 8, 8, 8, 8, 8, 8, 8, 8, 8, 8, 8, 8, 8, 8, 8, 8, 8, 8, 8, 8, 8, 8, 8, 8, 8, 8, 8, 8, 8, 8, 8, 8, 8, 8, 8, 8, 8, 8, 8, 8, 8, 8, 8, 8, 8, 8, 8, 8, 8, 8, 8, 8, 8, 8, 8, 8, 8] : List UInt8) (IntKind.u8.wrap x_0)) fun x2 =>
    some (IntKind.i64.wrap (n_2 + (IntKind.i64.wrap (x2.toNat : Int))), ()))
noncomputable def Se (kJ0 : Int → Int → R) (x_0 : Int) : R :=
  cond (decide (x_0 ≥ 4294967296))
    (kJ0 (Int.fdiv x_0 (2 ^ (min 32 IntKind.u64.bits))) 32)
    (kJ0 x_0 0)
theorem sJ0 (jmp : Tgt → ASt → R) (x_0 : Int) (n_2 : Int) : run E jmp fin depth c0 .ret (tJ0 x_0 n_2) =
    SJ0 (fun x_0 n_2 => jmp (.code c1 .ret) (tJ1 x_0 n_2)) x_0 n_2 := by kernel_rfl
theorem sJ1 (jmp : Tgt → ASt → R) (x_0 : Int) (n_2 : Int) : run E jmp fin depth c1 .ret (tJ1 x_0 n_2) =
    SJ1 x_0 n_2 := by kernel_rfl
theorem se (jmp : Tgt → ASt → R) (x : (argTy ps).den) : run E jmp fin depth (bodyOf Try.f68) .ret (entryFrom 0 ps x) =
    Se (fun x_0 n_2 => jmp (.code c0 .ret) (tJ0 x_0 n_2)) x.1 := by kernel_rfl
noncomputable def J0 (x_0 : Int) (n_2 : Int) : R := lim E fin (.code c0 .ret) (tJ0 x_0 n_2)
noncomputable def J1 (x_0 : Int) (n_2 : Int) : R := lim E fin (.code c1 .ret) (tJ1 x_0 n_2)
theorem J0_eq (x_0 : Int) (n_2 : Int) : J0 x_0 n_2 = SJ0 J1 x_0 n_2 :=
  (lim_eq (.code c0 .ret) (tJ0 x_0 n_2)).trans (sJ0 (lim E fin) x_0 n_2)
theorem J1_eq (x_0 : Int) (n_2 : Int) : J1 x_0 n_2 = SJ1 x_0 n_2 :=
  (lim_eq (.code c1 .ret) (tJ1 x_0 n_2)).trans (sJ1 (lim E fin) x_0 n_2)
end math_bits_Len64
noncomputable def math_bits_Len64 (x_0 : Int) : math_bits_Len64.R :=
  math_bits_Len64.Se math_bits_Len64.J0 x_0
noncomputable def math_bits_Len64.sig : Sig := ⟨math_bits_Len64.ps, math_bits_Len64.rs, fun x => math_bits_Len64 x.1⟩
theorem math_bits_Len64.ok : CallOK Try.prog 68 math_bits_Len64.sig :=
  callOK_of_lim (E := math_bits_Len64.E) mixed tt_ok ctxOk_nil Try.func68 (by kernel_rfl : Try.f68.body = some (bodyOf Try.f68)) Try.ntmps68 (of_decide_eq_true (by kernel_rfl)) (of_decide_eq_true (by kernel_rfl))
    fun x y h => ((lim_eq (.code (bodyOf Try.f68) .ret) (entryFrom 0 math_bits_Len64.ps x)).trans (math_bits_Len64.se (lim math_bits_Len64.E math_bits_Len64.fin) x)).trans h
theorem math_bits_Len64.val (x : (argTy math_bits_Len64.ps).den) : lim math_bits_Len64.E math_bits_Len64.fin (.code (bodyOf Try.f68) .ret) (entryFrom 0 math_bits_Len64.ps x) = math_bits_Len64.sig.run x :=
  (lim_eq (.code (bodyOf Try.f68) .ret) (entryFrom 0 math_bits_Len64.ps x)).trans (math_bits_Len64.se (lim math_bits_Len64.E math_bits_Len64.fin) x)
noncomputable def math_bits_Len64.ctxc (n : Nat) : List (Nat × Sig) := []
noncomputable def math_bits_Len64.sigc (n : Nat) : Sig := ⟨math_bits_Len64.ps, math_bits_Len64.rs, fun x => runs (withCtx math_bits_Len64.E (math_bits_Len64.ctxc n)) math_bits_Len64.fin n (.code (bodyOf Try.f68) .ret) (entryFrom 0 math_bits_Len64.ps x)⟩
theorem math_bits_Len64.sigc_le (n : Nat) : ∀ x y, (math_bits_Len64.sigc n).run x = some y → math_bits_Len64.sig.run x = some y :=
  fun x y h => (math_bits_Len64.val x).symm.trans (runs_lim (E := math_bits_Len64.E) (c := math_bits_Len64.ctxc n) ctxLe_nil h)

/-! ### math/bits.Len -/
namespace math_bits_Len
abbrev ps : List PM := [.pure (.int .u64)]
abbrev rs : List RM := [.pure (.int .i64)]
abbrev R : Type := Option (Int × Unit)
noncomputable def E : Env := { tt := tt, ctx := [(68, math_bits_Len64.sig)], nt := 8, ann := [] }
noncomputable def fin : ASt → R := Kret E Try.f45.results.toList ps rs
noncomputable def Se (x_0 : Int) : R :=
  Option.bind (math_bits_Len64 x_0) fun x1 =>
  some (x1.1, ())
theorem se (jmp : Tgt → ASt → R) (x : (argTy ps).den) : run E jmp fin depth (bodyOf Try.f45) .ret (entryFrom 0 ps x) =
    Se x.1 := by kernel_rfl
end math_bits_Len
noncomputable def math_bits_Len (x_0 : Int) : math_bits_Len.R :=
  math_bits_Len.Se x_0
noncomputable def math_bits_Len.sig : Sig := ⟨math_bits_Len.ps, math_bits_Len.rs, fun x => math_bits_Len x.1⟩
theorem math_bits_Len.ok : CallOK Try.prog 45 math_bits_Len.sig :=
  callOK_of_lim (E := math_bits_Len.E) mixed tt_ok (ctxOk_cons ctxOk_nil math_bits_Len64.ok Try.func68 (by kernel_rfl) (by kernel_rfl)) Try.func45 (by kernel_rfl : Try.f45.body = some (bodyOf Try.f45)) Try.ntmps45 (of_decide_eq_true (by kernel_rfl)) (of_decide_eq_true (by kernel_rfl))
    fun x y h => ((lim_eq (.code (bodyOf Try.f45) .ret) (entryFrom 0 math_bits_Len.ps x)).trans (math_bits_Len.se (lim math_bits_Len.E math_bits_Len.fin) x)).trans h
theorem math_bits_Len.val (x : (argTy math_bits_Len.ps).den) : lim math_bits_Len.E math_bits_Len.fin (.code (bodyOf Try.f45) .ret) (entryFrom 0 math_bits_Len.ps x) = math_bits_Len.sig.run x :=
  (lim_eq (.code (bodyOf Try.f45) .ret) (entryFrom 0 math_bits_Len.ps x)).trans (math_bits_Len.se (lim math_bits_Len.E math_bits_Len.fin) x)
noncomputable def math_bits_Len.ctxc (n : Nat) : List (Nat × Sig) := [(68, math_bits_Len64.sigc n)]
noncomputable def math_bits_Len.sigc (n : Nat) : Sig := ⟨math_bits_Len.ps, math_bits_Len.rs, fun x => runs (withCtx math_bits_Len.E (math_bits_Len.ctxc n)) math_bits_Len.fin n (.code (bodyOf Try.f45) .ret) (entryFrom 0 math_bits_Len.ps x)⟩
theorem math_bits_Len.sigc_le (n : Nat) : ∀ x y, (math_bits_Len.sigc n).run x = some y → math_bits_Len.sig.run x = some y :=
  fun x y h => (math_bits_Len.val x).symm.trans (runs_lim (E := math_bits_Len.E) (c := math_bits_Len.ctxc n) (ctxLe_cons ctxLe_nil (math_bits_Len64.sigc_le n)) h)

/-! ### cmp.isNaN[int] -/
namespace cmp_isNaN_int
abbrev ps : List PM := [.pure (.int .i64)]
abbrev rs : List RM := [.pure .bool]
abbrev R : Type := Option (Bool × Unit)
noncomputable def E : Env := { tt := tt, ctx := [], nt := 6, ann := [] }
noncomputable def fin : ASt → R := Kret E Try.f88.results.toList ps rs
noncomputable def Se (x_0 : Int) : R :=
  some ((x_0 != x_0), ())
theorem se (jmp : Tgt → ASt → R) (x : (argTy ps).den) : run E jmp fin depth (bodyOf Try.f88) .ret (entryFrom 0 ps x) =
    Se x.1 := by kernel_rfl
end cmp_isNaN_int
noncomputable def cmp_isNaN_int (x_0 : Int) : cmp_isNaN_int.R :=
  cmp_isNaN_int.Se x_0
noncomputable def cmp_isNaN_int.sig : Sig := ⟨cmp_isNaN_int.ps, cmp_isNaN_int.rs, fun x => cmp_isNaN_int x.1⟩
theorem cmp_isNaN_int.ok : CallOK Try.prog 88 cmp_isNaN_int.sig :=
  callOK_of_lim (E := cmp_isNaN_int.E) mixed tt_ok ctxOk_nil Try.func88 (by kernel_rfl : Try.f88.body = some (bodyOf Try.f88)) Try.ntmps88 (of_decide_eq_true (by kernel_rfl)) (of_decide_eq_true (by kernel_rfl))
    fun x y h => ((lim_eq (.code (bodyOf Try.f88) .ret) (entryFrom 0 cmp_isNaN_int.ps x)).trans (cmp_isNaN_int.se (lim cmp_isNaN_int.E cmp_isNaN_int.fin) x)).trans h
theorem cmp_isNaN_int.val (x : (argTy cmp_isNaN_int.ps).den) : lim cmp_isNaN_int.E cmp_isNaN_int.fin (.code (bodyOf Try.f88) .ret) (entryFrom 0 cmp_isNaN_int.ps x) = cmp_isNaN_int.sig.run x :=
  (lim_eq (.code (bodyOf Try.f88) .ret) (entryFrom 0 cmp_isNaN_int.ps x)).trans (cmp_isNaN_int.se (lim cmp_isNaN_int.E cmp_isNaN_int.fin) x)
noncomputable def cmp_isNaN_int.ctxc (n : Nat) : List (Nat × Sig) := []
noncomputable def cmp_isNaN_int.sigc (n : Nat) : Sig := ⟨cmp_isNaN_int.ps, cmp_isNaN_int.rs, fun x => runs (withCtx cmp_isNaN_int.E (cmp_isNaN_int.ctxc n)) cmp_isNaN_int.fin n (.code (bodyOf Try.f88) .ret) (entryFrom 0 cmp_isNaN_int.ps x)⟩
theorem cmp_isNaN_int.sigc_le (n : Nat) : ∀ x y, (cmp_isNaN_int.sigc n).run x = some y → cmp_isNaN_int.sig.run x = some y :=
  fun x y h => (cmp_isNaN_int.val x).symm.trans (runs_lim (E := cmp_isNaN_int.E) (c := cmp_isNaN_int.ctxc n) ctxLe_nil h)

/-! ### cmp.Less[int] -/
namespace cmp_Less_int
abbrev ps : List PM := [.pure (.int .i64), .pure (.int .i64)]
abbrev rs : List RM := [.pure .bool]
abbrev R : Type := Option (Bool × Unit)
noncomputable def E : Env := { tt := tt, ctx := [(88, cmp_isNaN_int.sig)], nt := 17, ann := [] }
noncomputable def fin : ASt → R := Kret E Try.f64.results.toList ps rs
noncomputable def Se (x_0 : Int) (y : Int) : R :=
  Option.bind (cmp_isNaN_int x_0) fun x1 =>
  cond x1.1
    (Option.bind (cmp_isNaN_int y) fun x2 =>
    cond (!x2.1)
      (some (true, ()))
      (some (decide (x_0 < y), ())))
    (some (decide (x_0 < y), ()))
theorem se (jmp : Tgt → ASt → R) (x : (argTy ps).den) : run E jmp fin depth (bodyOf Try.f64) .ret (entryFrom 0 ps x) =
    Se x.1 x.2.1 := by kernel_rfl
end cmp_Less_int
noncomputable def cmp_Less_int (x_0 : Int) (y : Int) : cmp_Less_int.R :=
  cmp_Less_int.Se x_0 y
noncomputable def cmp_Less_int.sig : Sig := ⟨cmp_Less_int.ps, cmp_Less_int.rs, fun x => cmp_Less_int x.1 x.2.1⟩
theorem cmp_Less_int.ok : CallOK Try.prog 64 cmp_Less_int.sig :=
  callOK_of_lim (E := cmp_Less_int.E) mixed tt_ok (ctxOk_cons ctxOk_nil cmp_isNaN_int.ok Try.func88 (by kernel_rfl) (by kernel_rfl)) Try.func64 (by kernel_rfl : Try.f64.body = some (bodyOf Try.f64)) Try.ntmps64 (of_decide_eq_true (by kernel_rfl)) (of_decide_eq_true (by kernel_rfl))
    fun x y h => ((lim_eq (.code (bodyOf Try.f64) .ret) (entryFrom 0 cmp_Less_int.ps x)).trans (cmp_Less_int.se (lim cmp_Less_int.E cmp_Less_int.fin) x)).trans h
theorem cmp_Less_int.val (x : (argTy cmp_Less_int.ps).den) : lim cmp_Less_int.E cmp_Less_int.fin (.code (bodyOf Try.f64) .ret) (entryFrom 0 cmp_Less_int.ps x) = cmp_Less_int.sig.run x :=
  (lim_eq (.code (bodyOf Try.f64) .ret) (entryFrom 0 cmp_Less_int.ps x)).trans (cmp_Less_int.se (lim cmp_Less_int.E cmp_Less_int.fin) x)
noncomputable def cmp_Less_int.ctxc (n : Nat) : List (Nat × Sig) := [(88, cmp_isNaN_int.sigc n)]
noncomputable def cmp_Less_int.sigc (n : Nat) : Sig := ⟨cmp_Less_int.ps, cmp_Less_int.rs, fun x => runs (withCtx cmp_Less_int.E (cmp_Less_int.ctxc n)) cmp_Less_int.fin n (.code (bodyOf Try.f64) .ret) (entryFrom 0 cmp_Less_int.ps x)⟩
theorem cmp_Less_int.sigc_le (n : Nat) : ∀ x y, (cmp_Less_int.sigc n).run x = some y → cmp_Less_int.sig.run x = some y :=
  fun x y h => (cmp_Less_int.val x).symm.trans (runs_lim (E := cmp_Less_int.E) (c := cmp_Less_int.ctxc n) (ctxLe_cons ctxLe_nil (cmp_isNaN_int.sigc_le n)) h)

/-! ### slices.insertionSortOrdered[int] -/
namespace slices_insertionSortOrdered_int
abbrev ps : List PM := [.own (.int .i64), .pure (.int .i64), .pure (.int .i64)]
abbrev rs : List RM := []
abbrev R : Type := Option (List Int × Unit)
noncomputable def E : Env := { tt := tt, ctx := [(64, cmp_Less_int.sig)], nt := 49, ann := [(1000001, [(0, .keep), (1, .keep), (2, .keep), (6, .keep)]), (1000004, [(0, .keep), (1, .keep), (2, .keep), (6, .keep), (7, .keep)]), (6, [(0, .keep), (1, .keep), (2, .keep), (6, .keep), (7, .keep)])] }
noncomputable def c0 : Code := sub [1, 0, 0] (bodyOf Try.f58)
noncomputable def c1 : Code := sub [1, 0, 0, 1, 1] (bodyOf Try.f58)
noncomputable def c2 : Code := sub [1, 0, 0, 1, 0, 0, 1, 0, 0] (bodyOf Try.f58)
noncomputable def c3 : Code := sub [1, 0, 0, 1, 0, 0, 1, 0, 0, 1] (bodyOf Try.f58)
noncomputable def K2 : Kont := .blk 0 .ret
noncomputable def K3 : Kont := .loop c0 K2
noncomputable def K6 : Kont := .seq c1 K3
noncomputable def K7 : Kont := .blk 1 K6
noncomputable def K9 : Kont := .blk 2 K7
noncomputable def K10 : Kont := .loop c2 K9
noncomputable def fin : ASt → R := Kret E Try.f58.results.toList ps rs
def tL0 (a : Int) (b : Int) (i : Int) (data_P : List Int) : ASt := ⟨[(6, .one (.val (.int .i64) i)), (2, .one (.val (.int .i64) b)), (1, .one (.val (.int .i64) a)), (0, .one (.own 10000))], [(10000, some ⟨.fixed, .int .i64, data_P⟩)]⟩
def tL1 (a : Int) (b : Int) (i : Int) (j : Int) (data_P : List Int) : ASt := ⟨[(7, .one (.val (.int .i64) j)), (6, .one (.val (.int .i64) i)), (2, .one (.val (.int .i64) b)), (1, .one (.val (.int .i64) a)), (0, .one (.own 10000))], [(10000, some ⟨.fixed, .int .i64, data_P⟩)]⟩
def tJ2 (a : Int) (b : Int) (i : Int) (j : Int) (data_P : List Int) : ASt := ⟨[(7, .one (.val (.int .i64) j)), (6, .one (.val (.int .i64) i)), (2, .one (.val (.int .i64) b)), (1, .one (.val (.int .i64) a)), (0, .one (.own 10000))], [(10000, some ⟨.fixed, .int .i64, data_P⟩)]⟩
noncomputable def SL0 (kL1 : Int → Int → Int → Int → (List Int) → R) (a : Int) (b : Int) (i : Int) (data_P : List Int) : R :=
  cond (decide (i < b))
    (kL1 a b i i data_P)
    (some (data_P, ()))
noncomputable def SL1 (kJ2 : Int → Int → Int → Int → (List Int) → R) (kL0 : Int → Int → Int → (List Int) → R) (a : Int) (b : Int) (i : Int) (j : Int) (data_P : List Int) : R :=
  cond (decide (j > a))
    (cond (decide (0 ≤ j) && decide (j < (data_P.length : Int)))
      (cond (decide (0 ≤ IntKind.i64.wrap (j - 1)) && decide (IntKind.i64.wrap (j - 1) < (data_P.length : Int)))
        (Option.bind (cmp_Less_int (data_P.getD j.toNat 0) (data_P.getD ((IntKind.i64.wrap (j - 1)).toNat) 0)) fun x1 =>
        cond x1.1
          (kJ2 a b i j data_P)
          (kL0 a b (IntKind.i64.wrap (i + 1)) data_P))
        none)
      none)
    (kL0 a b (IntKind.i64.wrap (i + 1)) data_P)
noncomputable def SJ2 (kL1 : Int → Int → Int → Int → (List Int) → R) (a : Int) (b : Int) (i : Int) (j : Int) (data_P : List Int) : R :=
  cond (decide (0 ≤ IntKind.i64.wrap (j - 1)) && decide (IntKind.i64.wrap (j - 1) < (data_P.length : Int)))
    (cond (decide (0 ≤ j) && decide (j < (data_P.length : Int)))
      (cond (decide (0 ≤ j) && decide (j < (data_P.length : Int)))
        (cond (decide (0 ≤ IntKind.i64.wrap (j - 1)) && decide (IntKind.i64.wrap (j - 1) < ((data_P.set j.toNat (data_P.getD ((IntKind.i64.wrap (j - 1)).toNat) 0)).length : Int)))
          (kL1 a b i (IntKind.i64.wrap (j - 1)) ((data_P.set j.toNat (data_P.getD ((IntKind.i64.wrap (j - 1)).toNat) 0)).set ((IntKind.i64.wrap (j - 1)).toNat) (data_P.getD j.toNat 0)))
          none)
        none)
      none)
    none
noncomputable def Se (kL0 : Int → Int → Int → (List Int) → R) (data : List Int) (a : Int) (b : Int) : R :=
  kL0 a b (IntKind.i64.wrap (a + 1)) data
theorem sL0 (jmp : Tgt → ASt → R) (a : Int) (b : Int) (i : Int) (data_P : List Int) : run E jmp fin depth c0 (.loop c0 K2) (tL0 a b i data_P) =
    SL0 (fun a b i j data_P => jmp (.loop c2 K9) (tL1 a b i j data_P)) a b i data_P := by kernel_rfl
theorem sL1 (jmp : Tgt → ASt → R) (a : Int) (b : Int) (i : Int) (j : Int) (data_P : List Int) : run E jmp fin depth c2 (.loop c2 K9) (tL1 a b i j data_P) =
    SL1 (fun a b i j data_P => jmp (.code c3 K10) (tJ2 a b i j data_P)) (fun a b i data_P => jmp (.loop c0 K2) (tL0 a b i data_P)) a b i j data_P := by kernel_rfl
theorem sJ2 (jmp : Tgt → ASt → R) (a : Int) (b : Int) (i : Int) (j : Int) (data_P : List Int) : run E jmp fin depth c3 K10 (tJ2 a b i j data_P) =
    SJ2 (fun a b i j data_P => jmp (.loop c2 K9) (tL1 a b i j data_P)) a b i j data_P := by kernel_rfl
theorem se (jmp : Tgt → ASt → R) (x : (argTy ps).den) : run E jmp fin depth (bodyOf Try.f58) .ret (entryFrom 0 ps x) =
    Se (fun a b i data_P => jmp (.loop c0 K2) (tL0 a b i data_P)) x.1 x.2.1 x.2.2.1 := by kernel_rfl
noncomputable def L0 (a : Int) (b : Int) (i : Int) (data_P : List Int) : R := lim E fin (.loop c0 K2) (tL0 a b i data_P)
noncomputable def L1 (a : Int) (b : Int) (i : Int) (j : Int) (data_P : List Int) : R := lim E fin (.loop c2 K9) (tL1 a b i j data_P)
noncomputable def J2 (a : Int) (b : Int) (i : Int) (j : Int) (data_P : List Int) : R := lim E fin (.code c3 K10) (tJ2 a b i j data_P)
theorem L0_eq (a : Int) (b : Int) (i : Int) (data_P : List Int) : L0 a b i data_P = SL0 L1 a b i data_P :=
  (lim_eq (.loop c0 K2) (tL0 a b i data_P)).trans (sL0 (lim E fin) a b i data_P)
theorem L1_eq (a : Int) (b : Int) (i : Int) (j : Int) (data_P : List Int) : L1 a b i j data_P = SL1 J2 L0 a b i j data_P :=
  (lim_eq (.loop c2 K9) (tL1 a b i j data_P)).trans (sL1 (lim E fin) a b i j data_P)
theorem J2_eq (a : Int) (b : Int) (i : Int) (j : Int) (data_P : List Int) : J2 a b i j data_P = SJ2 L1 a b i j data_P :=
  (lim_eq (.code c3 K10) (tJ2 a b i j data_P)).trans (sJ2 (lim E fin) a b i j data_P)
end slices_insertionSortOrdered_int
noncomputable def slices_insertionSortOrdered_int (data : List Int) (a : Int) (b : Int) : slices_insertionSortOrdered_int.R :=
  slices_insertionSortOrdered_int.Se slices_insertionSortOrdered_int.L0 data a b
noncomputable def slices_insertionSortOrdered_int.sig : Sig := ⟨slices_insertionSortOrdered_int.ps, slices_insertionSortOrdered_int.rs, fun x => slices_insertionSortOrdered_int x.1 x.2.1 x.2.2.1⟩
theorem slices_insertionSortOrdered_int.ok : CallOK Try.prog 58 slices_insertionSortOrdered_int.sig :=
  callOK_of_lim (E := slices_insertionSortOrdered_int.E) mixed tt_ok (ctxOk_cons ctxOk_nil cmp_Less_int.ok Try.func64 (by kernel_rfl) (by kernel_rfl)) Try.func58 (by kernel_rfl : Try.f58.body = some (bodyOf Try.f58)) Try.ntmps58 (of_decide_eq_true (by kernel_rfl)) (of_decide_eq_true (by kernel_rfl))
    fun x y h => ((lim_eq (.code (bodyOf Try.f58) .ret) (entryFrom 0 slices_insertionSortOrdered_int.ps x)).trans (slices_insertionSortOrdered_int.se (lim slices_insertionSortOrdered_int.E slices_insertionSortOrdered_int.fin) x)).trans h
theorem slices_insertionSortOrdered_int.val (x : (argTy slices_insertionSortOrdered_int.ps).den) : lim slices_insertionSortOrdered_int.E slices_insertionSortOrdered_int.fin (.code (bodyOf Try.f58) .ret) (entryFrom 0 slices_insertionSortOrdered_int.ps x) = slices_insertionSortOrdered_int.sig.run x :=
  (lim_eq (.code (bodyOf Try.f58) .ret) (entryFrom 0 slices_insertionSortOrdered_int.ps x)).trans (slices_insertionSortOrdered_int.se (lim slices_insertionSortOrdered_int.E slices_insertionSortOrdered_int.fin) x)
noncomputable def slices_insertionSortOrdered_int.ctxc (n : Nat) : List (Nat × Sig) := [(64, cmp_Less_int.sigc n)]
noncomputable def slices_insertionSortOrdered_int.sigc (n : Nat) : Sig := ⟨slices_insertionSortOrdered_int.ps, slices_insertionSortOrdered_int.rs, fun x => runs (withCtx slices_insertionSortOrdered_int.E (slices_insertionSortOrdered_int.ctxc n)) slices_insertionSortOrdered_int.fin n (.code (bodyOf Try.f58) .ret) (entryFrom 0 slices_insertionSortOrdered_int.ps x)⟩
theorem slices_insertionSortOrdered_int.sigc_le (n : Nat) : ∀ x y, (slices_insertionSortOrdered_int.sigc n).run x = some y → slices_insertionSortOrdered_int.sig.run x = some y :=
  fun x y h => (slices_insertionSortOrdered_int.val x).symm.trans (runs_lim (E := slices_insertionSortOrdered_int.E) (c := slices_insertionSortOrdered_int.ctxc n) (ctxLe_cons ctxLe_nil (cmp_Less_int.sigc_le n)) h)

/-! ### slices.siftDownOrdered[int] -/
namespace slices_siftDownOrdered_int
abbrev ps : List PM := [.own (.int .i64), .pure (.int .i64), .pure (.int .i64), .pure (.int .i64)]
abbrev rs : List RM := []
abbrev R : Type := Option (List Int × Unit)
noncomputable def E : Env := { tt := tt, ctx := [(64, cmp_Less_int.sig)], nt := 76, ann := [(1000001, [(0, .keep), (2, .keep), (3, .keep), (8, .keep)]), (5, [(0, .keep), (2, .keep), (3, .keep), (8, .keep), (9, .keep)])] }
noncomputable def c0 : Code := sub [1, 0, 0] (bodyOf Try.f83)
noncomputable def c1 : Code := sub [1, 0, 0, 0, 1, 1, 1] (bodyOf Try.f83)
noncomputable def K2 : Kont := .blk 0 .ret
noncomputable def K3 : Kont := .loop c0 K2
noncomputable def K4 : Kont := .blk 1 K3
noncomputable def fin : ASt → R := Kret E Try.f83.results.toList ps rs
def tL0 (hi : Int) (first : Int) (root : Int) (data_P : List Int) : ASt := ⟨[(8, .one (.val (.int .i64) root)), (3, .one (.val (.int .i64) first)), (2, .one (.val (.int .i64) hi)), (0, .one (.own 10000))], [(10000, some ⟨.fixed, .int .i64, data_P⟩)]⟩
def tJ1 (hi : Int) (first : Int) (root : Int) (child : Int) (data_P : List Int) : ASt := ⟨[(9, .one (.val (.int .i64) child)), (8, .one (.val (.int .i64) root)), (3, .one (.val (.int .i64) first)), (2, .one (.val (.int .i64) hi)), (0, .one (.own 10000))], [(10000, some ⟨.fixed, .int .i64, data_P⟩)]⟩
noncomputable def SL0 (kJ1 : Int → Int → Int → Int → (List Int) → R) (hi : Int) (first : Int) (root : Int) (data_P : List Int) : R :=
  cond (decide ((IntKind.i64.wrap ((IntKind.i64.wrap (2 * root)) + 1)) ≥ hi))
    (some (data_P, ()))
    (cond (decide ((IntKind.i64.wrap ((IntKind.i64.wrap ((IntKind.i64.wrap (2 * root)) + 1)) + 1)) < hi))
      (cond (decide (0 ≤ IntKind.i64.wrap (first + (IntKind.i64.wrap ((IntKind.i64.wrap (2 * root)) + 1)))) && decide (IntKind.i64.wrap (first + (IntKind.i64.wrap ((IntKind.i64.wrap (2 * root)) + 1))) < (data_P.length : Int)))
        (cond (decide (0 ≤ IntKind.i64.wrap ((IntKind.i64.wrap (first + (IntKind.i64.wrap ((IntKind.i64.wrap (2 * root)) + 1)))) + 1)) && decide (IntKind.i64.wrap ((IntKind.i64.wrap (first + (IntKind.i64.wrap ((IntKind.i64.wrap (2 * root)) + 1)))) + 1) < (data_P.length : Int)))
          (Option.bind (cmp_Less_int (data_P.getD ((IntKind.i64.wrap (first + (IntKind.i64.wrap ((IntKind.i64.wrap (2 * root)) + 1)))).toNat) 0) (data_P.getD ((IntKind.i64.wrap ((IntKind.i64.wrap (first + (IntKind.i64.wrap ((IntKind.i64.wrap (2 * root)) + 1)))) + 1)).toNat) 0)) fun x1 =>
          cond x1.1
            (kJ1 hi first root (IntKind.i64.wrap ((IntKind.i64.wrap ((IntKind.i64.wrap (2 * root)) + 1)) + 1)) data_P)
            (kJ1 hi first root (IntKind.i64.wrap ((IntKind.i64.wrap (2 * root)) + 1)) data_P))
          none)
        none)
      (kJ1 hi first root (IntKind.i64.wrap ((IntKind.i64.wrap (2 * root)) + 1)) data_P))
noncomputable def SJ1 (kL0 : Int → Int → Int → (List Int) → R) (hi : Int) (first : Int) (root : Int) (child : Int) (data_P : List Int) : R :=
  cond (decide (0 ≤ IntKind.i64.wrap (first + root)) && decide (IntKind.i64.wrap (first + root) < (data_P.length : Int)))
    (cond (decide (0 ≤ IntKind.i64.wrap (first + child)) && decide (IntKind.i64.wrap (first + child) < (data_P.length : Int)))
      (Option.bind (cmp_Less_int (data_P.getD ((IntKind.i64.wrap (first + root)).toNat) 0) (data_P.getD ((IntKind.i64.wrap (first + child)).toNat) 0)) fun x1 =>
      cond (!x1.1)
        (some (data_P, ()))
        (cond (decide (0 ≤ IntKind.i64.wrap (first + child)) && decide (IntKind.i64.wrap (first + child) < (data_P.length : Int)))
          (cond (decide (0 ≤ IntKind.i64.wrap (first + root)) && decide (IntKind.i64.wrap (first + root) < (data_P.length : Int)))
            (cond (decide (0 ≤ IntKind.i64.wrap (first + root)) && decide (IntKind.i64.wrap (first + root) < (data_P.length : Int)))
              (cond (decide (0 ≤ IntKind.i64.wrap (first + child)) && decide (IntKind.i64.wrap (first + child) < ((data_P.set ((IntKind.i64.wrap (first + root)).toNat) (data_P.getD ((IntKind.i64.wrap (first + child)).toNat) 0)).length : Int)))
                (kL0 hi first child ((data_P.set ((IntKind.i64.wrap (first + root)).toNat) (data_P.getD ((IntKind.i64.wrap (first + child)).toNat) 0)).set ((IntKind.i64.wrap (first + child)).toNat) (data_P.getD ((IntKind.i64.wrap (first + root)).toNat) 0)))
                none)
              none)
            none)
          none))
      none)
    none
noncomputable def Se (kL0 : Int → Int → Int → (List Int) → R) (data : List Int) (lo : Int) (hi : Int) (first : Int) : R :=
  kL0 hi first lo data
theorem sL0 (jmp : Tgt → ASt → R) (hi : Int) (first : Int) (root : Int) (data_P : List Int) : run E jmp fin depth c0 (.loop c0 K2) (tL0 hi first root data_P) =
    SL0 (fun hi first root child data_P => jmp (.code c1 K4) (tJ1 hi first root child data_P)) hi first root data_P := by kernel_rfl
theorem sJ1 (jmp : Tgt → ASt → R) (hi : Int) (first : Int) (root : Int) (child : Int) (data_P : List Int) : run E jmp fin depth c1 K4 (tJ1 hi first root child data_P) =
    SJ1 (fun hi first root data_P => jmp (.loop c0 K2) (tL0 hi first root data_P)) hi first root child data_P := by kernel_rfl
theorem se (jmp : Tgt → ASt → R) (x : (argTy ps).den) : run E jmp fin depth (bodyOf Try.f83) .ret (entryFrom 0 ps x) =
    Se (fun hi first root data_P => jmp (.loop c0 K2) (tL0 hi first root data_P)) x.1 x.2.1 x.2.2.1 x.2.2.2.1 := by kernel_rfl
noncomputable def L0 (hi : Int) (first : Int) (root : Int) (data_P : List Int) : R := lim E fin (.loop c0 K2) (tL0 hi first root data_P)
noncomputable def J1 (hi : Int) (first : Int) (root : Int) (child : Int) (data_P : List Int) : R := lim E fin (.code c1 K4) (tJ1 hi first root child data_P)
theorem L0_eq (hi : Int) (first : Int) (root : Int) (data_P : List Int) : L0 hi first root data_P = SL0 J1 hi first root data_P :=
  (lim_eq (.loop c0 K2) (tL0 hi first root data_P)).trans (sL0 (lim E fin) hi first root data_P)
theorem J1_eq (hi : Int) (first : Int) (root : Int) (child : Int) (data_P : List Int) : J1 hi first root child data_P = SJ1 L0 hi first root child data_P :=
  (lim_eq (.code c1 K4) (tJ1 hi first root child data_P)).trans (sJ1 (lim E fin) hi first root child data_P)
end slices_siftDownOrdered_int
noncomputable def slices_siftDownOrdered_int (data : List Int) (lo : Int) (hi : Int) (first : Int) : slices_siftDownOrdered_int.R :=
  slices_siftDownOrdered_int.Se slices_siftDownOrdered_int.L0 data lo hi first
noncomputable def slices_siftDownOrdered_int.sig : Sig := ⟨slices_siftDownOrdered_int.ps, slices_siftDownOrdered_int.rs, fun x => slices_siftDownOrdered_int x.1 x.2.1 x.2.2.1 x.2.2.2.1⟩
theorem slices_siftDownOrdered_int.ok : CallOK Try.prog 83 slices_siftDownOrdered_int.sig :=
  callOK_of_lim (E := slices_siftDownOrdered_int.E) mixed tt_ok (ctxOk_cons ctxOk_nil cmp_Less_int.ok Try.func64 (by kernel_rfl) (by kernel_rfl)) Try.func83 (by kernel_rfl : Try.f83.body = some (bodyOf Try.f83)) Try.ntmps83 (of_decide_eq_true (by kernel_rfl)) (of_decide_eq_true (by kernel_rfl))
    fun x y h => ((lim_eq (.code (bodyOf Try.f83) .ret) (entryFrom 0 slices_siftDownOrdered_int.ps x)).trans (slices_siftDownOrdered_int.se (lim slices_siftDownOrdered_int.E slices_siftDownOrdered_int.fin) x)).trans h
theorem slices_siftDownOrdered_int.val (x : (argTy slices_siftDownOrdered_int.ps).den) : lim slices_siftDownOrdered_int.E slices_siftDownOrdered_int.fin (.code (bodyOf Try.f83) .ret) (entryFrom 0 slices_siftDownOrdered_int.ps x) = slices_siftDownOrdered_int.sig.run x :=
  (lim_eq (.code (bodyOf Try.f83) .ret) (entryFrom 0 slices_siftDownOrdered_int.ps x)).trans (slices_siftDownOrdered_int.se (lim slices_siftDownOrdered_int.E slices_siftDownOrdered_int.fin) x)
noncomputable def slices_siftDownOrdered_int.ctxc (n : Nat) : List (Nat × Sig) := [(64, cmp_Less_int.sigc n)]
noncomputable def slices_siftDownOrdered_int.sigc (n : Nat) : Sig := ⟨slices_siftDownOrdered_int.ps, slices_siftDownOrdered_int.rs, fun x => runs (withCtx slices_siftDownOrdered_int.E (slices_siftDownOrdered_int.ctxc n)) slices_siftDownOrdered_int.fin n (.code (bodyOf Try.f83) .ret) (entryFrom 0 slices_siftDownOrdered_int.ps x)⟩
theorem slices_siftDownOrdered_int.sigc_le (n : Nat) : ∀ x y, (slices_siftDownOrdered_int.sigc n).run x = some y → slices_siftDownOrdered_int.sig.run x = some y :=
  fun x y h => (slices_siftDownOrdered_int.val x).symm.trans (runs_lim (E := slices_siftDownOrdered_int.E) (c := slices_siftDownOrdered_int.ctxc n) (ctxLe_cons ctxLe_nil (cmp_Less_int.sigc_le n)) h)

/-! ### slices.heapSortOrdered[int] -/
namespace slices_heapSortOrdered_int
abbrev ps : List PM := [.own (.int .i64), .pure (.int .i64), .pure (.int .i64)]
abbrev rs : List RM := []
abbrev R : Type := Option (List Int × Unit)
noncomputable def E : Env := { tt := tt, ctx := [(83, slices_siftDownOrdered_int.sig)], nt := 56, ann := [(1000004, [(0, .keep), (6, .keep), (7, .keep), (8, .keep), (9, .keep)]), (1000008, [(0, .keep), (6, .keep), (7, .keep), (10, .keep)])] }
noncomputable def c0 : Code := sub [1, 1, 1, 1] (bodyOf Try.f59)
noncomputable def c1 : Code := sub [1, 1, 1, 0, 1, 0, 0] (bodyOf Try.f59)
noncomputable def c2 : Code := sub [1, 1, 1, 1, 1, 0, 0] (bodyOf Try.f59)
noncomputable def K4 : Kont := .seq c0 .ret
noncomputable def K6 : Kont := .blk 0 K4
noncomputable def K13 : Kont := .blk 2 .ret
noncomputable def fin : ASt → R := Kret E Try.f59.results.toList ps rs
def tL0 (first : Int) (lo : Int) (hi : Int) (i : Int) (data_P : List Int) : ASt := ⟨[(9, .one (.val (.int .i64) i)), (8, .one (.val (.int .i64) hi)), (7, .one (.val (.int .i64) lo)), (6, .one (.val (.int .i64) first)), (0, .one (.own 10000))], [(10000, some ⟨.fixed, .int .i64, data_P⟩)]⟩
def tL1 (first : Int) (lo : Int) (i : Int) (data_P : List Int) : ASt := ⟨[(10, .one (.val (.int .i64) i)), (7, .one (.val (.int .i64) lo)), (6, .one (.val (.int .i64) first)), (0, .one (.own 10000))], [(10000, some ⟨.fixed, .int .i64, data_P⟩)]⟩
noncomputable def SL0 (kL0 : Int → Int → Int → Int → (List Int) → R) (kL1 : Int → Int → Int → (List Int) → R) (first : Int) (lo : Int) (hi : Int) (i : Int) (data_P : List Int) : R :=
  cond (decide (i ≥ 0))
    (Option.bind (slices_siftDownOrdered_int data_P i hi first) fun x1 =>
    kL0 first lo hi (IntKind.i64.wrap (i - 1)) x1.1)
    (kL1 first lo (IntKind.i64.wrap (hi - 1)) data_P)
noncomputable def SL1 (kL1 : Int → Int → Int → (List Int) → R) (first : Int) (lo : Int) (i : Int) (data_P : List Int) : R :=
  cond (decide (i ≥ 0))
    (cond (decide (0 ≤ IntKind.i64.wrap (first + i)) && decide (IntKind.i64.wrap (first + i) < (data_P.length : Int)))
      (cond (decide (0 ≤ first) && decide (first < (data_P.length : Int)))
        (cond (decide (0 ≤ first) && decide (first < (data_P.length : Int)))
          (cond (decide (0 ≤ IntKind.i64.wrap (first + i)) && decide (IntKind.i64.wrap (first + i) < ((data_P.set first.toNat (data_P.getD ((IntKind.i64.wrap (first + i)).toNat) 0)).length : Int)))
            (Option.bind (slices_siftDownOrdered_int ((data_P.set first.toNat (data_P.getD ((IntKind.i64.wrap (first + i)).toNat) 0)).set ((IntKind.i64.wrap (first + i)).toNat) (data_P.getD first.toNat 0)) lo i first) fun x1 =>
            kL1 first lo (IntKind.i64.wrap (i - 1)) x1.1)
            none)
          none)
        none)
      none)
    (some (data_P, ()))
noncomputable def Se (kL0 : Int → Int → Int → Int → (List Int) → R) (data : List Int) (a : Int) (b : Int) : R :=
  kL0 a 0 (IntKind.i64.wrap (b - a)) (IntKind.i64.wrap (Int.tdiv (IntKind.i64.wrap ((IntKind.i64.wrap (b - a)) - 1)) 2)) data
theorem sL0 (jmp : Tgt → ASt → R) (first : Int) (lo : Int) (hi : Int) (i : Int) (data_P : List Int) : run E jmp fin depth c1 (.loop c1 K6) (tL0 first lo hi i data_P) =
    SL0 (fun first lo hi i data_P => jmp (.loop c1 K6) (tL0 first lo hi i data_P)) (fun first lo i data_P => jmp (.loop c2 K13) (tL1 first lo i data_P)) first lo hi i data_P := by kernel_rfl
theorem sL1 (jmp : Tgt → ASt → R) (first : Int) (lo : Int) (i : Int) (data_P : List Int) : run E jmp fin depth c2 (.loop c2 K13) (tL1 first lo i data_P) =
    SL1 (fun first lo i data_P => jmp (.loop c2 K13) (tL1 first lo i data_P)) first lo i data_P := by kernel_rfl
theorem se (jmp : Tgt → ASt → R) (x : (argTy ps).den) : run E jmp fin depth (bodyOf Try.f59) .ret (entryFrom 0 ps x) =
    Se (fun first lo hi i data_P => jmp (.loop c1 K6) (tL0 first lo hi i data_P)) x.1 x.2.1 x.2.2.1 := by kernel_rfl
noncomputable def L0 (first : Int) (lo : Int) (hi : Int) (i : Int) (data_P : List Int) : R := lim E fin (.loop c1 K6) (tL0 first lo hi i data_P)
noncomputable def L1 (first : Int) (lo : Int) (i : Int) (data_P : List Int) : R := lim E fin (.loop c2 K13) (tL1 first lo i data_P)
theorem L0_eq (first : Int) (lo : Int) (hi : Int) (i : Int) (data_P : List Int) : L0 first lo hi i data_P = SL0 L0 L1 first lo hi i data_P :=
  (lim_eq (.loop c1 K6) (tL0 first lo hi i data_P)).trans (sL0 (lim E fin) first lo hi i data_P)
theorem L1_eq (first : Int) (lo : Int) (i : Int) (data_P : List Int) : L1 first lo i data_P = SL1 L1 first lo i data_P :=
  (lim_eq (.loop c2 K13) (tL1 first lo i data_P)).trans (sL1 (lim E fin) first lo i data_P)
end slices_heapSortOrdered_int
noncomputable def slices_heapSortOrdered_int (data : List Int) (a : Int) (b : Int) : slices_heapSortOrdered_int.R :=
  slices_heapSortOrdered_int.Se slices_heapSortOrdered_int.L0 data a b
noncomputable def slices_heapSortOrdered_int.sig : Sig := ⟨slices_heapSortOrdered_int.ps, slices_heapSortOrdered_int.rs, fun x => slices_heapSortOrdered_int x.1 x.2.1 x.2.2.1⟩
theorem slices_heapSortOrdered_int.ok : CallOK Try.prog 59 slices_heapSortOrdered_int.sig :=
  callOK_of_lim (E := slices_heapSortOrdered_int.E) mixed tt_ok (ctxOk_cons ctxOk_nil slices_siftDownOrdered_int.ok Try.func83 (by kernel_rfl) (by kernel_rfl)) Try.func59 (by kernel_rfl : Try.f59.body = some (bodyOf Try.f59)) Try.ntmps59 (of_decide_eq_true (by kernel_rfl)) (of_decide_eq_true (by kernel_rfl))
    fun x y h => ((lim_eq (.code (bodyOf Try.f59) .ret) (entryFrom 0 slices_heapSortOrdered_int.ps x)).trans (slices_heapSortOrdered_int.se (lim slices_heapSortOrdered_int.E slices_heapSortOrdered_int.fin) x)).trans h
theorem slices_heapSortOrdered_int.val (x : (argTy slices_heapSortOrdered_int.ps).den) : lim slices_heapSortOrdered_int.E slices_heapSortOrdered_int.fin (.code (bodyOf Try.f59) .ret) (entryFrom 0 slices_heapSortOrdered_int.ps x) = slices_heapSortOrdered_int.sig.run x :=
  (lim_eq (.code (bodyOf Try.f59) .ret) (entryFrom 0 slices_heapSortOrdered_int.ps x)).trans (slices_heapSortOrdered_int.se (lim slices_heapSortOrdered_int.E slices_heapSortOrdered_int.fin) x)
noncomputable def slices_heapSortOrdered_int.ctxc (n : Nat) : List (Nat × Sig) := [(83, slices_siftDownOrdered_int.sigc n)]
noncomputable def slices_heapSortOrdered_int.sigc (n : Nat) : Sig := ⟨slices_heapSortOrdered_int.ps, slices_heapSortOrdered_int.rs, fun x => runs (withCtx slices_heapSortOrdered_int.E (slices_heapSortOrdered_int.ctxc n)) slices_heapSortOrdered_int.fin n (.code (bodyOf Try.f59) .ret) (entryFrom 0 slices_heapSortOrdered_int.ps x)⟩
theorem slices_heapSortOrdered_int.sigc_le (n : Nat) : ∀ x y, (slices_heapSortOrdered_int.sigc n).run x = some y → slices_heapSortOrdered_int.sig.run x = some y :=
  fun x y h => (slices_heapSortOrdered_int.val x).symm.trans (runs_lim (E := slices_heapSortOrdered_int.E) (c := slices_heapSortOrdered_int.ctxc n) (ctxLe_cons ctxLe_nil (slices_siftDownOrdered_int.sigc_le n)) h)

/-! ### slices.nextPowerOfTwo -/
namespace slices_nextPowerOfTwo
abbrev ps : List PM := [.pure (.int .i64)]
abbrev rs : List RM := [.pure (.int .u64)]
abbrev R : Type := Option (Int × Unit)
noncomputable def E : Env := { tt := tt, ctx := [(45, math_bits_Len.sig)], nt := 7, ann := [] }
noncomputable def fin : ASt → R := Kret E Try.f84.results.toList ps rs
noncomputable def Se (length_0 : Int) : R :=
  Option.bind (math_bits_Len (IntKind.u64.wrap length_0)) fun x1 =>
  cond (decide (x1.1 < 0))
    none
    (some (IntKind.u64.wrap (1 * 2 ^ (min x1.1.toNat IntKind.u64.bits)), ()))
theorem se (jmp : Tgt → ASt → R) (x : (argTy ps).den) : run E jmp fin depth (bodyOf Try.f84) .ret (entryFrom 0 ps x) =
    Se x.1 := by kernel_rfl
end slices_nextPowerOfTwo
noncomputable def slices_nextPowerOfTwo (length_0 : Int) : slices_nextPowerOfTwo.R :=
  slices_nextPowerOfTwo.Se length_0
noncomputable def slices_nextPowerOfTwo.sig : Sig := ⟨slices_nextPowerOfTwo.ps, slices_nextPowerOfTwo.rs, fun x => slices_nextPowerOfTwo x.1⟩
theorem slices_nextPowerOfTwo.ok : CallOK Try.prog 84 slices_nextPowerOfTwo.sig :=
  callOK_of_lim (E := slices_nextPowerOfTwo.E) mixed tt_ok (ctxOk_cons ctxOk_nil math_bits_Len.ok Try.func45 (by kernel_rfl) (by kernel_rfl)) Try.func84 (by kernel_rfl : Try.f84.body = some (bodyOf Try.f84)) Try.ntmps84 (of_decide_eq_true (by kernel_rfl)) (of_decide_eq_true (by kernel_rfl))
    fun x y h => ((lim_eq (.code (bodyOf Try.f84) .ret) (entryFrom 0 slices_nextPowerOfTwo.ps x)).trans (slices_nextPowerOfTwo.se (lim slices_nextPowerOfTwo.E slices_nextPowerOfTwo.fin) x)).trans h
theorem slices_nextPowerOfTwo.val (x : (argTy slices_nextPowerOfTwo.ps).den) : lim slices_nextPowerOfTwo.E slices_nextPowerOfTwo.fin (.code (bodyOf Try.f84) .ret) (entryFrom 0 slices_nextPowerOfTwo.ps x) = slices_nextPowerOfTwo.sig.run x :=
  (lim_eq (.code (bodyOf Try.f84) .ret) (entryFrom 0 slices_nextPowerOfTwo.ps x)).trans (slices_nextPowerOfTwo.se (lim slices_nextPowerOfTwo.E slices_nextPowerOfTwo.fin) x)
noncomputable def slices_nextPowerOfTwo.ctxc (n : Nat) : List (Nat × Sig) := [(45, math_bits_Len.sigc n)]
noncomputable def slices_nextPowerOfTwo.sigc (n : Nat) : Sig := ⟨slices_nextPowerOfTwo.ps, slices_nextPowerOfTwo.rs, fun x => runs (withCtx slices_nextPowerOfTwo.E (slices_nextPowerOfTwo.ctxc n)) slices_nextPowerOfTwo.fin n (.code (bodyOf Try.f84) .ret) (entryFrom 0 slices_nextPowerOfTwo.ps x)⟩
theorem slices_nextPowerOfTwo.sigc_le (n : Nat) : ∀ x y, (slices_nextPowerOfTwo.sigc n).run x = some y → slices_nextPowerOfTwo.sig.run x = some y :=
  fun x y h => (slices_nextPowerOfTwo.val x).symm.trans (runs_lim (E := slices_nextPowerOfTwo.E) (c := slices_nextPowerOfTwo.ctxc n) (ctxLe_cons ctxLe_nil (math_bits_Len.sigc_le n)) h)

/-! ### (*slices.xorshift).Next -/
namespace slices_xorshift_Next
abbrev ps : List PM := [.ptr (.int .u64)]
abbrev rs : List RM := [.pure (.int .u64)]
abbrev R : Type := Option (Int × Int × Unit)
noncomputable def E : Env := { tt := tt, ctx := [], nt := 33, ann := [] }
noncomputable def fin : ASt → R := Kret E Try.f85.results.toList ps rs
noncomputable def Se (r_0 : Int) : R :=
  some (IntKind.u64.wrap (BitVec.ofInt IntKind.u64.bits (IntKind.u64.wrap (BitVec.ofInt IntKind.u64.bits (IntKind.u64.wrap (BitVec.ofInt IntKind.u64.bits r_0 ^^^ BitVec.ofInt IntKind.u64.bits (IntKind.u64.wrap (r_0 * 2 ^ (min 13 IntKind.u64.bits)))).toNat) ^^^ BitVec.ofInt IntKind.u64.bits (Int.fdiv (IntKind.u64.wrap (BitVec.ofInt IntKind.u64.bits r_0 ^^^ BitVec.ofInt IntKind.u64.bits (IntKind.u64.wrap (r_0 * 2 ^ (min 13 IntKind.u64.bits)))).toNat) (2 ^ (min 7 IntKind.u64.bits)))).toNat) ^^^ BitVec.ofInt IntKind.u64.bits (IntKind.u64.wrap ((IntKind.u64.wrap (BitVec.ofInt IntKind.u64.bits (IntKind.u64.wrap (BitVec.ofInt IntKind.u64.bits r_0 ^^^ BitVec.ofInt IntKind.u64.bits (IntKind.u64.wrap (r_0 * 2 ^ (min 13 IntKind.u64.bits)))).toNat) ^^^ BitVec.ofInt IntKind.u64.bits (Int.fdiv (IntKind.u64.wrap (BitVec.ofInt IntKind.u64.bits r_0 ^^^ BitVec.ofInt IntKind.u64.bits (IntKind.u64.wrap (r_0 * 2 ^ (min 13 IntKind.u64.bits)))).toNat) (2 ^ (min 7 IntKind.u64.bits)))).toNat) * 2 ^ (min 17 IntKind.u64.bits)))).toNat, IntKind.u64.wrap (BitVec.ofInt IntKind.u64.bits (IntKind.u64.wrap (BitVec.ofInt IntKind.u64.bits (IntKind.u64.wrap (BitVec.ofInt IntKind.u64.bits r_0 ^^^ BitVec.ofInt IntKind.u64.bits (IntKind.u64.wrap (r_0 * 2 ^ (min 13 IntKind.u64.bits)))).toNat) ^^^ BitVec.ofInt IntKind.u64.bits (Int.fdiv (IntKind.u64.wrap (BitVec.ofInt IntKind.u64.bits r_0 ^^^ BitVec.ofInt IntKind.u64.bits (IntKind.u64.wrap (r_0 * 2 ^ (min 13 IntKind.u64.bits)))).toNat) (2 ^ (min 7 IntKind.u64.bits)))).toNat) ^^^ BitVec.ofInt IntKind.u64.bits (IntKind.u64.wrap ((IntKind.u64.wrap (BitVec.ofInt IntKind.u64.bits (IntKind.u64.wrap (BitVec.ofInt IntKind.u64.bits r_0 ^^^ BitVec.ofInt IntKind.u64.bits (IntKind.u64.wrap (r_0 * 2 ^ (min 13 IntKind.u64.bits)))).toNat) ^^^ BitVec.ofInt IntKind.u64.bits (Int.fdiv (IntKind.u64.wrap (BitVec.ofInt IntKind.u64.bits r_0 ^^^ BitVec.ofInt IntKind.u64.bits (IntKind.u64.wrap (r_0 * 2 ^ (min 13 IntKind.u64.bits)))).toNat) (2 ^ (min 7 IntKind.u64.bits)))).toNat) * 2 ^ (min 17 IntKind.u64.bits)))).toNat, ())
theorem se (jmp : Tgt → ASt → R) (x : (argTy ps).den) : run E jmp fin depth (bodyOf Try.f85) .ret (entryFrom 0 ps x) =
    Se x.1 := by kernel_rfl
end slices_xorshift_Next
noncomputable def slices_xorshift_Next (r_0 : Int) : slices_xorshift_Next.R :=
  slices_xorshift_Next.Se r_0
noncomputable def slices_xorshift_Next.sig : Sig := ⟨slices_xorshift_Next.ps, slices_xorshift_Next.rs, fun x => slices_xorshift_Next x.1⟩
theorem slices_xorshift_Next.ok : CallOK Try.prog 85 slices_xorshift_Next.sig :=
  callOK_of_lim (E := slices_xorshift_Next.E) mixed tt_ok ctxOk_nil Try.func85 (by kernel_rfl : Try.f85.body = some (bodyOf Try.f85)) Try.ntmps85 (of_decide_eq_true (by kernel_rfl)) (of_decide_eq_true (by kernel_rfl))
    fun x y h => ((lim_eq (.code (bodyOf Try.f85) .ret) (entryFrom 0 slices_xorshift_Next.ps x)).trans (slices_xorshift_Next.se (lim slices_xorshift_Next.E slices_xorshift_Next.fin) x)).trans h
theorem slices_xorshift_Next.val (x : (argTy slices_xorshift_Next.ps).den) : lim slices_xorshift_Next.E slices_xorshift_Next.fin (.code (bodyOf Try.f85) .ret) (entryFrom 0 slices_xorshift_Next.ps x) = slices_xorshift_Next.sig.run x :=
  (lim_eq (.code (bodyOf Try.f85) .ret) (entryFrom 0 slices_xorshift_Next.ps x)).trans (slices_xorshift_Next.se (lim slices_xorshift_Next.E slices_xorshift_Next.fin) x)
noncomputable def slices_xorshift_Next.ctxc (n : Nat) : List (Nat × Sig) := []
noncomputable def slices_xorshift_Next.sigc (n : Nat) : Sig := ⟨slices_xorshift_Next.ps, slices_xorshift_Next.rs, fun x => runs (withCtx slices_xorshift_Next.E (slices_xorshift_Next.ctxc n)) slices_xorshift_Next.fin n (.code (bodyOf Try.f85) .ret) (entryFrom 0 slices_xorshift_Next.ps x)⟩
theorem slices_xorshift_Next.sigc_le (n : Nat) : ∀ x y, (slices_xorshift_Next.sigc n).run x = some y → slices_xorshift_Next.sig.run x = some y :=
  fun x y h => (slices_xorshift_Next.val x).symm.trans (runs_lim (E := slices_xorshift_Next.E) (c := slices_xorshift_Next.ctxc n) ctxLe_nil h)

/-! ### slices.breakPatternsOrdered[int] -/
namespace slices_breakPatternsOrdered_int
abbrev ps : List PM := [.own (.int .i64), .pure (.int .i64), .pure (.int .i64)]
abbrev rs : List RM := []
abbrev R : Type := Option (List Int × Unit)
noncomputable def E : Env := { tt := tt, ctx := [(84, slices_nextPowerOfTwo.sig), (85, slices_xorshift_Next.sig)], nt := 65, ann := [(1000005, [(0, .keep), (1, .keep), (6, .keep), (7, .keep), (8, .keep), (9, .keep)]), (10, [(0, .keep), (1, .keep), (6, .keep), (7, .keep), (8, .keep), (9, .keep), (10, .keep)])] }
noncomputable def c0 : Code := sub [1, 1, 0, 1, 1, 1, 0, 0] (bodyOf Try.f60)
noncomputable def c1 : Code := sub [1, 1, 0, 1, 1, 1, 0, 0, 1, 1] (bodyOf Try.f60)
noncomputable def c2 : Code := sub [1, 1, 0, 1, 1, 1, 0, 0, 1, 0, 0, 1, 1] (bodyOf Try.f60)
noncomputable def K6 : Kont := .blk 0 .ret
noncomputable def K7 : Kont := .loop c0 K6
noncomputable def K10 : Kont := .seq c1 K7
noncomputable def K11 : Kont := .blk 1 K10
noncomputable def fin : ASt → R := Kret E Try.f60.results.toList ps rs
def tL0 (a : Int) (length_6 : Int) (random : Int) (modulus : Int) (idx_9 : Int) (data_P : List Int) : ASt := ⟨[(9, .one (.val (.int .i64) idx_9)), (8, .one (.val (.int .u64) modulus)), (7, .one (.optr 7 0 [])), (6, .one (.val (.int .i64) length_6)), (1, .one (.val (.int .i64) a)), (0, .one (.own 10000))], [(7, some ⟨.free, .int .u64, [random]⟩), (10000, some ⟨.fixed, .int .i64, data_P⟩)]⟩
def tJ1 (a : Int) (length_6 : Int) (random : Int) (modulus : Int) (idx_9 : Int) (other : Int) (data_P : List Int) : ASt := ⟨[(10, .one (.val (.int .i64) other)), (9, .one (.val (.int .i64) idx_9)), (8, .one (.val (.int .u64) modulus)), (7, .one (.optr 7 0 [])), (6, .one (.val (.int .i64) length_6)), (1, .one (.val (.int .i64) a)), (0, .one (.own 10000))], [(7, some ⟨.free, .int .u64, [random]⟩), (10000, some ⟨.fixed, .int .i64, data_P⟩)]⟩
noncomputable def SL0 (kJ1 : Int → Int → Int → Int → Int → Int → (List Int) → R) (a : Int) (length_6 : Int) (random : Int) (modulus : Int) (idx_9 : Int) (data_P : List Int) : R :=
  cond (decide (idx_9 ≤ (IntKind.i64.wrap ((IntKind.i64.wrap (a + (IntKind.i64.wrap ((IntKind.i64.wrap (Int.tdiv length_6 4)) * 2)))) + 1))))
    (Option.bind (slices_xorshift_Next random) fun x1 =>
    cond (decide ((IntKind.i64.wrap (IntKind.u64.wrap (BitVec.ofInt IntKind.u64.bits x1.1 &&& BitVec.ofInt IntKind.u64.bits (IntKind.u64.wrap (modulus - 1))).toNat)) ≥ length_6))
      (kJ1 a length_6 x1.2.1 modulus idx_9 (IntKind.i64.wrap ((IntKind.i64.wrap (IntKind.u64.wrap (BitVec.ofInt IntKind.u64.bits x1.1 &&& BitVec.ofInt IntKind.u64.bits (IntKind.u64.wrap (modulus - 1))).toNat)) - length_6)) data_P)
      (kJ1 a length_6 x1.2.1 modulus idx_9 (IntKind.i64.wrap (IntKind.u64.wrap (BitVec.ofInt IntKind.u64.bits x1.1 &&& BitVec.ofInt IntKind.u64.bits (IntKind.u64.wrap (modulus - 1))).toNat)) data_P))
    (some (data_P, ()))
noncomputable def SJ1 (kL0 : Int → Int → Int → Int → Int → (List Int) → R) (a : Int) (length_6 : Int) (random : Int) (modulus : Int) (idx_9 : Int) (other : Int) (data_P : List Int) : R :=
  cond (decide (0 ≤ IntKind.i64.wrap (a + other)) && decide (IntKind.i64.wrap (a + other) < (data_P.length : Int)))
    (cond (decide (0 ≤ idx_9) && decide (idx_9 < (data_P.length : Int)))
      (cond (decide (0 ≤ idx_9) && decide (idx_9 < (data_P.length : Int)))
        (cond (decide (0 ≤ IntKind.i64.wrap (a + other)) && decide (IntKind.i64.wrap (a + other) < ((data_P.set idx_9.toNat (data_P.getD ((IntKind.i64.wrap (a + other)).toNat) 0)).length : Int)))
          (kL0 a length_6 random modulus (IntKind.i64.wrap (idx_9 + 1)) ((data_P.set idx_9.toNat (data_P.getD ((IntKind.i64.wrap (a + other)).toNat) 0)).set ((IntKind.i64.wrap (a + other)).toNat) (data_P.getD idx_9.toNat 0)))
          none)
        none)
      none)
    none
noncomputable def Se (kL0 : Int → Int → Int → Int → Int → (List Int) → R) (data : List Int) (a : Int) (b : Int) : R :=
  cond (decide ((IntKind.i64.wrap (b - a)) ≥ 8))
    (Option.bind (slices_nextPowerOfTwo (IntKind.i64.wrap (b - a))) fun x1 =>
    kL0 a (IntKind.i64.wrap (b - a)) (IntKind.u64.wrap (IntKind.i64.wrap (b - a))) x1.1 (IntKind.i64.wrap ((IntKind.i64.wrap (a + (IntKind.i64.wrap ((IntKind.i64.wrap (Int.tdiv (IntKind.i64.wrap (b - a)) 4)) * 2)))) - 1)) data)
    (some (data, ()))
theorem sL0 (jmp : Tgt → ASt → R) (a : Int) (length_6 : Int) (random : Int) (modulus : Int) (idx_9 : Int) (data_P : List Int) : run E jmp fin depth c0 (.loop c0 K6) (tL0 a length_6 random modulus idx_9 data_P) =
    SL0 (fun a length_6 random modulus idx_9 other data_P => jmp (.code c2 K11) (tJ1 a length_6 random modulus idx_9 other data_P)) a length_6 random modulus idx_9 data_P := by kernel_rfl
theorem sJ1 (jmp : Tgt → ASt → R) (a : Int) (length_6 : Int) (random : Int) (modulus : Int) (idx_9 : Int) (other : Int) (data_P : List Int) : run E jmp fin depth c2 K11 (tJ1 a length_6 random modulus idx_9 other data_P) =
    SJ1 (fun a length_6 random modulus idx_9 data_P => jmp (.loop c0 K6) (tL0 a length_6 random modulus idx_9 data_P)) a length_6 random modulus idx_9 other data_P := by kernel_rfl
theorem se (jmp : Tgt → ASt → R) (x : (argTy ps).den) : run E jmp fin depth (bodyOf Try.f60) .ret (entryFrom 0 ps x) =
    Se (fun a length_6 random modulus idx_9 data_P => jmp (.loop c0 K6) (tL0 a length_6 random modulus idx_9 data_P)) x.1 x.2.1 x.2.2.1 := by kernel_rfl
noncomputable def L0 (a : Int) (length_6 : Int) (random : Int) (modulus : Int) (idx_9 : Int) (data_P : List Int) : R := lim E fin (.loop c0 K6) (tL0 a length_6 random modulus idx_9 data_P)
noncomputable def J1 (a : Int) (length_6 : Int) (random : Int) (modulus : Int) (idx_9 : Int) (other : Int) (data_P : List Int) : R := lim E fin (.code c2 K11) (tJ1 a length_6 random modulus idx_9 other data_P)
theorem L0_eq (a : Int) (length_6 : Int) (random : Int) (modulus : Int) (idx_9 : Int) (data_P : List Int) : L0 a length_6 random modulus idx_9 data_P = SL0 J1 a length_6 random modulus idx_9 data_P :=
  (lim_eq (.loop c0 K6) (tL0 a length_6 random modulus idx_9 data_P)).trans (sL0 (lim E fin) a length_6 random modulus idx_9 data_P)
theorem J1_eq (a : Int) (length_6 : Int) (random : Int) (modulus : Int) (idx_9 : Int) (other : Int) (data_P : List Int) : J1 a length_6 random modulus idx_9 other data_P = SJ1 L0 a length_6 random modulus idx_9 other data_P :=
  (lim_eq (.code c2 K11) (tJ1 a length_6 random modulus idx_9 other data_P)).trans (sJ1 (lim E fin) a length_6 random modulus idx_9 other data_P)
end slices_breakPatternsOrdered_int
noncomputable def slices_breakPatternsOrdered_int (data : List Int) (a : Int) (b : Int) : slices_breakPatternsOrdered_int.R :=
  slices_breakPatternsOrdered_int.Se slices_breakPatternsOrdered_int.L0 data a b
noncomputable def slices_breakPatternsOrdered_int.sig : Sig := ⟨slices_breakPatternsOrdered_int.ps, slices_breakPatternsOrdered_int.rs, fun x => slices_breakPatternsOrdered_int x.1 x.2.1 x.2.2.1⟩
theorem slices_breakPatternsOrdered_int.ok : CallOK Try.prog 60 slices_breakPatternsOrdered_int.sig :=
  callOK_of_lim (E := slices_breakPatternsOrdered_int.E) mixed tt_ok (ctxOk_cons (ctxOk_cons ctxOk_nil slices_xorshift_Next.ok Try.func85 (by kernel_rfl) (by kernel_rfl)) slices_nextPowerOfTwo.ok Try.func84 (by kernel_rfl) (by kernel_rfl)) Try.func60 (by kernel_rfl : Try.f60.body = some (bodyOf Try.f60)) Try.ntmps60 (of_decide_eq_true (by kernel_rfl)) (of_decide_eq_true (by kernel_rfl))
    fun x y h => ((lim_eq (.code (bodyOf Try.f60) .ret) (entryFrom 0 slices_breakPatternsOrdered_int.ps x)).trans (slices_breakPatternsOrdered_int.se (lim slices_breakPatternsOrdered_int.E slices_breakPatternsOrdered_int.fin) x)).trans h
theorem slices_breakPatternsOrdered_int.val (x : (argTy slices_breakPatternsOrdered_int.ps).den) : lim slices_breakPatternsOrdered_int.E slices_breakPatternsOrdered_int.fin (.code (bodyOf Try.f60) .ret) (entryFrom 0 slices_breakPatternsOrdered_int.ps x) = slices_breakPatternsOrdered_int.sig.run x :=
  (lim_eq (.code (bodyOf Try.f60) .ret) (entryFrom 0 slices_breakPatternsOrdered_int.ps x)).trans (slices_breakPatternsOrdered_int.se (lim slices_breakPatternsOrdered_int.E slices_breakPatternsOrdered_int.fin) x)
noncomputable def slices_breakPatternsOrdered_int.ctxc (n : Nat) : List (Nat × Sig) := [(84, slices_nextPowerOfTwo.sigc n), (85, slices_xorshift_Next.sigc n)]
noncomputable def slices_breakPatternsOrdered_int.sigc (n : Nat) : Sig := ⟨slices_breakPatternsOrdered_int.ps, slices_breakPatternsOrdered_int.rs, fun x => runs (withCtx slices_breakPatternsOrdered_int.E (slices_breakPatternsOrdered_int.ctxc n)) slices_breakPatternsOrdered_int.fin n (.code (bodyOf Try.f60) .ret) (entryFrom 0 slices_breakPatternsOrdered_int.ps x)⟩
theorem slices_breakPatternsOrdered_int.sigc_le (n : Nat) : ∀ x y, (slices_breakPatternsOrdered_int.sigc n).run x = some y → slices_breakPatternsOrdered_int.sig.run x = some y :=
  fun x y h => (slices_breakPatternsOrdered_int.val x).symm.trans (runs_lim (E := slices_breakPatternsOrdered_int.E) (c := slices_breakPatternsOrdered_int.ctxc n) (ctxLe_cons (ctxLe_cons ctxLe_nil (slices_xorshift_Next.sigc_le n)) (slices_nextPowerOfTwo.sigc_le n)) h)

/-! ### slices.order2Ordered[int] -/
namespace slices_order2Ordered_int
abbrev ps : List PM := [.pure (.sl (.int .i64)), .pure (.int .i64), .pure (.int .i64), .ptr (.int .i64)]
abbrev rs : List RM := [.pure (.int .i64), .pure (.int .i64)]
abbrev R : Type := Option (Int × Int × Int × Unit)
noncomputable def E : Env := { tt := tt, ctx := [(64, cmp_Less_int.sig)], nt := 28, ann := [] }
noncomputable def fin : ASt → R := Kret E Try.f90.results.toList ps rs
noncomputable def Se (data : List Int) (a : Int) (b : Int) (swaps : Int) : R :=
  Option.bind (idx data b) fun x1 =>
  Option.bind (idx data a) fun x2 =>
  Option.bind (cmp_Less_int x1 x2) fun x3 =>
  cond x3.1
    (some (b, a, IntKind.i64.wrap (swaps + 1), ()))
    (some (a, b, swaps, ()))
theorem se (jmp : Tgt → ASt → R) (x : (argTy ps).den) : run E jmp fin depth (bodyOf Try.f90) .ret (entryFrom 0 ps x) =
    Se x.1 x.2.1 x.2.2.1 x.2.2.2.1 := by kernel_rfl
end slices_order2Ordered_int
noncomputable def slices_order2Ordered_int (data : List Int) (a : Int) (b : Int) (swaps : Int) : slices_order2Ordered_int.R :=
  slices_order2Ordered_int.Se data a b swaps
noncomputable def slices_order2Ordered_int.sig : Sig := ⟨slices_order2Ordered_int.ps, slices_order2Ordered_int.rs, fun x => slices_order2Ordered_int x.1 x.2.1 x.2.2.1 x.2.2.2.1⟩
theorem slices_order2Ordered_int.ok : CallOK Try.prog 90 slices_order2Ordered_int.sig :=
  callOK_of_lim (E := slices_order2Ordered_int.E) mixed tt_ok (ctxOk_cons ctxOk_nil cmp_Less_int.ok Try.func64 (by kernel_rfl) (by kernel_rfl)) Try.func90 (by kernel_rfl : Try.f90.body = some (bodyOf Try.f90)) Try.ntmps90 (of_decide_eq_true (by kernel_rfl)) (of_decide_eq_true (by kernel_rfl))
    fun x y h => ((lim_eq (.code (bodyOf Try.f90) .ret) (entryFrom 0 slices_order2Ordered_int.ps x)).trans (slices_order2Ordered_int.se (lim slices_order2Ordered_int.E slices_order2Ordered_int.fin) x)).trans h
theorem slices_order2Ordered_int.val (x : (argTy slices_order2Ordered_int.ps).den) : lim slices_order2Ordered_int.E slices_order2Ordered_int.fin (.code (bodyOf Try.f90) .ret) (entryFrom 0 slices_order2Ordered_int.ps x) = slices_order2Ordered_int.sig.run x :=
  (lim_eq (.code (bodyOf Try.f90) .ret) (entryFrom 0 slices_order2Ordered_int.ps x)).trans (slices_order2Ordered_int.se (lim slices_order2Ordered_int.E slices_order2Ordered_int.fin) x)
noncomputable def slices_order2Ordered_int.ctxc (n : Nat) : List (Nat × Sig) := [(64, cmp_Less_int.sigc n)]
noncomputable def slices_order2Ordered_int.sigc (n : Nat) : Sig := ⟨slices_order2Ordered_int.ps, slices_order2Ordered_int.rs, fun x => runs (withCtx slices_order2Ordered_int.E (slices_order2Ordered_int.ctxc n)) slices_order2Ordered_int.fin n (.code (bodyOf Try.f90) .ret) (entryFrom 0 slices_order2Ordered_int.ps x)⟩
theorem slices_order2Ordered_int.sigc_le (n : Nat) : ∀ x y, (slices_order2Ordered_int.sigc n).run x = some y → slices_order2Ordered_int.sig.run x = some y :=
  fun x y h => (slices_order2Ordered_int.val x).symm.trans (runs_lim (E := slices_order2Ordered_int.E) (c := slices_order2Ordered_int.ctxc n) (ctxLe_cons ctxLe_nil (cmp_Less_int.sigc_le n)) h)

/-! ### slices.medianOrdered[int] -/
namespace slices_medianOrdered_int
abbrev ps : List PM := [.pure (.sl (.int .i64)), .pure (.int .i64), .pure (.int .i64), .pure (.int .i64), .ptr (.int .i64)]
abbrev rs : List RM := [.pure (.int .i64)]
abbrev R : Type := Option (Int × Int × Unit)
noncomputable def E : Env := { tt := tt, ctx := [(90, slices_order2Ordered_int.sig)], nt := 36, ann := [] }
noncomputable def fin : ASt → R := Kret E Try.f87.results.toList ps rs
noncomputable def Se (data : List Int) (a : Int) (b : Int) (c_3 : Int) (swaps : Int) : R :=
  Option.bind (slices_order2Ordered_int data a b swaps) fun x1 =>
  Option.bind (slices_order2Ordered_int data x1.2.1 c_3 x1.2.2.1) fun x2 =>
  Option.bind (slices_order2Ordered_int data x1.1 x2.1 x2.2.2.1) fun x3 =>
  some (x3.2.1, x3.2.2.1, ())
theorem se (jmp : Tgt → ASt → R) (x : (argTy ps).den) : run E jmp fin depth (bodyOf Try.f87) .ret (entryFrom 0 ps x) =
    Se x.1 x.2.1 x.2.2.1 x.2.2.2.1 x.2.2.2.2.1 := by kernel_rfl
end slices_medianOrdered_int
noncomputable def slices_medianOrdered_int (data : List Int) (a : Int) (b : Int) (c_3 : Int) (swaps : Int) : slices_medianOrdered_int.R :=
  slices_medianOrdered_int.Se data a b c_3 swaps
noncomputable def slices_medianOrdered_int.sig : Sig := ⟨slices_medianOrdered_int.ps, slices_medianOrdered_int.rs, fun x => slices_medianOrdered_int x.1 x.2.1 x.2.2.1 x.2.2.2.1 x.2.2.2.2.1⟩
theorem slices_medianOrdered_int.ok : CallOK Try.prog 87 slices_medianOrdered_int.sig :=
  callOK_of_lim (E := slices_medianOrdered_int.E) mixed tt_ok (ctxOk_cons ctxOk_nil slices_order2Ordered_int.ok Try.func90 (by kernel_rfl) (by kernel_rfl)) Try.func87 (by kernel_rfl : Try.f87.body = some (bodyOf Try.f87)) Try.ntmps87 (of_decide_eq_true (by kernel_rfl)) (of_decide_eq_true (by kernel_rfl))
    fun x y h => ((lim_eq (.code (bodyOf Try.f87) .ret) (entryFrom 0 slices_medianOrdered_int.ps x)).trans (slices_medianOrdered_int.se (lim slices_medianOrdered_int.E slices_medianOrdered_int.fin) x)).trans h
theorem slices_medianOrdered_int.val (x : (argTy slices_medianOrdered_int.ps).den) : lim slices_medianOrdered_int.E slices_medianOrdered_int.fin (.code (bodyOf Try.f87) .ret) (entryFrom 0 slices_medianOrdered_int.ps x) = slices_medianOrdered_int.sig.run x :=
  (lim_eq (.code (bodyOf Try.f87) .ret) (entryFrom 0 slices_medianOrdered_int.ps x)).trans (slices_medianOrdered_int.se (lim slices_medianOrdered_int.E slices_medianOrdered_int.fin) x)
noncomputable def slices_medianOrdered_int.ctxc (n : Nat) : List (Nat × Sig) := [(90, slices_order2Ordered_int.sigc n)]
noncomputable def slices_medianOrdered_int.sigc (n : Nat) : Sig := ⟨slices_medianOrdered_int.ps, slices_medianOrdered_int.rs, fun x => runs (withCtx slices_medianOrdered_int.E (slices_medianOrdered_int.ctxc n)) slices_medianOrdered_int.fin n (.code (bodyOf Try.f87) .ret) (entryFrom 0 slices_medianOrdered_int.ps x)⟩
theorem slices_medianOrdered_int.sigc_le (n : Nat) : ∀ x y, (slices_medianOrdered_int.sigc n).run x = some y → slices_medianOrdered_int.sig.run x = some y :=
  fun x y h => (slices_medianOrdered_int.val x).symm.trans (runs_lim (E := slices_medianOrdered_int.E) (c := slices_medianOrdered_int.ctxc n) (ctxLe_cons ctxLe_nil (slices_order2Ordered_int.sigc_le n)) h)

/-! ### slices.medianAdjacentOrdered[int] -/
namespace slices_medianAdjacentOrdered_int
abbrev ps : List PM := [.pure (.sl (.int .i64)), .pure (.int .i64), .ptr (.int .i64)]
abbrev rs : List RM := [.pure (.int .i64)]
abbrev R : Type := Option (Int × Int × Unit)
noncomputable def E : Env := { tt := tt, ctx := [(87, slices_medianOrdered_int.sig)], nt := 15, ann := [] }
noncomputable def fin : ASt → R := Kret E Try.f86.results.toList ps rs
noncomputable def Se (data : List Int) (a : Int) (swaps : Int) : R :=
  Option.bind (slices_medianOrdered_int data (IntKind.i64.wrap (a - 1)) a (IntKind.i64.wrap (a + 1)) swaps) fun x1 =>
  some (x1.1, x1.2.1, ())
theorem se (jmp : Tgt → ASt → R) (x : (argTy ps).den) : run E jmp fin depth (bodyOf Try.f86) .ret (entryFrom 0 ps x) =
    Se x.1 x.2.1 x.2.2.1 := by kernel_rfl
end slices_medianAdjacentOrdered_int
noncomputable def slices_medianAdjacentOrdered_int (data : List Int) (a : Int) (swaps : Int) : slices_medianAdjacentOrdered_int.R :=
  slices_medianAdjacentOrdered_int.Se data a swaps
noncomputable def slices_medianAdjacentOrdered_int.sig : Sig := ⟨slices_medianAdjacentOrdered_int.ps, slices_medianAdjacentOrdered_int.rs, fun x => slices_medianAdjacentOrdered_int x.1 x.2.1 x.2.2.1⟩
theorem slices_medianAdjacentOrdered_int.ok : CallOK Try.prog 86 slices_medianAdjacentOrdered_int.sig :=
  callOK_of_lim (E := slices_medianAdjacentOrdered_int.E) mixed tt_ok (ctxOk_cons ctxOk_nil slices_medianOrdered_int.ok Try.func87 (by kernel_rfl) (by kernel_rfl)) Try.func86 (by kernel_rfl : Try.f86.body = some (bodyOf Try.f86)) Try.ntmps86 (of_decide_eq_true (by kernel_rfl)) (of_decide_eq_true (by kernel_rfl))
    fun x y h => ((lim_eq (.code (bodyOf Try.f86) .ret) (entryFrom 0 slices_medianAdjacentOrdered_int.ps x)).trans (slices_medianAdjacentOrdered_int.se (lim slices_medianAdjacentOrdered_int.E slices_medianAdjacentOrdered_int.fin) x)).trans h
theorem slices_medianAdjacentOrdered_int.val (x : (argTy slices_medianAdjacentOrdered_int.ps).den) : lim slices_medianAdjacentOrdered_int.E slices_medianAdjacentOrdered_int.fin (.code (bodyOf Try.f86) .ret) (entryFrom 0 slices_medianAdjacentOrdered_int.ps x) = slices_medianAdjacentOrdered_int.sig.run x :=
  (lim_eq (.code (bodyOf Try.f86) .ret) (entryFrom 0 slices_medianAdjacentOrdered_int.ps x)).trans (slices_medianAdjacentOrdered_int.se (lim slices_medianAdjacentOrdered_int.E slices_medianAdjacentOrdered_int.fin) x)
noncomputable def slices_medianAdjacentOrdered_int.ctxc (n : Nat) : List (Nat × Sig) := [(87, slices_medianOrdered_int.sigc n)]
noncomputable def slices_medianAdjacentOrdered_int.sigc (n : Nat) : Sig := ⟨slices_medianAdjacentOrdered_int.ps, slices_medianAdjacentOrdered_int.rs, fun x => runs (withCtx slices_medianAdjacentOrdered_int.E (slices_medianAdjacentOrdered_int.ctxc n)) slices_medianAdjacentOrdered_int.fin n (.code (bodyOf Try.f86) .ret) (entryFrom 0 slices_medianAdjacentOrdered_int.ps x)⟩
theorem slices_medianAdjacentOrdered_int.sigc_le (n : Nat) : ∀ x y, (slices_medianAdjacentOrdered_int.sigc n).run x = some y → slices_medianAdjacentOrdered_int.sig.run x = some y :=
  fun x y h => (slices_medianAdjacentOrdered_int.val x).symm.trans (runs_lim (E := slices_medianAdjacentOrdered_int.E) (c := slices_medianAdjacentOrdered_int.ctxc n) (ctxLe_cons ctxLe_nil (slices_medianOrdered_int.sigc_le n)) h)

/-! ### slices.choosePivotOrdered[int] -/
namespace slices_choosePivotOrdered_int
abbrev ps : List PM := [.pure (.sl (.int .i64)), .pure (.int .i64), .pure (.int .i64)]
abbrev rs : List RM := [.pure (.int .i64), .pure (.int .i64)]
abbrev R : Type := Option (Int × Int × Unit)
noncomputable def E : Env := { tt := tt, ctx := [(86, slices_medianAdjacentOrdered_int.sig), (87, slices_medianOrdered_int.sig)], nt := 57, ann := [(12, [(9, .keep), (11, .keep)])] }
noncomputable def c0 : Code := sub [1, 1, 1, 1, 1, 1, 1] (bodyOf Try.f61)
noncomputable def fin : ASt → R := Kret E Try.f61.results.toList ps rs
def tJ0 (swaps : Int) (j : Int) : ASt := ⟨[(11, .one (.val (.int .i64) j)), (9, .one (.optr 9 0 []))], [(9, some ⟨.free, .int .i64, [swaps]⟩)]⟩
noncomputable def SJ0 (swaps : Int) (j : Int) : R :=
  cond (swaps == 0)
    (some (j, 1, ()))
    (cond (swaps == 12)
      (some (j, 2, ()))
      (some (j, 0, ())))
noncomputable def Se (kJ0 : Int → Int → R) (data : List Int) (a : Int) (b : Int) : R :=
  cond (decide ((IntKind.i64.wrap (b - a)) ≥ 8))
    (cond (decide ((IntKind.i64.wrap (b - a)) ≥ 50))
      (Option.bind (slices_medianAdjacentOrdered_int data (IntKind.i64.wrap (a + (IntKind.i64.wrap ((IntKind.i64.wrap (Int.tdiv (IntKind.i64.wrap (b - a)) 4)) * 1)))) 0) fun x1 =>
      Option.bind (slices_medianAdjacentOrdered_int data (IntKind.i64.wrap (a + (IntKind.i64.wrap ((IntKind.i64.wrap (Int.tdiv (IntKind.i64.wrap (b - a)) 4)) * 2)))) x1.2.1) fun x2 =>
      Option.bind (slices_medianAdjacentOrdered_int data (IntKind.i64.wrap (a + (IntKind.i64.wrap ((IntKind.i64.wrap (Int.tdiv (IntKind.i64.wrap (b - a)) 4)) * 3)))) x2.2.1) fun x3 =>
      Option.bind (slices_medianOrdered_int data x1.1 x2.1 x3.1 x3.2.1) fun x4 =>
      kJ0 x4.2.1 x4.1)
      (Option.bind (slices_medianOrdered_int data (IntKind.i64.wrap (a + (IntKind.i64.wrap ((IntKind.i64.wrap (Int.tdiv (IntKind.i64.wrap (b - a)) 4)) * 1)))) (IntKind.i64.wrap (a + (IntKind.i64.wrap ((IntKind.i64.wrap (Int.tdiv (IntKind.i64.wrap (b - a)) 4)) * 2)))) (IntKind.i64.wrap (a + (IntKind.i64.wrap ((IntKind.i64.wrap (Int.tdiv (IntKind.i64.wrap (b - a)) 4)) * 3)))) 0) fun x5 =>
      kJ0 x5.2.1 x5.1))
    (kJ0 0 (IntKind.i64.wrap (a + (IntKind.i64.wrap ((IntKind.i64.wrap (Int.tdiv (IntKind.i64.wrap (b - a)) 4)) * 2)))))
theorem sJ0 (jmp : Tgt → ASt → R) (swaps : Int) (j : Int) : run E jmp fin depth c0 .ret (tJ0 swaps j) =
    SJ0 swaps j := by kernel_rfl
theorem se (jmp : Tgt → ASt → R) (x : (argTy ps).den) : run E jmp fin depth (bodyOf Try.f61) .ret (entryFrom 0 ps x) =
    Se (fun swaps j => jmp (.code c0 .ret) (tJ0 swaps j)) x.1 x.2.1 x.2.2.1 := by kernel_rfl
noncomputable def J0 (swaps : Int) (j : Int) : R := lim E fin (.code c0 .ret) (tJ0 swaps j)
theorem J0_eq (swaps : Int) (j : Int) : J0 swaps j = SJ0 swaps j :=
  (lim_eq (.code c0 .ret) (tJ0 swaps j)).trans (sJ0 (lim E fin) swaps j)
end slices_choosePivotOrdered_int
noncomputable def slices_choosePivotOrdered_int (data : List Int) (a : Int) (b : Int) : slices_choosePivotOrdered_int.R :=
  slices_choosePivotOrdered_int.Se slices_choosePivotOrdered_int.J0 data a b
noncomputable def slices_choosePivotOrdered_int.sig : Sig := ⟨slices_choosePivotOrdered_int.ps, slices_choosePivotOrdered_int.rs, fun x => slices_choosePivotOrdered_int x.1 x.2.1 x.2.2.1⟩
theorem slices_choosePivotOrdered_int.ok : CallOK Try.prog 61 slices_choosePivotOrdered_int.sig :=
  callOK_of_lim (E := slices_choosePivotOrdered_int.E) mixed tt_ok (ctxOk_cons (ctxOk_cons ctxOk_nil slices_medianOrdered_int.ok Try.func87 (by kernel_rfl) (by kernel_rfl)) slices_medianAdjacentOrdered_int.ok Try.func86 (by kernel_rfl) (by kernel_rfl)) Try.func61 (by kernel_rfl : Try.f61.body = some (bodyOf Try.f61)) Try.ntmps61 (of_decide_eq_true (by kernel_rfl)) (of_decide_eq_true (by kernel_rfl))
    fun x y h => ((lim_eq (.code (bodyOf Try.f61) .ret) (entryFrom 0 slices_choosePivotOrdered_int.ps x)).trans (slices_choosePivotOrdered_int.se (lim slices_choosePivotOrdered_int.E slices_choosePivotOrdered_int.fin) x)).trans h
theorem slices_choosePivotOrdered_int.val (x : (argTy slices_choosePivotOrdered_int.ps).den) : lim slices_choosePivotOrdered_int.E slices_choosePivotOrdered_int.fin (.code (bodyOf Try.f61) .ret) (entryFrom 0 slices_choosePivotOrdered_int.ps x) = slices_choosePivotOrdered_int.sig.run x :=
  (lim_eq (.code (bodyOf Try.f61) .ret) (entryFrom 0 slices_choosePivotOrdered_int.ps x)).trans (slices_choosePivotOrdered_int.se (lim slices_choosePivotOrdered_int.E slices_choosePivotOrdered_int.fin) x)
noncomputable def slices_choosePivotOrdered_int.ctxc (n : Nat) : List (Nat × Sig) := [(86, slices_medianAdjacentOrdered_int.sigc n), (87, slices_medianOrdered_int.sigc n)]
noncomputable def slices_choosePivotOrdered_int.sigc (n : Nat) : Sig := ⟨slices_choosePivotOrdered_int.ps, slices_choosePivotOrdered_int.rs, fun x => runs (withCtx slices_choosePivotOrdered_int.E (slices_choosePivotOrdered_int.ctxc n)) slices_choosePivotOrdered_int.fin n (.code (bodyOf Try.f61) .ret) (entryFrom 0 slices_choosePivotOrdered_int.ps x)⟩
theorem slices_choosePivotOrdered_int.sigc_le (n : Nat) : ∀ x y, (slices_choosePivotOrdered_int.sigc n).run x = some y → slices_choosePivotOrdered_int.sig.run x = some y :=
  fun x y h => (slices_choosePivotOrdered_int.val x).symm.trans (runs_lim (E := slices_choosePivotOrdered_int.E) (c := slices_choosePivotOrdered_int.ctxc n) (ctxLe_cons (ctxLe_cons ctxLe_nil (slices_medianOrdered_int.sigc_le n)) (slices_medianAdjacentOrdered_int.sigc_le n)) h)

/-! ### slices.reverseRangeOrdered[int] -/
namespace slices_reverseRangeOrdered_int
abbrev ps : List PM := [.own (.int .i64), .pure (.int .i64), .pure (.int .i64)]
abbrev rs : List RM := []
abbrev R : Type := Option (List Int × Unit)
noncomputable def E : Env := { tt := tt, ctx := [], nt := 32, ann := [(1000002, [(0, .keep), (6, .keep), (7, .keep)])] }
noncomputable def c0 : Code := sub [1, 1, 0, 0] (bodyOf Try.f62)
noncomputable def K3 : Kont := .blk 0 .ret
noncomputable def fin : ASt → R := Kret E Try.f62.results.toList ps rs
def tL0 (i : Int) (j : Int) (data_P : List Int) : ASt := ⟨[(7, .one (.val (.int .i64) j)), (6, .one (.val (.int .i64) i)), (0, .one (.own 10000))], [(10000, some ⟨.fixed, .int .i64, data_P⟩)]⟩
noncomputable def SL0 (kL0 : Int → Int → (List Int) → R) (i : Int) (j : Int) (data_P : List Int) : R :=
  cond (decide (i < j))
    (cond (decide (0 ≤ j) && decide (j < (data_P.length : Int)))
      (cond (decide (0 ≤ i) && decide (i < (data_P.length : Int)))
        (cond (decide (0 ≤ i) && decide (i < (data_P.length : Int)))
          (cond (decide (0 ≤ j) && decide (j < ((data_P.set i.toNat (data_P.getD j.toNat 0)).length : Int)))
            (kL0 (IntKind.i64.wrap (i + 1)) (IntKind.i64.wrap (j - 1)) ((data_P.set i.toNat (data_P.getD j.toNat 0)).set j.toNat (data_P.getD i.toNat 0)))
            none)
          none)
        none)
      none)
    (some (data_P, ()))
noncomputable def Se (kL0 : Int → Int → (List Int) → R) (data : List Int) (a : Int) (b : Int) : R :=
  kL0 a (IntKind.i64.wrap (b - 1)) data
theorem sL0 (jmp : Tgt → ASt → R) (i : Int) (j : Int) (data_P : List Int) : run E jmp fin depth c0 (.loop c0 K3) (tL0 i j data_P) =
    SL0 (fun i j data_P => jmp (.loop c0 K3) (tL0 i j data_P)) i j data_P := by kernel_rfl
theorem se (jmp : Tgt → ASt → R) (x : (argTy ps).den) : run E jmp fin depth (bodyOf Try.f62) .ret (entryFrom 0 ps x) =
    Se (fun i j data_P => jmp (.loop c0 K3) (tL0 i j data_P)) x.1 x.2.1 x.2.2.1 := by kernel_rfl
noncomputable def L0 (i : Int) (j : Int) (data_P : List Int) : R := lim E fin (.loop c0 K3) (tL0 i j data_P)
theorem L0_eq (i : Int) (j : Int) (data_P : List Int) : L0 i j data_P = SL0 L0 i j data_P :=
  (lim_eq (.loop c0 K3) (tL0 i j data_P)).trans (sL0 (lim E fin) i j data_P)
end slices_reverseRangeOrdered_int
noncomputable def slices_reverseRangeOrdered_int (data : List Int) (a : Int) (b : Int) : slices_reverseRangeOrdered_int.R :=
  slices_reverseRangeOrdered_int.Se slices_reverseRangeOrdered_int.L0 data a b
noncomputable def slices_reverseRangeOrdered_int.sig : Sig := ⟨slices_reverseRangeOrdered_int.ps, slices_reverseRangeOrdered_int.rs, fun x => slices_reverseRangeOrdered_int x.1 x.2.1 x.2.2.1⟩
theorem slices_reverseRangeOrdered_int.ok : CallOK Try.prog 62 slices_reverseRangeOrdered_int.sig :=
  callOK_of_lim (E := slices_reverseRangeOrdered_int.E) mixed tt_ok ctxOk_nil Try.func62 (by kernel_rfl : Try.f62.body = some (bodyOf Try.f62)) Try.ntmps62 (of_decide_eq_true (by kernel_rfl)) (of_decide_eq_true (by kernel_rfl))
    fun x y h => ((lim_eq (.code (bodyOf Try.f62) .ret) (entryFrom 0 slices_reverseRangeOrdered_int.ps x)).trans (slices_reverseRangeOrdered_int.se (lim slices_reverseRangeOrdered_int.E slices_reverseRangeOrdered_int.fin) x)).trans h
theorem slices_reverseRangeOrdered_int.val (x : (argTy slices_reverseRangeOrdered_int.ps).den) : lim slices_reverseRangeOrdered_int.E slices_reverseRangeOrdered_int.fin (.code (bodyOf Try.f62) .ret) (entryFrom 0 slices_reverseRangeOrdered_int.ps x) = slices_reverseRangeOrdered_int.sig.run x :=
  (lim_eq (.code (bodyOf Try.f62) .ret) (entryFrom 0 slices_reverseRangeOrdered_int.ps x)).trans (slices_reverseRangeOrdered_int.se (lim slices_reverseRangeOrdered_int.E slices_reverseRangeOrdered_int.fin) x)
noncomputable def slices_reverseRangeOrdered_int.ctxc (n : Nat) : List (Nat × Sig) := []
noncomputable def slices_reverseRangeOrdered_int.sigc (n : Nat) : Sig := ⟨slices_reverseRangeOrdered_int.ps, slices_reverseRangeOrdered_int.rs, fun x => runs (withCtx slices_reverseRangeOrdered_int.E (slices_reverseRangeOrdered_int.ctxc n)) slices_reverseRangeOrdered_int.fin n (.code (bodyOf Try.f62) .ret) (entryFrom 0 slices_reverseRangeOrdered_int.ps x)⟩
theorem slices_reverseRangeOrdered_int.sigc_le (n : Nat) : ∀ x y, (slices_reverseRangeOrdered_int.sigc n).run x = some y → slices_reverseRangeOrdered_int.sig.run x = some y :=
  fun x y h => (slices_reverseRangeOrdered_int.val x).symm.trans (runs_lim (E := slices_reverseRangeOrdered_int.E) (c := slices_reverseRangeOrdered_int.ctxc n) ctxLe_nil h)

/-! ### slices.partialInsertionSortOrdered[int] -/
namespace slices_partialInsertionSortOrdered_int
abbrev ps : List PM := [.own (.int .i64), .pure (.int .i64), .pure (.int .i64)]
abbrev rs : List RM := [.pure .bool]
abbrev R : Type := Option (Bool × List Int × Unit)
noncomputable def E : Env := { tt := tt, ctx := [(64, cmp_Less_int.sig)], nt := 133, ann := [(1000003, [(0, .keep), (1, .keep), (2, .keep), (7, .keep), (8, .keep)]), (7, [(0, .keep), (1, .keep), (2, .keep), (7, .keep), (8, .keep)]), (1000005, [(0, .keep), (1, .keep), (2, .keep), (7, .keep), (8, .keep)]), (18, [(0, .keep), (1, .keep), (2, .keep), (7, .keep), (8, .keep)]), (1000014, [(0, .keep), (1, .keep), (2, .keep), (7, .keep), (8, .keep), (9, .keep)]), (1000020, [(0, .keep), (1, .keep), (2, .keep), (7, .keep), (8, .keep), (10, .keep)])] }
noncomputable def c0 : Code := sub [1, 1, 1] (bodyOf Try.f63)
noncomputable def c1 : Code := sub [1, 1, 0, 1, 0, 0] (bodyOf Try.f63)
noncomputable def c2 : Code := sub [1, 1, 0, 1, 0, 0, 1, 1] (bodyOf Try.f63)
noncomputable def c3 : Code := sub [1, 1, 0, 1, 0, 0, 1, 0, 0, 1] (bodyOf Try.f63)
noncomputable def c4 : Code := sub [1, 1, 0, 1, 0, 0, 1, 0, 0, 1, 1, 1, 1, 1] (bodyOf Try.f63)
noncomputable def c5 : Code := sub [1, 1, 0, 1, 0, 0, 1, 0, 0, 0, 0, 0] (bodyOf Try.f63)
noncomputable def c6 : Code := sub [1, 1, 0, 1, 0, 0, 1, 0, 0, 1, 1, 1, 1, 0, 1, 0, 1, 0, 0] (bodyOf Try.f63)
noncomputable def c7 : Code := sub [1, 1, 0, 1, 0, 0, 1, 0, 0, 1, 1, 1, 1, 1, 1, 0, 1, 0, 0] (bodyOf Try.f63)
noncomputable def K3 : Kont := .seq c0 .ret
noncomputable def K5 : Kont := .blk 0 K3
noncomputable def K6 : Kont := .loop c1 K5
noncomputable def K9 : Kont := .seq c2 K6
noncomputable def K10 : Kont := .blk 1 K9
noncomputable def K11 : Kont := .seq c3 K10
noncomputable def K12 : Kont := .blk 2 K11
noncomputable def K25 : Kont := .seq c4 K10
noncomputable def K28 : Kont := .blk 4 K25
noncomputable def K32 : Kont := .blk 6 K10
noncomputable def fin : ASt → R := Kret E Try.f63.results.toList ps rs
def tL0 (a : Int) (b : Int) (i : Int) (j : Int) (data_P : List Int) : ASt := ⟨[(8, .one (.val (.int .i64) j)), (7, .one (.val (.int .i64) i)), (2, .one (.val (.int .i64) b)), (1, .one (.val (.int .i64) a)), (0, .one (.own 10000))], [(10000, some ⟨.fixed, .int .i64, data_P⟩)]⟩
def tJ1 (a : Int) (b : Int) (i : Int) (j : Int) (data_P : List Int) : ASt := ⟨[(8, .one (.val (.int .i64) j)), (7, .one (.val (.int .i64) i)), (2, .one (.val (.int .i64) b)), (1, .one (.val (.int .i64) a)), (0, .one (.own 10000))], [(10000, some ⟨.fixed, .int .i64, data_P⟩)]⟩
def tL2 (a : Int) (b : Int) (i : Int) (j : Int) (data_P : List Int) : ASt := ⟨[(8, .one (.val (.int .i64) j)), (7, .one (.val (.int .i64) i)), (2, .one (.val (.int .i64) b)), (1, .one (.val (.int .i64) a)), (0, .one (.own 10000))], [(10000, some ⟨.fixed, .int .i64, data_P⟩)]⟩
def tJ3 (a : Int) (b : Int) (i : Int) (j : Int) (data_P : List Int) : ASt := ⟨[(8, .one (.val (.int .i64) j)), (7, .one (.val (.int .i64) i)), (2, .one (.val (.int .i64) b)), (1, .one (.val (.int .i64) a)), (0, .one (.own 10000))], [(10000, some ⟨.fixed, .int .i64, data_P⟩)]⟩
def tL4 (a : Int) (b : Int) (i : Int) (j : Int) (j_9 : Int) (data_P : List Int) : ASt := ⟨[(9, .one (.val (.int .i64) j_9)), (8, .one (.val (.int .i64) j)), (7, .one (.val (.int .i64) i)), (2, .one (.val (.int .i64) b)), (1, .one (.val (.int .i64) a)), (0, .one (.own 10000))], [(10000, some ⟨.fixed, .int .i64, data_P⟩)]⟩
def tL5 (a : Int) (b : Int) (i : Int) (j : Int) (j_10 : Int) (data_P : List Int) : ASt := ⟨[(10, .one (.val (.int .i64) j_10)), (8, .one (.val (.int .i64) j)), (7, .one (.val (.int .i64) i)), (2, .one (.val (.int .i64) b)), (1, .one (.val (.int .i64) a)), (0, .one (.own 10000))], [(10000, some ⟨.fixed, .int .i64, data_P⟩)]⟩
noncomputable def SL0 (kL2 : Int → Int → Int → Int → (List Int) → R) (a : Int) (b : Int) (i : Int) (j : Int) (data_P : List Int) : R :=
  cond (decide (j < 5))
    (kL2 a b i j data_P)
    (some (false, data_P, ()))
noncomputable def SJ1 (kL4 : Int → Int → Int → Int → Int → (List Int) → R) (kJ3 : Int → Int → Int → Int → (List Int) → R) (a : Int) (b : Int) (i : Int) (j : Int) (data_P : List Int) : R :=
  cond (i == b)
    (some (true, data_P, ()))
    (cond (decide ((IntKind.i64.wrap (b - a)) < 50))
      (some (false, data_P, ()))
      (cond (decide (0 ≤ IntKind.i64.wrap (i - 1)) && decide (IntKind.i64.wrap (i - 1) < (data_P.length : Int)))
        (cond (decide (0 ≤ i) && decide (i < (data_P.length : Int)))
          (cond (decide (0 ≤ i) && decide (i < (data_P.length : Int)))
            (cond (decide (0 ≤ IntKind.i64.wrap (i - 1)) && decide (IntKind.i64.wrap (i - 1) < ((data_P.set i.toNat (data_P.getD ((IntKind.i64.wrap (i - 1)).toNat) 0)).length : Int)))
              (cond (decide ((IntKind.i64.wrap (i - a)) ≥ 2))
                (kL4 a b i j (IntKind.i64.wrap (i - 1)) ((data_P.set i.toNat (data_P.getD ((IntKind.i64.wrap (i - 1)).toNat) 0)).set ((IntKind.i64.wrap (i - 1)).toNat) (data_P.getD i.toNat 0)))
                (kJ3 a b i j ((data_P.set i.toNat (data_P.getD ((IntKind.i64.wrap (i - 1)).toNat) 0)).set ((IntKind.i64.wrap (i - 1)).toNat) (data_P.getD i.toNat 0))))
              none)
            none)
          none)
        none))
noncomputable def SL2 (kL2 : Int → Int → Int → Int → (List Int) → R) (kJ1 : Int → Int → Int → Int → (List Int) → R) (a : Int) (b : Int) (i : Int) (j : Int) (data_P : List Int) : R :=
  cond (decide (i < b))
    (cond (decide (0 ≤ i) && decide (i < (data_P.length : Int)))
      (cond (decide (0 ≤ IntKind.i64.wrap (i - 1)) && decide (IntKind.i64.wrap (i - 1) < (data_P.length : Int)))
        (Option.bind (cmp_Less_int (data_P.getD i.toNat 0) (data_P.getD ((IntKind.i64.wrap (i - 1)).toNat) 0)) fun x1 =>
        cond (!x1.1)
          (kL2 a b (IntKind.i64.wrap (i + 1)) j data_P)
          (kJ1 a b i j data_P))
        none)
      none)
    (kJ1 a b i j data_P)
noncomputable def SJ3 (kL5 : Int → Int → Int → Int → Int → (List Int) → R) (kL0 : Int → Int → Int → Int → (List Int) → R) (a : Int) (b : Int) (i : Int) (j : Int) (data_P : List Int) : R :=
  cond (decide ((IntKind.i64.wrap (b - i)) ≥ 2))
    (kL5 a b i j (IntKind.i64.wrap (i + 1)) data_P)
    (kL0 a b i (IntKind.i64.wrap (j + 1)) data_P)
noncomputable def SL4 (kJ3 : Int → Int → Int → Int → (List Int) → R) (kL4 : Int → Int → Int → Int → Int → (List Int) → R) (a : Int) (b : Int) (i : Int) (j : Int) (j_9 : Int) (data_P : List Int) : R :=
  cond (decide (j_9 ≥ 1))
    (cond (decide (0 ≤ j_9) && decide (j_9 < (data_P.length : Int)))
      (cond (decide (0 ≤ IntKind.i64.wrap (j_9 - 1)) && decide (IntKind.i64.wrap (j_9 - 1) < (data_P.length : Int)))
        (Option.bind (cmp_Less_int (data_P.getD j_9.toNat 0) (data_P.getD ((IntKind.i64.wrap (j_9 - 1)).toNat) 0)) fun x1 =>
        cond (!x1.1)
          (kJ3 a b i j data_P)
          (cond (decide (0 ≤ IntKind.i64.wrap (j_9 - 1)) && decide (IntKind.i64.wrap (j_9 - 1) < (data_P.length : Int)))
            (cond (decide (0 ≤ j_9) && decide (j_9 < (data_P.length : Int)))
              (cond (decide (0 ≤ j_9) && decide (j_9 < (data_P.length : Int)))
                (cond (decide (0 ≤ IntKind.i64.wrap (j_9 - 1)) && decide (IntKind.i64.wrap (j_9 - 1) < ((data_P.set j_9.toNat (data_P.getD ((IntKind.i64.wrap (j_9 - 1)).toNat) 0)).length : Int)))
                  (kL4 a b i j (IntKind.i64.wrap (j_9 - 1)) ((data_P.set j_9.toNat (data_P.getD ((IntKind.i64.wrap (j_9 - 1)).toNat) 0)).set ((IntKind.i64.wrap (j_9 - 1)).toNat) (data_P.getD j_9.toNat 0)))
                  none)
                none)
              none)
            none))
        none)
      none)
    (kJ3 a b i j data_P)
noncomputable def SL5 (kL0 : Int → Int → Int → Int → (List Int) → R) (kL5 : Int → Int → Int → Int → Int → (List Int) → R) (a : Int) (b : Int) (i : Int) (j : Int) (j_10 : Int) (data_P : List Int) : R :=
  cond (decide (j_10 < b))
    (cond (decide (0 ≤ j_10) && decide (j_10 < (data_P.length : Int)))
      (cond (decide (0 ≤ IntKind.i64.wrap (j_10 - 1)) && decide (IntKind.i64.wrap (j_10 - 1) < (data_P.length : Int)))
        (Option.bind (cmp_Less_int (data_P.getD j_10.toNat 0) (data_P.getD ((IntKind.i64.wrap (j_10 - 1)).toNat) 0)) fun x1 =>
        cond (!x1.1)
          (kL0 a b i (IntKind.i64.wrap (j + 1)) data_P)
          (cond (decide (0 ≤ IntKind.i64.wrap (j_10 - 1)) && decide (IntKind.i64.wrap (j_10 - 1) < (data_P.length : Int)))
            (cond (decide (0 ≤ j_10) && decide (j_10 < (data_P.length : Int)))
              (cond (decide (0 ≤ j_10) && decide (j_10 < (data_P.length : Int)))
                (cond (decide (0 ≤ IntKind.i64.wrap (j_10 - 1)) && decide (IntKind.i64.wrap (j_10 - 1) < ((data_P.set j_10.toNat (data_P.getD ((IntKind.i64.wrap (j_10 - 1)).toNat) 0)).length : Int)))
                  (kL5 a b i j (IntKind.i64.wrap (j_10 + 1)) ((data_P.set j_10.toNat (data_P.getD ((IntKind.i64.wrap (j_10 - 1)).toNat) 0)).set ((IntKind.i64.wrap (j_10 - 1)).toNat) (data_P.getD j_10.toNat 0)))
                  none)
                none)
              none)
            none))
        none)
      none)
    (kL0 a b i (IntKind.i64.wrap (j + 1)) data_P)
noncomputable def Se (kL0 : Int → Int → Int → Int → (List Int) → R) (data : List Int) (a : Int) (b : Int) : R :=
  kL0 a b (IntKind.i64.wrap (a + 1)) 0 data
theorem sL0 (jmp : Tgt → ASt → R) (a : Int) (b : Int) (i : Int) (j : Int) (data_P : List Int) : run E jmp fin depth c1 (.loop c1 K5) (tL0 a b i j data_P) =
    SL0 (fun a b i j data_P => jmp (.loop c5 K12) (tL2 a b i j data_P)) a b i j data_P := by kernel_rfl
theorem sJ1 (jmp : Tgt → ASt → R) (a : Int) (b : Int) (i : Int) (j : Int) (data_P : List Int) : run E jmp fin depth c3 K10 (tJ1 a b i j data_P) =
    SJ1 (fun a b i j j_9 data_P => jmp (.loop c6 K28) (tL4 a b i j j_9 data_P)) (fun a b i j data_P => jmp (.code c4 K10) (tJ3 a b i j data_P)) a b i j data_P := by kernel_rfl
theorem sL2 (jmp : Tgt → ASt → R) (a : Int) (b : Int) (i : Int) (j : Int) (data_P : List Int) : run E jmp fin depth c5 (.loop c5 K12) (tL2 a b i j data_P) =
    SL2 (fun a b i j data_P => jmp (.loop c5 K12) (tL2 a b i j data_P)) (fun a b i j data_P => jmp (.code c3 K10) (tJ1 a b i j data_P)) a b i j data_P := by kernel_rfl
theorem sJ3 (jmp : Tgt → ASt → R) (a : Int) (b : Int) (i : Int) (j : Int) (data_P : List Int) : run E jmp fin depth c4 K10 (tJ3 a b i j data_P) =
    SJ3 (fun a b i j j_10 data_P => jmp (.loop c7 K32) (tL5 a b i j j_10 data_P)) (fun a b i j data_P => jmp (.loop c1 K5) (tL0 a b i j data_P)) a b i j data_P := by kernel_rfl
theorem sL4 (jmp : Tgt → ASt → R) (a : Int) (b : Int) (i : Int) (j : Int) (j_9 : Int) (data_P : List Int) : run E jmp fin depth c6 (.loop c6 K28) (tL4 a b i j j_9 data_P) =
    SL4 (fun a b i j data_P => jmp (.code c4 K10) (tJ3 a b i j data_P)) (fun a b i j j_9 data_P => jmp (.loop c6 K28) (tL4 a b i j j_9 data_P)) a b i j j_9 data_P := by kernel_rfl
theorem sL5 (jmp : Tgt → ASt → R) (a : Int) (b : Int) (i : Int) (j : Int) (j_10 : Int) (data_P : List Int) : run E jmp fin depth c7 (.loop c7 K32) (tL5 a b i j j_10 data_P) =
    SL5 (fun a b i j data_P => jmp (.loop c1 K5) (tL0 a b i j data_P)) (fun a b i j j_10 data_P => jmp (.loop c7 K32) (tL5 a b i j j_10 data_P)) a b i j j_10 data_P := by kernel_rfl
theorem se (jmp : Tgt → ASt → R) (x : (argTy ps).den) : run E jmp fin depth (bodyOf Try.f63) .ret (entryFrom 0 ps x) =
    Se (fun a b i j data_P => jmp (.loop c1 K5) (tL0 a b i j data_P)) x.1 x.2.1 x.2.2.1 := by kernel_rfl
noncomputable def L0 (a : Int) (b : Int) (i : Int) (j : Int) (data_P : List Int) : R := lim E fin (.loop c1 K5) (tL0 a b i j data_P)
noncomputable def J1 (a : Int) (b : Int) (i : Int) (j : Int) (data_P : List Int) : R := lim E fin (.code c3 K10) (tJ1 a b i j data_P)
noncomputable def L2 (a : Int) (b : Int) (i : Int) (j : Int) (data_P : List Int) : R := lim E fin (.loop c5 K12) (tL2 a b i j data_P)
noncomputable def J3 (a : Int) (b : Int) (i : Int) (j : Int) (data_P : List Int) : R := lim E fin (.code c4 K10) (tJ3 a b i j data_P)
noncomputable def L4 (a : Int) (b : Int) (i : Int) (j : Int) (j_9 : Int) (data_P : List Int) : R := lim E fin (.loop c6 K28) (tL4 a b i j j_9 data_P)
noncomputable def L5 (a : Int) (b : Int) (i : Int) (j : Int) (j_10 : Int) (data_P : List Int) : R := lim E fin (.loop c7 K32) (tL5 a b i j j_10 data_P)
theorem L0_eq (a : Int) (b : Int) (i : Int) (j : Int) (data_P : List Int) : L0 a b i j data_P = SL0 L2 a b i j data_P :=
  (lim_eq (.loop c1 K5) (tL0 a b i j data_P)).trans (sL0 (lim E fin) a b i j data_P)
theorem J1_eq (a : Int) (b : Int) (i : Int) (j : Int) (data_P : List Int) : J1 a b i j data_P = SJ1 L4 J3 a b i j data_P :=
  (lim_eq (.code c3 K10) (tJ1 a b i j data_P)).trans (sJ1 (lim E fin) a b i j data_P)
theorem L2_eq (a : Int) (b : Int) (i : Int) (j : Int) (data_P : List Int) : L2 a b i j data_P = SL2 L2 J1 a b i j data_P :=
  (lim_eq (.loop c5 K12) (tL2 a b i j data_P)).trans (sL2 (lim E fin) a b i j data_P)
theorem J3_eq (a : Int) (b : Int) (i : Int) (j : Int) (data_P : List Int) : J3 a b i j data_P = SJ3 L5 L0 a b i j data_P :=
  (lim_eq (.code c4 K10) (tJ3 a b i j data_P)).trans (sJ3 (lim E fin) a b i j data_P)
theorem L4_eq (a : Int) (b : Int) (i : Int) (j : Int) (j_9 : Int) (data_P : List Int) : L4 a b i j j_9 data_P = SL4 J3 L4 a b i j j_9 data_P :=
  (lim_eq (.loop c6 K28) (tL4 a b i j j_9 data_P)).trans (sL4 (lim E fin) a b i j j_9 data_P)
theorem L5_eq (a : Int) (b : Int) (i : Int) (j : Int) (j_10 : Int) (data_P : List Int) : L5 a b i j j_10 data_P = SL5 L0 L5 a b i j j_10 data_P :=
  (lim_eq (.loop c7 K32) (tL5 a b i j j_10 data_P)).trans (sL5 (lim E fin) a b i j j_10 data_P)
end slices_partialInsertionSortOrdered_int
noncomputable def slices_partialInsertionSortOrdered_int (data : List Int) (a : Int) (b : Int) : slices_partialInsertionSortOrdered_int.R :=
  slices_partialInsertionSortOrdered_int.Se slices_partialInsertionSortOrdered_int.L0 data a b
noncomputable def slices_partialInsertionSortOrdered_int.sig : Sig := ⟨slices_partialInsertionSortOrdered_int.ps, slices_partialInsertionSortOrdered_int.rs, fun x => slices_partialInsertionSortOrdered_int x.1 x.2.1 x.2.2.1⟩
theorem slices_partialInsertionSortOrdered_int.ok : CallOK Try.prog 63 slices_partialInsertionSortOrdered_int.sig :=
  callOK_of_lim (E := slices_partialInsertionSortOrdered_int.E) mixed tt_ok (ctxOk_cons ctxOk_nil cmp_Less_int.ok Try.func64 (by kernel_rfl) (by kernel_rfl)) Try.func63 (by kernel_rfl : Try.f63.body = some (bodyOf Try.f63)) Try.ntmps63 (of_decide_eq_true (by kernel_rfl)) (of_decide_eq_true (by kernel_rfl))
    fun x y h => ((lim_eq (.code (bodyOf Try.f63) .ret) (entryFrom 0 slices_partialInsertionSortOrdered_int.ps x)).trans (slices_partialInsertionSortOrdered_int.se (lim slices_partialInsertionSortOrdered_int.E slices_partialInsertionSortOrdered_int.fin) x)).trans h
theorem slices_partialInsertionSortOrdered_int.val (x : (argTy slices_partialInsertionSortOrdered_int.ps).den) : lim slices_partialInsertionSortOrdered_int.E slices_partialInsertionSortOrdered_int.fin (.code (bodyOf Try.f63) .ret) (entryFrom 0 slices_partialInsertionSortOrdered_int.ps x) = slices_partialInsertionSortOrdered_int.sig.run x :=
  (lim_eq (.code (bodyOf Try.f63) .ret) (entryFrom 0 slices_partialInsertionSortOrdered_int.ps x)).trans (slices_partialInsertionSortOrdered_int.se (lim slices_partialInsertionSortOrdered_int.E slices_partialInsertionSortOrdered_int.fin) x)
noncomputable def slices_partialInsertionSortOrdered_int.ctxc (n : Nat) : List (Nat × Sig) := [(64, cmp_Less_int.sigc n)]
noncomputable def slices_partialInsertionSortOrdered_int.sigc (n : Nat) : Sig := ⟨slices_partialInsertionSortOrdered_int.ps, slices_partialInsertionSortOrdered_int.rs, fun x => runs (withCtx slices_partialInsertionSortOrdered_int.E (slices_partialInsertionSortOrdered_int.ctxc n)) slices_partialInsertionSortOrdered_int.fin n (.code (bodyOf Try.f63) .ret) (entryFrom 0 slices_partialInsertionSortOrdered_int.ps x)⟩
theorem slices_partialInsertionSortOrdered_int.sigc_le (n : Nat) : ∀ x y, (slices_partialInsertionSortOrdered_int.sigc n).run x = some y → slices_partialInsertionSortOrdered_int.sig.run x = some y :=
  fun x y h => (slices_partialInsertionSortOrdered_int.val x).symm.trans (runs_lim (E := slices_partialInsertionSortOrdered_int.E) (c := slices_partialInsertionSortOrdered_int.ctxc n) (ctxLe_cons ctxLe_nil (cmp_Less_int.sigc_le n)) h)

/-! ### slices.partitionEqualOrdered[int] -/
namespace slices_partitionEqualOrdered_int
abbrev ps : List PM := [.own (.int .i64), .pure (.int .i64), .pure (.int .i64), .pure (.int .i64)]
abbrev rs : List RM := [.pure (.int .i64)]
abbrev R : Type := Option (Int × List Int × Unit)
noncomputable def E : Env := { tt := tt, ctx := [(64, cmp_Less_int.sig)], nt := 84, ann := [(1000003, [(0, .keep), (1, .keep), (9, .keep), (10, .keep)]), (5, [(0, .keep), (1, .keep), (9, .keep), (10, .keep)]), (1000003, [(0, .keep), (1, .keep), (9, .keep), (10, .keep)]), (7, [(0, .keep), (1, .keep), (9, .keep), (10, .keep)]), (1000005, [(0, .keep), (1, .keep), (9, .keep), (10, .keep)])] }
noncomputable def c0 : Code := sub [1, 1, 1, 1] (bodyOf Try.f65)
noncomputable def c1 : Code := sub [1, 1, 1, 0, 0, 0] (bodyOf Try.f65)
noncomputable def c2 : Code := sub [1, 1, 1, 0, 0, 0, 0, 1] (bodyOf Try.f65)
noncomputable def c3 : Code := sub [1, 1, 1, 0, 0, 0, 0, 1, 1] (bodyOf Try.f65)
noncomputable def c4 : Code := sub [1, 1, 1, 0, 0, 0, 0, 0, 0, 0] (bodyOf Try.f65)
noncomputable def c5 : Code := sub [1, 1, 1, 0, 0, 0, 0, 1, 0, 0, 0] (bodyOf Try.f65)
noncomputable def K4 : Kont := .seq c0 .ret
noncomputable def K5 : Kont := .blk 0 K4
noncomputable def K6 : Kont := .loop c1 K5
noncomputable def K7 : Kont := .blk 1 K6
noncomputable def K8 : Kont := .seq c2 K7
noncomputable def K9 : Kont := .blk 2 K8
noncomputable def K14 : Kont := .seq c3 K7
noncomputable def K15 : Kont := .blk 4 K14
noncomputable def fin : ASt → R := Kret E Try.f65.results.toList ps rs
def tL0 (a : Int) (i : Int) (j : Int) (data_P : List Int) : ASt := ⟨[(10, .one (.val (.int .i64) j)), (9, .one (.val (.int .i64) i)), (1, .one (.val (.int .i64) a)), (0, .one (.own 10000))], [(10000, some ⟨.fixed, .int .i64, data_P⟩)]⟩
def tJ1 (a : Int) (i : Int) (j : Int) (data_P : List Int) : ASt := ⟨[(10, .one (.val (.int .i64) j)), (9, .one (.val (.int .i64) i)), (1, .one (.val (.int .i64) a)), (0, .one (.own 10000))], [(10000, some ⟨.fixed, .int .i64, data_P⟩)]⟩
def tL2 (a : Int) (i : Int) (j : Int) (data_P : List Int) : ASt := ⟨[(10, .one (.val (.int .i64) j)), (9, .one (.val (.int .i64) i)), (1, .one (.val (.int .i64) a)), (0, .one (.own 10000))], [(10000, some ⟨.fixed, .int .i64, data_P⟩)]⟩
def tJ3 (a : Int) (i : Int) (j : Int) (data_P : List Int) : ASt := ⟨[(10, .one (.val (.int .i64) j)), (9, .one (.val (.int .i64) i)), (1, .one (.val (.int .i64) a)), (0, .one (.own 10000))], [(10000, some ⟨.fixed, .int .i64, data_P⟩)]⟩
def tL4 (a : Int) (i : Int) (j : Int) (data_P : List Int) : ASt := ⟨[(10, .one (.val (.int .i64) j)), (9, .one (.val (.int .i64) i)), (1, .one (.val (.int .i64) a)), (0, .one (.own 10000))], [(10000, some ⟨.fixed, .int .i64, data_P⟩)]⟩
noncomputable def SL0 (kL2 : Int → Int → Int → (List Int) → R) (a : Int) (i : Int) (j : Int) (data_P : List Int) : R :=
  kL2 a i j data_P
noncomputable def SJ1 (kL4 : Int → Int → Int → (List Int) → R) (a : Int) (i : Int) (j : Int) (data_P : List Int) : R :=
  kL4 a i j data_P
noncomputable def SL2 (kL2 : Int → Int → Int → (List Int) → R) (kJ1 : Int → Int → Int → (List Int) → R) (a : Int) (i : Int) (j : Int) (data_P : List Int) : R :=
  cond (decide (i ≤ j))
    (cond (decide (0 ≤ a) && decide (a < (data_P.length : Int)))
      (cond (decide (0 ≤ i) && decide (i < (data_P.length : Int)))
        (Option.bind (cmp_Less_int (data_P.getD a.toNat 0) (data_P.getD i.toNat 0)) fun x1 =>
        cond (!x1.1)
          (kL2 a (IntKind.i64.wrap (i + 1)) j data_P)
          (kJ1 a i j data_P))
        none)
      none)
    (kJ1 a i j data_P)
noncomputable def SJ3 (kL0 : Int → Int → Int → (List Int) → R) (a : Int) (i : Int) (j : Int) (data_P : List Int) : R :=
  cond (decide (i > j))
    (some (i, data_P, ()))
    (cond (decide (0 ≤ j) && decide (j < (data_P.length : Int)))
      (cond (decide (0 ≤ i) && decide (i < (data_P.length : Int)))
        (cond (decide (0 ≤ i) && decide (i < (data_P.length : Int)))
          (cond (decide (0 ≤ j) && decide (j < ((data_P.set i.toNat (data_P.getD j.toNat 0)).length : Int)))
            (kL0 a (IntKind.i64.wrap (i + 1)) (IntKind.i64.wrap (j - 1)) ((data_P.set i.toNat (data_P.getD j.toNat 0)).set j.toNat (data_P.getD i.toNat 0)))
            none)
          none)
        none)
      none)
noncomputable def SL4 (kL4 : Int → Int → Int → (List Int) → R) (kJ3 : Int → Int → Int → (List Int) → R) (a : Int) (i : Int) (j : Int) (data_P : List Int) : R :=
  cond (decide (i ≤ j))
    (cond (decide (0 ≤ a) && decide (a < (data_P.length : Int)))
      (cond (decide (0 ≤ j) && decide (j < (data_P.length : Int)))
        (Option.bind (cmp_Less_int (data_P.getD a.toNat 0) (data_P.getD j.toNat 0)) fun x1 =>
        cond x1.1
          (kL4 a i (IntKind.i64.wrap (j - 1)) data_P)
          (kJ3 a i j data_P))
        none)
      none)
    (kJ3 a i j data_P)
noncomputable def Se (kL0 : Int → Int → Int → (List Int) → R) (data : List Int) (a : Int) (b : Int) (pivot : Int) : R :=
  cond (decide (0 ≤ pivot) && decide (pivot < (data.length : Int)))
    (cond (decide (0 ≤ a) && decide (a < (data.length : Int)))
      (cond (decide (0 ≤ a) && decide (a < (data.length : Int)))
        (cond (decide (0 ≤ pivot) && decide (pivot < ((data.set a.toNat (data.getD pivot.toNat 0)).length : Int)))
          (kL0 a (IntKind.i64.wrap (a + 1)) (IntKind.i64.wrap (b - 1)) ((data.set a.toNat (data.getD pivot.toNat 0)).set pivot.toNat (data.getD a.toNat 0)))
          none)
        none)
      none)
    none
theorem sL0 (jmp : Tgt → ASt → R) (a : Int) (i : Int) (j : Int) (data_P : List Int) : run E jmp fin depth c1 (.loop c1 K5) (tL0 a i j data_P) =
    SL0 (fun a i j data_P => jmp (.loop c4 K9) (tL2 a i j data_P)) a i j data_P := by kernel_rfl
theorem sJ1 (jmp : Tgt → ASt → R) (a : Int) (i : Int) (j : Int) (data_P : List Int) : run E jmp fin depth c2 K7 (tJ1 a i j data_P) =
    SJ1 (fun a i j data_P => jmp (.loop c5 K15) (tL4 a i j data_P)) a i j data_P := by kernel_rfl
theorem sL2 (jmp : Tgt → ASt → R) (a : Int) (i : Int) (j : Int) (data_P : List Int) : run E jmp fin depth c4 (.loop c4 K9) (tL2 a i j data_P) =
    SL2 (fun a i j data_P => jmp (.loop c4 K9) (tL2 a i j data_P)) (fun a i j data_P => jmp (.code c2 K7) (tJ1 a i j data_P)) a i j data_P := by kernel_rfl
theorem sJ3 (jmp : Tgt → ASt → R) (a : Int) (i : Int) (j : Int) (data_P : List Int) : run E jmp fin depth c3 K7 (tJ3 a i j data_P) =
    SJ3 (fun a i j data_P => jmp (.loop c1 K5) (tL0 a i j data_P)) a i j data_P := by kernel_rfl
theorem sL4 (jmp : Tgt → ASt → R) (a : Int) (i : Int) (j : Int) (data_P : List Int) : run E jmp fin depth c5 (.loop c5 K15) (tL4 a i j data_P) =
    SL4 (fun a i j data_P => jmp (.loop c5 K15) (tL4 a i j data_P)) (fun a i j data_P => jmp (.code c3 K7) (tJ3 a i j data_P)) a i j data_P := by kernel_rfl
theorem se (jmp : Tgt → ASt → R) (x : (argTy ps).den) : run E jmp fin depth (bodyOf Try.f65) .ret (entryFrom 0 ps x) =
    Se (fun a i j data_P => jmp (.loop c1 K5) (tL0 a i j data_P)) x.1 x.2.1 x.2.2.1 x.2.2.2.1 := by kernel_rfl
noncomputable def L0 (a : Int) (i : Int) (j : Int) (data_P : List Int) : R := lim E fin (.loop c1 K5) (tL0 a i j data_P)
noncomputable def J1 (a : Int) (i : Int) (j : Int) (data_P : List Int) : R := lim E fin (.code c2 K7) (tJ1 a i j data_P)
noncomputable def L2 (a : Int) (i : Int) (j : Int) (data_P : List Int) : R := lim E fin (.loop c4 K9) (tL2 a i j data_P)
noncomputable def J3 (a : Int) (i : Int) (j : Int) (data_P : List Int) : R := lim E fin (.code c3 K7) (tJ3 a i j data_P)
noncomputable def L4 (a : Int) (i : Int) (j : Int) (data_P : List Int) : R := lim E fin (.loop c5 K15) (tL4 a i j data_P)
theorem L0_eq (a : Int) (i : Int) (j : Int) (data_P : List Int) : L0 a i j data_P = SL0 L2 a i j data_P :=
  (lim_eq (.loop c1 K5) (tL0 a i j data_P)).trans (sL0 (lim E fin) a i j data_P)
theorem J1_eq (a : Int) (i : Int) (j : Int) (data_P : List Int) : J1 a i j data_P = SJ1 L4 a i j data_P :=
  (lim_eq (.code c2 K7) (tJ1 a i j data_P)).trans (sJ1 (lim E fin) a i j data_P)
theorem L2_eq (a : Int) (i : Int) (j : Int) (data_P : List Int) : L2 a i j data_P = SL2 L2 J1 a i j data_P :=
  (lim_eq (.loop c4 K9) (tL2 a i j data_P)).trans (sL2 (lim E fin) a i j data_P)
theorem J3_eq (a : Int) (i : Int) (j : Int) (data_P : List Int) : J3 a i j data_P = SJ3 L0 a i j data_P :=
  (lim_eq (.code c3 K7) (tJ3 a i j data_P)).trans (sJ3 (lim E fin) a i j data_P)
theorem L4_eq (a : Int) (i : Int) (j : Int) (data_P : List Int) : L4 a i j data_P = SL4 L4 J3 a i j data_P :=
  (lim_eq (.loop c5 K15) (tL4 a i j data_P)).trans (sL4 (lim E fin) a i j data_P)
end slices_partitionEqualOrdered_int
noncomputable def slices_partitionEqualOrdered_int (data : List Int) (a : Int) (b : Int) (pivot : Int) : slices_partitionEqualOrdered_int.R :=
  slices_partitionEqualOrdered_int.Se slices_partitionEqualOrdered_int.L0 data a b pivot
noncomputable def slices_partitionEqualOrdered_int.sig : Sig := ⟨slices_partitionEqualOrdered_int.ps, slices_partitionEqualOrdered_int.rs, fun x => slices_partitionEqualOrdered_int x.1 x.2.1 x.2.2.1 x.2.2.2.1⟩
theorem slices_partitionEqualOrdered_int.ok : CallOK Try.prog 65 slices_partitionEqualOrdered_int.sig :=
  callOK_of_lim (E := slices_partitionEqualOrdered_int.E) mixed tt_ok (ctxOk_cons ctxOk_nil cmp_Less_int.ok Try.func64 (by kernel_rfl) (by kernel_rfl)) Try.func65 (by kernel_rfl : Try.f65.body = some (bodyOf Try.f65)) Try.ntmps65 (of_decide_eq_true (by kernel_rfl)) (of_decide_eq_true (by kernel_rfl))
    fun x y h => ((lim_eq (.code (bodyOf Try.f65) .ret) (entryFrom 0 slices_partitionEqualOrdered_int.ps x)).trans (slices_partitionEqualOrdered_int.se (lim slices_partitionEqualOrdered_int.E slices_partitionEqualOrdered_int.fin) x)).trans h
theorem slices_partitionEqualOrdered_int.val (x : (argTy slices_partitionEqualOrdered_int.ps).den) : lim slices_partitionEqualOrdered_int.E slices_partitionEqualOrdered_int.fin (.code (bodyOf Try.f65) .ret) (entryFrom 0 slices_partitionEqualOrdered_int.ps x) = slices_partitionEqualOrdered_int.sig.run x :=
  (lim_eq (.code (bodyOf Try.f65) .ret) (entryFrom 0 slices_partitionEqualOrdered_int.ps x)).trans (slices_partitionEqualOrdered_int.se (lim slices_partitionEqualOrdered_int.E slices_partitionEqualOrdered_int.fin) x)
noncomputable def slices_partitionEqualOrdered_int.ctxc (n : Nat) : List (Nat × Sig) := [(64, cmp_Less_int.sigc n)]
noncomputable def slices_partitionEqualOrdered_int.sigc (n : Nat) : Sig := ⟨slices_partitionEqualOrdered_int.ps, slices_partitionEqualOrdered_int.rs, fun x => runs (withCtx slices_partitionEqualOrdered_int.E (slices_partitionEqualOrdered_int.ctxc n)) slices_partitionEqualOrdered_int.fin n (.code (bodyOf Try.f65) .ret) (entryFrom 0 slices_partitionEqualOrdered_int.ps x)⟩
theorem slices_partitionEqualOrdered_int.sigc_le (n : Nat) : ∀ x y, (slices_partitionEqualOrdered_int.sigc n).run x = some y → slices_partitionEqualOrdered_int.sig.run x = some y :=
  fun x y h => (slices_partitionEqualOrdered_int.val x).symm.trans (runs_lim (E := slices_partitionEqualOrdered_int.E) (c := slices_partitionEqualOrdered_int.ctxc n) (ctxLe_cons ctxLe_nil (cmp_Less_int.sigc_le n)) h)

end Go.Proofs.Ytmkkdjnojcmihaa
