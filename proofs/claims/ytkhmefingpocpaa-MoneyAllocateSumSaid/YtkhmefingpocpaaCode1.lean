/- The functions of the program as typed Lean functions, with the proof that they are what the code computes. -/
import Derived.Test.YtkhmefingpocpaaTys
set_option maxRecDepth 100000
set_option linter.unusedVariables false
namespace Go.Proofs.Ytkhmefingpocpaa
open Go Go.Lift

/-! ### guerdon/money.mode -/
namespace money_mode
abbrev ps : List PM := [.pure (.int .i64)]
abbrev rs : List RM := [.pure .bool]
abbrev R : Type := Option (Bool × Unit)
noncomputable def E : Env := { tt := tt, ctx := [], nt := 9, ann := [] }
noncomputable def fin : ASt → R := Kret E Try.f24.results.toList ps rs
noncomputable def Se (m : Int) : R :=
  cond (decide (m ≥ 0))
    (some (decide (m ≤ 5), ()))
    (some (false, ()))
theorem se (jmp : Tgt → ASt → R) (x : (argTy ps).den) : run E jmp fin depth (bodyOf Try.f24) .ret (entryFrom 0 ps x) =
    Se x.1 := by kernel_rfl
end money_mode
noncomputable def money_mode (m : Int) : money_mode.R :=
  money_mode.Se m
noncomputable def money_mode.sig : Sig := ⟨money_mode.ps, money_mode.rs, fun x => money_mode x.1⟩
theorem money_mode.ok : CallOK Try.prog 24 money_mode.sig :=
  callOK_of_lim (E := money_mode.E) mixed tt_ok ctxOk_nil Try.func24 (by kernel_rfl : Try.f24.body = some (bodyOf Try.f24)) Try.ntmps24 (of_decide_eq_true (by kernel_rfl)) (of_decide_eq_true (by kernel_rfl))
    fun x y h => ((lim_eq (.code (bodyOf Try.f24) .ret) (entryFrom 0 money_mode.ps x)).trans (money_mode.se (lim money_mode.E money_mode.fin) x)).trans h
theorem money_mode.val (x : (argTy money_mode.ps).den) : lim money_mode.E money_mode.fin (.code (bodyOf Try.f24) .ret) (entryFrom 0 money_mode.ps x) = money_mode.sig.run x :=
  (lim_eq (.code (bodyOf Try.f24) .ret) (entryFrom 0 money_mode.ps x)).trans (money_mode.se (lim money_mode.E money_mode.fin) x)
noncomputable def money_mode.ctxc (n : Nat) : List (Nat × Sig) := []
noncomputable def money_mode.sigc (n : Nat) : Sig := ⟨money_mode.ps, money_mode.rs, fun x => runs (withCtx money_mode.E (money_mode.ctxc n)) money_mode.fin n (.code (bodyOf Try.f24) .ret) (entryFrom 0 money_mode.ps x)⟩
theorem money_mode.sigc_le (n : Nat) : ∀ x y, (money_mode.sigc n).run x = some y → money_mode.sig.run x = some y :=
  fun x y h => (money_mode.val x).symm.trans (runs_lim (E := money_mode.E) (c := money_mode.ctxc n) ctxLe_nil h)

/-! ### guerdon/money.abs -/
namespace money_abs
abbrev ps : List PM := [.pure (.int .i64)]
abbrev rs : List RM := [.pure (.int .u64)]
abbrev R : Type := Option (Int × Unit)
noncomputable def E : Env := { tt := tt, ctx := [], nt := 10, ann := [] }
noncomputable def fin : ASt → R := Kret E Try.f25.results.toList ps rs
noncomputable def Se (n_0 : Int) : R :=
  cond (decide (n_0 < 0))
    (some (IntKind.u64.wrap (0 - IntKind.u64.wrap n_0), ()))
    (some (IntKind.u64.wrap n_0, ()))
theorem se (jmp : Tgt → ASt → R) (x : (argTy ps).den) : run E jmp fin depth (bodyOf Try.f25) .ret (entryFrom 0 ps x) =
    Se x.1 := by kernel_rfl
end money_abs
noncomputable def money_abs (n_0 : Int) : money_abs.R :=
  money_abs.Se n_0
noncomputable def money_abs.sig : Sig := ⟨money_abs.ps, money_abs.rs, fun x => money_abs x.1⟩
theorem money_abs.ok : CallOK Try.prog 25 money_abs.sig :=
  callOK_of_lim (E := money_abs.E) mixed tt_ok ctxOk_nil Try.func25 (by kernel_rfl : Try.f25.body = some (bodyOf Try.f25)) Try.ntmps25 (of_decide_eq_true (by kernel_rfl)) (of_decide_eq_true (by kernel_rfl))
    fun x y h => ((lim_eq (.code (bodyOf Try.f25) .ret) (entryFrom 0 money_abs.ps x)).trans (money_abs.se (lim money_abs.E money_abs.fin) x)).trans h
theorem money_abs.val (x : (argTy money_abs.ps).den) : lim money_abs.E money_abs.fin (.code (bodyOf Try.f25) .ret) (entryFrom 0 money_abs.ps x) = money_abs.sig.run x :=
  (lim_eq (.code (bodyOf Try.f25) .ret) (entryFrom 0 money_abs.ps x)).trans (money_abs.se (lim money_abs.E money_abs.fin) x)
noncomputable def money_abs.ctxc (n : Nat) : List (Nat × Sig) := []
noncomputable def money_abs.sigc (n : Nat) : Sig := ⟨money_abs.ps, money_abs.rs, fun x => runs (withCtx money_abs.E (money_abs.ctxc n)) money_abs.fin n (.code (bodyOf Try.f25) .ret) (entryFrom 0 money_abs.ps x)⟩
theorem money_abs.sigc_le (n : Nat) : ∀ x y, (money_abs.sigc n).run x = some y → money_abs.sig.run x = some y :=
  fun x y h => (money_abs.val x).symm.trans (runs_lim (E := money_abs.E) (c := money_abs.ctxc n) ctxLe_nil h)

/-! ### guerdon/money.round -/
namespace money_round
abbrev ps : List PM := [.pure (.int .u64), .pure (.int .u64), .pure (.int .u64), .pure .bool, .pure (.int .i64)]
abbrev rs : List RM := [.pure (.int .u64)]
abbrev R : Type := Option (Int × Unit)
noncomputable def E : Env := { tt := tt, ctx := [], nt := 62, ann := [] }
noncomputable def fin : ASt → R := Kret E Try.f27.results.toList ps rs
noncomputable def Se (q : Int) (r_1 : Int) (d : Int) (neg : Bool) (mode : Int) : R :=
  cond (mode == 0)
    (cond neg
      (cond (decide (r_1 > 0))
        (some (IntKind.u64.wrap (q + 1), ()))
        (some (q, ())))
      (some (q, ())))
    (cond (mode == 1)
      (cond (!neg)
        (cond (decide (r_1 > 0))
          (some (IntKind.u64.wrap (q + 1), ()))
          (some (q, ())))
        (some (q, ())))
      (cond (mode == 3)
        (cond (decide (r_1 > 0))
          (some (IntKind.u64.wrap (q + 1), ()))
          (some (q, ())))
        (cond (mode == 4)
          (cond (decide (r_1 ≥ (IntKind.u64.wrap (d - r_1))))
            (some (IntKind.u64.wrap (q + 1), ()))
            (some (q, ())))
          (cond (mode == 5)
            (cond (decide (r_1 > (IntKind.u64.wrap (d - r_1))))
              (some (IntKind.u64.wrap (q + 1), ()))
              (cond (r_1 == (IntKind.u64.wrap (d - r_1)))
                (cond ((Int.tmod q 2) == 1)
                  (some (IntKind.u64.wrap (q + 1), ()))
                  (some (q, ())))
                (some (q, ()))))
            (some (q, ()))))))
theorem se (jmp : Tgt → ASt → R) (x : (argTy ps).den) : run E jmp fin depth (bodyOf Try.f27) .ret (entryFrom 0 ps x) =
    Se x.1 x.2.1 x.2.2.1 x.2.2.2.1 x.2.2.2.2.1 := by kernel_rfl
end money_round
noncomputable def money_round (q : Int) (r_1 : Int) (d : Int) (neg : Bool) (mode : Int) : money_round.R :=
  money_round.Se q r_1 d neg mode
noncomputable def money_round.sig : Sig := ⟨money_round.ps, money_round.rs, fun x => money_round x.1 x.2.1 x.2.2.1 x.2.2.2.1 x.2.2.2.2.1⟩
theorem money_round.ok : CallOK Try.prog 27 money_round.sig :=
  callOK_of_lim (E := money_round.E) mixed tt_ok ctxOk_nil Try.func27 (by kernel_rfl : Try.f27.body = some (bodyOf Try.f27)) Try.ntmps27 (of_decide_eq_true (by kernel_rfl)) (of_decide_eq_true (by kernel_rfl))
    fun x y h => ((lim_eq (.code (bodyOf Try.f27) .ret) (entryFrom 0 money_round.ps x)).trans (money_round.se (lim money_round.E money_round.fin) x)).trans h
theorem money_round.val (x : (argTy money_round.ps).den) : lim money_round.E money_round.fin (.code (bodyOf Try.f27) .ret) (entryFrom 0 money_round.ps x) = money_round.sig.run x :=
  (lim_eq (.code (bodyOf Try.f27) .ret) (entryFrom 0 money_round.ps x)).trans (money_round.se (lim money_round.E money_round.fin) x)
noncomputable def money_round.ctxc (n : Nat) : List (Nat × Sig) := []
noncomputable def money_round.sigc (n : Nat) : Sig := ⟨money_round.ps, money_round.rs, fun x => runs (withCtx money_round.E (money_round.ctxc n)) money_round.fin n (.code (bodyOf Try.f27) .ret) (entryFrom 0 money_round.ps x)⟩
theorem money_round.sigc_le (n : Nat) : ∀ x y, (money_round.sigc n).run x = some y → money_round.sig.run x = some y :=
  fun x y h => (money_round.val x).symm.trans (runs_lim (E := money_round.E) (c := money_round.ctxc n) ctxLe_nil h)

/-! ### guerdon/money.signed -/
namespace money_signed
abbrev ps : List PM := [.pure (.int .u64), .pure .bool]
abbrev rs : List RM := [.pure (.int .i64)]
abbrev R : Type := Option (Int × Unit)
noncomputable def E : Env := { tt := tt, ctx := [], nt := 11, ann := [] }
noncomputable def fin : ASt → R := Kret E Try.f26.results.toList ps rs
noncomputable def Se (n_0 : Int) (neg : Bool) : R :=
  cond neg
    (some (IntKind.i64.wrap (0 - IntKind.i64.wrap n_0), ()))
    (some (IntKind.i64.wrap n_0, ()))
theorem se (jmp : Tgt → ASt → R) (x : (argTy ps).den) : run E jmp fin depth (bodyOf Try.f26) .ret (entryFrom 0 ps x) =
    Se x.1 x.2.1 := by kernel_rfl
end money_signed
noncomputable def money_signed (n_0 : Int) (neg : Bool) : money_signed.R :=
  money_signed.Se n_0 neg
noncomputable def money_signed.sig : Sig := ⟨money_signed.ps, money_signed.rs, fun x => money_signed x.1 x.2.1⟩
theorem money_signed.ok : CallOK Try.prog 26 money_signed.sig :=
  callOK_of_lim (E := money_signed.E) mixed tt_ok ctxOk_nil Try.func26 (by kernel_rfl : Try.f26.body = some (bodyOf Try.f26)) Try.ntmps26 (of_decide_eq_true (by kernel_rfl)) (of_decide_eq_true (by kernel_rfl))
    fun x y h => ((lim_eq (.code (bodyOf Try.f26) .ret) (entryFrom 0 money_signed.ps x)).trans (money_signed.se (lim money_signed.E money_signed.fin) x)).trans h
theorem money_signed.val (x : (argTy money_signed.ps).den) : lim money_signed.E money_signed.fin (.code (bodyOf Try.f26) .ret) (entryFrom 0 money_signed.ps x) = money_signed.sig.run x :=
  (lim_eq (.code (bodyOf Try.f26) .ret) (entryFrom 0 money_signed.ps x)).trans (money_signed.se (lim money_signed.E money_signed.fin) x)
noncomputable def money_signed.ctxc (n : Nat) : List (Nat × Sig) := []
noncomputable def money_signed.sigc (n : Nat) : Sig := ⟨money_signed.ps, money_signed.rs, fun x => runs (withCtx money_signed.E (money_signed.ctxc n)) money_signed.fin n (.code (bodyOf Try.f26) .ret) (entryFrom 0 money_signed.ps x)⟩
theorem money_signed.sigc_le (n : Nat) : ∀ x y, (money_signed.sigc n).run x = some y → money_signed.sig.run x = some y :=
  fun x y h => (money_signed.val x).symm.trans (runs_lim (E := money_signed.E) (c := money_signed.ctxc n) ctxLe_nil h)

/-! ### guerdon/money.DivRound -/
namespace money_DivRound
abbrev ps : List PM := [.pure (.int .i64), .pure (.int .i64), .pure (.int .i64)]
abbrev rs : List RM := [.pure (.int .i64), .pure (.int .i64)]
abbrev R : Type := Option (Int × Int × Unit)
noncomputable def E : Env := { tt := tt, ctx := [(24, money_mode.sig), (25, money_abs.sig), (27, money_round.sig), (26, money_signed.sig)], nt := 48, ann := [(7, [(0, .keep), (1, .keep), (2, .keep)])] }
noncomputable def c0 : Code := sub [1, 1] (bodyOf Try.f10)
noncomputable def fin : ASt → R := Kret E Try.f10.results.toList ps rs
def tJ0 (n_0 : Int) (d : Int) (m : Int) : ASt := ⟨[(2, .one (.val (.int .i64) m)), (1, .one (.val (.int .i64) d)), (0, .one (.val (.int .i64) n_0))], []⟩
noncomputable def SJ0 (n_0 : Int) (d : Int) (m : Int) : R :=
  Option.bind (money_abs n_0) fun x1 =>
  Option.bind (money_abs d) fun x2 =>
  cond (decide (x2.1 = 0))
    none
    (cond (decide (x2.1 = 0))
      none
      (Option.bind (money_round (IntKind.u64.wrap (Int.tdiv x1.1 x2.1)) (Int.tmod x1.1 x2.1) x2.1 (!((decide (n_0 < 0)) == (decide (d < 0)))) m) fun x3 =>
      Option.bind (money_signed x3.1 (!((decide (n_0 < 0)) == (decide (d < 0))))) fun x4 =>
      some (x4.1, 0, ())))
noncomputable def Se (kJ0 : Int → Int → Int → R) (n_0 : Int) (d : Int) (m : Int) : R :=
  Option.bind (money_mode m) fun x1 =>
  cond (!x1.1)
    (some (0, 1, ()))
    (cond (d == 0)
      (some (0, 12, ()))
      (Option.bind (money_abs n_0) fun x2 =>
      cond (decide (x2.1 > 4611686018427387904))
        (some (0, 3, ()))
        (Option.bind (money_abs d) fun x3 =>
        cond (decide (x3.1 > 4611686018427387904))
          (some (0, 3, ()))
          (kJ0 n_0 d m))))
theorem sJ0 (jmp : Tgt → ASt → R) (n_0 : Int) (d : Int) (m : Int) : run E jmp fin depth c0 .ret (tJ0 n_0 d m) =
    SJ0 n_0 d m := by kernel_rfl
theorem se (jmp : Tgt → ASt → R) (x : (argTy ps).den) : run E jmp fin depth (bodyOf Try.f10) .ret (entryFrom 0 ps x) =
    Se (fun n_0 d m => jmp (.code c0 .ret) (tJ0 n_0 d m)) x.1 x.2.1 x.2.2.1 := by kernel_rfl
noncomputable def J0 (n_0 : Int) (d : Int) (m : Int) : R := lim E fin (.code c0 .ret) (tJ0 n_0 d m)
theorem J0_eq (n_0 : Int) (d : Int) (m : Int) : J0 n_0 d m = SJ0 n_0 d m :=
  (lim_eq (.code c0 .ret) (tJ0 n_0 d m)).trans (sJ0 (lim E fin) n_0 d m)
end money_DivRound
noncomputable def money_DivRound (n_0 : Int) (d : Int) (m : Int) : money_DivRound.R :=
  money_DivRound.Se money_DivRound.J0 n_0 d m
noncomputable def money_DivRound.sig : Sig := ⟨money_DivRound.ps, money_DivRound.rs, fun x => money_DivRound x.1 x.2.1 x.2.2.1⟩
theorem money_DivRound.ok : CallOK Try.prog 10 money_DivRound.sig :=
  callOK_of_lim (E := money_DivRound.E) mixed tt_ok (ctxOk_cons (ctxOk_cons (ctxOk_cons (ctxOk_cons ctxOk_nil money_signed.ok Try.func26 (by kernel_rfl) (by kernel_rfl)) money_round.ok Try.func27 (by kernel_rfl) (by kernel_rfl)) money_abs.ok Try.func25 (by kernel_rfl) (by kernel_rfl)) money_mode.ok Try.func24 (by kernel_rfl) (by kernel_rfl)) Try.func10 (by kernel_rfl : Try.f10.body = some (bodyOf Try.f10)) Try.ntmps10 (of_decide_eq_true (by kernel_rfl)) (of_decide_eq_true (by kernel_rfl))
    fun x y h => ((lim_eq (.code (bodyOf Try.f10) .ret) (entryFrom 0 money_DivRound.ps x)).trans (money_DivRound.se (lim money_DivRound.E money_DivRound.fin) x)).trans h
theorem money_DivRound.val (x : (argTy money_DivRound.ps).den) : lim money_DivRound.E money_DivRound.fin (.code (bodyOf Try.f10) .ret) (entryFrom 0 money_DivRound.ps x) = money_DivRound.sig.run x :=
  (lim_eq (.code (bodyOf Try.f10) .ret) (entryFrom 0 money_DivRound.ps x)).trans (money_DivRound.se (lim money_DivRound.E money_DivRound.fin) x)
noncomputable def money_DivRound.ctxc (n : Nat) : List (Nat × Sig) := [(24, money_mode.sigc n), (25, money_abs.sigc n), (27, money_round.sigc n), (26, money_signed.sigc n)]
noncomputable def money_DivRound.sigc (n : Nat) : Sig := ⟨money_DivRound.ps, money_DivRound.rs, fun x => runs (withCtx money_DivRound.E (money_DivRound.ctxc n)) money_DivRound.fin n (.code (bodyOf Try.f10) .ret) (entryFrom 0 money_DivRound.ps x)⟩
theorem money_DivRound.sigc_le (n : Nat) : ∀ x y, (money_DivRound.sigc n).run x = some y → money_DivRound.sig.run x = some y :=
  fun x y h => (money_DivRound.val x).symm.trans (runs_lim (E := money_DivRound.E) (c := money_DivRound.ctxc n) (ctxLe_cons (ctxLe_cons (ctxLe_cons (ctxLe_cons ctxLe_nil (money_signed.sigc_le n)) (money_round.sigc_le n)) (money_abs.sigc_le n)) (money_mode.sigc_le n)) h)

/-! ### guerdon/guerdonref02.Mode -/
namespace ref02_Mode
abbrev ps : List PM := [.pure (.int .i64)]
abbrev rs : List RM := [.pure .bool]
abbrev R : Type := Option (Bool × Unit)
noncomputable def E : Env := { tt := tt, ctx := [], nt := 9, ann := [] }
noncomputable def fin : ASt → R := Kret E Try.f28.results.toList ps rs
noncomputable def Se (m : Int) : R :=
  cond (decide (m ≥ 0))
    (some (decide (m ≤ 5), ()))
    (some (false, ()))
theorem se (jmp : Tgt → ASt → R) (x : (argTy ps).den) : run E jmp fin depth (bodyOf Try.f28) .ret (entryFrom 0 ps x) =
    Se x.1 := by kernel_rfl
end ref02_Mode
noncomputable def ref02_Mode (m : Int) : ref02_Mode.R :=
  ref02_Mode.Se m
noncomputable def ref02_Mode.sig : Sig := ⟨ref02_Mode.ps, ref02_Mode.rs, fun x => ref02_Mode x.1⟩
theorem ref02_Mode.ok : CallOK Try.prog 28 ref02_Mode.sig :=
  callOK_of_lim (E := ref02_Mode.E) mixed tt_ok ctxOk_nil Try.func28 (by kernel_rfl : Try.f28.body = some (bodyOf Try.f28)) Try.ntmps28 (of_decide_eq_true (by kernel_rfl)) (of_decide_eq_true (by kernel_rfl))
    fun x y h => ((lim_eq (.code (bodyOf Try.f28) .ret) (entryFrom 0 ref02_Mode.ps x)).trans (ref02_Mode.se (lim ref02_Mode.E ref02_Mode.fin) x)).trans h
theorem ref02_Mode.val (x : (argTy ref02_Mode.ps).den) : lim ref02_Mode.E ref02_Mode.fin (.code (bodyOf Try.f28) .ret) (entryFrom 0 ref02_Mode.ps x) = ref02_Mode.sig.run x :=
  (lim_eq (.code (bodyOf Try.f28) .ret) (entryFrom 0 ref02_Mode.ps x)).trans (ref02_Mode.se (lim ref02_Mode.E ref02_Mode.fin) x)
noncomputable def ref02_Mode.ctxc (n : Nat) : List (Nat × Sig) := []
noncomputable def ref02_Mode.sigc (n : Nat) : Sig := ⟨ref02_Mode.ps, ref02_Mode.rs, fun x => runs (withCtx ref02_Mode.E (ref02_Mode.ctxc n)) ref02_Mode.fin n (.code (bodyOf Try.f28) .ret) (entryFrom 0 ref02_Mode.ps x)⟩
theorem ref02_Mode.sigc_le (n : Nat) : ∀ x y, (ref02_Mode.sigc n).run x = some y → ref02_Mode.sig.run x = some y :=
  fun x y h => (ref02_Mode.val x).symm.trans (runs_lim (E := ref02_Mode.E) (c := ref02_Mode.ctxc n) ctxLe_nil h)

/-! ### guerdon/guerdonref02.Beyond -/
namespace ref02_Beyond
abbrev ps : List PM := [.pure (.int .i64), .pure (.int .i64)]
abbrev rs : List RM := [.pure .bool]
abbrev R : Type := Option (Bool × Unit)
noncomputable def E : Env := { tt := tt, ctx := [], nt := 14, ann := [] }
noncomputable def fin : ASt → R := Kret E Try.f20.results.toList ps rs
noncomputable def Se (n_0 : Int) (most : Int) : R :=
  cond (decide (n_0 > most))
    (some (true, ()))
    (some (decide (n_0 < (IntKind.i64.wrap (0 - most))), ()))
theorem se (jmp : Tgt → ASt → R) (x : (argTy ps).den) : run E jmp fin depth (bodyOf Try.f20) .ret (entryFrom 0 ps x) =
    Se x.1 x.2.1 := by kernel_rfl
end ref02_Beyond
noncomputable def ref02_Beyond (n_0 : Int) (most : Int) : ref02_Beyond.R :=
  ref02_Beyond.Se n_0 most
noncomputable def ref02_Beyond.sig : Sig := ⟨ref02_Beyond.ps, ref02_Beyond.rs, fun x => ref02_Beyond x.1 x.2.1⟩
theorem ref02_Beyond.ok : CallOK Try.prog 20 ref02_Beyond.sig :=
  callOK_of_lim (E := ref02_Beyond.E) mixed tt_ok ctxOk_nil Try.func20 (by kernel_rfl : Try.f20.body = some (bodyOf Try.f20)) Try.ntmps20 (of_decide_eq_true (by kernel_rfl)) (of_decide_eq_true (by kernel_rfl))
    fun x y h => ((lim_eq (.code (bodyOf Try.f20) .ret) (entryFrom 0 ref02_Beyond.ps x)).trans (ref02_Beyond.se (lim ref02_Beyond.E ref02_Beyond.fin) x)).trans h
theorem ref02_Beyond.val (x : (argTy ref02_Beyond.ps).den) : lim ref02_Beyond.E ref02_Beyond.fin (.code (bodyOf Try.f20) .ret) (entryFrom 0 ref02_Beyond.ps x) = ref02_Beyond.sig.run x :=
  (lim_eq (.code (bodyOf Try.f20) .ret) (entryFrom 0 ref02_Beyond.ps x)).trans (ref02_Beyond.se (lim ref02_Beyond.E ref02_Beyond.fin) x)
noncomputable def ref02_Beyond.ctxc (n : Nat) : List (Nat × Sig) := []
noncomputable def ref02_Beyond.sigc (n : Nat) : Sig := ⟨ref02_Beyond.ps, ref02_Beyond.rs, fun x => runs (withCtx ref02_Beyond.E (ref02_Beyond.ctxc n)) ref02_Beyond.fin n (.code (bodyOf Try.f20) .ret) (entryFrom 0 ref02_Beyond.ps x)⟩
theorem ref02_Beyond.sigc_le (n : Nat) : ∀ x y, (ref02_Beyond.sigc n).run x = some y → ref02_Beyond.sig.run x = some y :=
  fun x y h => (ref02_Beyond.val x).symm.trans (runs_lim (E := ref02_Beyond.E) (c := ref02_Beyond.ctxc n) ctxLe_nil h)

/-! ### guerdon/guerdonref02.Abs -/
namespace ref02_Abs
abbrev ps : List PM := [.pure (.int .i64)]
abbrev rs : List RM := [.pure (.int .i64)]
abbrev R : Type := Option (Int × Unit)
noncomputable def E : Env := { tt := tt, ctx := [], nt := 8, ann := [] }
noncomputable def fin : ASt → R := Kret E Try.f21.results.toList ps rs
noncomputable def Se (n_0 : Int) : R :=
  cond (decide (n_0 < 0))
    (some (IntKind.i64.wrap (0 - n_0), ()))
    (some (n_0, ()))
theorem se (jmp : Tgt → ASt → R) (x : (argTy ps).den) : run E jmp fin depth (bodyOf Try.f21) .ret (entryFrom 0 ps x) =
    Se x.1 := by kernel_rfl
end ref02_Abs
noncomputable def ref02_Abs (n_0 : Int) : ref02_Abs.R :=
  ref02_Abs.Se n_0
noncomputable def ref02_Abs.sig : Sig := ⟨ref02_Abs.ps, ref02_Abs.rs, fun x => ref02_Abs x.1⟩
theorem ref02_Abs.ok : CallOK Try.prog 21 ref02_Abs.sig :=
  callOK_of_lim (E := ref02_Abs.E) mixed tt_ok ctxOk_nil Try.func21 (by kernel_rfl : Try.f21.body = some (bodyOf Try.f21)) Try.ntmps21 (of_decide_eq_true (by kernel_rfl)) (of_decide_eq_true (by kernel_rfl))
    fun x y h => ((lim_eq (.code (bodyOf Try.f21) .ret) (entryFrom 0 ref02_Abs.ps x)).trans (ref02_Abs.se (lim ref02_Abs.E ref02_Abs.fin) x)).trans h
theorem ref02_Abs.val (x : (argTy ref02_Abs.ps).den) : lim ref02_Abs.E ref02_Abs.fin (.code (bodyOf Try.f21) .ret) (entryFrom 0 ref02_Abs.ps x) = ref02_Abs.sig.run x :=
  (lim_eq (.code (bodyOf Try.f21) .ret) (entryFrom 0 ref02_Abs.ps x)).trans (ref02_Abs.se (lim ref02_Abs.E ref02_Abs.fin) x)
noncomputable def ref02_Abs.ctxc (n : Nat) : List (Nat × Sig) := []
noncomputable def ref02_Abs.sigc (n : Nat) : Sig := ⟨ref02_Abs.ps, ref02_Abs.rs, fun x => runs (withCtx ref02_Abs.E (ref02_Abs.ctxc n)) ref02_Abs.fin n (.code (bodyOf Try.f21) .ret) (entryFrom 0 ref02_Abs.ps x)⟩
theorem ref02_Abs.sigc_le (n : Nat) : ∀ x y, (ref02_Abs.sigc n).run x = some y → ref02_Abs.sig.run x = some y :=
  fun x y h => (ref02_Abs.val x).symm.trans (runs_lim (E := ref02_Abs.E) (c := ref02_Abs.ctxc n) ctxLe_nil h)

/-! ### guerdon/guerdonref02.Rounded -/
namespace ref02_Rounded
abbrev ps : List PM := [.pure (.int .i64), .pure (.int .i64), .pure (.int .i64), .pure .bool, .pure (.int .i64)]
abbrev rs : List RM := [.pure (.int .i64)]
abbrev R : Type := Option (Int × Unit)
noncomputable def E : Env := { tt := tt, ctx := [], nt := 65, ann := [(13, [(0, .keep), (3, .keep), (11, .keep)])] }
noncomputable def c0 : Code := sub [1, 1, 1] (bodyOf Try.f29)
noncomputable def fin : ASt → R := Kret E Try.f29.results.toList ps rs
def tJ0 (q : Int) (neg : Bool) (up : Bool) : ASt := ⟨[(11, .one (.val .bool up)), (3, .one (.val .bool neg)), (0, .one (.val (.int .i64) q))], []⟩
noncomputable def SJ0 (q : Int) (neg : Bool) (up : Bool) : R :=
  cond up
    (cond neg
      (some (IntKind.i64.wrap (0 - IntKind.i64.wrap (q + 1)), ()))
      (some (IntKind.i64.wrap (q + 1), ())))
    (cond neg
      (some (IntKind.i64.wrap (0 - q), ()))
      (some (q, ())))
noncomputable def Se (kJ0 : Int → Bool → Bool → R) (q : Int) (r_1 : Int) (d : Int) (neg : Bool) (mode : Int) : R :=
  cond (mode == 0)
    (cond neg
      (kJ0 q neg (decide (r_1 > 0)))
      (kJ0 q neg false))
    (cond (mode == 1)
      (cond (!neg)
        (kJ0 q neg (decide (r_1 > 0)))
        (kJ0 q neg false))
      (cond (mode == 3)
        (kJ0 q neg (decide (r_1 > 0)))
        (cond (mode == 4)
          (kJ0 q neg (decide (r_1 ≥ (IntKind.i64.wrap (d - r_1)))))
          (cond (mode == 5)
            (cond (decide (r_1 > (IntKind.i64.wrap (d - r_1))))
              (kJ0 q neg true)
              (cond (r_1 == (IntKind.i64.wrap (d - r_1)))
                (kJ0 q neg ((Int.tmod q 2) == 1))
                (kJ0 q neg false)))
            (kJ0 q neg false)))))
theorem sJ0 (jmp : Tgt → ASt → R) (q : Int) (neg : Bool) (up : Bool) : run E jmp fin depth c0 .ret (tJ0 q neg up) =
    SJ0 q neg up := by kernel_rfl
theorem se (jmp : Tgt → ASt → R) (x : (argTy ps).den) : run E jmp fin depth (bodyOf Try.f29) .ret (entryFrom 0 ps x) =
    Se (fun q neg up => jmp (.code c0 .ret) (tJ0 q neg up)) x.1 x.2.1 x.2.2.1 x.2.2.2.1 x.2.2.2.2.1 := by kernel_rfl
noncomputable def J0 (q : Int) (neg : Bool) (up : Bool) : R := lim E fin (.code c0 .ret) (tJ0 q neg up)
theorem J0_eq (q : Int) (neg : Bool) (up : Bool) : J0 q neg up = SJ0 q neg up :=
  (lim_eq (.code c0 .ret) (tJ0 q neg up)).trans (sJ0 (lim E fin) q neg up)
end ref02_Rounded
noncomputable def ref02_Rounded (q : Int) (r_1 : Int) (d : Int) (neg : Bool) (mode : Int) : ref02_Rounded.R :=
  ref02_Rounded.Se ref02_Rounded.J0 q r_1 d neg mode
noncomputable def ref02_Rounded.sig : Sig := ⟨ref02_Rounded.ps, ref02_Rounded.rs, fun x => ref02_Rounded x.1 x.2.1 x.2.2.1 x.2.2.2.1 x.2.2.2.2.1⟩
theorem ref02_Rounded.ok : CallOK Try.prog 29 ref02_Rounded.sig :=
  callOK_of_lim (E := ref02_Rounded.E) mixed tt_ok ctxOk_nil Try.func29 (by kernel_rfl : Try.f29.body = some (bodyOf Try.f29)) Try.ntmps29 (of_decide_eq_true (by kernel_rfl)) (of_decide_eq_true (by kernel_rfl))
    fun x y h => ((lim_eq (.code (bodyOf Try.f29) .ret) (entryFrom 0 ref02_Rounded.ps x)).trans (ref02_Rounded.se (lim ref02_Rounded.E ref02_Rounded.fin) x)).trans h
theorem ref02_Rounded.val (x : (argTy ref02_Rounded.ps).den) : lim ref02_Rounded.E ref02_Rounded.fin (.code (bodyOf Try.f29) .ret) (entryFrom 0 ref02_Rounded.ps x) = ref02_Rounded.sig.run x :=
  (lim_eq (.code (bodyOf Try.f29) .ret) (entryFrom 0 ref02_Rounded.ps x)).trans (ref02_Rounded.se (lim ref02_Rounded.E ref02_Rounded.fin) x)
noncomputable def ref02_Rounded.ctxc (n : Nat) : List (Nat × Sig) := []
noncomputable def ref02_Rounded.sigc (n : Nat) : Sig := ⟨ref02_Rounded.ps, ref02_Rounded.rs, fun x => runs (withCtx ref02_Rounded.E (ref02_Rounded.ctxc n)) ref02_Rounded.fin n (.code (bodyOf Try.f29) .ret) (entryFrom 0 ref02_Rounded.ps x)⟩
theorem ref02_Rounded.sigc_le (n : Nat) : ∀ x y, (ref02_Rounded.sigc n).run x = some y → ref02_Rounded.sig.run x = some y :=
  fun x y h => (ref02_Rounded.val x).symm.trans (runs_lim (E := ref02_Rounded.E) (c := ref02_Rounded.ctxc n) ctxLe_nil h)

/-! ### guerdon/guerdonref02.DivRound -/
namespace ref02_DivRound
abbrev ps : List PM := [.pure (.int .i64), .pure (.int .i64), .pure (.int .i64)]
abbrev rs : List RM := [.pure (.int .i64), .pure (.int .i64)]
abbrev R : Type := Option (Int × Int × Unit)
noncomputable def E : Env := { tt := tt, ctx := [(28, ref02_Mode.sig), (20, ref02_Beyond.sig), (21, ref02_Abs.sig), (29, ref02_Rounded.sig)], nt := 39, ann := [(7, [(0, .keep), (1, .keep), (2, .keep)])] }
noncomputable def c0 : Code := sub [1, 1, 1, 1] (bodyOf Try.f11)
noncomputable def fin : ASt → R := Kret E Try.f11.results.toList ps rs
def tJ0 (n_0 : Int) (d : Int) (mode : Int) : ASt := ⟨[(2, .one (.val (.int .i64) mode)), (1, .one (.val (.int .i64) d)), (0, .one (.val (.int .i64) n_0))], []⟩
noncomputable def SJ0 (n_0 : Int) (d : Int) (mode : Int) : R :=
  Option.bind (ref02_Abs n_0) fun x1 =>
  Option.bind (ref02_Abs d) fun x2 =>
  cond (decide (x2.1 = 0))
    none
    (cond (decide (x2.1 = 0))
      none
      (Option.bind (ref02_Rounded (IntKind.i64.wrap (Int.tdiv x1.1 x2.1)) (Int.tmod x1.1 x2.1) x2.1 (!((decide (n_0 < 0)) == (decide (d < 0)))) mode) fun x3 =>
      some (x3.1, 0, ())))
noncomputable def Se (kJ0 : Int → Int → Int → R) (n_0 : Int) (d : Int) (mode : Int) : R :=
  Option.bind (ref02_Mode mode) fun x1 =>
  cond (!x1.1)
    (some (0, 1, ()))
    (cond (d == 0)
      (some (0, 12, ()))
      (Option.bind (ref02_Beyond n_0 4611686018427387904) fun x2 =>
      cond x2.1
        (some (0, 3, ()))
        (Option.bind (ref02_Beyond d 4611686018427387904) fun x3 =>
        cond x3.1
          (some (0, 3, ()))
          (kJ0 n_0 d mode))))
theorem sJ0 (jmp : Tgt → ASt → R) (n_0 : Int) (d : Int) (mode : Int) : run E jmp fin depth c0 .ret (tJ0 n_0 d mode) =
    SJ0 n_0 d mode := by kernel_rfl
theorem se (jmp : Tgt → ASt → R) (x : (argTy ps).den) : run E jmp fin depth (bodyOf Try.f11) .ret (entryFrom 0 ps x) =
    Se (fun n_0 d mode => jmp (.code c0 .ret) (tJ0 n_0 d mode)) x.1 x.2.1 x.2.2.1 := by kernel_rfl
noncomputable def J0 (n_0 : Int) (d : Int) (mode : Int) : R := lim E fin (.code c0 .ret) (tJ0 n_0 d mode)
theorem J0_eq (n_0 : Int) (d : Int) (mode : Int) : J0 n_0 d mode = SJ0 n_0 d mode :=
  (lim_eq (.code c0 .ret) (tJ0 n_0 d mode)).trans (sJ0 (lim E fin) n_0 d mode)
end ref02_DivRound
noncomputable def ref02_DivRound (n_0 : Int) (d : Int) (mode : Int) : ref02_DivRound.R :=
  ref02_DivRound.Se ref02_DivRound.J0 n_0 d mode
noncomputable def ref02_DivRound.sig : Sig := ⟨ref02_DivRound.ps, ref02_DivRound.rs, fun x => ref02_DivRound x.1 x.2.1 x.2.2.1⟩
theorem ref02_DivRound.ok : CallOK Try.prog 11 ref02_DivRound.sig :=
  callOK_of_lim (E := ref02_DivRound.E) mixed tt_ok (ctxOk_cons (ctxOk_cons (ctxOk_cons (ctxOk_cons ctxOk_nil ref02_Rounded.ok Try.func29 (by kernel_rfl) (by kernel_rfl)) ref02_Abs.ok Try.func21 (by kernel_rfl) (by kernel_rfl)) ref02_Beyond.ok Try.func20 (by kernel_rfl) (by kernel_rfl)) ref02_Mode.ok Try.func28 (by kernel_rfl) (by kernel_rfl)) Try.func11 (by kernel_rfl : Try.f11.body = some (bodyOf Try.f11)) Try.ntmps11 (of_decide_eq_true (by kernel_rfl)) (of_decide_eq_true (by kernel_rfl))
    fun x y h => ((lim_eq (.code (bodyOf Try.f11) .ret) (entryFrom 0 ref02_DivRound.ps x)).trans (ref02_DivRound.se (lim ref02_DivRound.E ref02_DivRound.fin) x)).trans h
theorem ref02_DivRound.val (x : (argTy ref02_DivRound.ps).den) : lim ref02_DivRound.E ref02_DivRound.fin (.code (bodyOf Try.f11) .ret) (entryFrom 0 ref02_DivRound.ps x) = ref02_DivRound.sig.run x :=
  (lim_eq (.code (bodyOf Try.f11) .ret) (entryFrom 0 ref02_DivRound.ps x)).trans (ref02_DivRound.se (lim ref02_DivRound.E ref02_DivRound.fin) x)
noncomputable def ref02_DivRound.ctxc (n : Nat) : List (Nat × Sig) := [(28, ref02_Mode.sigc n), (20, ref02_Beyond.sigc n), (21, ref02_Abs.sigc n), (29, ref02_Rounded.sigc n)]
noncomputable def ref02_DivRound.sigc (n : Nat) : Sig := ⟨ref02_DivRound.ps, ref02_DivRound.rs, fun x => runs (withCtx ref02_DivRound.E (ref02_DivRound.ctxc n)) ref02_DivRound.fin n (.code (bodyOf Try.f11) .ret) (entryFrom 0 ref02_DivRound.ps x)⟩
theorem ref02_DivRound.sigc_le (n : Nat) : ∀ x y, (ref02_DivRound.sigc n).run x = some y → ref02_DivRound.sig.run x = some y :=
  fun x y h => (ref02_DivRound.val x).symm.trans (runs_lim (E := ref02_DivRound.E) (c := ref02_DivRound.ctxc n) (ctxLe_cons (ctxLe_cons (ctxLe_cons (ctxLe_cons ctxLe_nil (ref02_Rounded.sigc_le n)) (ref02_Abs.sigc_le n)) (ref02_Beyond.sigc_le n)) (ref02_Mode.sigc_le n)) h)

/-! ### math/bits.Mul64 -/
namespace math_bits_Mul64
abbrev ps : List PM := [.pure (.int .u64), .pure (.int .u64)]
abbrev rs : List RM := [.pure (.int .u64), .pure (.int .u64)]
abbrev R : Type := Option (Int × Int × Unit)
noncomputable def E : Env := { tt := tt, ctx := [], nt := 51, ann := [] }
noncomputable def fin : ASt → R := Kret E Try.f30.results.toList ps rs
noncomputable def Se (x_0 : Int) (y : Int) : R :=
  some (IntKind.u64.wrap ((IntKind.u64.wrap ((IntKind.u64.wrap ((Int.fdiv x_0 (2 ^ (min 32 IntKind.u64.bits))) * (Int.fdiv y (2 ^ (min 32 IntKind.u64.bits))))) + (Int.fdiv (IntKind.u64.wrap ((IntKind.u64.wrap ((Int.fdiv x_0 (2 ^ (min 32 IntKind.u64.bits))) * (IntKind.u64.wrap (BitVec.ofInt IntKind.u64.bits y &&& BitVec.ofInt IntKind.u64.bits 4294967295).toNat))) + (Int.fdiv (IntKind.u64.wrap ((IntKind.u64.wrap (BitVec.ofInt IntKind.u64.bits x_0 &&& BitVec.ofInt IntKind.u64.bits 4294967295).toNat) * (IntKind.u64.wrap (BitVec.ofInt IntKind.u64.bits y &&& BitVec.ofInt IntKind.u64.bits 4294967295).toNat))) (2 ^ (min 32 IntKind.u64.bits))))) (2 ^ (min 32 IntKind.u64.bits))))) + (Int.fdiv (IntKind.u64.wrap ((IntKind.u64.wrap (BitVec.ofInt IntKind.u64.bits (IntKind.u64.wrap ((IntKind.u64.wrap ((Int.fdiv x_0 (2 ^ (min 32 IntKind.u64.bits))) * (IntKind.u64.wrap (BitVec.ofInt IntKind.u64.bits y &&& BitVec.ofInt IntKind.u64.bits 4294967295).toNat))) + (Int.fdiv (IntKind.u64.wrap ((IntKind.u64.wrap (BitVec.ofInt IntKind.u64.bits x_0 &&& BitVec.ofInt IntKind.u64.bits 4294967295).toNat) * (IntKind.u64.wrap (BitVec.ofInt IntKind.u64.bits y &&& BitVec.ofInt IntKind.u64.bits 4294967295).toNat))) (2 ^ (min 32 IntKind.u64.bits))))) &&& BitVec.ofInt IntKind.u64.bits 4294967295).toNat) + (IntKind.u64.wrap ((IntKind.u64.wrap (BitVec.ofInt IntKind.u64.bits x_0 &&& BitVec.ofInt IntKind.u64.bits 4294967295).toNat) * (Int.fdiv y (2 ^ (min 32 IntKind.u64.bits))))))) (2 ^ (min 32 IntKind.u64.bits)))), IntKind.u64.wrap (x_0 * y), ())
theorem se (jmp : Tgt → ASt → R) (x : (argTy ps).den) : run E jmp fin depth (bodyOf Try.f30) .ret (entryFrom 0 ps x) =
    Se x.1 x.2.1 := by kernel_rfl
end math_bits_Mul64
noncomputable def math_bits_Mul64 (x_0 : Int) (y : Int) : math_bits_Mul64.R :=
  math_bits_Mul64.Se x_0 y
noncomputable def math_bits_Mul64.sig : Sig := ⟨math_bits_Mul64.ps, math_bits_Mul64.rs, fun x => math_bits_Mul64 x.1 x.2.1⟩
theorem math_bits_Mul64.ok : CallOK Try.prog 30 math_bits_Mul64.sig :=
  callOK_of_lim (E := math_bits_Mul64.E) mixed tt_ok ctxOk_nil Try.func30 (by kernel_rfl : Try.f30.body = some (bodyOf Try.f30)) Try.ntmps30 (of_decide_eq_true (by kernel_rfl)) (of_decide_eq_true (by kernel_rfl))
    fun x y h => ((lim_eq (.code (bodyOf Try.f30) .ret) (entryFrom 0 math_bits_Mul64.ps x)).trans (math_bits_Mul64.se (lim math_bits_Mul64.E math_bits_Mul64.fin) x)).trans h
theorem math_bits_Mul64.val (x : (argTy math_bits_Mul64.ps).den) : lim math_bits_Mul64.E math_bits_Mul64.fin (.code (bodyOf Try.f30) .ret) (entryFrom 0 math_bits_Mul64.ps x) = math_bits_Mul64.sig.run x :=
  (lim_eq (.code (bodyOf Try.f30) .ret) (entryFrom 0 math_bits_Mul64.ps x)).trans (math_bits_Mul64.se (lim math_bits_Mul64.E math_bits_Mul64.fin) x)
noncomputable def math_bits_Mul64.ctxc (n : Nat) : List (Nat × Sig) := []
noncomputable def math_bits_Mul64.sigc (n : Nat) : Sig := ⟨math_bits_Mul64.ps, math_bits_Mul64.rs, fun x => runs (withCtx math_bits_Mul64.E (math_bits_Mul64.ctxc n)) math_bits_Mul64.fin n (.code (bodyOf Try.f30) .ret) (entryFrom 0 math_bits_Mul64.ps x)⟩
theorem math_bits_Mul64.sigc_le (n : Nat) : ∀ x y, (math_bits_Mul64.sigc n).run x = some y → math_bits_Mul64.sig.run x = some y :=
  fun x y h => (math_bits_Mul64.val x).symm.trans (runs_lim (E := math_bits_Mul64.E) (c := math_bits_Mul64.ctxc n) ctxLe_nil h)

/-! ### math/bits.Len64 -/
namespace math_bits_Len64
abbrev ps : List PM := [.pure (.int .u64)]
abbrev rs : List RM := [.pure (.int .i64)]
abbrev R : Type := Option (Int × Unit)
noncomputable def E : Env := { tt := tt, ctx := [], nt := 25, ann := [(4, [(0, .keep), (2, .keep)]), (7, [(0, .keep), (2, .keep)])] }
noncomputable def c0 : Code := sub [1, 1] (bodyOf Try.f39)
noncomputable def c1 : Code := sub [1, 1, 1] (bodyOf Try.f39)
noncomputable def fin : ASt → R := Kret E Try.f39.results.toList ps rs
def tJ0 (x_0 : Int) (n_2 : Int) : ASt := ⟨[(2, .one (.val (.int .i64) n_2)), (0, .one (.val (.int .u64) x_0))], []⟩
def tJ1 (x_0 : Int) (n_2 : Int) : ASt := ⟨[(2, .one (.val (.int .i64) n_2)), (0, .one (.val (.int .u64) x_0))], []⟩
noncomputable def SJ0 (kJ1 : Int → Int → R) (x_0 : Int) (n_2 : Int) : R :=
  cond (decide (x_0 ≥ 65536))
    (kJ1 (Int.fdiv x_0 (2 ^ (min 16 IntKind.u64.bits))) (IntKind.i64.wrap (n_2 + 16)))
    (kJ1 x_0 n_2)
noncomputable def SJ1 (x_0 : Int) (n_2 : Int) : R :=
  cond (decide (x_0 ≥ 256))
    (Option.bind (idx ([0, 1, 2, 2, 3, 3, 3, 3, 4, 4, 4, 4, 4, 4, 4, 4, 5, 5, 5, 5, 5, 5, 5, 5, 5, 5, 5, 5, 5, 5, 5, 5, 6, 6, 6, 6, 6, 6, 6, 6, 6, 6, 6, 6, 6, 6, 6, 6, 6, 6, 6, 6, 6, 6, 6, 6, 6, 6, 6, 6, 6, 6, 6, 6, 7, 7, 7, 7, 7, 7, 7, 7, 7, 7, 7, 7, 7, 7, 7, 7, 7, 7, 7, 7, 7, 7, 7, 7, 7, 7, 7, 7, 7, 7, 7, 7, 7, 7, 7, 7, 7, 7, 7, 7, 7, 7, 7, 7, 7, 7, 7, 7, 7, 7, 7, 7, 7, 7, 7, 7, 7, 7, 7, 7, 7, 7, 7, 7, 8, 8, 8, 8, 8, 8, 8, 8, 8, 8, 8, 8, 8, 8, 8, 8, 8, 8, 8, 8, 8, 8, 8, 8, 8, 8, 8, 8, 8, 8, 8, 8, 8, 8, 8, 8, 8, 8, 8, 8, 8, 8, 8, 8, 8, 8, 8, 8, 8, 8, 8, 8, 8, 8, 8, 8, 8, 8, 8, 8, 8, 8, 8, 8, 8, 8, 8, 8, 8, 8, 8, 8, 8, 8, 8, 8, 8, 8, 8, 8, 8, 8, 8, 8, 8, 8, 8, 8, 8, 8, 8, 8, 8, 8, 8, 8, 8, 8, 8, 8, 8, 8, 8, 8, 8, 8, 8, 8, 8, 8, 8, 8, 8, 8, 8, 8, 8, 8, 8, 8, 8, 8, 8, 8, 8, 8, 8, 8] : List UInt8) (IntKind.u8.wrap (Int.fdiv x_0 (2 ^ (min 8 IntKind.u64.bits))))) fun x1 =>
    some (IntKind.i64.wrap ((IntKind.i64.wrap (n_2 + 8)) + (IntKind.i64.wrap (x1.toNat : Int))), ()))
    (Option.bind (idx ([0, 1, 2, 2, 3, 3, 3, 3, 4, 4, 4, 4, 4, 4, 4, 4, 5, 5, 5, 5, 5, 5, 5, 5, 5, 5, 5, 5, 5, 5, 5, 5, 6, 6, 6, 6, 6, 6, 6, 6, 6, 6, 6, 6, 6, 6, 6, 6, 6, 6, 6, 6, 6, 6, 6, 6, 6, 6, 6, 6, 6, 6, 6, 6, 7, 7, 7, 7, 7, 7, 7, 7, 7, 7, 7, 7, 7, 7, 7, 7, 7, 7, 7, 7, 7, 7, 7, 7, 7, 7, 7, 7, 7, 7, 7, 7, 7, 7, 7, 7, 7, 7, 7, 7, 7, 7, 7, 7, 7, 7, 7, 7, 7, 7, 7, 7, 7, 7, 7, 7, 7, 7, 7, 7, 7, 7, 7, 7, 8, 8, 8, 8, 8, 8, 8, 8, 8, 8, 8, 8, 8, 8, 8, 8, 8, 8, 8, 8, 8, 8, 8, 8, 8, 8, 8, 8, 8, 8, 8, 8, 8, 8, 8, 8, 8, 8, 8, 8, 8, 8, 8, 8, 8, 8, 8, 8, 8, 8, 8, 8, 8, 8, 8, 8, 8, 8, 8, 8, 8, 8, 8, 8, 8, 8, 8, 8, 8, 8, 8, 8, 8, 8, 8, 8, 8, 8, 8, 8, 8, 8, 8, 8, 8, 8, 8, 8, 8, 8, 8, 8, 8, 8, 8, 8, 8, 8, 8, 8, 8, 8, 8, 8, 8, 8, 8, 8, 8, 8, 8, 8, 8, 8, 8, 8, 8, 8, 8, 8, 8, 8, 8, 8, 8, 8, 8, 8] : List UInt8) (IntKind.u8.wrap x_0)) fun x2 =>
    some (IntKind.i64.wrap (n_2 + (IntKind.i64.wrap (x2.toNat : Int))), ()))
noncomputable def Se (kJ0 : Int → Int → R) (x_0 : Int) : R :=
  cond (decide (x_0 ≥ 4294967296))
    (kJ0 (Int.fdiv x_0 (2 ^ (min 32 IntKind.u64.bits))) 32)
    (kJ0 x_0 0)
theorem sJ0 (jmp : Tgt → ASt → R) (x_0 : Int) (n_2 : Int) : run E jmp fin depth c0 .ret (tJ0 x_0 n_2) =
    SJ0 (fun x_0 n_2 => jmp (.code c1 .ret) (tJ1 x_0 n_2)) x_0 n_2 := by kernel_rfl
theorem sJ1 (jmp : Tgt → ASt → R) (x_0 : Int) (n_2 : Int) : run E jmp fin depth c1 .ret (tJ1 x_0 n_2) =
    SJ1 x_0 n_2 := by kernel_rfl
theorem se (jmp : Tgt → ASt → R) (x : (argTy ps).den) : run E jmp fin depth (bodyOf Try.f39) .ret (entryFrom 0 ps x) =
    Se (fun x_0 n_2 => jmp (.code c0 .ret) (tJ0 x_0 n_2)) x.1 := by kernel_rfl
noncomputable def J0 (x_0 : Int) (n_2 : Int) : R := lim E fin (.code c0 .ret) (tJ0 x_0 n_2)
noncomputable def J1 (x_0 : Int) (n_2 : Int) : R := lim E fin (.code c1 .ret) (tJ1 x_0 n_2)
theorem J0_eq (x_0 : Int) (n_2 : Int) : J0 x_0 n_2 = SJ0 J1 x_0 n_2 :=
  (lim_eq (.code c0 .ret) (tJ0 x_0 n_2)).trans (sJ0 (lim E fin) x_0 n_2)
theorem J1_eq (x_0 : Int) (n_2 : Int) : J1 x_0 n_2 = SJ1 x_0 n_2 :=
  (lim_eq (.code c1 .ret) (tJ1 x_0 n_2)).trans (sJ1 (lim E fin) x_0 n_2)
end math_bits_Len64
noncomputable def math_bits_Len64 (x_0 : Int) : math_bits_Len64.R :=
  math_bits_Len64.Se math_bits_Len64.J0 x_0
noncomputable def math_bits_Len64.sig : Sig := ⟨math_bits_Len64.ps, math_bits_Len64.rs, fun x => math_bits_Len64 x.1⟩
theorem math_bits_Len64.ok : CallOK Try.prog 39 math_bits_Len64.sig :=
  callOK_of_lim (E := math_bits_Len64.E) mixed tt_ok ctxOk_nil Try.func39 (by kernel_rfl : Try.f39.body = some (bodyOf Try.f39)) Try.ntmps39 (of_decide_eq_true (by kernel_rfl)) (of_decide_eq_true (by kernel_rfl))
    fun x y h => ((lim_eq (.code (bodyOf Try.f39) .ret) (entryFrom 0 math_bits_Len64.ps x)).trans (math_bits_Len64.se (lim math_bits_Len64.E math_bits_Len64.fin) x)).trans h
theorem math_bits_Len64.val (x : (argTy math_bits_Len64.ps).den) : lim math_bits_Len64.E math_bits_Len64.fin (.code (bodyOf Try.f39) .ret) (entryFrom 0 math_bits_Len64.ps x) = math_bits_Len64.sig.run x :=
  (lim_eq (.code (bodyOf Try.f39) .ret) (entryFrom 0 math_bits_Len64.ps x)).trans (math_bits_Len64.se (lim math_bits_Len64.E math_bits_Len64.fin) x)
noncomputable def math_bits_Len64.ctxc (n : Nat) : List (Nat × Sig) := []
noncomputable def math_bits_Len64.sigc (n : Nat) : Sig := ⟨math_bits_Len64.ps, math_bits_Len64.rs, fun x => runs (withCtx math_bits_Len64.E (math_bits_Len64.ctxc n)) math_bits_Len64.fin n (.code (bodyOf Try.f39) .ret) (entryFrom 0 math_bits_Len64.ps x)⟩
theorem math_bits_Len64.sigc_le (n : Nat) : ∀ x y, (math_bits_Len64.sigc n).run x = some y → math_bits_Len64.sig.run x = some y :=
  fun x y h => (math_bits_Len64.val x).symm.trans (runs_lim (E := math_bits_Len64.E) (c := math_bits_Len64.ctxc n) ctxLe_nil h)

/-! ### math/bits.LeadingZeros64 -/
namespace math_bits_LeadingZeros64
abbrev ps : List PM := [.pure (.int .u64)]
abbrev rs : List RM := [.pure (.int .i64)]
abbrev R : Type := Option (Int × Unit)
noncomputable def E : Env := { tt := tt, ctx := [(39, math_bits_Len64.sig)], nt := 6, ann := [] }
noncomputable def fin : ASt → R := Kret E Try.f35.results.toList ps rs
noncomputable def Se (x_0 : Int) : R :=
  Option.bind (math_bits_Len64 x_0) fun x1 =>
  some (IntKind.i64.wrap (64 - x1.1), ())
theorem se (jmp : Tgt → ASt → R) (x : (argTy ps).den) : run E jmp fin depth (bodyOf Try.f35) .ret (entryFrom 0 ps x) =
    Se x.1 := by kernel_rfl
end math_bits_LeadingZeros64
noncomputable def math_bits_LeadingZeros64 (x_0 : Int) : math_bits_LeadingZeros64.R :=
  math_bits_LeadingZeros64.Se x_0
noncomputable def math_bits_LeadingZeros64.sig : Sig := ⟨math_bits_LeadingZeros64.ps, math_bits_LeadingZeros64.rs, fun x => math_bits_LeadingZeros64 x.1⟩
theorem math_bits_LeadingZeros64.ok : CallOK Try.prog 35 math_bits_LeadingZeros64.sig :=
  callOK_of_lim (E := math_bits_LeadingZeros64.E) mixed tt_ok (ctxOk_cons ctxOk_nil math_bits_Len64.ok Try.func39 (by kernel_rfl) (by kernel_rfl)) Try.func35 (by kernel_rfl : Try.f35.body = some (bodyOf Try.f35)) Try.ntmps35 (of_decide_eq_true (by kernel_rfl)) (of_decide_eq_true (by kernel_rfl))
    fun x y h => ((lim_eq (.code (bodyOf Try.f35) .ret) (entryFrom 0 math_bits_LeadingZeros64.ps x)).trans (math_bits_LeadingZeros64.se (lim math_bits_LeadingZeros64.E math_bits_LeadingZeros64.fin) x)).trans h
theorem math_bits_LeadingZeros64.val (x : (argTy math_bits_LeadingZeros64.ps).den) : lim math_bits_LeadingZeros64.E math_bits_LeadingZeros64.fin (.code (bodyOf Try.f35) .ret) (entryFrom 0 math_bits_LeadingZeros64.ps x) = math_bits_LeadingZeros64.sig.run x :=
  (lim_eq (.code (bodyOf Try.f35) .ret) (entryFrom 0 math_bits_LeadingZeros64.ps x)).trans (math_bits_LeadingZeros64.se (lim math_bits_LeadingZeros64.E math_bits_LeadingZeros64.fin) x)
noncomputable def math_bits_LeadingZeros64.ctxc (n : Nat) : List (Nat × Sig) := [(39, math_bits_Len64.sigc n)]
noncomputable def math_bits_LeadingZeros64.sigc (n : Nat) : Sig := ⟨math_bits_LeadingZeros64.ps, math_bits_LeadingZeros64.rs, fun x => runs (withCtx math_bits_LeadingZeros64.E (math_bits_LeadingZeros64.ctxc n)) math_bits_LeadingZeros64.fin n (.code (bodyOf Try.f35) .ret) (entryFrom 0 math_bits_LeadingZeros64.ps x)⟩
theorem math_bits_LeadingZeros64.sigc_le (n : Nat) : ∀ x y, (math_bits_LeadingZeros64.sigc n).run x = some y → math_bits_LeadingZeros64.sig.run x = some y :=
  fun x y h => (math_bits_LeadingZeros64.val x).symm.trans (runs_lim (E := math_bits_LeadingZeros64.E) (c := math_bits_LeadingZeros64.ctxc n) (ctxLe_cons ctxLe_nil (math_bits_Len64.sigc_le n)) h)

/-! ### math/bits.Div64 -/
namespace math_bits_Div64
abbrev ps : List PM := [.pure (.int .u64), .pure (.int .u64), .pure (.int .u64)]
abbrev rs : List RM := [.pure (.int .u64), .pure (.int .u64)]
abbrev R : Type := Option (Int × Int × Unit)
noncomputable def E : Env := { tt := tt, ctx := [(35, math_bits_LeadingZeros64.sig)], nt := 135, ann := [(3, [(0, .keep), (1, .keep), (2, .keep)]), (5, [(0, .keep), (1, .keep), (2, .keep)]), (21, [(2, .keep), (8, .keep), (9, .keep), (10, .keep), (11, .keep), (13, .keep), (14, .keep), (15, .keep)]), (1000017, [(2, .keep), (8, .keep), (9, .keep), (10, .keep), (11, .keep), (13, .keep), (14, .keep), (15, .keep), (16, .keep)]), (18, [(2, .keep), (8, .keep), (9, .keep), (10, .keep), (11, .keep), (13, .keep), (14, .keep), (15, .keep), (16, .keep)]), (28, [(2, .keep), (8, .keep), (14, .keep), (15, .keep), (17, .keep), (18, .keep)]), (1000024, [(2, .keep), (8, .keep), (9, .keep), (10, .keep), (14, .keep), (15, .keep), (16, .keep), (17, .keep), (18, .keep)]), (25, [(2, .keep), (8, .keep), (9, .keep), (10, .keep), (14, .keep), (15, .keep), (16, .keep), (17, .keep), (18, .keep)])] }
noncomputable def c0 : Code := sub [1, 1, 1, 1, 1, 1, 1, 1, 1, 1, 1, 1, 1, 1, 1] (bodyOf Try.f31)
noncomputable def c1 : Code := sub [1, 1, 1, 1, 1, 1, 1, 1, 1, 1, 1, 1, 1, 1, 0, 0, 0] (bodyOf Try.f31)
noncomputable def c2 : Code := sub [1, 1, 1, 1, 1, 1, 1, 1, 1, 1, 1, 1, 1, 1, 1, 1, 1, 1, 1] (bodyOf Try.f31)
noncomputable def c3 : Code := sub [1, 1, 1, 1, 1, 1, 1, 1, 1, 1, 1, 1, 1, 1, 1, 1, 1, 1, 0, 0, 0] (bodyOf Try.f31)
noncomputable def c4 : Code := sub [1, 1] (bodyOf Try.f31)
noncomputable def c5 : Code := sub [1, 1, 1] (bodyOf Try.f31)
noncomputable def c6 : Code := sub [1, 1, 1, 1, 1, 1, 1, 1, 1, 1, 1, 1, 1, 1, 0, 0, 0, 1] (bodyOf Try.f31)
noncomputable def c7 : Code := sub [1, 1, 1, 1, 1, 1, 1, 1, 1, 1, 1, 1, 1, 1, 1, 1, 1, 1, 0, 0, 0, 1] (bodyOf Try.f31)
noncomputable def K19 : Kont := .seq c0 .ret
noncomputable def K20 : Kont := .blk 0 K19
noncomputable def K21 : Kont := .loop c1 K20
noncomputable def K27 : Kont := .seq c2 .ret
noncomputable def K28 : Kont := .blk 2 K27
noncomputable def K29 : Kont := .loop c3 K28
noncomputable def fin : ASt → R := Kret E Try.f31.results.toList ps rs
def tJ0 (hi : Int) (lo : Int) (y : Int) : ASt := ⟨[(2, .one (.val (.int .u64) y)), (1, .one (.val (.int .u64) lo)), (0, .one (.val (.int .u64) hi))], []⟩
def tJ1 (hi : Int) (lo : Int) (y : Int) : ASt := ⟨[(2, .one (.val (.int .u64) y)), (1, .one (.val (.int .u64) lo)), (0, .one (.val (.int .u64) hi))], []⟩
def tJ2 (y : Int) (s : Int) (yn1 : Int) (yn0 : Int) (un32 : Int) (un1 : Int) (un0 : Int) (q1 : Int) : ASt := ⟨[(15, .one (.val (.int .u64) q1)), (14, .one (.val (.int .u64) un0)), (13, .one (.val (.int .u64) un1)), (11, .one (.val (.int .u64) un32)), (10, .one (.val (.int .u64) yn0)), (9, .one (.val (.int .u64) yn1)), (8, .one (.val (.int .u64) s)), (2, .one (.val (.int .u64) y))], []⟩
def tL3 (y : Int) (s : Int) (yn1 : Int) (yn0 : Int) (un32 : Int) (un1 : Int) (un0 : Int) (q1 : Int) (rhat : Int) : ASt := ⟨[(16, .one (.val (.int .u64) rhat)), (15, .one (.val (.int .u64) q1)), (14, .one (.val (.int .u64) un0)), (13, .one (.val (.int .u64) un1)), (11, .one (.val (.int .u64) un32)), (10, .one (.val (.int .u64) yn0)), (9, .one (.val (.int .u64) yn1)), (8, .one (.val (.int .u64) s)), (2, .one (.val (.int .u64) y))], []⟩
def tJ4 (y : Int) (s : Int) (yn1 : Int) (yn0 : Int) (un32 : Int) (un1 : Int) (un0 : Int) (q1 : Int) (rhat : Int) : ASt := ⟨[(16, .one (.val (.int .u64) rhat)), (15, .one (.val (.int .u64) q1)), (14, .one (.val (.int .u64) un0)), (13, .one (.val (.int .u64) un1)), (11, .one (.val (.int .u64) un32)), (10, .one (.val (.int .u64) yn0)), (9, .one (.val (.int .u64) yn1)), (8, .one (.val (.int .u64) s)), (2, .one (.val (.int .u64) y))], []⟩
def tJ5 (y : Int) (s : Int) (un0 : Int) (q1 : Int) (un21 : Int) (q0 : Int) : ASt := ⟨[(18, .one (.val (.int .u64) q0)), (17, .one (.val (.int .u64) un21)), (15, .one (.val (.int .u64) q1)), (14, .one (.val (.int .u64) un0)), (8, .one (.val (.int .u64) s)), (2, .one (.val (.int .u64) y))], []⟩
def tL6 (y : Int) (s : Int) (yn1 : Int) (yn0 : Int) (un0 : Int) (q1 : Int) (rhat : Int) (un21 : Int) (q0 : Int) : ASt := ⟨[(18, .one (.val (.int .u64) q0)), (17, .one (.val (.int .u64) un21)), (16, .one (.val (.int .u64) rhat)), (15, .one (.val (.int .u64) q1)), (14, .one (.val (.int .u64) un0)), (10, .one (.val (.int .u64) yn0)), (9, .one (.val (.int .u64) yn1)), (8, .one (.val (.int .u64) s)), (2, .one (.val (.int .u64) y))], []⟩
def tJ7 (y : Int) (s : Int) (yn1 : Int) (yn0 : Int) (un0 : Int) (q1 : Int) (rhat : Int) (un21 : Int) (q0 : Int) : ASt := ⟨[(18, .one (.val (.int .u64) q0)), (17, .one (.val (.int .u64) un21)), (16, .one (.val (.int .u64) rhat)), (15, .one (.val (.int .u64) q1)), (14, .one (.val (.int .u64) un0)), (10, .one (.val (.int .u64) yn0)), (9, .one (.val (.int .u64) yn1)), (8, .one (.val (.int .u64) s)), (2, .one (.val (.int .u64) y))], []⟩
noncomputable def SJ0 (kJ1 : Int → Int → Int → R) (hi : Int) (lo : Int) (y : Int) : R :=
  cond (decide (y ≤ hi))
    none
    (kJ1 hi lo y)
noncomputable def SJ1 (kL3 : Int → Int → Int → Int → Int → Int → Int → Int → Int → R) (hi : Int) (lo : Int) (y : Int) : R :=
  cond (hi == 0)
    (cond (decide (y = 0))
      none
      (cond (decide (y = 0))
        none
        (some (IntKind.u64.wrap (Int.tdiv lo y), (Int.tmod lo y), ()))))
    (Option.bind (math_bits_LeadingZeros64 y) fun x1 =>
    cond (decide (IntKind.u64.wrap x1.1 < 0))
      none
      (cond (decide (IntKind.u64.wrap x1.1 < 0))
        none
        (cond (decide (IntKind.u64.wrap (64 - (IntKind.u64.wrap x1.1)) < 0))
          none
          (cond (decide (IntKind.u64.wrap x1.1 < 0))
            none
            (cond (decide ((Int.fdiv (IntKind.u64.wrap (y * 2 ^ (min (IntKind.u64.wrap x1.1).toNat IntKind.u64.bits))) (2 ^ (min 32 IntKind.u64.bits))) = 0))
              none
              (kL3 (IntKind.u64.wrap (y * 2 ^ (min (IntKind.u64.wrap x1.1).toNat IntKind.u64.bits))) (IntKind.u64.wrap x1.1) (Int.fdiv (IntKind.u64.wrap (y * 2 ^ (min (IntKind.u64.wrap x1.1).toNat IntKind.u64.bits))) (2 ^ (min 32 IntKind.u64.bits))) (IntKind.u64.wrap (BitVec.ofInt IntKind.u64.bits (IntKind.u64.wrap (y * 2 ^ (min (IntKind.u64.wrap x1.1).toNat IntKind.u64.bits))) &&& BitVec.ofInt IntKind.u64.bits 4294967295).toNat) (IntKind.u64.wrap (BitVec.ofInt IntKind.u64.bits (IntKind.u64.wrap (hi * 2 ^ (min (IntKind.u64.wrap x1.1).toNat IntKind.u64.bits))) ||| BitVec.ofInt IntKind.u64.bits (Int.fdiv lo (2 ^ (min (IntKind.u64.wrap (64 - (IntKind.u64.wrap x1.1))).toNat IntKind.u64.bits)))).toNat) (Int.fdiv (IntKind.u64.wrap (lo * 2 ^ (min (IntKind.u64.wrap x1.1).toNat IntKind.u64.bits))) (2 ^ (min 32 IntKind.u64.bits))) (IntKind.u64.wrap (BitVec.ofInt IntKind.u64.bits (IntKind.u64.wrap (lo * 2 ^ (min (IntKind.u64.wrap x1.1).toNat IntKind.u64.bits))) &&& BitVec.ofInt IntKind.u64.bits 4294967295).toNat) (IntKind.u64.wrap (Int.tdiv (IntKind.u64.wrap (BitVec.ofInt IntKind.u64.bits (IntKind.u64.wrap (hi * 2 ^ (min (IntKind.u64.wrap x1.1).toNat IntKind.u64.bits))) ||| BitVec.ofInt IntKind.u64.bits (Int.fdiv lo (2 ^ (min (IntKind.u64.wrap (64 - (IntKind.u64.wrap x1.1))).toNat IntKind.u64.bits)))).toNat) (Int.fdiv (IntKind.u64.wrap (y * 2 ^ (min (IntKind.u64.wrap x1.1).toNat IntKind.u64.bits))) (2 ^ (min 32 IntKind.u64.bits))))) (IntKind.u64.wrap ((IntKind.u64.wrap (BitVec.ofInt IntKind.u64.bits (IntKind.u64.wrap (hi * 2 ^ (min (IntKind.u64.wrap x1.1).toNat IntKind.u64.bits))) ||| BitVec.ofInt IntKind.u64.bits (Int.fdiv lo (2 ^ (min (IntKind.u64.wrap (64 - (IntKind.u64.wrap x1.1))).toNat IntKind.u64.bits)))).toNat) - (IntKind.u64.wrap ((IntKind.u64.wrap (Int.tdiv (IntKind.u64.wrap (BitVec.ofInt IntKind.u64.bits (IntKind.u64.wrap (hi * 2 ^ (min (IntKind.u64.wrap x1.1).toNat IntKind.u64.bits))) ||| BitVec.ofInt IntKind.u64.bits (Int.fdiv lo (2 ^ (min (IntKind.u64.wrap (64 - (IntKind.u64.wrap x1.1))).toNat IntKind.u64.bits)))).toNat) (Int.fdiv (IntKind.u64.wrap (y * 2 ^ (min (IntKind.u64.wrap x1.1).toNat IntKind.u64.bits))) (2 ^ (min 32 IntKind.u64.bits))))) * (Int.fdiv (IntKind.u64.wrap (y * 2 ^ (min (IntKind.u64.wrap x1.1).toNat IntKind.u64.bits))) (2 ^ (min 32 IntKind.u64.bits)))))))))))))
noncomputable def SJ2 (kL6 : Int → Int → Int → Int → Int → Int → Int → Int → Int → R) (y : Int) (s : Int) (yn1 : Int) (yn0 : Int) (un32 : Int) (un1 : Int) (un0 : Int) (q1 : Int) : R :=
  cond (decide (yn1 = 0))
    none
    (kL6 y s yn1 yn0 un0 q1 (IntKind.u64.wrap ((IntKind.u64.wrap ((IntKind.u64.wrap ((IntKind.u64.wrap (un32 * 4294967296)) + un1)) - (IntKind.u64.wrap (q1 * y)))) - (IntKind.u64.wrap ((IntKind.u64.wrap (Int.tdiv (IntKind.u64.wrap ((IntKind.u64.wrap ((IntKind.u64.wrap (un32 * 4294967296)) + un1)) - (IntKind.u64.wrap (q1 * y)))) yn1)) * yn1)))) (IntKind.u64.wrap ((IntKind.u64.wrap ((IntKind.u64.wrap (un32 * 4294967296)) + un1)) - (IntKind.u64.wrap (q1 * y)))) (IntKind.u64.wrap (Int.tdiv (IntKind.u64.wrap ((IntKind.u64.wrap ((IntKind.u64.wrap (un32 * 4294967296)) + un1)) - (IntKind.u64.wrap (q1 * y)))) yn1)))
noncomputable def SL3 (kJ4 : Int → Int → Int → Int → Int → Int → Int → Int → Int → R) (kJ2 : Int → Int → Int → Int → Int → Int → Int → Int → R) (y : Int) (s : Int) (yn1 : Int) (yn0 : Int) (un32 : Int) (un1 : Int) (un0 : Int) (q1 : Int) (rhat : Int) : R :=
  cond (decide (q1 ≥ 4294967296))
    (kJ4 y s yn1 yn0 un32 un1 un0 q1 rhat)
    (cond (decide ((IntKind.u64.wrap (q1 * yn0)) > (IntKind.u64.wrap ((IntKind.u64.wrap (4294967296 * rhat)) + un1))))
      (kJ4 y s yn1 yn0 un32 un1 un0 q1 rhat)
      (kJ2 y s yn1 yn0 un32 un1 un0 q1))
noncomputable def SJ4 (kJ2 : Int → Int → Int → Int → Int → Int → Int → Int → R) (kL3 : Int → Int → Int → Int → Int → Int → Int → Int → Int → R) (y : Int) (s : Int) (yn1 : Int) (yn0 : Int) (un32 : Int) (un1 : Int) (un0 : Int) (q1 : Int) (rhat : Int) : R :=
  cond (decide ((IntKind.u64.wrap (rhat + yn1)) ≥ 4294967296))
    (kJ2 y s yn1 yn0 un32 un1 un0 (IntKind.u64.wrap (q1 - 1)))
    (kL3 y s yn1 yn0 un32 un1 un0 (IntKind.u64.wrap (q1 - 1)) (IntKind.u64.wrap (rhat + yn1)))
noncomputable def SJ5 (y : Int) (s : Int) (un0 : Int) (q1 : Int) (un21 : Int) (q0 : Int) : R :=
  cond (decide (s < 0))
    none
    (some (IntKind.u64.wrap ((IntKind.u64.wrap (q1 * 4294967296)) + q0), (Int.fdiv (IntKind.u64.wrap ((IntKind.u64.wrap ((IntKind.u64.wrap (un21 * 4294967296)) + un0)) - (IntKind.u64.wrap (q0 * y)))) (2 ^ (min s.toNat IntKind.u64.bits))), ()))
noncomputable def SL6 (kJ7 : Int → Int → Int → Int → Int → Int → Int → Int → Int → R) (kJ5 : Int → Int → Int → Int → Int → Int → R) (y : Int) (s : Int) (yn1 : Int) (yn0 : Int) (un0 : Int) (q1 : Int) (rhat : Int) (un21 : Int) (q0 : Int) : R :=
  cond (decide (q0 ≥ 4294967296))
    (kJ7 y s yn1 yn0 un0 q1 rhat un21 q0)
    (cond (decide ((IntKind.u64.wrap (q0 * yn0)) > (IntKind.u64.wrap ((IntKind.u64.wrap (4294967296 * rhat)) + un0))))
      (kJ7 y s yn1 yn0 un0 q1 rhat un21 q0)
      (kJ5 y s un0 q1 un21 q0))
noncomputable def SJ7 (kJ5 : Int → Int → Int → Int → Int → Int → R) (kL6 : Int → Int → Int → Int → Int → Int → Int → Int → Int → R) (y : Int) (s : Int) (yn1 : Int) (yn0 : Int) (un0 : Int) (q1 : Int) (rhat : Int) (un21 : Int) (q0 : Int) : R :=
  cond (decide ((IntKind.u64.wrap (rhat + yn1)) ≥ 4294967296))
    (kJ5 y s un0 q1 un21 (IntKind.u64.wrap (q0 - 1)))
    (kL6 y s yn1 yn0 un0 q1 (IntKind.u64.wrap (rhat + yn1)) un21 (IntKind.u64.wrap (q0 - 1)))
noncomputable def Se (kJ0 : Int → Int → Int → R) (hi : Int) (lo : Int) (y : Int) : R :=
  cond (y == 0)
    none
    (kJ0 hi lo y)
theorem sJ0 (jmp : Tgt → ASt → R) (hi : Int) (lo : Int) (y : Int) : run E jmp fin depth c4 .ret (tJ0 hi lo y) =
    SJ0 (fun hi lo y => jmp (.code c5 .ret) (tJ1 hi lo y)) hi lo y := by kernel_rfl
theorem sJ1 (jmp : Tgt → ASt → R) (hi : Int) (lo : Int) (y : Int) : run E jmp fin depth c5 .ret (tJ1 hi lo y) =
    SJ1 (fun y s yn1 yn0 un32 un1 un0 q1 rhat => jmp (.loop c1 K20) (tL3 y s yn1 yn0 un32 un1 un0 q1 rhat)) hi lo y := by kernel_rfl
theorem sJ2 (jmp : Tgt → ASt → R) (y : Int) (s : Int) (yn1 : Int) (yn0 : Int) (un32 : Int) (un1 : Int) (un0 : Int) (q1 : Int) : run E jmp fin depth c0 .ret (tJ2 y s yn1 yn0 un32 un1 un0 q1) =
    SJ2 (fun y s yn1 yn0 un0 q1 rhat un21 q0 => jmp (.loop c3 K28) (tL6 y s yn1 yn0 un0 q1 rhat un21 q0)) y s yn1 yn0 un32 un1 un0 q1 := by kernel_rfl
theorem sL3 (jmp : Tgt → ASt → R) (y : Int) (s : Int) (yn1 : Int) (yn0 : Int) (un32 : Int) (un1 : Int) (un0 : Int) (q1 : Int) (rhat : Int) : run E jmp fin depth c1 (.loop c1 K20) (tL3 y s yn1 yn0 un32 un1 un0 q1 rhat) =
    SL3 (fun y s yn1 yn0 un32 un1 un0 q1 rhat => jmp (.code c6 K21) (tJ4 y s yn1 yn0 un32 un1 un0 q1 rhat)) (fun y s yn1 yn0 un32 un1 un0 q1 => jmp (.code c0 .ret) (tJ2 y s yn1 yn0 un32 un1 un0 q1)) y s yn1 yn0 un32 un1 un0 q1 rhat := by kernel_rfl
theorem sJ4 (jmp : Tgt → ASt → R) (y : Int) (s : Int) (yn1 : Int) (yn0 : Int) (un32 : Int) (un1 : Int) (un0 : Int) (q1 : Int) (rhat : Int) : run E jmp fin depth c6 K21 (tJ4 y s yn1 yn0 un32 un1 un0 q1 rhat) =
    SJ4 (fun y s yn1 yn0 un32 un1 un0 q1 => jmp (.code c0 .ret) (tJ2 y s yn1 yn0 un32 un1 un0 q1)) (fun y s yn1 yn0 un32 un1 un0 q1 rhat => jmp (.loop c1 K20) (tL3 y s yn1 yn0 un32 un1 un0 q1 rhat)) y s yn1 yn0 un32 un1 un0 q1 rhat := by kernel_rfl
theorem sJ5 (jmp : Tgt → ASt → R) (y : Int) (s : Int) (un0 : Int) (q1 : Int) (un21 : Int) (q0 : Int) : run E jmp fin depth c2 .ret (tJ5 y s un0 q1 un21 q0) =
    SJ5 y s un0 q1 un21 q0 := by kernel_rfl
theorem sL6 (jmp : Tgt → ASt → R) (y : Int) (s : Int) (yn1 : Int) (yn0 : Int) (un0 : Int) (q1 : Int) (rhat : Int) (un21 : Int) (q0 : Int) : run E jmp fin depth c3 (.loop c3 K28) (tL6 y s yn1 yn0 un0 q1 rhat un21 q0) =
    SL6 (fun y s yn1 yn0 un0 q1 rhat un21 q0 => jmp (.code c7 K29) (tJ7 y s yn1 yn0 un0 q1 rhat un21 q0)) (fun y s un0 q1 un21 q0 => jmp (.code c2 .ret) (tJ5 y s un0 q1 un21 q0)) y s yn1 yn0 un0 q1 rhat un21 q0 := by kernel_rfl
theorem sJ7 (jmp : Tgt → ASt → R) (y : Int) (s : Int) (yn1 : Int) (yn0 : Int) (un0 : Int) (q1 : Int) (rhat : Int) (un21 : Int) (q0 : Int) : run E jmp fin depth c7 K29 (tJ7 y s yn1 yn0 un0 q1 rhat un21 q0) =
    SJ7 (fun y s un0 q1 un21 q0 => jmp (.code c2 .ret) (tJ5 y s un0 q1 un21 q0)) (fun y s yn1 yn0 un0 q1 rhat un21 q0 => jmp (.loop c3 K28) (tL6 y s yn1 yn0 un0 q1 rhat un21 q0)) y s yn1 yn0 un0 q1 rhat un21 q0 := by kernel_rfl
theorem se (jmp : Tgt → ASt → R) (x : (argTy ps).den) : run E jmp fin depth (bodyOf Try.f31) .ret (entryFrom 0 ps x) =
    Se (fun hi lo y => jmp (.code c4 .ret) (tJ0 hi lo y)) x.1 x.2.1 x.2.2.1 := by kernel_rfl
noncomputable def J0 (hi : Int) (lo : Int) (y : Int) : R := lim E fin (.code c4 .ret) (tJ0 hi lo y)
noncomputable def J1 (hi : Int) (lo : Int) (y : Int) : R := lim E fin (.code c5 .ret) (tJ1 hi lo y)
noncomputable def J2 (y : Int) (s : Int) (yn1 : Int) (yn0 : Int) (un32 : Int) (un1 : Int) (un0 : Int) (q1 : Int) : R := lim E fin (.code c0 .ret) (tJ2 y s yn1 yn0 un32 un1 un0 q1)
noncomputable def L3 (y : Int) (s : Int) (yn1 : Int) (yn0 : Int) (un32 : Int) (un1 : Int) (un0 : Int) (q1 : Int) (rhat : Int) : R := lim E fin (.loop c1 K20) (tL3 y s yn1 yn0 un32 un1 un0 q1 rhat)
noncomputable def J4 (y : Int) (s : Int) (yn1 : Int) (yn0 : Int) (un32 : Int) (un1 : Int) (un0 : Int) (q1 : Int) (rhat : Int) : R := lim E fin (.code c6 K21) (tJ4 y s yn1 yn0 un32 un1 un0 q1 rhat)
noncomputable def J5 (y : Int) (s : Int) (un0 : Int) (q1 : Int) (un21 : Int) (q0 : Int) : R := lim E fin (.code c2 .ret) (tJ5 y s un0 q1 un21 q0)
noncomputable def L6 (y : Int) (s : Int) (yn1 : Int) (yn0 : Int) (un0 : Int) (q1 : Int) (rhat : Int) (un21 : Int) (q0 : Int) : R := lim E fin (.loop c3 K28) (tL6 y s yn1 yn0 un0 q1 rhat un21 q0)
noncomputable def J7 (y : Int) (s : Int) (yn1 : Int) (yn0 : Int) (un0 : Int) (q1 : Int) (rhat : Int) (un21 : Int) (q0 : Int) : R := lim E fin (.code c7 K29) (tJ7 y s yn1 yn0 un0 q1 rhat un21 q0)
theorem J0_eq (hi : Int) (lo : Int) (y : Int) : J0 hi lo y = SJ0 J1 hi lo y :=
  (lim_eq (.code c4 .ret) (tJ0 hi lo y)).trans (sJ0 (lim E fin) hi lo y)
theorem J1_eq (hi : Int) (lo : Int) (y : Int) : J1 hi lo y = SJ1 L3 hi lo y :=
  (lim_eq (.code c5 .ret) (tJ1 hi lo y)).trans (sJ1 (lim E fin) hi lo y)
theorem J2_eq (y : Int) (s : Int) (yn1 : Int) (yn0 : Int) (un32 : Int) (un1 : Int) (un0 : Int) (q1 : Int) : J2 y s yn1 yn0 un32 un1 un0 q1 = SJ2 L6 y s yn1 yn0 un32 un1 un0 q1 :=
  (lim_eq (.code c0 .ret) (tJ2 y s yn1 yn0 un32 un1 un0 q1)).trans (sJ2 (lim E fin) y s yn1 yn0 un32 un1 un0 q1)
theorem L3_eq (y : Int) (s : Int) (yn1 : Int) (yn0 : Int) (un32 : Int) (un1 : Int) (un0 : Int) (q1 : Int) (rhat : Int) : L3 y s yn1 yn0 un32 un1 un0 q1 rhat = SL3 J4 J2 y s yn1 yn0 un32 un1 un0 q1 rhat :=
  (lim_eq (.loop c1 K20) (tL3 y s yn1 yn0 un32 un1 un0 q1 rhat)).trans (sL3 (lim E fin) y s yn1 yn0 un32 un1 un0 q1 rhat)
theorem J4_eq (y : Int) (s : Int) (yn1 : Int) (yn0 : Int) (un32 : Int) (un1 : Int) (un0 : Int) (q1 : Int) (rhat : Int) : J4 y s yn1 yn0 un32 un1 un0 q1 rhat = SJ4 J2 L3 y s yn1 yn0 un32 un1 un0 q1 rhat :=
  (lim_eq (.code c6 K21) (tJ4 y s yn1 yn0 un32 un1 un0 q1 rhat)).trans (sJ4 (lim E fin) y s yn1 yn0 un32 un1 un0 q1 rhat)
theorem J5_eq (y : Int) (s : Int) (un0 : Int) (q1 : Int) (un21 : Int) (q0 : Int) : J5 y s un0 q1 un21 q0 = SJ5 y s un0 q1 un21 q0 :=
  (lim_eq (.code c2 .ret) (tJ5 y s un0 q1 un21 q0)).trans (sJ5 (lim E fin) y s un0 q1 un21 q0)
theorem L6_eq (y : Int) (s : Int) (yn1 : Int) (yn0 : Int) (un0 : Int) (q1 : Int) (rhat : Int) (un21 : Int) (q0 : Int) : L6 y s yn1 yn0 un0 q1 rhat un21 q0 = SL6 J7 J5 y s yn1 yn0 un0 q1 rhat un21 q0 :=
  (lim_eq (.loop c3 K28) (tL6 y s yn1 yn0 un0 q1 rhat un21 q0)).trans (sL6 (lim E fin) y s yn1 yn0 un0 q1 rhat un21 q0)
theorem J7_eq (y : Int) (s : Int) (yn1 : Int) (yn0 : Int) (un0 : Int) (q1 : Int) (rhat : Int) (un21 : Int) (q0 : Int) : J7 y s yn1 yn0 un0 q1 rhat un21 q0 = SJ7 J5 L6 y s yn1 yn0 un0 q1 rhat un21 q0 :=
  (lim_eq (.code c7 K29) (tJ7 y s yn1 yn0 un0 q1 rhat un21 q0)).trans (sJ7 (lim E fin) y s yn1 yn0 un0 q1 rhat un21 q0)
end math_bits_Div64
noncomputable def math_bits_Div64 (hi : Int) (lo : Int) (y : Int) : math_bits_Div64.R :=
  math_bits_Div64.Se math_bits_Div64.J0 hi lo y
noncomputable def math_bits_Div64.sig : Sig := ⟨math_bits_Div64.ps, math_bits_Div64.rs, fun x => math_bits_Div64 x.1 x.2.1 x.2.2.1⟩
theorem math_bits_Div64.ok : CallOK Try.prog 31 math_bits_Div64.sig :=
  callOK_of_lim (E := math_bits_Div64.E) mixed tt_ok (ctxOk_cons ctxOk_nil math_bits_LeadingZeros64.ok Try.func35 (by kernel_rfl) (by kernel_rfl)) Try.func31 (by kernel_rfl : Try.f31.body = some (bodyOf Try.f31)) Try.ntmps31 (of_decide_eq_true (by kernel_rfl)) (of_decide_eq_true (by kernel_rfl))
    fun x y h => ((lim_eq (.code (bodyOf Try.f31) .ret) (entryFrom 0 math_bits_Div64.ps x)).trans (math_bits_Div64.se (lim math_bits_Div64.E math_bits_Div64.fin) x)).trans h
theorem math_bits_Div64.val (x : (argTy math_bits_Div64.ps).den) : lim math_bits_Div64.E math_bits_Div64.fin (.code (bodyOf Try.f31) .ret) (entryFrom 0 math_bits_Div64.ps x) = math_bits_Div64.sig.run x :=
  (lim_eq (.code (bodyOf Try.f31) .ret) (entryFrom 0 math_bits_Div64.ps x)).trans (math_bits_Div64.se (lim math_bits_Div64.E math_bits_Div64.fin) x)
noncomputable def math_bits_Div64.ctxc (n : Nat) : List (Nat × Sig) := [(35, math_bits_LeadingZeros64.sigc n)]
noncomputable def math_bits_Div64.sigc (n : Nat) : Sig := ⟨math_bits_Div64.ps, math_bits_Div64.rs, fun x => runs (withCtx math_bits_Div64.E (math_bits_Div64.ctxc n)) math_bits_Div64.fin n (.code (bodyOf Try.f31) .ret) (entryFrom 0 math_bits_Div64.ps x)⟩
theorem math_bits_Div64.sigc_le (n : Nat) : ∀ x y, (math_bits_Div64.sigc n).run x = some y → math_bits_Div64.sig.run x = some y :=
  fun x y h => (math_bits_Div64.val x).symm.trans (runs_lim (E := math_bits_Div64.E) (c := math_bits_Div64.ctxc n) (ctxLe_cons ctxLe_nil (math_bits_LeadingZeros64.sigc_le n)) h)

/-! ### guerdon/money.MulDiv -/
namespace money_MulDiv
abbrev ps : List PM := [.pure (.int .i64), .pure (.int .i64), .pure (.int .i64), .pure (.int .i64)]
abbrev rs : List RM := [.pure (.int .i64), .pure (.int .i64)]
abbrev R : Type := Option (Int × Int × Unit)
noncomputable def E : Env := { tt := tt, ctx := [(24, money_mode.sig), (25, money_abs.sig), (30, math_bits_Mul64.sig), (31, math_bits_Div64.sig), (27, money_round.sig), (26, money_signed.sig)], nt := 78, ann := [(7, [(0, .keep), (1, .keep), (2, .keep), (3, .keep)])] }
noncomputable def c0 : Code := sub [1, 1] (bodyOf Try.f13)
noncomputable def fin : ASt → R := Kret E Try.f13.results.toList ps rs
def tJ0 (c_0 : Int) (num : Int) (den : Int) (m : Int) : ASt := ⟨[(3, .one (.val (.int .i64) m)), (2, .one (.val (.int .i64) den)), (1, .one (.val (.int .i64) num)), (0, .one (.val (.int .i64) c_0))], []⟩
noncomputable def SJ0 (c_0 : Int) (num : Int) (den : Int) (m : Int) : R :=
  Option.bind (money_abs c_0) fun x1 =>
  Option.bind (money_abs num) fun x2 =>
  Option.bind (math_bits_Mul64 x1.1 x2.1) fun x3 =>
  Option.bind (money_abs den) fun x4 =>
  cond (decide (x3.1 ≥ x4.1))
    (some (0, 3, ()))
    (Option.bind (math_bits_Div64 x3.1 x3.2.1 x4.1) fun x5 =>
    cond (decide (x5.1 > 1000000000000000))
      (some (0, 3, ()))
      (Option.bind (money_round x5.1 x5.2.1 x4.1 (!((!((decide (c_0 < 0)) == (decide (num < 0)))) == (decide (den < 0)))) m) fun x6 =>
      cond (decide (x6.1 > 1000000000000000))
        (some (0, 3, ()))
        (Option.bind (money_signed x6.1 (!((!((decide (c_0 < 0)) == (decide (num < 0)))) == (decide (den < 0))))) fun x7 =>
        some (x7.1, 0, ()))))
noncomputable def Se (kJ0 : Int → Int → Int → Int → R) (c_0 : Int) (num : Int) (den : Int) (m : Int) : R :=
  Option.bind (money_mode m) fun x1 =>
  cond (!x1.1)
    (some (0, 1, ()))
    (cond (den == 0)
      (some (0, 12, ()))
      (Option.bind (money_abs c_0) fun x2 =>
      cond (decide (x2.1 > 1000000000000000))
        (some (0, 3, ()))
        (Option.bind (money_abs num) fun x3 =>
        cond (decide (x3.1 > 1000000000))
          (some (0, 3, ()))
          (Option.bind (money_abs den) fun x4 =>
          cond (decide (x4.1 > 1000000000))
            (some (0, 3, ()))
            (kJ0 c_0 num den m)))))
theorem sJ0 (jmp : Tgt → ASt → R) (c_0 : Int) (num : Int) (den : Int) (m : Int) : run E jmp fin depth c0 .ret (tJ0 c_0 num den m) =
    SJ0 c_0 num den m := by kernel_rfl
theorem se (jmp : Tgt → ASt → R) (x : (argTy ps).den) : run E jmp fin depth (bodyOf Try.f13) .ret (entryFrom 0 ps x) =
    Se (fun c_0 num den m => jmp (.code c0 .ret) (tJ0 c_0 num den m)) x.1 x.2.1 x.2.2.1 x.2.2.2.1 := by kernel_rfl
noncomputable def J0 (c_0 : Int) (num : Int) (den : Int) (m : Int) : R := lim E fin (.code c0 .ret) (tJ0 c_0 num den m)
theorem J0_eq (c_0 : Int) (num : Int) (den : Int) (m : Int) : J0 c_0 num den m = SJ0 c_0 num den m :=
  (lim_eq (.code c0 .ret) (tJ0 c_0 num den m)).trans (sJ0 (lim E fin) c_0 num den m)
end money_MulDiv
noncomputable def money_MulDiv (c_0 : Int) (num : Int) (den : Int) (m : Int) : money_MulDiv.R :=
  money_MulDiv.Se money_MulDiv.J0 c_0 num den m
noncomputable def money_MulDiv.sig : Sig := ⟨money_MulDiv.ps, money_MulDiv.rs, fun x => money_MulDiv x.1 x.2.1 x.2.2.1 x.2.2.2.1⟩
theorem money_MulDiv.ok : CallOK Try.prog 13 money_MulDiv.sig :=
  callOK_of_lim (E := money_MulDiv.E) mixed tt_ok (ctxOk_cons (ctxOk_cons (ctxOk_cons (ctxOk_cons (ctxOk_cons (ctxOk_cons ctxOk_nil money_signed.ok Try.func26 (by kernel_rfl) (by kernel_rfl)) money_round.ok Try.func27 (by kernel_rfl) (by kernel_rfl)) math_bits_Div64.ok Try.func31 (by kernel_rfl) (by kernel_rfl)) math_bits_Mul64.ok Try.func30 (by kernel_rfl) (by kernel_rfl)) money_abs.ok Try.func25 (by kernel_rfl) (by kernel_rfl)) money_mode.ok Try.func24 (by kernel_rfl) (by kernel_rfl)) Try.func13 (by kernel_rfl : Try.f13.body = some (bodyOf Try.f13)) Try.ntmps13 (of_decide_eq_true (by kernel_rfl)) (of_decide_eq_true (by kernel_rfl))
    fun x y h => ((lim_eq (.code (bodyOf Try.f13) .ret) (entryFrom 0 money_MulDiv.ps x)).trans (money_MulDiv.se (lim money_MulDiv.E money_MulDiv.fin) x)).trans h
theorem money_MulDiv.val (x : (argTy money_MulDiv.ps).den) : lim money_MulDiv.E money_MulDiv.fin (.code (bodyOf Try.f13) .ret) (entryFrom 0 money_MulDiv.ps x) = money_MulDiv.sig.run x :=
  (lim_eq (.code (bodyOf Try.f13) .ret) (entryFrom 0 money_MulDiv.ps x)).trans (money_MulDiv.se (lim money_MulDiv.E money_MulDiv.fin) x)
noncomputable def money_MulDiv.ctxc (n : Nat) : List (Nat × Sig) := [(24, money_mode.sigc n), (25, money_abs.sigc n), (30, math_bits_Mul64.sigc n), (31, math_bits_Div64.sigc n), (27, money_round.sigc n), (26, money_signed.sigc n)]
noncomputable def money_MulDiv.sigc (n : Nat) : Sig := ⟨money_MulDiv.ps, money_MulDiv.rs, fun x => runs (withCtx money_MulDiv.E (money_MulDiv.ctxc n)) money_MulDiv.fin n (.code (bodyOf Try.f13) .ret) (entryFrom 0 money_MulDiv.ps x)⟩
theorem money_MulDiv.sigc_le (n : Nat) : ∀ x y, (money_MulDiv.sigc n).run x = some y → money_MulDiv.sig.run x = some y :=
  fun x y h => (money_MulDiv.val x).symm.trans (runs_lim (E := money_MulDiv.E) (c := money_MulDiv.ctxc n) (ctxLe_cons (ctxLe_cons (ctxLe_cons (ctxLe_cons (ctxLe_cons (ctxLe_cons ctxLe_nil (money_signed.sigc_le n)) (money_round.sigc_le n)) (math_bits_Div64.sigc_le n)) (math_bits_Mul64.sigc_le n)) (money_abs.sigc_le n)) (money_mode.sigc_le n)) h)

/-! ### guerdon/money.RoundTo -/
namespace money_RoundTo
abbrev ps : List PM := [.pure (.int .i64), .pure (.int .i64), .pure (.int .i64)]
abbrev rs : List RM := [.pure (.int .i64), .pure (.int .i64)]
abbrev R : Type := Option (Int × Int × Unit)
noncomputable def E : Env := { tt := tt, ctx := [(24, money_mode.sig), (25, money_abs.sig), (10, money_DivRound.sig)], nt := 42, ann := [(7, [(0, .keep), (1, .keep), (2, .keep)])] }
noncomputable def c0 : Code := sub [1, 1] (bodyOf Try.f15)
noncomputable def fin : ASt → R := Kret E Try.f15.results.toList ps rs
def tJ0 (c_0 : Int) (unit : Int) (m : Int) : ASt := ⟨[(2, .one (.val (.int .i64) m)), (1, .one (.val (.int .i64) unit)), (0, .one (.val (.int .i64) c_0))], []⟩
noncomputable def SJ0 (c_0 : Int) (unit : Int) (m : Int) : R :=
  Option.bind (money_DivRound c_0 unit m) fun x1 =>
  cond (x1.2.1 != 0)
    (some (0, x1.2.1, ()))
    (Option.bind (money_abs (IntKind.i64.wrap (x1.1 * unit))) fun x2 =>
    cond (decide (x2.1 > 1000000000000000))
      (some (0, 3, ()))
      (some (IntKind.i64.wrap (x1.1 * unit), 0, ())))
noncomputable def Se (kJ0 : Int → Int → Int → R) (c_0 : Int) (unit : Int) (m : Int) : R :=
  Option.bind (money_mode m) fun x1 =>
  cond (!x1.1)
    (some (0, 1, ()))
    (cond (decide (unit < 1))
      (some (0, 12, ()))
      (Option.bind (money_abs c_0) fun x2 =>
      cond (decide (x2.1 > 1000000000000000))
        (some (0, 3, ()))
        (cond (decide (unit > 1000000000000000))
          (some (0, 3, ()))
          (kJ0 c_0 unit m))))
theorem sJ0 (jmp : Tgt → ASt → R) (c_0 : Int) (unit : Int) (m : Int) : run E jmp fin depth c0 .ret (tJ0 c_0 unit m) =
    SJ0 c_0 unit m := by kernel_rfl
theorem se (jmp : Tgt → ASt → R) (x : (argTy ps).den) : run E jmp fin depth (bodyOf Try.f15) .ret (entryFrom 0 ps x) =
    Se (fun c_0 unit m => jmp (.code c0 .ret) (tJ0 c_0 unit m)) x.1 x.2.1 x.2.2.1 := by kernel_rfl
noncomputable def J0 (c_0 : Int) (unit : Int) (m : Int) : R := lim E fin (.code c0 .ret) (tJ0 c_0 unit m)
theorem J0_eq (c_0 : Int) (unit : Int) (m : Int) : J0 c_0 unit m = SJ0 c_0 unit m :=
  (lim_eq (.code c0 .ret) (tJ0 c_0 unit m)).trans (sJ0 (lim E fin) c_0 unit m)
end money_RoundTo
noncomputable def money_RoundTo (c_0 : Int) (unit : Int) (m : Int) : money_RoundTo.R :=
  money_RoundTo.Se money_RoundTo.J0 c_0 unit m
noncomputable def money_RoundTo.sig : Sig := ⟨money_RoundTo.ps, money_RoundTo.rs, fun x => money_RoundTo x.1 x.2.1 x.2.2.1⟩
theorem money_RoundTo.ok : CallOK Try.prog 15 money_RoundTo.sig :=
  callOK_of_lim (E := money_RoundTo.E) mixed tt_ok (ctxOk_cons (ctxOk_cons (ctxOk_cons ctxOk_nil money_DivRound.ok Try.func10 (by kernel_rfl) (by kernel_rfl)) money_abs.ok Try.func25 (by kernel_rfl) (by kernel_rfl)) money_mode.ok Try.func24 (by kernel_rfl) (by kernel_rfl)) Try.func15 (by kernel_rfl : Try.f15.body = some (bodyOf Try.f15)) Try.ntmps15 (of_decide_eq_true (by kernel_rfl)) (of_decide_eq_true (by kernel_rfl))
    fun x y h => ((lim_eq (.code (bodyOf Try.f15) .ret) (entryFrom 0 money_RoundTo.ps x)).trans (money_RoundTo.se (lim money_RoundTo.E money_RoundTo.fin) x)).trans h
theorem money_RoundTo.val (x : (argTy money_RoundTo.ps).den) : lim money_RoundTo.E money_RoundTo.fin (.code (bodyOf Try.f15) .ret) (entryFrom 0 money_RoundTo.ps x) = money_RoundTo.sig.run x :=
  (lim_eq (.code (bodyOf Try.f15) .ret) (entryFrom 0 money_RoundTo.ps x)).trans (money_RoundTo.se (lim money_RoundTo.E money_RoundTo.fin) x)
noncomputable def money_RoundTo.ctxc (n : Nat) : List (Nat × Sig) := [(24, money_mode.sigc n), (25, money_abs.sigc n), (10, money_DivRound.sigc n)]
noncomputable def money_RoundTo.sigc (n : Nat) : Sig := ⟨money_RoundTo.ps, money_RoundTo.rs, fun x => runs (withCtx money_RoundTo.E (money_RoundTo.ctxc n)) money_RoundTo.fin n (.code (bodyOf Try.f15) .ret) (entryFrom 0 money_RoundTo.ps x)⟩
theorem money_RoundTo.sigc_le (n : Nat) : ∀ x y, (money_RoundTo.sigc n).run x = some y → money_RoundTo.sig.run x = some y :=
  fun x y h => (money_RoundTo.val x).symm.trans (runs_lim (E := money_RoundTo.E) (c := money_RoundTo.ctxc n) (ctxLe_cons (ctxLe_cons (ctxLe_cons ctxLe_nil (money_DivRound.sigc_le n)) (money_abs.sigc_le n)) (money_mode.sigc_le n)) h)

/-! ### cmp.isNaN[uint64] -/
namespace cmp_isNaN_uint64
abbrev ps : List PM := [.pure (.int .u64)]
abbrev rs : List RM := [.pure .bool]
abbrev R : Type := Option (Bool × Unit)
noncomputable def E : Env := { tt := tt, ctx := [], nt := 6, ann := [] }
noncomputable def fin : ASt → R := Kret E Try.f41.results.toList ps rs
noncomputable def Se (x_0 : Int) : R :=
  some ((x_0 != x_0), ())
theorem se (jmp : Tgt → ASt → R) (x : (argTy ps).den) : run E jmp fin depth (bodyOf Try.f41) .ret (entryFrom 0 ps x) =
    Se x.1 := by kernel_rfl
end cmp_isNaN_uint64
noncomputable def cmp_isNaN_uint64 (x_0 : Int) : cmp_isNaN_uint64.R :=
  cmp_isNaN_uint64.Se x_0
noncomputable def cmp_isNaN_uint64.sig : Sig := ⟨cmp_isNaN_uint64.ps, cmp_isNaN_uint64.rs, fun x => cmp_isNaN_uint64 x.1⟩
theorem cmp_isNaN_uint64.ok : CallOK Try.prog 41 cmp_isNaN_uint64.sig :=
  callOK_of_lim (E := cmp_isNaN_uint64.E) mixed tt_ok ctxOk_nil Try.func41 (by kernel_rfl : Try.f41.body = some (bodyOf Try.f41)) Try.ntmps41 (of_decide_eq_true (by kernel_rfl)) (of_decide_eq_true (by kernel_rfl))
    fun x y h => ((lim_eq (.code (bodyOf Try.f41) .ret) (entryFrom 0 cmp_isNaN_uint64.ps x)).trans (cmp_isNaN_uint64.se (lim cmp_isNaN_uint64.E cmp_isNaN_uint64.fin) x)).trans h
theorem cmp_isNaN_uint64.val (x : (argTy cmp_isNaN_uint64.ps).den) : lim cmp_isNaN_uint64.E cmp_isNaN_uint64.fin (.code (bodyOf Try.f41) .ret) (entryFrom 0 cmp_isNaN_uint64.ps x) = cmp_isNaN_uint64.sig.run x :=
  (lim_eq (.code (bodyOf Try.f41) .ret) (entryFrom 0 cmp_isNaN_uint64.ps x)).trans (cmp_isNaN_uint64.se (lim cmp_isNaN_uint64.E cmp_isNaN_uint64.fin) x)
noncomputable def cmp_isNaN_uint64.ctxc (n : Nat) : List (Nat × Sig) := []
noncomputable def cmp_isNaN_uint64.sigc (n : Nat) : Sig := ⟨cmp_isNaN_uint64.ps, cmp_isNaN_uint64.rs, fun x => runs (withCtx cmp_isNaN_uint64.E (cmp_isNaN_uint64.ctxc n)) cmp_isNaN_uint64.fin n (.code (bodyOf Try.f41) .ret) (entryFrom 0 cmp_isNaN_uint64.ps x)⟩
theorem cmp_isNaN_uint64.sigc_le (n : Nat) : ∀ x y, (cmp_isNaN_uint64.sigc n).run x = some y → cmp_isNaN_uint64.sig.run x = some y :=
  fun x y h => (cmp_isNaN_uint64.val x).symm.trans (runs_lim (E := cmp_isNaN_uint64.E) (c := cmp_isNaN_uint64.ctxc n) ctxLe_nil h)

/-! ### cmp.Compare[uint64] -/
namespace cmp_Compare_uint64
abbrev ps : List PM := [.pure (.int .u64), .pure (.int .u64)]
abbrev rs : List RM := [.pure (.int .i64)]
abbrev R : Type := Option (Int × Unit)
noncomputable def E : Env := { tt := tt, ctx := [(41, cmp_isNaN_uint64.sig)], nt := 20, ann := [] }
noncomputable def fin : ASt → R := Kret E Try.f38.results.toList ps rs
noncomputable def Se (x_0 : Int) (y : Int) : R :=
  Option.bind (cmp_isNaN_uint64 x_0) fun x1 =>
  Option.bind (cmp_isNaN_uint64 y) fun x2 =>
  cond x1.1
    (cond x2.1
      (some (0, ()))
      (some ((-1), ())))
    (cond x2.1
      (some (1, ()))
      (cond (decide (x_0 < y))
        (some ((-1), ()))
        (cond (decide (x_0 > y))
          (some (1, ()))
          (some (0, ())))))
theorem se (jmp : Tgt → ASt → R) (x : (argTy ps).den) : run E jmp fin depth (bodyOf Try.f38) .ret (entryFrom 0 ps x) =
    Se x.1 x.2.1 := by kernel_rfl
end cmp_Compare_uint64
noncomputable def cmp_Compare_uint64 (x_0 : Int) (y : Int) : cmp_Compare_uint64.R :=
  cmp_Compare_uint64.Se x_0 y
noncomputable def cmp_Compare_uint64.sig : Sig := ⟨cmp_Compare_uint64.ps, cmp_Compare_uint64.rs, fun x => cmp_Compare_uint64 x.1 x.2.1⟩
theorem cmp_Compare_uint64.ok : CallOK Try.prog 38 cmp_Compare_uint64.sig :=
  callOK_of_lim (E := cmp_Compare_uint64.E) mixed tt_ok (ctxOk_cons ctxOk_nil cmp_isNaN_uint64.ok Try.func41 (by kernel_rfl) (by kernel_rfl)) Try.func38 (by kernel_rfl : Try.f38.body = some (bodyOf Try.f38)) Try.ntmps38 (of_decide_eq_true (by kernel_rfl)) (of_decide_eq_true (by kernel_rfl))
    fun x y h => ((lim_eq (.code (bodyOf Try.f38) .ret) (entryFrom 0 cmp_Compare_uint64.ps x)).trans (cmp_Compare_uint64.se (lim cmp_Compare_uint64.E cmp_Compare_uint64.fin) x)).trans h
theorem cmp_Compare_uint64.val (x : (argTy cmp_Compare_uint64.ps).den) : lim cmp_Compare_uint64.E cmp_Compare_uint64.fin (.code (bodyOf Try.f38) .ret) (entryFrom 0 cmp_Compare_uint64.ps x) = cmp_Compare_uint64.sig.run x :=
  (lim_eq (.code (bodyOf Try.f38) .ret) (entryFrom 0 cmp_Compare_uint64.ps x)).trans (cmp_Compare_uint64.se (lim cmp_Compare_uint64.E cmp_Compare_uint64.fin) x)
noncomputable def cmp_Compare_uint64.ctxc (n : Nat) : List (Nat × Sig) := [(41, cmp_isNaN_uint64.sigc n)]
noncomputable def cmp_Compare_uint64.sigc (n : Nat) : Sig := ⟨cmp_Compare_uint64.ps, cmp_Compare_uint64.rs, fun x => runs (withCtx cmp_Compare_uint64.E (cmp_Compare_uint64.ctxc n)) cmp_Compare_uint64.fin n (.code (bodyOf Try.f38) .ret) (entryFrom 0 cmp_Compare_uint64.ps x)⟩
theorem cmp_Compare_uint64.sigc_le (n : Nat) : ∀ x y, (cmp_Compare_uint64.sigc n).run x = some y → cmp_Compare_uint64.sig.run x = some y :=
  fun x y h => (cmp_Compare_uint64.val x).symm.trans (runs_lim (E := cmp_Compare_uint64.E) (c := cmp_Compare_uint64.ctxc n) (ctxLe_cons ctxLe_nil (cmp_isNaN_uint64.sigc_le n)) h)

/-! ### guerdon/money.shares$1 -/
namespace money_shares_1
abbrev ps : List PM := [.pure money_part, .pure money_part]
abbrev rs : List RM := [.pure (.int .i64)]
abbrev R : Type := Option (Int × Unit)
noncomputable def E : Env := { tt := tt, ctx := [(38, cmp_Compare_uint64.sig)], nt := 10, ann := [] }
noncomputable def fin : ASt → R := Kret E Try.f37.results.toList ps rs
noncomputable def Se (a : money_partV) (b : money_partV) : R :=
  Option.bind (cmp_Compare_uint64 b.2.1 a.2.1) fun x1 =>
  some (x1.1, ())
theorem se (jmp : Tgt → ASt → R) (x : (argTy ps).den) : run E jmp fin depth (bodyOf Try.f37) .ret (entryFrom 0 ps x) =
    Se x.1 x.2.1 := by kernel_rfl
end money_shares_1
noncomputable def money_shares_1 (a : money_partV) (b : money_partV) : money_shares_1.R :=
  money_shares_1.Se a b
noncomputable def money_shares_1.sig : Sig := ⟨money_shares_1.ps, money_shares_1.rs, fun x => money_shares_1 x.1 x.2.1⟩
theorem money_shares_1.ok : CallOK Try.prog 37 money_shares_1.sig :=
  callOK_of_lim (E := money_shares_1.E) mixed tt_ok (ctxOk_cons ctxOk_nil cmp_Compare_uint64.ok Try.func38 (by kernel_rfl) (by kernel_rfl)) Try.func37 (by kernel_rfl : Try.f37.body = some (bodyOf Try.f37)) Try.ntmps37 (of_decide_eq_true (by kernel_rfl)) (of_decide_eq_true (by kernel_rfl))
    fun x y h => ((lim_eq (.code (bodyOf Try.f37) .ret) (entryFrom 0 money_shares_1.ps x)).trans (money_shares_1.se (lim money_shares_1.E money_shares_1.fin) x)).trans h
theorem money_shares_1.val (x : (argTy money_shares_1.ps).den) : lim money_shares_1.E money_shares_1.fin (.code (bodyOf Try.f37) .ret) (entryFrom 0 money_shares_1.ps x) = money_shares_1.sig.run x :=
  (lim_eq (.code (bodyOf Try.f37) .ret) (entryFrom 0 money_shares_1.ps x)).trans (money_shares_1.se (lim money_shares_1.E money_shares_1.fin) x)
noncomputable def money_shares_1.ctxc (n : Nat) : List (Nat × Sig) := [(38, cmp_Compare_uint64.sigc n)]
noncomputable def money_shares_1.sigc (n : Nat) : Sig := ⟨money_shares_1.ps, money_shares_1.rs, fun x => runs (withCtx money_shares_1.E (money_shares_1.ctxc n)) money_shares_1.fin n (.code (bodyOf Try.f37) .ret) (entryFrom 0 money_shares_1.ps x)⟩
theorem money_shares_1.sigc_le (n : Nat) : ∀ x y, (money_shares_1.sigc n).run x = some y → money_shares_1.sig.run x = some y :=
  fun x y h => (money_shares_1.val x).symm.trans (runs_lim (E := money_shares_1.E) (c := money_shares_1.ctxc n) (ctxLe_cons ctxLe_nil (cmp_Compare_uint64.sigc_le n)) h)

/-! ### slices.insertionSortCmpFunc[guerdon/money.part] -/
namespace slices_insertionSortCmpFunc_money_part_money_shares_1
abbrev ps : List PM := [.own money_part, .pure (.int .i64), .pure (.int .i64), .fn 37]
abbrev rs : List RM := []
abbrev R : Type := Option (List money_partV × Unit)
noncomputable def E : Env := { tt := tt, ctx := [(37, money_shares_1.sig)], nt := 53, ann := [(1000001, [(0, .keep), (1, .keep), (2, .keep), (3, .keep), (8, .keep)]), (1000004, [(0, .keep), (1, .keep), (2, .keep), (3, .keep), (8, .keep), (9, .keep)]), (6, [(0, .keep), (1, .keep), (2, .keep), (3, .keep), (8, .keep), (9, .keep)])] }
noncomputable def c0 : Code := sub [1, 0, 0] (bodyOf Try.f42)
noncomputable def c1 : Code := sub [1, 0, 0, 1, 1] (bodyOf Try.f42)
noncomputable def c2 : Code := sub [1, 0, 0, 1, 0, 0, 1, 0, 0] (bodyOf Try.f42)
noncomputable def c3 : Code := sub [1, 0, 0, 1, 0, 0, 1, 0, 0, 1] (bodyOf Try.f42)
noncomputable def K2 : Kont := .blk 0 .ret
noncomputable def K3 : Kont := .loop c0 K2
noncomputable def K6 : Kont := .seq c1 K3
noncomputable def K7 : Kont := .blk 1 K6
noncomputable def K9 : Kont := .blk 2 K7
noncomputable def K10 : Kont := .loop c2 K9
noncomputable def fin : ASt → R := Kret E Try.f42.results.toList ps rs
def tL0 (a : Int) (b : Int) (i : Int) (data_P : List money_partV) : ASt := ⟨[(8, .one (.val (.int .i64) i)), (3, .one (.fn 37 [])), (2, .one (.val (.int .i64) b)), (1, .one (.val (.int .i64) a)), (0, .one (.own 10000))], [(10000, some ⟨.fixed, money_part, data_P⟩)]⟩
def tL1 (a : Int) (b : Int) (i : Int) (j : Int) (data_P : List money_partV) : ASt := ⟨[(9, .one (.val (.int .i64) j)), (8, .one (.val (.int .i64) i)), (3, .one (.fn 37 [])), (2, .one (.val (.int .i64) b)), (1, .one (.val (.int .i64) a)), (0, .one (.own 10000))], [(10000, some ⟨.fixed, money_part, data_P⟩)]⟩
def tJ2 (a : Int) (b : Int) (i : Int) (j : Int) (data_P : List money_partV) : ASt := ⟨[(9, .one (.val (.int .i64) j)), (8, .one (.val (.int .i64) i)), (3, .one (.fn 37 [])), (2, .one (.val (.int .i64) b)), (1, .one (.val (.int .i64) a)), (0, .one (.own 10000))], [(10000, some ⟨.fixed, money_part, data_P⟩)]⟩
noncomputable def SL0 (kL1 : Int → Int → Int → Int → (List money_partV) → R) (a : Int) (b : Int) (i : Int) (data_P : List money_partV) : R :=
  cond (decide (i < b))
    (kL1 a b i i data_P)
    (some (data_P, ()))
noncomputable def SL1 (kJ2 : Int → Int → Int → Int → (List money_partV) → R) (kL0 : Int → Int → Int → (List money_partV) → R) (a : Int) (b : Int) (i : Int) (j : Int) (data_P : List money_partV) : R :=
  cond (decide (j > a))
    (cond (decide (0 ≤ j) && decide (j < (data_P.length : Int)))
      (cond (decide (0 ≤ IntKind.i64.wrap (j - 1)) && decide (IntKind.i64.wrap (j - 1) < (data_P.length : Int)))
        (Option.bind (money_shares_1 (data_P.getD j.toNat (0, 0, ())) (data_P.getD ((IntKind.i64.wrap (j - 1)).toNat) (0, 0, ()))) fun x1 =>
        cond (decide (x1.1 < 0))
          (kJ2 a b i j data_P)
          (kL0 a b (IntKind.i64.wrap (i + 1)) data_P))
        none)
      none)
    (kL0 a b (IntKind.i64.wrap (i + 1)) data_P)
noncomputable def SJ2 (kL1 : Int → Int → Int → Int → (List money_partV) → R) (a : Int) (b : Int) (i : Int) (j : Int) (data_P : List money_partV) : R :=
  cond (decide (0 ≤ IntKind.i64.wrap (j - 1)) && decide (IntKind.i64.wrap (j - 1) < (data_P.length : Int)))
    (cond (decide (0 ≤ j) && decide (j < (data_P.length : Int)))
      (cond (decide (0 ≤ j) && decide (j < (data_P.length : Int)))
        (cond (decide (0 ≤ IntKind.i64.wrap (j - 1)) && decide (IntKind.i64.wrap (j - 1) < ((data_P.set j.toNat (data_P.getD ((IntKind.i64.wrap (j - 1)).toNat) (0, 0, ()))).length : Int)))
          (kL1 a b i (IntKind.i64.wrap (j - 1)) ((data_P.set j.toNat (data_P.getD ((IntKind.i64.wrap (j - 1)).toNat) (0, 0, ()))).set ((IntKind.i64.wrap (j - 1)).toNat) (data_P.getD j.toNat (0, 0, ()))))
          none)
        none)
      none)
    none
noncomputable def Se (kL0 : Int → Int → Int → (List money_partV) → R) (data : List money_partV) (a : Int) (b : Int) : R :=
  kL0 a b (IntKind.i64.wrap (a + 1)) data
theorem sL0 (jmp : Tgt → ASt → R) (a : Int) (b : Int) (i : Int) (data_P : List money_partV) : run E jmp fin depth c0 (.loop c0 K2) (tL0 a b i data_P) =
    SL0 (fun a b i j data_P => jmp (.loop c2 K9) (tL1 a b i j data_P)) a b i data_P := by kernel_rfl
theorem sL1 (jmp : Tgt → ASt → R) (a : Int) (b : Int) (i : Int) (j : Int) (data_P : List money_partV) : run E jmp fin depth c2 (.loop c2 K9) (tL1 a b i j data_P) =
    SL1 (fun a b i j data_P => jmp (.code c3 K10) (tJ2 a b i j data_P)) (fun a b i data_P => jmp (.loop c0 K2) (tL0 a b i data_P)) a b i j data_P := by kernel_rfl
theorem sJ2 (jmp : Tgt → ASt → R) (a : Int) (b : Int) (i : Int) (j : Int) (data_P : List money_partV) : run E jmp fin depth c3 K10 (tJ2 a b i j data_P) =
    SJ2 (fun a b i j data_P => jmp (.loop c2 K9) (tL1 a b i j data_P)) a b i j data_P := by kernel_rfl
theorem se (jmp : Tgt → ASt → R) (x : (argTy ps).den) : run E jmp fin depth (bodyOf Try.f42) .ret (entryFrom 0 ps x) =
    Se (fun a b i data_P => jmp (.loop c0 K2) (tL0 a b i data_P)) x.1 x.2.1 x.2.2.1 := by kernel_rfl
noncomputable def L0 (a : Int) (b : Int) (i : Int) (data_P : List money_partV) : R := lim E fin (.loop c0 K2) (tL0 a b i data_P)
noncomputable def L1 (a : Int) (b : Int) (i : Int) (j : Int) (data_P : List money_partV) : R := lim E fin (.loop c2 K9) (tL1 a b i j data_P)
noncomputable def J2 (a : Int) (b : Int) (i : Int) (j : Int) (data_P : List money_partV) : R := lim E fin (.code c3 K10) (tJ2 a b i j data_P)
theorem L0_eq (a : Int) (b : Int) (i : Int) (data_P : List money_partV) : L0 a b i data_P = SL0 L1 a b i data_P :=
  (lim_eq (.loop c0 K2) (tL0 a b i data_P)).trans (sL0 (lim E fin) a b i data_P)
theorem L1_eq (a : Int) (b : Int) (i : Int) (j : Int) (data_P : List money_partV) : L1 a b i j data_P = SL1 J2 L0 a b i j data_P :=
  (lim_eq (.loop c2 K9) (tL1 a b i j data_P)).trans (sL1 (lim E fin) a b i j data_P)
theorem J2_eq (a : Int) (b : Int) (i : Int) (j : Int) (data_P : List money_partV) : J2 a b i j data_P = SJ2 L1 a b i j data_P :=
  (lim_eq (.code c3 K10) (tJ2 a b i j data_P)).trans (sJ2 (lim E fin) a b i j data_P)
end slices_insertionSortCmpFunc_money_part_money_shares_1
noncomputable def slices_insertionSortCmpFunc_money_part_money_shares_1 (data : List money_partV) (a : Int) (b : Int) : slices_insertionSortCmpFunc_money_part_money_shares_1.R :=
  slices_insertionSortCmpFunc_money_part_money_shares_1.Se slices_insertionSortCmpFunc_money_part_money_shares_1.L0 data a b
noncomputable def slices_insertionSortCmpFunc_money_part_money_shares_1.sig : Sig := ⟨slices_insertionSortCmpFunc_money_part_money_shares_1.ps, slices_insertionSortCmpFunc_money_part_money_shares_1.rs, fun x => slices_insertionSortCmpFunc_money_part_money_shares_1 x.1 x.2.1 x.2.2.1⟩
theorem slices_insertionSortCmpFunc_money_part_money_shares_1.ok : CallOK Try.prog 42 slices_insertionSortCmpFunc_money_part_money_shares_1.sig :=
  callOK_of_lim (E := slices_insertionSortCmpFunc_money_part_money_shares_1.E) mixed tt_ok (ctxOk_cons ctxOk_nil money_shares_1.ok Try.func37 (by kernel_rfl) (by kernel_rfl)) Try.func42 (by kernel_rfl : Try.f42.body = some (bodyOf Try.f42)) Try.ntmps42 (of_decide_eq_true (by kernel_rfl)) (of_decide_eq_true (by kernel_rfl))
    fun x y h => ((lim_eq (.code (bodyOf Try.f42) .ret) (entryFrom 0 slices_insertionSortCmpFunc_money_part_money_shares_1.ps x)).trans (slices_insertionSortCmpFunc_money_part_money_shares_1.se (lim slices_insertionSortCmpFunc_money_part_money_shares_1.E slices_insertionSortCmpFunc_money_part_money_shares_1.fin) x)).trans h
theorem slices_insertionSortCmpFunc_money_part_money_shares_1.val (x : (argTy slices_insertionSortCmpFunc_money_part_money_shares_1.ps).den) : lim slices_insertionSortCmpFunc_money_part_money_shares_1.E slices_insertionSortCmpFunc_money_part_money_shares_1.fin (.code (bodyOf Try.f42) .ret) (entryFrom 0 slices_insertionSortCmpFunc_money_part_money_shares_1.ps x) = slices_insertionSortCmpFunc_money_part_money_shares_1.sig.run x :=
  (lim_eq (.code (bodyOf Try.f42) .ret) (entryFrom 0 slices_insertionSortCmpFunc_money_part_money_shares_1.ps x)).trans (slices_insertionSortCmpFunc_money_part_money_shares_1.se (lim slices_insertionSortCmpFunc_money_part_money_shares_1.E slices_insertionSortCmpFunc_money_part_money_shares_1.fin) x)
noncomputable def slices_insertionSortCmpFunc_money_part_money_shares_1.ctxc (n : Nat) : List (Nat × Sig) := [(37, money_shares_1.sigc n)]
noncomputable def slices_insertionSortCmpFunc_money_part_money_shares_1.sigc (n : Nat) : Sig := ⟨slices_insertionSortCmpFunc_money_part_money_shares_1.ps, slices_insertionSortCmpFunc_money_part_money_shares_1.rs, fun x => runs (withCtx slices_insertionSortCmpFunc_money_part_money_shares_1.E (slices_insertionSortCmpFunc_money_part_money_shares_1.ctxc n)) slices_insertionSortCmpFunc_money_part_money_shares_1.fin n (.code (bodyOf Try.f42) .ret) (entryFrom 0 slices_insertionSortCmpFunc_money_part_money_shares_1.ps x)⟩
theorem slices_insertionSortCmpFunc_money_part_money_shares_1.sigc_le (n : Nat) : ∀ x y, (slices_insertionSortCmpFunc_money_part_money_shares_1.sigc n).run x = some y → slices_insertionSortCmpFunc_money_part_money_shares_1.sig.run x = some y :=
  fun x y h => (slices_insertionSortCmpFunc_money_part_money_shares_1.val x).symm.trans (runs_lim (E := slices_insertionSortCmpFunc_money_part_money_shares_1.E) (c := slices_insertionSortCmpFunc_money_part_money_shares_1.ctxc n) (ctxLe_cons ctxLe_nil (money_shares_1.sigc_le n)) h)

/-! ### slices.swapRangeCmpFunc[guerdon/money.part] -/
namespace slices_swapRangeCmpFunc_money_part_money_shares_1
abbrev ps : List PM := [.own money_part, .pure (.int .i64), .pure (.int .i64), .pure (.int .i64), .fn 37]
abbrev rs : List RM := []
abbrev R : Type := Option (List money_partV × Unit)
noncomputable def E : Env := { tt := tt, ctx := [], nt := 38, ann := [(1000001, [(0, .keep), (1, .keep), (2, .keep), (3, .keep), (10, .keep)])] }
noncomputable def c0 : Code := sub [1, 0, 0] (bodyOf Try.f45)
noncomputable def K2 : Kont := .blk 0 .ret
noncomputable def fin : ASt → R := Kret E Try.f45.results.toList ps rs
def tL0 (a : Int) (b : Int) (n_3 : Int) (i : Int) (data_P : List money_partV) : ASt := ⟨[(10, .one (.val (.int .i64) i)), (3, .one (.val (.int .i64) n_3)), (2, .one (.val (.int .i64) b)), (1, .one (.val (.int .i64) a)), (0, .one (.own 10000))], [(10000, some ⟨.fixed, money_part, data_P⟩)]⟩
noncomputable def SL0 (kL0 : Int → Int → Int → Int → (List money_partV) → R) (a : Int) (b : Int) (n_3 : Int) (i : Int) (data_P : List money_partV) : R :=
  cond (decide (i < n_3))
    (cond (decide (0 ≤ IntKind.i64.wrap (b + i)) && decide (IntKind.i64.wrap (b + i) < (data_P.length : Int)))
      (cond (decide (0 ≤ IntKind.i64.wrap (a + i)) && decide (IntKind.i64.wrap (a + i) < (data_P.length : Int)))
        (cond (decide (0 ≤ IntKind.i64.wrap (a + i)) && decide (IntKind.i64.wrap (a + i) < (data_P.length : Int)))
          (cond (decide (0 ≤ IntKind.i64.wrap (b + i)) && decide (IntKind.i64.wrap (b + i) < ((data_P.set ((IntKind.i64.wrap (a + i)).toNat) (data_P.getD ((IntKind.i64.wrap (b + i)).toNat) (0, 0, ()))).length : Int)))
            (kL0 a b n_3 (IntKind.i64.wrap (i + 1)) ((data_P.set ((IntKind.i64.wrap (a + i)).toNat) (data_P.getD ((IntKind.i64.wrap (b + i)).toNat) (0, 0, ()))).set ((IntKind.i64.wrap (b + i)).toNat) (data_P.getD ((IntKind.i64.wrap (a + i)).toNat) (0, 0, ()))))
            none)
          none)
        none)
      none)
    (some (data_P, ()))
noncomputable def Se (kL0 : Int → Int → Int → Int → (List money_partV) → R) (data : List money_partV) (a : Int) (b : Int) (n_3 : Int) : R :=
  kL0 a b n_3 0 data
theorem sL0 (jmp : Tgt → ASt → R) (a : Int) (b : Int) (n_3 : Int) (i : Int) (data_P : List money_partV) : run E jmp fin depth c0 (.loop c0 K2) (tL0 a b n_3 i data_P) =
    SL0 (fun a b n_3 i data_P => jmp (.loop c0 K2) (tL0 a b n_3 i data_P)) a b n_3 i data_P := by kernel_rfl
theorem se (jmp : Tgt → ASt → R) (x : (argTy ps).den) : run E jmp fin depth (bodyOf Try.f45) .ret (entryFrom 0 ps x) =
    Se (fun a b n_3 i data_P => jmp (.loop c0 K2) (tL0 a b n_3 i data_P)) x.1 x.2.1 x.2.2.1 x.2.2.2.1 := by kernel_rfl
noncomputable def L0 (a : Int) (b : Int) (n_3 : Int) (i : Int) (data_P : List money_partV) : R := lim E fin (.loop c0 K2) (tL0 a b n_3 i data_P)
theorem L0_eq (a : Int) (b : Int) (n_3 : Int) (i : Int) (data_P : List money_partV) : L0 a b n_3 i data_P = SL0 L0 a b n_3 i data_P :=
  (lim_eq (.loop c0 K2) (tL0 a b n_3 i data_P)).trans (sL0 (lim E fin) a b n_3 i data_P)
end slices_swapRangeCmpFunc_money_part_money_shares_1
noncomputable def slices_swapRangeCmpFunc_money_part_money_shares_1 (data : List money_partV) (a : Int) (b : Int) (n_3 : Int) : slices_swapRangeCmpFunc_money_part_money_shares_1.R :=
  slices_swapRangeCmpFunc_money_part_money_shares_1.Se slices_swapRangeCmpFunc_money_part_money_shares_1.L0 data a b n_3
noncomputable def slices_swapRangeCmpFunc_money_part_money_shares_1.sig : Sig := ⟨slices_swapRangeCmpFunc_money_part_money_shares_1.ps, slices_swapRangeCmpFunc_money_part_money_shares_1.rs, fun x => slices_swapRangeCmpFunc_money_part_money_shares_1 x.1 x.2.1 x.2.2.1 x.2.2.2.1⟩
theorem slices_swapRangeCmpFunc_money_part_money_shares_1.ok : CallOK Try.prog 45 slices_swapRangeCmpFunc_money_part_money_shares_1.sig :=
  callOK_of_lim (E := slices_swapRangeCmpFunc_money_part_money_shares_1.E) mixed tt_ok ctxOk_nil Try.func45 (by kernel_rfl : Try.f45.body = some (bodyOf Try.f45)) Try.ntmps45 (of_decide_eq_true (by kernel_rfl)) (of_decide_eq_true (by kernel_rfl))
    fun x y h => ((lim_eq (.code (bodyOf Try.f45) .ret) (entryFrom 0 slices_swapRangeCmpFunc_money_part_money_shares_1.ps x)).trans (slices_swapRangeCmpFunc_money_part_money_shares_1.se (lim slices_swapRangeCmpFunc_money_part_money_shares_1.E slices_swapRangeCmpFunc_money_part_money_shares_1.fin) x)).trans h
theorem slices_swapRangeCmpFunc_money_part_money_shares_1.val (x : (argTy slices_swapRangeCmpFunc_money_part_money_shares_1.ps).den) : lim slices_swapRangeCmpFunc_money_part_money_shares_1.E slices_swapRangeCmpFunc_money_part_money_shares_1.fin (.code (bodyOf Try.f45) .ret) (entryFrom 0 slices_swapRangeCmpFunc_money_part_money_shares_1.ps x) = slices_swapRangeCmpFunc_money_part_money_shares_1.sig.run x :=
  (lim_eq (.code (bodyOf Try.f45) .ret) (entryFrom 0 slices_swapRangeCmpFunc_money_part_money_shares_1.ps x)).trans (slices_swapRangeCmpFunc_money_part_money_shares_1.se (lim slices_swapRangeCmpFunc_money_part_money_shares_1.E slices_swapRangeCmpFunc_money_part_money_shares_1.fin) x)
noncomputable def slices_swapRangeCmpFunc_money_part_money_shares_1.ctxc (n : Nat) : List (Nat × Sig) := []
noncomputable def slices_swapRangeCmpFunc_money_part_money_shares_1.sigc (n : Nat) : Sig := ⟨slices_swapRangeCmpFunc_money_part_money_shares_1.ps, slices_swapRangeCmpFunc_money_part_money_shares_1.rs, fun x => runs (withCtx slices_swapRangeCmpFunc_money_part_money_shares_1.E (slices_swapRangeCmpFunc_money_part_money_shares_1.ctxc n)) slices_swapRangeCmpFunc_money_part_money_shares_1.fin n (.code (bodyOf Try.f45) .ret) (entryFrom 0 slices_swapRangeCmpFunc_money_part_money_shares_1.ps x)⟩
theorem slices_swapRangeCmpFunc_money_part_money_shares_1.sigc_le (n : Nat) : ∀ x y, (slices_swapRangeCmpFunc_money_part_money_shares_1.sigc n).run x = some y → slices_swapRangeCmpFunc_money_part_money_shares_1.sig.run x = some y :=
  fun x y h => (slices_swapRangeCmpFunc_money_part_money_shares_1.val x).symm.trans (runs_lim (E := slices_swapRangeCmpFunc_money_part_money_shares_1.E) (c := slices_swapRangeCmpFunc_money_part_money_shares_1.ctxc n) ctxLe_nil h)

/-! ### slices.rotateCmpFunc[guerdon/money.part] -/
namespace slices_rotateCmpFunc_money_part_money_shares_1
abbrev ps : List PM := [.own money_part, .pure (.int .i64), .pure (.int .i64), .pure (.int .i64), .fn 37]
abbrev rs : List RM := []
abbrev R : Type := Option (List money_partV × Unit)
noncomputable def E : Env := { tt := tt, ctx := [(45, slices_swapRangeCmpFunc_money_part_money_shares_1.sig)], nt := 58, ann := [(1000002, [(0, .keep), (2, .keep), (4, .keep), (10, .keep), (11, .keep)])] }
noncomputable def c0 : Code := sub [1, 1, 1] (bodyOf Try.f44)
noncomputable def c1 : Code := sub [1, 1, 0, 0, 0] (bodyOf Try.f44)
noncomputable def K3 : Kont := .seq c0 .ret
noncomputable def K4 : Kont := .blk 0 K3
noncomputable def fin : ASt → R := Kret E Try.f44.results.toList ps rs
def tL0 (m : Int) (i : Int) (j : Int) (data_P : List money_partV) : ASt := ⟨[(11, .one (.val (.int .i64) j)), (10, .one (.val (.int .i64) i)), (4, .one (.fn 37 [])), (2, .one (.val (.int .i64) m)), (0, .one (.own 10000))], [(10000, some ⟨.fixed, money_part, data_P⟩)]⟩
noncomputable def SL0 (kL0 : Int → Int → Int → (List money_partV) → R) (m : Int) (i : Int) (j : Int) (data_P : List money_partV) : R :=
  cond (i != j)
    (cond (decide (i > j))
      (Option.bind (slices_swapRangeCmpFunc_money_part_money_shares_1 data_P (IntKind.i64.wrap (m - i)) m j) fun x1 =>
      kL0 m (IntKind.i64.wrap (i - j)) j x1.1)
      (Option.bind (slices_swapRangeCmpFunc_money_part_money_shares_1 data_P (IntKind.i64.wrap (m - i)) (IntKind.i64.wrap ((IntKind.i64.wrap (m + j)) - i)) i) fun x2 =>
      kL0 m i (IntKind.i64.wrap (j - i)) x2.1))
    (Option.bind (slices_swapRangeCmpFunc_money_part_money_shares_1 data_P (IntKind.i64.wrap (m - i)) m i) fun x3 =>
    some (x3.1, ()))
noncomputable def Se (kL0 : Int → Int → Int → (List money_partV) → R) (data : List money_partV) (a : Int) (m : Int) (b : Int) : R :=
  kL0 m (IntKind.i64.wrap (m - a)) (IntKind.i64.wrap (b - m)) data
theorem sL0 (jmp : Tgt → ASt → R) (m : Int) (i : Int) (j : Int) (data_P : List money_partV) : run E jmp fin depth c1 (.loop c1 K4) (tL0 m i j data_P) =
    SL0 (fun m i j data_P => jmp (.loop c1 K4) (tL0 m i j data_P)) m i j data_P := by kernel_rfl
theorem se (jmp : Tgt → ASt → R) (x : (argTy ps).den) : run E jmp fin depth (bodyOf Try.f44) .ret (entryFrom 0 ps x) =
    Se (fun m i j data_P => jmp (.loop c1 K4) (tL0 m i j data_P)) x.1 x.2.1 x.2.2.1 x.2.2.2.1 := by kernel_rfl
noncomputable def L0 (m : Int) (i : Int) (j : Int) (data_P : List money_partV) : R := lim E fin (.loop c1 K4) (tL0 m i j data_P)
theorem L0_eq (m : Int) (i : Int) (j : Int) (data_P : List money_partV) : L0 m i j data_P = SL0 L0 m i j data_P :=
  (lim_eq (.loop c1 K4) (tL0 m i j data_P)).trans (sL0 (lim E fin) m i j data_P)
end slices_rotateCmpFunc_money_part_money_shares_1
noncomputable def slices_rotateCmpFunc_money_part_money_shares_1 (data : List money_partV) (a : Int) (m : Int) (b : Int) : slices_rotateCmpFunc_money_part_money_shares_1.R :=
  slices_rotateCmpFunc_money_part_money_shares_1.Se slices_rotateCmpFunc_money_part_money_shares_1.L0 data a m b
noncomputable def slices_rotateCmpFunc_money_part_money_shares_1.sig : Sig := ⟨slices_rotateCmpFunc_money_part_money_shares_1.ps, slices_rotateCmpFunc_money_part_money_shares_1.rs, fun x => slices_rotateCmpFunc_money_part_money_shares_1 x.1 x.2.1 x.2.2.1 x.2.2.2.1⟩
theorem slices_rotateCmpFunc_money_part_money_shares_1.ok : CallOK Try.prog 44 slices_rotateCmpFunc_money_part_money_shares_1.sig :=
  callOK_of_lim (E := slices_rotateCmpFunc_money_part_money_shares_1.E) mixed tt_ok (ctxOk_cons ctxOk_nil slices_swapRangeCmpFunc_money_part_money_shares_1.ok Try.func45 (by kernel_rfl) (by kernel_rfl)) Try.func44 (by kernel_rfl : Try.f44.body = some (bodyOf Try.f44)) Try.ntmps44 (of_decide_eq_true (by kernel_rfl)) (of_decide_eq_true (by kernel_rfl))
    fun x y h => ((lim_eq (.code (bodyOf Try.f44) .ret) (entryFrom 0 slices_rotateCmpFunc_money_part_money_shares_1.ps x)).trans (slices_rotateCmpFunc_money_part_money_shares_1.se (lim slices_rotateCmpFunc_money_part_money_shares_1.E slices_rotateCmpFunc_money_part_money_shares_1.fin) x)).trans h
theorem slices_rotateCmpFunc_money_part_money_shares_1.val (x : (argTy slices_rotateCmpFunc_money_part_money_shares_1.ps).den) : lim slices_rotateCmpFunc_money_part_money_shares_1.E slices_rotateCmpFunc_money_part_money_shares_1.fin (.code (bodyOf Try.f44) .ret) (entryFrom 0 slices_rotateCmpFunc_money_part_money_shares_1.ps x) = slices_rotateCmpFunc_money_part_money_shares_1.sig.run x :=
  (lim_eq (.code (bodyOf Try.f44) .ret) (entryFrom 0 slices_rotateCmpFunc_money_part_money_shares_1.ps x)).trans (slices_rotateCmpFunc_money_part_money_shares_1.se (lim slices_rotateCmpFunc_money_part_money_shares_1.E slices_rotateCmpFunc_money_part_money_shares_1.fin) x)
noncomputable def slices_rotateCmpFunc_money_part_money_shares_1.ctxc (n : Nat) : List (Nat × Sig) := [(45, slices_swapRangeCmpFunc_money_part_money_shares_1.sigc n)]
noncomputable def slices_rotateCmpFunc_money_part_money_shares_1.sigc (n : Nat) : Sig := ⟨slices_rotateCmpFunc_money_part_money_shares_1.ps, slices_rotateCmpFunc_money_part_money_shares_1.rs, fun x => runs (withCtx slices_rotateCmpFunc_money_part_money_shares_1.E (slices_rotateCmpFunc_money_part_money_shares_1.ctxc n)) slices_rotateCmpFunc_money_part_money_shares_1.fin n (.code (bodyOf Try.f44) .ret) (entryFrom 0 slices_rotateCmpFunc_money_part_money_shares_1.ps x)⟩
theorem slices_rotateCmpFunc_money_part_money_shares_1.sigc_le (n : Nat) : ∀ x y, (slices_rotateCmpFunc_money_part_money_shares_1.sigc n).run x = some y → slices_rotateCmpFunc_money_part_money_shares_1.sig.run x = some y :=
  fun x y h => (slices_rotateCmpFunc_money_part_money_shares_1.val x).symm.trans (runs_lim (E := slices_rotateCmpFunc_money_part_money_shares_1.E) (c := slices_rotateCmpFunc_money_part_money_shares_1.ctxc n) (ctxLe_cons ctxLe_nil (slices_swapRangeCmpFunc_money_part_money_shares_1.sigc_le n)) h)

end Go.Proofs.Ytkhmefingpocpaa
