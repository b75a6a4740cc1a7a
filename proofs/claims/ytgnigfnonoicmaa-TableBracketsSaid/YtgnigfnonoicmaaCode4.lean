import Derived.Test.YtgnigfnonoicmaaCode3
set_option maxRecDepth 100000
set_option linter.unusedVariables false
namespace Go.Proofs.Ytgnigfnonoicmaa
open Go Go.Lift
namespace ref05_Contains
abbrev ps : List PM := [.pure api_Type, .pure (.int .i64)]
abbrev rs : List RM := [.pure .bool]
abbrev R : Type := Option (Bool × Unit)
noncomputable def E : Env := { tt := tt, ctx := [(65, ref05_Valid.sig)], nt := 19, ann := [] }
noncomputable def fin : ASt → R := Kret E Try.f43.results.toList ps rs
noncomputable def Se (r_0 : api_TypeV) (date : Int) : R :=
  Option.bind (ref05_Valid r_0) fun x1 =>
  cond x1.1
    (cond (decide (r_0.1 ≤ date))
      (some (decide (date < r_0.2.1), ()))
      (some (false, ())))
    (some (false, ()))
theorem se (jmp : Tgt → ASt → R) (x : (argTy ps).den) : run E jmp fin depth (bodyOf Try.f43) .ret (entryFrom 0 ps x) =
    Se x.1 x.2.1 := by kernel_rfl
end ref05_Contains
noncomputable def ref05_Contains (r_0 : api_TypeV) (date : Int) : ref05_Contains.R :=
  ref05_Contains.Se r_0 date
noncomputable def ref05_Contains.sig : Sig := ⟨ref05_Contains.ps, ref05_Contains.rs, fun x => ref05_Contains x.1 x.2.1⟩
theorem ref05_Contains.ok : CallOK Try.prog 43 ref05_Contains.sig :=
  callOK_of_lim (E := ref05_Contains.E) mixed tt_ok (ctxOk_cons ctxOk_nil ref05_Valid.ok Try.func65 (by kernel_rfl) (by kernel_rfl)) Try.func43 (by kernel_rfl : Try.f43.body = some (bodyOf Try.f43)) Try.ntmps43 (of_decide_eq_true (by kernel_rfl)) (of_decide_eq_true (by kernel_rfl))
    fun x y h => ((lim_eq (.code (bodyOf Try.f43) .ret) (entryFrom 0 ref05_Contains.ps x)).trans (ref05_Contains.se (lim ref05_Contains.E ref05_Contains.fin) x)).trans h
theorem ref05_Contains.val (x : (argTy ref05_Contains.ps).den) : lim ref05_Contains.E ref05_Contains.fin (.code (bodyOf Try.f43) .ret) (entryFrom 0 ref05_Contains.ps x) = ref05_Contains.sig.run x :=
  (lim_eq (.code (bodyOf Try.f43) .ret) (entryFrom 0 ref05_Contains.ps x)).trans (ref05_Contains.se (lim ref05_Contains.E ref05_Contains.fin) x)
noncomputable def ref05_Contains.ctxc (n : Nat) : List (Nat × Sig) := [(65, ref05_Valid.sigc n)]
noncomputable def ref05_Contains.sigc (n : Nat) : Sig := ⟨ref05_Contains.ps, ref05_Contains.rs, fun x => runs (withCtx ref05_Contains.E (ref05_Contains.ctxc n)) ref05_Contains.fin n (.code (bodyOf Try.f43) .ret) (entryFrom 0 ref05_Contains.ps x)⟩
theorem ref05_Contains.sigc_le (n : Nat) : ∀ x y, (ref05_Contains.sigc n).run x = some y → ref05_Contains.sig.run x = some y :=
  fun x y h => (ref05_Contains.val x).symm.trans (runs_lim (E := ref05_Contains.E) (c := ref05_Contains.ctxc n) (ctxLe_cons ctxLe_nil (ref05_Valid.sigc_le n)) h)
namespace ref02_Mode
abbrev ps : List PM := [.pure (.int .i64)]
abbrev rs : List RM := [.pure .bool]
abbrev R : Type := Option (Bool × Unit)
noncomputable def E : Env := { tt := tt, ctx := [], nt := 9, ann := [] }
noncomputable def fin : ASt → R := Kret E Try.f47.results.toList ps rs
noncomputable def Se (m : Int) : R :=
  cond (decide (m ≥ 0))
    (some (decide (m ≤ 5), ()))
    (some (false, ()))
theorem se (jmp : Tgt → ASt → R) (x : (argTy ps).den) : run E jmp fin depth (bodyOf Try.f47) .ret (entryFrom 0 ps x) =
    Se x.1 := by kernel_rfl
end ref02_Mode
noncomputable def ref02_Mode (m : Int) : ref02_Mode.R :=
  ref02_Mode.Se m
noncomputable def ref02_Mode.sig : Sig := ⟨ref02_Mode.ps, ref02_Mode.rs, fun x => ref02_Mode x.1⟩
theorem ref02_Mode.ok : CallOK Try.prog 47 ref02_Mode.sig :=
  callOK_of_lim (E := ref02_Mode.E) mixed tt_ok ctxOk_nil Try.func47 (by kernel_rfl : Try.f47.body = some (bodyOf Try.f47)) Try.ntmps47 (of_decide_eq_true (by kernel_rfl)) (of_decide_eq_true (by kernel_rfl))
    fun x y h => ((lim_eq (.code (bodyOf Try.f47) .ret) (entryFrom 0 ref02_Mode.ps x)).trans (ref02_Mode.se (lim ref02_Mode.E ref02_Mode.fin) x)).trans h
theorem ref02_Mode.val (x : (argTy ref02_Mode.ps).den) : lim ref02_Mode.E ref02_Mode.fin (.code (bodyOf Try.f47) .ret) (entryFrom 0 ref02_Mode.ps x) = ref02_Mode.sig.run x :=
  (lim_eq (.code (bodyOf Try.f47) .ret) (entryFrom 0 ref02_Mode.ps x)).trans (ref02_Mode.se (lim ref02_Mode.E ref02_Mode.fin) x)
noncomputable def ref02_Mode.ctxc (n : Nat) : List (Nat × Sig) := []
noncomputable def ref02_Mode.sigc (n : Nat) : Sig := ⟨ref02_Mode.ps, ref02_Mode.rs, fun x => runs (withCtx ref02_Mode.E (ref02_Mode.ctxc n)) ref02_Mode.fin n (.code (bodyOf Try.f47) .ret) (entryFrom 0 ref02_Mode.ps x)⟩
theorem ref02_Mode.sigc_le (n : Nat) : ∀ x y, (ref02_Mode.sigc n).run x = some y → ref02_Mode.sig.run x = some y :=
  fun x y h => (ref02_Mode.val x).symm.trans (runs_lim (E := ref02_Mode.E) (c := ref02_Mode.ctxc n) ctxLe_nil h)
namespace ref02_Beyond
abbrev ps : List PM := [.pure (.int .i64), .pure (.int .i64)]
abbrev rs : List RM := [.pure .bool]
abbrev R : Type := Option (Bool × Unit)
noncomputable def E : Env := { tt := tt, ctx := [], nt := 14, ann := [] }
noncomputable def fin : ASt → R := Kret E Try.f48.results.toList ps rs
noncomputable def Se (n_0 : Int) (most : Int) : R :=
  cond (decide (n_0 > most))
    (some (true, ()))
    (some (decide (n_0 < (IntKind.i64.wrap (0 - most))), ()))
theorem se (jmp : Tgt → ASt → R) (x : (argTy ps).den) : run E jmp fin depth (bodyOf Try.f48) .ret (entryFrom 0 ps x) =
    Se x.1 x.2.1 := by kernel_rfl
end ref02_Beyond
noncomputable def ref02_Beyond (n_0 : Int) (most : Int) : ref02_Beyond.R :=
  ref02_Beyond.Se n_0 most
noncomputable def ref02_Beyond.sig : Sig := ⟨ref02_Beyond.ps, ref02_Beyond.rs, fun x => ref02_Beyond x.1 x.2.1⟩
theorem ref02_Beyond.ok : CallOK Try.prog 48 ref02_Beyond.sig :=
  callOK_of_lim (E := ref02_Beyond.E) mixed tt_ok ctxOk_nil Try.func48 (by kernel_rfl : Try.f48.body = some (bodyOf Try.f48)) Try.ntmps48 (of_decide_eq_true (by kernel_rfl)) (of_decide_eq_true (by kernel_rfl))
    fun x y h => ((lim_eq (.code (bodyOf Try.f48) .ret) (entryFrom 0 ref02_Beyond.ps x)).trans (ref02_Beyond.se (lim ref02_Beyond.E ref02_Beyond.fin) x)).trans h
theorem ref02_Beyond.val (x : (argTy ref02_Beyond.ps).den) : lim ref02_Beyond.E ref02_Beyond.fin (.code (bodyOf Try.f48) .ret) (entryFrom 0 ref02_Beyond.ps x) = ref02_Beyond.sig.run x :=
  (lim_eq (.code (bodyOf Try.f48) .ret) (entryFrom 0 ref02_Beyond.ps x)).trans (ref02_Beyond.se (lim ref02_Beyond.E ref02_Beyond.fin) x)
noncomputable def ref02_Beyond.ctxc (n : Nat) : List (Nat × Sig) := []
noncomputable def ref02_Beyond.sigc (n : Nat) : Sig := ⟨ref02_Beyond.ps, ref02_Beyond.rs, fun x => runs (withCtx ref02_Beyond.E (ref02_Beyond.ctxc n)) ref02_Beyond.fin n (.code (bodyOf Try.f48) .ret) (entryFrom 0 ref02_Beyond.ps x)⟩
theorem ref02_Beyond.sigc_le (n : Nat) : ∀ x y, (ref02_Beyond.sigc n).run x = some y → ref02_Beyond.sig.run x = some y :=
  fun x y h => (ref02_Beyond.val x).symm.trans (runs_lim (E := ref02_Beyond.E) (c := ref02_Beyond.ctxc n) ctxLe_nil h)
namespace ref02_Rounded
abbrev ps : List PM := [.pure (.int .i64), .pure (.int .i64), .pure (.int .i64), .pure .bool, .pure (.int .i64)]
abbrev rs : List RM := [.pure (.int .i64)]
abbrev R : Type := Option (Int × Unit)
noncomputable def E : Env := { tt := tt, ctx := [], nt := 65, ann := [(13, [(0, .keep), (3, .keep), (11, .keep)])] }
noncomputable def c0 : Code := sub [1, 1, 1] (bodyOf Try.f72)
noncomputable def fin : ASt → R := Kret E Try.f72.results.toList ps rs
def tJ0 (q : Int) (neg : Bool) (up : Bool) : ASt := ⟨[(11, .one (.val .bool up)), (3, .one (.val .bool neg)), (0, .one (.val (.int .i64) q))], []⟩
noncomputable def SJ0 (q : Int) (neg : Bool) (up : Bool) : R :=
  cond up
    (cond neg
      (some (IntKind.i64.wrap (0 - IntKind.i64.wrap (q + 1)), ()))
      (some (IntKind.i64.wrap (q + 1), ())))
    (cond neg
      (some (IntKind.i64.wrap (0 - q), ()))
      (some (q, ())))
noncomputable def Se (kJ0 : Int → Bool → Bool → R) (q : Int) (r_1 : Int) (d : Int) (neg : Bool) (mode : Int) : R :=
  cond (mode == 0)
    (cond neg
      (kJ0 q neg (decide (r_1 > 0)))
      (kJ0 q neg false))
    (cond (mode == 1)
      (cond (!neg)
        (kJ0 q neg (decide (r_1 > 0)))
        (kJ0 q neg false))
      (cond (mode == 3)
        (kJ0 q neg (decide (r_1 > 0)))
        (cond (mode == 4)
          (kJ0 q neg (decide (r_1 ≥ (IntKind.i64.wrap (d - r_1)))))
          (cond (mode == 5)
            (cond (decide (r_1 > (IntKind.i64.wrap (d - r_1))))
              (kJ0 q neg true)
              (cond (r_1 == (IntKind.i64.wrap (d - r_1)))
                (kJ0 q neg ((Int.tmod q 2) == 1))
                (kJ0 q neg false)))
            (kJ0 q neg false)))))
theorem sJ0 (jmp : Tgt → ASt → R) (q : Int) (neg : Bool) (up : Bool) : run E jmp fin depth c0 .ret (tJ0 q neg up) =
    SJ0 q neg up := by kernel_rfl
theorem se (jmp : Tgt → ASt → R) (x : (argTy ps).den) : run E jmp fin depth (bodyOf Try.f72) .ret (entryFrom 0 ps x) =
    Se (fun q neg up => jmp (.code c0 .ret) (tJ0 q neg up)) x.1 x.2.1 x.2.2.1 x.2.2.2.1 x.2.2.2.2.1 := by kernel_rfl
noncomputable def J0 (q : Int) (neg : Bool) (up : Bool) : R := lim E fin (.code c0 .ret) (tJ0 q neg up)
theorem J0_eq (q : Int) (neg : Bool) (up : Bool) : J0 q neg up = SJ0 q neg up :=
  (lim_eq (.code c0 .ret) (tJ0 q neg up)).trans (sJ0 (lim E fin) q neg up)
end ref02_Rounded
noncomputable def ref02_Rounded (q : Int) (r_1 : Int) (d : Int) (neg : Bool) (mode : Int) : ref02_Rounded.R :=
  ref02_Rounded.Se ref02_Rounded.J0 q r_1 d neg mode
noncomputable def ref02_Rounded.sig : Sig := ⟨ref02_Rounded.ps, ref02_Rounded.rs, fun x => ref02_Rounded x.1 x.2.1 x.2.2.1 x.2.2.2.1 x.2.2.2.2.1⟩
theorem ref02_Rounded.ok : CallOK Try.prog 72 ref02_Rounded.sig :=
  callOK_of_lim (E := ref02_Rounded.E) mixed tt_ok ctxOk_nil Try.func72 (by kernel_rfl : Try.f72.body = some (bodyOf Try.f72)) Try.ntmps72 (of_decide_eq_true (by kernel_rfl)) (of_decide_eq_true (by kernel_rfl))
    fun x y h => ((lim_eq (.code (bodyOf Try.f72) .ret) (entryFrom 0 ref02_Rounded.ps x)).trans (ref02_Rounded.se (lim ref02_Rounded.E ref02_Rounded.fin) x)).trans h
theorem ref02_Rounded.val (x : (argTy ref02_Rounded.ps).den) : lim ref02_Rounded.E ref02_Rounded.fin (.code (bodyOf Try.f72) .ret) (entryFrom 0 ref02_Rounded.ps x) = ref02_Rounded.sig.run x :=
  (lim_eq (.code (bodyOf Try.f72) .ret) (entryFrom 0 ref02_Rounded.ps x)).trans (ref02_Rounded.se (lim ref02_Rounded.E ref02_Rounded.fin) x)
noncomputable def ref02_Rounded.ctxc (n : Nat) : List (Nat × Sig) := []
noncomputable def ref02_Rounded.sigc (n : Nat) : Sig := ⟨ref02_Rounded.ps, ref02_Rounded.rs, fun x => runs (withCtx ref02_Rounded.E (ref02_Rounded.ctxc n)) ref02_Rounded.fin n (.code (bodyOf Try.f72) .ret) (entryFrom 0 ref02_Rounded.ps x)⟩
theorem ref02_Rounded.sigc_le (n : Nat) : ∀ x y, (ref02_Rounded.sigc n).run x = some y → ref02_Rounded.sig.run x = some y :=
  fun x y h => (ref02_Rounded.val x).symm.trans (runs_lim (E := ref02_Rounded.E) (c := ref02_Rounded.ctxc n) ctxLe_nil h)
namespace ref12_rounded
abbrev ps : List PM := [.pure (.int .i64), .pure (.int .i64), .pure (.int .i64)]
abbrev rs : List RM := [.pure (.int .i64)]
abbrev R : Type := Option (Int × Unit)
noncomputable def E : Env := { tt := tt, ctx := [(72, ref02_Rounded.sig)], nt := 35, ann := [(1000001, [(0, .keep), (1, .keep), (2, .keep)]), (1000004, [(0, .keep), (1, .keep), (2, .keep)])] }
noncomputable def c0 : Code := sub [1, 1] (bodyOf Try.f50)
noncomputable def c1 : Code := sub [1, 1, 1] (bodyOf Try.f50)
noncomputable def c2 : Code := sub [1, 0, 0, 0] (bodyOf Try.f50)
noncomputable def c3 : Code := sub [1, 1, 0, 0, 0] (bodyOf Try.f50)
noncomputable def K2 : Kont := .seq c0 .ret
noncomputable def K3 : Kont := .blk 0 K2
noncomputable def K9 : Kont := .seq c1 .ret
noncomputable def K10 : Kont := .blk 2 K9
noncomputable def fin : ASt → R := Kret E Try.f50.results.toList ps rs
def tL0 (whole : Int) (rest : Int) (mode : Int) : ASt := ⟨[(2, .one (.val (.int .i64) mode)), (1, .one (.val (.int .i64) rest)), (0, .one (.val (.int .i64) whole))], []⟩
def tL1 (whole : Int) (rest : Int) (mode : Int) : ASt := ⟨[(2, .one (.val (.int .i64) mode)), (1, .one (.val (.int .i64) rest)), (0, .one (.val (.int .i64) whole))], []⟩
noncomputable def SL0 (kL0 : Int → Int → Int → R) (kL1 : Int → Int → Int → R) (whole : Int) (rest : Int) (mode : Int) : R :=
  cond (decide (rest < 0))
    (kL0 (IntKind.i64.wrap (whole - 1)) (IntKind.i64.wrap (rest + 1000000)) mode)
    (kL1 whole rest mode)
noncomputable def SL1 (kL1 : Int → Int → Int → R) (whole : Int) (rest : Int) (mode : Int) : R :=
  cond (decide (rest ≥ 1000000))
    (kL1 (IntKind.i64.wrap (whole + 1)) (IntKind.i64.wrap (rest - 1000000)) mode)
    (cond (decide (whole ≥ 0))
      (Option.bind (ref02_Rounded whole rest 1000000 false mode) fun x1 =>
      some (x1.1, ()))
      (cond (rest == 0)
        (some (whole, ()))
        (Option.bind (ref02_Rounded (IntKind.i64.wrap ((IntKind.i64.wrap (0 - whole)) - 1)) (IntKind.i64.wrap (1000000 - rest)) 1000000 true mode) fun x2 =>
        some (x2.1, ()))))
noncomputable def Se (kL0 : Int → Int → Int → R) (whole : Int) (rest : Int) (mode : Int) : R :=
  kL0 whole rest mode
theorem sL0 (jmp : Tgt → ASt → R) (whole : Int) (rest : Int) (mode : Int) : run E jmp fin depth c2 (.loop c2 K3) (tL0 whole rest mode) =
    SL0 (fun whole rest mode => jmp (.loop c2 K3) (tL0 whole rest mode)) (fun whole rest mode => jmp (.loop c3 K10) (tL1 whole rest mode)) whole rest mode := by kernel_rfl
theorem sL1 (jmp : Tgt → ASt → R) (whole : Int) (rest : Int) (mode : Int) : run E jmp fin depth c3 (.loop c3 K10) (tL1 whole rest mode) =
    SL1 (fun whole rest mode => jmp (.loop c3 K10) (tL1 whole rest mode)) whole rest mode := by kernel_rfl
theorem se (jmp : Tgt → ASt → R) (x : (argTy ps).den) : run E jmp fin depth (bodyOf Try.f50) .ret (entryFrom 0 ps x) =
    Se (fun whole rest mode => jmp (.loop c2 K3) (tL0 whole rest mode)) x.1 x.2.1 x.2.2.1 := by kernel_rfl
noncomputable def L0 (whole : Int) (rest : Int) (mode : Int) : R := lim E fin (.loop c2 K3) (tL0 whole rest mode)
noncomputable def L1 (whole : Int) (rest : Int) (mode : Int) : R := lim E fin (.loop c3 K10) (tL1 whole rest mode)
theorem L0_eq (whole : Int) (rest : Int) (mode : Int) : L0 whole rest mode = SL0 L0 L1 whole rest mode :=
  (lim_eq (.loop c2 K3) (tL0 whole rest mode)).trans (sL0 (lim E fin) whole rest mode)
theorem L1_eq (whole : Int) (rest : Int) (mode : Int) : L1 whole rest mode = SL1 L1 whole rest mode :=
  (lim_eq (.loop c3 K10) (tL1 whole rest mode)).trans (sL1 (lim E fin) whole rest mode)
end ref12_rounded
noncomputable def ref12_rounded (whole : Int) (rest : Int) (mode : Int) : ref12_rounded.R :=
  ref12_rounded.Se ref12_rounded.L0 whole rest mode
noncomputable def ref12_rounded.sig : Sig := ⟨ref12_rounded.ps, ref12_rounded.rs, fun x => ref12_rounded x.1 x.2.1 x.2.2.1⟩
theorem ref12_rounded.ok : CallOK Try.prog 50 ref12_rounded.sig :=
  callOK_of_lim (E := ref12_rounded.E) mixed tt_ok (ctxOk_cons ctxOk_nil ref02_Rounded.ok Try.func72 (by kernel_rfl) (by kernel_rfl)) Try.func50 (by kernel_rfl : Try.f50.body = some (bodyOf Try.f50)) Try.ntmps50 (of_decide_eq_true (by kernel_rfl)) (of_decide_eq_true (by kernel_rfl))
    fun x y h => ((lim_eq (.code (bodyOf Try.f50) .ret) (entryFrom 0 ref12_rounded.ps x)).trans (ref12_rounded.se (lim ref12_rounded.E ref12_rounded.fin) x)).trans h
theorem ref12_rounded.val (x : (argTy ref12_rounded.ps).den) : lim ref12_rounded.E ref12_rounded.fin (.code (bodyOf Try.f50) .ret) (entryFrom 0 ref12_rounded.ps x) = ref12_rounded.sig.run x :=
  (lim_eq (.code (bodyOf Try.f50) .ret) (entryFrom 0 ref12_rounded.ps x)).trans (ref12_rounded.se (lim ref12_rounded.E ref12_rounded.fin) x)
noncomputable def ref12_rounded.ctxc (n : Nat) : List (Nat × Sig) := [(72, ref02_Rounded.sigc n)]
noncomputable def ref12_rounded.sigc (n : Nat) : Sig := ⟨ref12_rounded.ps, ref12_rounded.rs, fun x => runs (withCtx ref12_rounded.E (ref12_rounded.ctxc n)) ref12_rounded.fin n (.code (bodyOf Try.f50) .ret) (entryFrom 0 ref12_rounded.ps x)⟩
theorem ref12_rounded.sigc_le (n : Nat) : ∀ x y, (ref12_rounded.sigc n).run x = some y → ref12_rounded.sig.run x = some y :=
  fun x y h => (ref12_rounded.val x).symm.trans (runs_lim (E := ref12_rounded.E) (c := ref12_rounded.ctxc n) (ctxLe_cons ctxLe_nil (ref02_Rounded.sigc_le n)) h)
namespace ref12_contribution
abbrev ps : List PM := [.pure (.int .i64), .pure (.int .i64)]
abbrev rs : List RM := [.pure (.int .i64), .pure (.int .i64), .pure .bool]
abbrev R : Type := Option (Int × Int × Bool × Unit)
noncomputable def E : Env := { tt := tt, ctx := [], nt := 62, ann := [(4, [(0, .keep), (1, .keep), (7, .keep)]), (7, [(0, .keep), (1, .keep), (8, .keep), (9, .keep)])] }
noncomputable def c0 : Code := sub [1, 1, 1] (bodyOf Try.f49)
noncomputable def c1 : Code := sub [1, 1, 1, 1, 1] (bodyOf Try.f49)
noncomputable def fin : ASt → R := Kret E Try.f49.results.toList ps rs
def tJ0 (part : Int) (n_1 : Int) (m : Int) : ASt := ⟨[(7, .one (.val (.int .u64) m)), (1, .one (.val (.int .i64) n_1)), (0, .one (.val (.int .i64) part))], []⟩
def tJ1 (part : Int) (n_1 : Int) (a : Int) (b : Int) : ASt := ⟨[(9, .one (.val (.int .i64) b)), (8, .one (.val (.int .i64) a)), (1, .one (.val (.int .i64) n_1)), (0, .one (.val (.int .i64) part))], []⟩
noncomputable def SJ0 (kJ1 : Int → Int → Int → Int → R) (part : Int) (n_1 : Int) (m : Int) : R :=
  cond (decide ((IntKind.i64.wrap (IntKind.u64.wrap (Int.tdiv m 1000000))) > 0))
    (cond (decide (IntKind.i64.wrap (IntKind.u64.wrap (Int.tdiv m 1000000)) = 0))
      none
      (cond (decide (part > (IntKind.i64.wrap (Int.tdiv 1000000000000000 (IntKind.i64.wrap (IntKind.u64.wrap (Int.tdiv m 1000000)))))))
        (some (0, 0, false, ()))
        (kJ1 part n_1 (IntKind.i64.wrap (IntKind.u64.wrap (Int.tdiv m 1000000))) (IntKind.i64.wrap (Int.tmod m 1000000)))))
    (kJ1 part n_1 (IntKind.i64.wrap (IntKind.u64.wrap (Int.tdiv m 1000000))) (IntKind.i64.wrap (Int.tmod m 1000000)))
noncomputable def SJ1 (part : Int) (n_1 : Int) (a : Int) (b : Int) : R :=
  cond (decide ((IntKind.i64.wrap ((IntKind.i64.wrap ((IntKind.i64.wrap (part * a)) + (IntKind.i64.wrap ((IntKind.i64.wrap (Int.tdiv part 1000000)) * b)))) + (IntKind.i64.wrap (Int.tdiv (IntKind.i64.wrap ((Int.tmod part 1000000) * b)) 1000000)))) > 1000000000000000))
    (some (0, 0, false, ()))
    (cond (decide (n_1 < 0))
      (some (IntKind.i64.wrap (0 - IntKind.i64.wrap ((IntKind.i64.wrap ((IntKind.i64.wrap (part * a)) + (IntKind.i64.wrap ((IntKind.i64.wrap (Int.tdiv part 1000000)) * b)))) + (IntKind.i64.wrap (Int.tdiv (IntKind.i64.wrap ((Int.tmod part 1000000) * b)) 1000000)))), IntKind.i64.wrap (0 - (Int.tmod (IntKind.i64.wrap ((Int.tmod part 1000000) * b)) 1000000)), true, ()))
      (some (IntKind.i64.wrap ((IntKind.i64.wrap ((IntKind.i64.wrap (part * a)) + (IntKind.i64.wrap ((IntKind.i64.wrap (Int.tdiv part 1000000)) * b)))) + (IntKind.i64.wrap (Int.tdiv (IntKind.i64.wrap ((Int.tmod part 1000000) * b)) 1000000))), (Int.tmod (IntKind.i64.wrap ((Int.tmod part 1000000) * b)) 1000000), true, ())))
noncomputable def Se (kJ0 : Int → Int → Int → R) (part : Int) (n_1 : Int) : R :=
  cond (decide (n_1 < 0))
    (kJ0 part n_1 (IntKind.u64.wrap ((IntKind.u64.wrap (IntKind.i64.wrap (0 - IntKind.i64.wrap (n_1 + 1)))) + 1)))
    (kJ0 part n_1 (IntKind.u64.wrap n_1))
theorem sJ0 (jmp : Tgt → ASt → R) (part : Int) (n_1 : Int) (m : Int) : run E jmp fin depth c0 .ret (tJ0 part n_1 m) =
    SJ0 (fun part n_1 a b => jmp (.code c1 .ret) (tJ1 part n_1 a b)) part n_1 m := by kernel_rfl
theorem sJ1 (jmp : Tgt → ASt → R) (part : Int) (n_1 : Int) (a : Int) (b : Int) : run E jmp fin depth c1 .ret (tJ1 part n_1 a b) =
    SJ1 part n_1 a b := by kernel_rfl
theorem se (jmp : Tgt → ASt → R) (x : (argTy ps).den) : run E jmp fin depth (bodyOf Try.f49) .ret (entryFrom 0 ps x) =
    Se (fun part n_1 m => jmp (.code c0 .ret) (tJ0 part n_1 m)) x.1 x.2.1 := by kernel_rfl
noncomputable def J0 (part : Int) (n_1 : Int) (m : Int) : R := lim E fin (.code c0 .ret) (tJ0 part n_1 m)
noncomputable def J1 (part : Int) (n_1 : Int) (a : Int) (b : Int) : R := lim E fin (.code c1 .ret) (tJ1 part n_1 a b)
theorem J0_eq (part : Int) (n_1 : Int) (m : Int) : J0 part n_1 m = SJ0 J1 part n_1 m :=
  (lim_eq (.code c0 .ret) (tJ0 part n_1 m)).trans (sJ0 (lim E fin) part n_1 m)
theorem J1_eq (part : Int) (n_1 : Int) (a : Int) (b : Int) : J1 part n_1 a b = SJ1 part n_1 a b :=
  (lim_eq (.code c1 .ret) (tJ1 part n_1 a b)).trans (sJ1 (lim E fin) part n_1 a b)
end ref12_contribution
noncomputable def ref12_contribution (part : Int) (n_1 : Int) : ref12_contribution.R :=
  ref12_contribution.Se ref12_contribution.J0 part n_1
noncomputable def ref12_contribution.sig : Sig := ⟨ref12_contribution.ps, ref12_contribution.rs, fun x => ref12_contribution x.1 x.2.1⟩
theorem ref12_contribution.ok : CallOK Try.prog 49 ref12_contribution.sig :=
  callOK_of_lim (E := ref12_contribution.E) mixed tt_ok ctxOk_nil Try.func49 (by kernel_rfl : Try.f49.body = some (bodyOf Try.f49)) Try.ntmps49 (of_decide_eq_true (by kernel_rfl)) (of_decide_eq_true (by kernel_rfl))
    fun x y h => ((lim_eq (.code (bodyOf Try.f49) .ret) (entryFrom 0 ref12_contribution.ps x)).trans (ref12_contribution.se (lim ref12_contribution.E ref12_contribution.fin) x)).trans h
theorem ref12_contribution.val (x : (argTy ref12_contribution.ps).den) : lim ref12_contribution.E ref12_contribution.fin (.code (bodyOf Try.f49) .ret) (entryFrom 0 ref12_contribution.ps x) = ref12_contribution.sig.run x :=
  (lim_eq (.code (bodyOf Try.f49) .ret) (entryFrom 0 ref12_contribution.ps x)).trans (ref12_contribution.se (lim ref12_contribution.E ref12_contribution.fin) x)
noncomputable def ref12_contribution.ctxc (n : Nat) : List (Nat × Sig) := []
noncomputable def ref12_contribution.sigc (n : Nat) : Sig := ⟨ref12_contribution.ps, ref12_contribution.rs, fun x => runs (withCtx ref12_contribution.E (ref12_contribution.ctxc n)) ref12_contribution.fin n (.code (bodyOf Try.f49) .ret) (entryFrom 0 ref12_contribution.ps x)⟩
theorem ref12_contribution.sigc_le (n : Nat) : ∀ x y, (ref12_contribution.sigc n).run x = some y → ref12_contribution.sig.run x = some y :=
  fun x y h => (ref12_contribution.val x).symm.trans (runs_lim (E := ref12_contribution.E) (c := ref12_contribution.ctxc n) ctxLe_nil h)
namespace ref12_Brackets
abbrev ps : List PM := [.pure api_Table, .pure (.int .i64), .pure (.int .i64), .pure (.int .i64)]
abbrev rs : List RM := [.pure (.int .i64), .pure (.int .i64)]
abbrev R : Type := Option (Int × Int × Unit)
noncomputable def E : Env := { tt := tt, ctx := [(47, ref02_Mode.sig), (48, ref02_Beyond.sig), (43, ref05_Contains.sig), (50, ref12_rounded.sig), (49, ref12_contribution.sig)], nt := 99, ann := [(5, [(1, .keep), (2, .keep), (3, .keep), (4, .keep)]), (1000009, [(1, .keep), (2, .keep), (3, .keep), (4, .keep), (10, .keep), (11, .keep), (12, .keep)]), (13, [(1, .keep), (2, .keep), (3, .keep), (4, .keep), (10, .keep), (11, .keep), (12, .keep), (13, .keep), (14, .keep)])] }
noncomputable def c0 : Code := sub [1, 1, 1, 1, 1, 1] (bodyOf Try.f22)
noncomputable def c1 : Code := sub [1, 1, 1, 1, 1, 0, 1, 0, 0] (bodyOf Try.f22)
noncomputable def c2 : Code := sub [1, 1, 1, 1, 1, 0, 1, 0, 0, 1, 1] (bodyOf Try.f22)
noncomputable def c3 : Code := sub [1, 1, 1] (bodyOf Try.f22)
noncomputable def c4 : Code := sub [1, 1, 1, 1, 1, 0, 1, 0, 0, 1, 0, 0, 1, 1] (bodyOf Try.f22)
noncomputable def K12 : Kont := .seq c0 .ret
noncomputable def K14 : Kont := .blk 0 K12
noncomputable def K15 : Kont := .loop c1 K14
noncomputable def K18 : Kont := .seq c2 K15
noncomputable def K19 : Kont := .blk 1 K18
noncomputable def fin : ASt → R := Kret E Try.f22.results.toList ps rs
def tJ0 (date : Int) (c_2 : Int) (mode : Int) (t : api_TableV) : ASt := ⟨[(4, .one (.optr 4 0 [])), (3, .one (.val (.int .i64) mode)), (2, .one (.val (.int .i64) c_2)), (1, .one (.val (.int .i64) date))], [(4, some ⟨.free, api_Table, [t]⟩)]⟩
def tL1 (date : Int) (c_2 : Int) (mode : Int) (t : api_TableV) (whole : Int) (rest : Int) (i : Int) : ASt := ⟨[(12, .one (.val (.int .i64) i)), (11, .one (.val (.int .i64) rest)), (10, .one (.val (.int .i64) whole)), (4, .one (.optr 4 0 [])), (3, .one (.val (.int .i64) mode)), (2, .one (.val (.int .i64) c_2)), (1, .one (.val (.int .i64) date))], [(4, some ⟨.free, api_Table, [t]⟩)]⟩
def tJ2 (date : Int) (c_2 : Int) (mode : Int) (t : api_TableV) (whole : Int) (rest : Int) (i : Int) (lo : Int) (hi : Int) : ASt := ⟨[(14, .one (.val (.int .i64) hi)), (13, .one (.val (.int .i64) lo)), (12, .one (.val (.int .i64) i)), (11, .one (.val (.int .i64) rest)), (10, .one (.val (.int .i64) whole)), (4, .one (.optr 4 0 [])), (3, .one (.val (.int .i64) mode)), (2, .one (.val (.int .i64) c_2)), (1, .one (.val (.int .i64) date))], [(4, some ⟨.free, api_Table, [t]⟩)]⟩
noncomputable def SJ0 (kL1 : Int → Int → Int → api_TableV → Int → Int → Int → R) (date : Int) (c_2 : Int) (mode : Int) (t : api_TableV) : R :=
  Option.bind (ref02_Beyond c_2 1000000000000000) fun x1 =>
  cond x1.1
    (some (0, 3, ()))
    (kL1 date c_2 mode t 0 0 0)
noncomputable def SL1 (kL1 : Int → Int → Int → api_TableV → Int → Int → Int → R) (kJ2 : Int → Int → Int → api_TableV → Int → Int → Int → Int → Int → R) (date : Int) (c_2 : Int) (mode : Int) (t : api_TableV) (whole : Int) (rest : Int) (i : Int) : R :=
  cond (decide (i < (t.2.2.2.1.length : Int)))
    (Option.bind (idx t.2.2.2.1 i) fun x1 =>
    Option.bind (idx t.2.2.2.1 i) fun x2 =>
    cond (decide ((cond (decide (0 > x1.2.1)) 0 x1.2.1) ≥ (cond (decide (c_2 < x2.2.2.1)) c_2 x2.2.2.1)))
      (kL1 date c_2 mode t whole rest (IntKind.i64.wrap (i + 1)))
      (Option.bind (idx t.2.2.2.1 i) fun x3 =>
      Option.bind (ref05_Contains x3.1 date) fun x4 =>
      cond (!x4.1)
        (kL1 date c_2 mode t whole rest (IntKind.i64.wrap (i + 1)))
        (kJ2 date c_2 mode t whole rest i (cond (decide (0 > x1.2.1)) 0 x1.2.1) (cond (decide (c_2 < x2.2.2.1)) c_2 x2.2.2.1))))
    (Option.bind (ref12_rounded whole rest mode) fun x5 =>
    Option.bind (ref02_Beyond x5.1 1000000000000000) fun x6 =>
    cond x6.1
      (some (0, 3, ()))
      (some (x5.1, 0, ())))
noncomputable def SJ2 (kL1 : Int → Int → Int → api_TableV → Int → Int → Int → R) (date : Int) (c_2 : Int) (mode : Int) (t : api_TableV) (whole : Int) (rest : Int) (i : Int) (lo : Int) (hi : Int) : R :=
  Option.bind (idx t.2.2.2.1 i) fun x1 =>
  Option.bind (ref12_contribution (IntKind.i64.wrap (hi - lo)) x1.2.2.2.1) fun x2 =>
  cond (!x2.2.2.1)
    (some (0, 3, ()))
    (kL1 date c_2 mode t (IntKind.i64.wrap (whole + x2.1)) (IntKind.i64.wrap (rest + x2.2.1)) (IntKind.i64.wrap (i + 1)))
noncomputable def Se (kJ0 : Int → Int → Int → api_TableV → R) (t : api_TableV) (date : Int) (c_2 : Int) (mode : Int) : R :=
  Option.bind (ref02_Mode mode) fun x1 =>
  cond (!x1.1)
    (some (0, 1, ()))
    (cond (!eqTy (.pair (.int .i64) (.pair (.int .i64) .unit)) t.2.1 (3, 0, ()))
      (some (0, 8, ()))
      (cond (!eqTy (.pair (.int .i64) (.pair (.int .i64) .unit)) t.2.2.1 (4, 0, ()))
        (some (0, 8, ()))
        (kJ0 date c_2 mode t)))
theorem sJ0 (jmp : Tgt → ASt → R) (date : Int) (c_2 : Int) (mode : Int) (t : api_TableV) : run E jmp fin depth c3 .ret (tJ0 date c_2 mode t) =
    SJ0 (fun date c_2 mode t whole rest i => jmp (.loop c1 K14) (tL1 date c_2 mode t whole rest i)) date c_2 mode t := by kernel_rfl
theorem sL1 (jmp : Tgt → ASt → R) (date : Int) (c_2 : Int) (mode : Int) (t : api_TableV) (whole : Int) (rest : Int) (i : Int) : run E jmp fin depth c1 (.loop c1 K14) (tL1 date c_2 mode t whole rest i) =
    SL1 (fun date c_2 mode t whole rest i => jmp (.loop c1 K14) (tL1 date c_2 mode t whole rest i)) (fun date c_2 mode t whole rest i lo hi => jmp (.code c4 K19) (tJ2 date c_2 mode t whole rest i lo hi)) date c_2 mode t whole rest i := by kernel_rfl
theorem sJ2 (jmp : Tgt → ASt → R) (date : Int) (c_2 : Int) (mode : Int) (t : api_TableV) (whole : Int) (rest : Int) (i : Int) (lo : Int) (hi : Int) : run E jmp fin depth c4 K19 (tJ2 date c_2 mode t whole rest i lo hi) =
    SJ2 (fun date c_2 mode t whole rest i => jmp (.loop c1 K14) (tL1 date c_2 mode t whole rest i)) date c_2 mode t whole rest i lo hi := by kernel_rfl
theorem se (jmp : Tgt → ASt → R) (x : (argTy ps).den) : run E jmp fin depth (bodyOf Try.f22) .ret (entryFrom 0 ps x) =
    Se (fun date c_2 mode t => jmp (.code c3 .ret) (tJ0 date c_2 mode t)) x.1 x.2.1 x.2.2.1 x.2.2.2.1 := by kernel_rfl
noncomputable def J0 (date : Int) (c_2 : Int) (mode : Int) (t : api_TableV) : R := lim E fin (.code c3 .ret) (tJ0 date c_2 mode t)
noncomputable def L1 (date : Int) (c_2 : Int) (mode : Int) (t : api_TableV) (whole : Int) (rest : Int) (i : Int) : R := lim E fin (.loop c1 K14) (tL1 date c_2 mode t whole rest i)
noncomputable def J2 (date : Int) (c_2 : Int) (mode : Int) (t : api_TableV) (whole : Int) (rest : Int) (i : Int) (lo : Int) (hi : Int) : R := lim E fin (.code c4 K19) (tJ2 date c_2 mode t whole rest i lo hi)
theorem J0_eq (date : Int) (c_2 : Int) (mode : Int) (t : api_TableV) : J0 date c_2 mode t = SJ0 L1 date c_2 mode t :=
  (lim_eq (.code c3 .ret) (tJ0 date c_2 mode t)).trans (sJ0 (lim E fin) date c_2 mode t)
theorem L1_eq (date : Int) (c_2 : Int) (mode : Int) (t : api_TableV) (whole : Int) (rest : Int) (i : Int) : L1 date c_2 mode t whole rest i = SL1 L1 J2 date c_2 mode t whole rest i :=
  (lim_eq (.loop c1 K14) (tL1 date c_2 mode t whole rest i)).trans (sL1 (lim E fin) date c_2 mode t whole rest i)
theorem J2_eq (date : Int) (c_2 : Int) (mode : Int) (t : api_TableV) (whole : Int) (rest : Int) (i : Int) (lo : Int) (hi : Int) : J2 date c_2 mode t whole rest i lo hi = SJ2 L1 date c_2 mode t whole rest i lo hi :=
  (lim_eq (.code c4 K19) (tJ2 date c_2 mode t whole rest i lo hi)).trans (sJ2 (lim E fin) date c_2 mode t whole rest i lo hi)
end ref12_Brackets
noncomputable def ref12_Brackets (t : api_TableV) (date : Int) (c_2 : Int) (mode : Int) : ref12_Brackets.R :=
  ref12_Brackets.Se ref12_Brackets.J0 t date c_2 mode
noncomputable def ref12_Brackets.sig : Sig := ⟨ref12_Brackets.ps, ref12_Brackets.rs, fun x => ref12_Brackets x.1 x.2.1 x.2.2.1 x.2.2.2.1⟩
theorem ref12_Brackets.ok : CallOK Try.prog 22 ref12_Brackets.sig :=
  callOK_of_lim (E := ref12_Brackets.E) mixed tt_ok (ctxOk_cons (ctxOk_cons (ctxOk_cons (ctxOk_cons (ctxOk_cons ctxOk_nil ref12_contribution.ok Try.func49 (by kernel_rfl) (by kernel_rfl)) ref12_rounded.ok Try.func50 (by kernel_rfl) (by kernel_rfl)) ref05_Contains.ok Try.func43 (by kernel_rfl) (by kernel_rfl)) ref02_Beyond.ok Try.func48 (by kernel_rfl) (by kernel_rfl)) ref02_Mode.ok Try.func47 (by kernel_rfl) (by kernel_rfl)) Try.func22 (by kernel_rfl : Try.f22.body = some (bodyOf Try.f22)) Try.ntmps22 (of_decide_eq_true (by kernel_rfl)) (of_decide_eq_true (by kernel_rfl))
    fun x y h => ((lim_eq (.code (bodyOf Try.f22) .ret) (entryFrom 0 ref12_Brackets.ps x)).trans (ref12_Brackets.se (lim ref12_Brackets.E ref12_Brackets.fin) x)).trans h
theorem ref12_Brackets.val (x : (argTy ref12_Brackets.ps).den) : lim ref12_Brackets.E ref12_Brackets.fin (.code (bodyOf Try.f22) .ret) (entryFrom 0 ref12_Brackets.ps x) = ref12_Brackets.sig.run x :=
  (lim_eq (.code (bodyOf Try.f22) .ret) (entryFrom 0 ref12_Brackets.ps x)).trans (ref12_Brackets.se (lim ref12_Brackets.E ref12_Brackets.fin) x)
noncomputable def ref12_Brackets.ctxc (n : Nat) : List (Nat × Sig) := [(47, ref02_Mode.sigc n), (48, ref02_Beyond.sigc n), (43, ref05_Contains.sigc n), (50, ref12_rounded.sigc n), (49, ref12_contribution.sigc n)]
noncomputable def ref12_Brackets.sigc (n : Nat) : Sig := ⟨ref12_Brackets.ps, ref12_Brackets.rs, fun x => runs (withCtx ref12_Brackets.E (ref12_Brackets.ctxc n)) ref12_Brackets.fin n (.code (bodyOf Try.f22) .ret) (entryFrom 0 ref12_Brackets.ps x)⟩
theorem ref12_Brackets.sigc_le (n : Nat) : ∀ x y, (ref12_Brackets.sigc n).run x = some y → ref12_Brackets.sig.run x = some y :=
  fun x y h => (ref12_Brackets.val x).symm.trans (runs_lim (E := ref12_Brackets.E) (c := ref12_Brackets.ctxc n) (ctxLe_cons (ctxLe_cons (ctxLe_cons (ctxLe_cons (ctxLe_cons ctxLe_nil (ref12_contribution.sigc_le n)) (ref12_rounded.sigc_le n)) (ref05_Contains.sigc_le n)) (ref02_Beyond.sigc_le n)) (ref02_Mode.sigc_le n)) h)
namespace law12_TableBrackets
abbrev ps : List PM := [.pure api_Table, .pure (.int .i64), .pure (.int .i64), .pure (.int .i64)]
abbrev rs : List RM := [.pure .bool]
abbrev R : Type := Option (Bool × Unit)
noncomputable def E : Env := { tt := tt, ctx := [(10, law12_few.sig), (12, law12_awake.sig), (21, table_Brackets.sig), (22, ref12_Brackets.sig)], nt := 44, ann := [] }
noncomputable def fin : ASt → R := Kret E Try.f5.results.toList ps rs
noncomputable def Se (t : api_TableV) (date : Int) (c_2 : Int) (mode : Int) : R :=
  Option.bind (law12_few t 64) fun x1 =>
  cond (!x1.1)
    (Option.bind law12_awake fun x2 =>
    some (x2.1, ()))
    (Option.bind (table_Brackets t date c_2 mode) fun x3 =>
    Option.bind (ref12_Brackets t date c_2 mode) fun x4 =>
    cond (x3.1 == x4.1)
      (cond (x3.2.1 == x4.2.1)
        (Option.bind law12_awake fun x5 =>
        some (x5.1, ()))
        (some (false, ())))
      (some (false, ())))
theorem se (jmp : Tgt → ASt → R) (x : (argTy ps).den) : run E jmp fin depth (bodyOf Try.f5) .ret (entryFrom 0 ps x) =
    Se x.1 x.2.1 x.2.2.1 x.2.2.2.1 := by kernel_rfl
end law12_TableBrackets
noncomputable def law12_TableBrackets (t : api_TableV) (date : Int) (c_2 : Int) (mode : Int) : law12_TableBrackets.R :=
  law12_TableBrackets.Se t date c_2 mode
noncomputable def law12_TableBrackets.sig : Sig := ⟨law12_TableBrackets.ps, law12_TableBrackets.rs, fun x => law12_TableBrackets x.1 x.2.1 x.2.2.1 x.2.2.2.1⟩
theorem law12_TableBrackets.ok : CallOK Try.prog 5 law12_TableBrackets.sig :=
  callOK_of_lim (E := law12_TableBrackets.E) mixed tt_ok (ctxOk_cons (ctxOk_cons (ctxOk_cons (ctxOk_cons ctxOk_nil ref12_Brackets.ok Try.func22 (by kernel_rfl) (by kernel_rfl)) table_Brackets.ok Try.func21 (by kernel_rfl) (by kernel_rfl)) law12_awake.ok Try.func12 (by kernel_rfl) (by kernel_rfl)) law12_few.ok Try.func10 (by kernel_rfl) (by kernel_rfl)) Try.func5 (by kernel_rfl : Try.f5.body = some (bodyOf Try.f5)) Try.ntmps5 (of_decide_eq_true (by kernel_rfl)) (of_decide_eq_true (by kernel_rfl))
    fun x y h => ((lim_eq (.code (bodyOf Try.f5) .ret) (entryFrom 0 law12_TableBrackets.ps x)).trans (law12_TableBrackets.se (lim law12_TableBrackets.E law12_TableBrackets.fin) x)).trans h
theorem law12_TableBrackets.val (x : (argTy law12_TableBrackets.ps).den) : lim law12_TableBrackets.E law12_TableBrackets.fin (.code (bodyOf Try.f5) .ret) (entryFrom 0 law12_TableBrackets.ps x) = law12_TableBrackets.sig.run x :=
  (lim_eq (.code (bodyOf Try.f5) .ret) (entryFrom 0 law12_TableBrackets.ps x)).trans (law12_TableBrackets.se (lim law12_TableBrackets.E law12_TableBrackets.fin) x)
noncomputable def law12_TableBrackets.ctxc (n : Nat) : List (Nat × Sig) := [(10, law12_few.sigc n), (12, law12_awake.sigc n), (21, table_Brackets.sigc n), (22, ref12_Brackets.sigc n)]
noncomputable def law12_TableBrackets.sigc (n : Nat) : Sig := ⟨law12_TableBrackets.ps, law12_TableBrackets.rs, fun x => runs (withCtx law12_TableBrackets.E (law12_TableBrackets.ctxc n)) law12_TableBrackets.fin n (.code (bodyOf Try.f5) .ret) (entryFrom 0 law12_TableBrackets.ps x)⟩
theorem law12_TableBrackets.sigc_le (n : Nat) : ∀ x y, (law12_TableBrackets.sigc n).run x = some y → law12_TableBrackets.sig.run x = some y :=
  fun x y h => (law12_TableBrackets.val x).symm.trans (runs_lim (E := law12_TableBrackets.E) (c := law12_TableBrackets.ctxc n) (ctxLe_cons (ctxLe_cons (ctxLe_cons (ctxLe_cons ctxLe_nil (ref12_Brackets.sigc_le n)) (table_Brackets.sigc_le n)) (law12_awake.sigc_le n)) (law12_few.sigc_le n)) h)
end Go.Proofs.Ytgnigfnonoicmaa
