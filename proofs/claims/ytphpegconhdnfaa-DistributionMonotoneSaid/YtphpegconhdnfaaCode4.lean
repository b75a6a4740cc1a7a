import Derived.Test.YtphpegconhdnfaaCode3
set_option maxRecDepth 100000
set_option linter.unusedVariables false
namespace Go.Proofs.Ytphpegconhdnfaa
open Go Go.Lift
namespace law59_DistributionMonotone
abbrev ps : List PM := [.pure (.sl (.int .i64)), .pure (.int .i64), .pure (.int .i64)]
abbrev rs : List RM := [.pure .bool]
abbrev R : Type := Option (Bool × Unit)
noncomputable def E : Env := { tt := tt, ctx := [(10, law59_few.sig), (11, law59_awake.sig), (12, distribution_Quantile.sig)], nt := 99, ann := [(3, [(0, .keep), (1, .keep), (2, .keep)]), (1000010, [(0, .keep), (7, .keep), (9, .keep), (10, .keep), (11, .keep), (13, .keep), (15, .keep)])] }
noncomputable def c0 : Code := sub [1, 1, 1, 1, 1, 1, 1, 1] (bodyOf Try.f9)
noncomputable def c1 : Code := sub [1, 1] (bodyOf Try.f9)
noncomputable def c2 : Code := sub [1, 1, 1, 1, 1, 1, 1, 0, 1, 0, 0] (bodyOf Try.f9)
noncomputable def K12 : Kont := .seq c0 .ret
noncomputable def K14 : Kont := .blk 0 K12
noncomputable def fin : ASt → R := Kret E Try.f9.results.toList ps rs
def tJ0 (values : List Int) (k : Int) (n_2 : Int) : ASt := ⟨[(2, .one (.val (.int .i64) n_2)), (1, .one (.val (.int .i64) k)), (0, .one (.val (.sl (.int .i64)) values))], []⟩
def tL1 (values : List Int) (a : Int) (b : Int) (is : Bool) (lo : Int) (hi : Int) (i : Int) : ASt := ⟨[(15, .one (.val (.int .i64) i)), (13, .one (.val (.int .i64) hi)), (11, .one (.val (.int .i64) lo)), (10, .one (.val .bool is)), (9, .one (.val (.int .i64) b)), (7, .one (.val (.int .i64) a)), (0, .one (.val (.sl (.int .i64)) values))], []⟩
noncomputable def J0 (values : List Int) (k : Int) (n_2 : Int) : R := lim E fin (.code c1 .ret) (tJ0 values k n_2)
noncomputable def L1 (values : List Int) (a : Int) (b : Int) (is : Bool) (lo : Int) (hi : Int) (i : Int) : R := lim E fin (.loop c2 K14) (tL1 values a b is lo hi i)
noncomputable def SJ0 (values : List Int) (k : Int) (n_2 : Int) : R :=
  Option.bind (distribution_Quantile values k n_2) fun x1 =>
  cond (!x1.2.1)
    (cond (x1.1 == 0)
      (Option.bind law59_awake fun x2 =>
      some (x2.1, ()))
      (some (false, ())))
    (Option.bind (distribution_Quantile values (IntKind.i64.wrap (k + 1)) n_2) fun x3 =>
    Option.bind (distribution_Quantile values 0 n_2) fun x4 =>
    Option.bind (distribution_Quantile values n_2 n_2) fun x5 =>
    L1 values x1.1 x3.1 x3.2.1 x4.1 x5.1 0)
noncomputable def SL1 (values : List Int) (a : Int) (b : Int) (is : Bool) (lo : Int) (hi : Int) (i : Int) : R :=
  cond (decide (i < (values.length : Int)))
    (Option.bind (idx values i) fun x1 =>
    cond (decide (x1 < lo))
      (some (false, ()))
      (Option.bind (idx values i) fun x2 =>
      cond (decide (x2 > hi))
        (some (false, ()))
        (L1 values a b is lo hi (IntKind.i64.wrap (i + 1)))))
    (cond is
      (cond (decide (lo ≤ a))
        (cond (decide (a ≤ b))
          (cond (decide (b ≤ hi))
            (Option.bind law59_awake fun x3 =>
            some (x3.1, ()))
            (some (false, ())))
          (some (false, ())))
        (some (false, ())))
      (some (false, ())))
noncomputable def Se (values : List Int) (k : Int) (n_2 : Int) : R :=
  Option.bind (law59_few values) fun x1 =>
  cond (!x1.1)
    (Option.bind law59_awake fun x2 =>
    some (x2.1, ()))
    (cond (decide (k ≥ n_2))
      (Option.bind law59_awake fun x3 =>
      some (x3.1, ()))
      (J0 values k n_2))
theorem J0_eq (values k n_2) : J0 values k n_2 = SJ0 values k n_2 := (lim_eq (.code c1 .ret) (tJ0 values k n_2)).trans (by kernel_rfl)
theorem L1_eq (values a b is lo hi i) : L1 values a b is lo hi i = SL1 values a b is lo hi i := (lim_eq (.loop c2 K14) (tL1 values a b is lo hi i)).trans (by kernel_rfl)
theorem se (x : (argTy ps).den) : run E (lim E fin) fin depth (bodyOf Try.f9) .ret (entryFrom 0 ps x) = Se x.1 x.2.1 x.2.2.1 := by kernel_rfl
end law59_DistributionMonotone
noncomputable def law59_DistributionMonotone (values : List Int) (k : Int) (n_2 : Int) : law59_DistributionMonotone.R :=
  law59_DistributionMonotone.Se values k n_2
namespace law59_DistributionMonotone
noncomputable def sig : Sig := ⟨ps, rs, fun x => law59_DistributionMonotone x.1 x.2.1 x.2.2.1⟩
theorem val (x : (argTy ps).den) : lim E fin (.code (bodyOf Try.f9) .ret) (entryFrom 0 ps x) = sig.run x := (lim_eq (.code (bodyOf Try.f9) .ret) (entryFrom 0 ps x)).trans (se x)
theorem ok : CallOK Try.prog 9 sig :=
  callOK_of_lim (E := E) mixed tt_ok (ctxOk_cons (ctxOk_cons (ctxOk_cons ctxOk_nil distribution_Quantile.ok Try.func12 (by kernel_rfl) (by kernel_rfl)) law59_awake.ok Try.func11 (by kernel_rfl) (by kernel_rfl)) law59_few.ok Try.func10 (by kernel_rfl) (by kernel_rfl)) Try.func9 (by kernel_rfl : Try.f9.body = some (bodyOf Try.f9)) Try.ntmps9 (of_decide_eq_true (by kernel_rfl)) (of_decide_eq_true (by kernel_rfl)) fun x y h => (val x).trans h
noncomputable def ctxc (n : Nat) : List (Nat × Sig) := [(10, law59_few.sigc n), (11, law59_awake.sigc n), (12, distribution_Quantile.sigc n)]
noncomputable def sigc (n : Nat) : Sig := ⟨ps, rs, fun x => runs (withCtx E (ctxc n)) fin n (.code (bodyOf Try.f9) .ret) (entryFrom 0 ps x)⟩
theorem sigc_le (n : Nat) : ∀ x y, (sigc n).run x = some y → sig.run x = some y := fun x y h => (val x).symm.trans (runs_lim (E := E) (c := ctxc n) (ctxLe_cons (ctxLe_cons (ctxLe_cons ctxLe_nil (distribution_Quantile.sigc_le n)) (law59_awake.sigc_le n)) (law59_few.sigc_le n)) h)
end law59_DistributionMonotone
end Go.Proofs.Ytphpegconhdnfaa
