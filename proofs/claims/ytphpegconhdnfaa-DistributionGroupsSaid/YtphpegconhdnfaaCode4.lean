import Derived.Test.YtphpegconhdnfaaCode3
set_option maxRecDepth 100000
set_option linter.unusedVariables false
namespace Go.Proofs.Ytphpegconhdnfaa
open Go Go.Lift
namespace ref59_Groups
abbrev ps : List PM := [.pure (.sl (.int .i64)), .pure (.sl (.int .i64)), .pure (.int .i64)]
abbrev rs : List RM := [.own api_Bucket, .pure (.int .i64)]
abbrev R : Type := Option (List api_BucketV × Int × Unit)
noncomputable def E : Env := { tt := tt, ctx := [(28, ref59_within.sig)], nt := 85, ann := [(5, [(0, .keep), (1, .keep), (2, .keep)]), (7, [(0, .keep), (1, .keep), (2, .keep)]), (1000009, [(0, .keep), (1, .keep), (2, .keep), (8, .own api_Bucket), (9, .keep)]), (1000013, [(0, .keep), (1, .keep), (2, .keep), (8, .own api_Bucket), (10, .keep)]), (18, [(0, .keep), (1, .keep), (2, .keep), (8, .own api_Bucket), (10, .keep), (11, .keep)])] }
noncomputable def c0 : Code := sub [1, 1, 1, 1, 1, 1] (bodyOf Try.f18)
noncomputable def c1 : Code := sub [1, 1, 1, 1, 1, 1, 1] (bodyOf Try.f18)
noncomputable def c2 : Code := sub [1, 1, 1, 1, 1, 1, 0, 1, 0, 0] (bodyOf Try.f18)
noncomputable def c3 : Code := sub [1, 1, 1, 1, 1, 1, 0, 1, 0, 0, 1, 1] (bodyOf Try.f18)
noncomputable def c4 : Code := sub [1, 1, 1] (bodyOf Try.f18)
noncomputable def c5 : Code := sub [1, 1, 1, 1] (bodyOf Try.f18)
noncomputable def c6 : Code := sub [1, 1, 1, 1, 1, 0, 1, 0, 0] (bodyOf Try.f18)
noncomputable def c7 : Code := sub [1, 1, 1, 1, 1, 1, 0, 1, 0, 0, 1, 0, 0, 1, 1] (bodyOf Try.f18)
noncomputable def K12 : Kont := .seq c0 .ret
noncomputable def K14 : Kont := .blk 0 K12
noncomputable def K20 : Kont := .seq c1 .ret
noncomputable def K22 : Kont := .blk 2 K20
noncomputable def K23 : Kont := .loop c2 K22
noncomputable def K26 : Kont := .seq c3 K23
noncomputable def K27 : Kont := .blk 3 K26
noncomputable def fin : ASt → R := Kret E Try.f18.results.toList ps rs
def tJ0 (values : List Int) (groups : List Int) (n_2 : Int) : ASt := ⟨[(2, .one (.val (.int .i64) n_2)), (1, .one (.val (.sl (.int .i64)) groups)), (0, .one (.val (.sl (.int .i64)) values))], []⟩
def tJ1 (values : List Int) (groups : List Int) (n_2 : Int) : ASt := ⟨[(2, .one (.val (.int .i64) n_2)), (1, .one (.val (.sl (.int .i64)) groups)), (0, .one (.val (.sl (.int .i64)) values))], []⟩
def tL2 (values : List Int) (groups : List Int) (n_2 : Int) (out : List api_BucketV) (g_9 : Int) : ASt := ⟨[(9, .one (.val (.int .i64) g_9)), (8, .one (.own 8)), (2, .one (.val (.int .i64) n_2)), (1, .one (.val (.sl (.int .i64)) groups)), (0, .one (.val (.sl (.int .i64)) values))], [(8, some ⟨.free, api_Bucket, out⟩)]⟩
def tL3 (values : List Int) (groups : List Int) (n_2 : Int) (out : List api_BucketV) (i : Int) : ASt := ⟨[(10, .one (.val (.int .i64) i)), (8, .one (.own 8)), (2, .one (.val (.int .i64) n_2)), (1, .one (.val (.sl (.int .i64)) groups)), (0, .one (.val (.sl (.int .i64)) values))], [(8, some ⟨.free, api_Bucket, out⟩)]⟩
def tJ4 (values : List Int) (groups : List Int) (n_2 : Int) (out : List api_BucketV) (i : Int) (g_11 : Int) : ASt := ⟨[(11, .one (.val (.int .i64) g_11)), (10, .one (.val (.int .i64) i)), (8, .one (.own 8)), (2, .one (.val (.int .i64) n_2)), (1, .one (.val (.sl (.int .i64)) groups)), (0, .one (.val (.sl (.int .i64)) values))], [(8, some ⟨.free, api_Bucket, out⟩)]⟩
noncomputable def J0 (values : List Int) (groups : List Int) (n_2 : Int) : R := lim E fin (.code c4 .ret) (tJ0 values groups n_2)
noncomputable def J1 (values : List Int) (groups : List Int) (n_2 : Int) : R := lim E fin (.code c5 .ret) (tJ1 values groups n_2)
noncomputable def L2 (values : List Int) (groups : List Int) (n_2 : Int) (out : List api_BucketV) (g_9 : Int) : R := lim E fin (.loop c6 K14) (tL2 values groups n_2 out g_9)
noncomputable def L3 (values : List Int) (groups : List Int) (n_2 : Int) (out : List api_BucketV) (i : Int) : R := lim E fin (.loop c2 K22) (tL3 values groups n_2 out i)
noncomputable def J4 (values : List Int) (groups : List Int) (n_2 : Int) (out : List api_BucketV) (i : Int) (g_11 : Int) : R := lim E fin (.code c7 K27) (tJ4 values groups n_2 out i g_11)
noncomputable def SJ0 (values : List Int) (groups : List Int) (n_2 : Int) : R :=
  cond (decide (n_2 < 1))
    (some ([], 3, ()))
    (Option.bind (ref59_within values) fun x1 =>
    cond (!x1.1)
      (some ([], 3, ()))
      (J1 values groups n_2))
noncomputable def SJ1 (values : List Int) (groups : List Int) (n_2 : Int) : R :=
  L2 values groups n_2 [] 0
noncomputable def SL2 (values : List Int) (groups : List Int) (n_2 : Int) (out : List api_BucketV) (g_9 : Int) : R :=
  cond (decide (g_9 < n_2))
    (cond (decide ((out.length + 1) * 32 ≤ room) && decide (0 < Ty.nc (.pair (.int .i64) (.pair (.int .i64) (.pair (.int .i64) (.pair (.int .i64) .unit))))))
      (L2 values groups n_2 (out ++ [(g_9, IntKind.i64.wrap (g_9 + 1), 0, 0, ())]) (IntKind.i64.wrap (g_9 + 1)))
      none)
    (L3 values groups n_2 out 0)
noncomputable def SL3 (values : List Int) (groups : List Int) (n_2 : Int) (out : List api_BucketV) (i : Int) : R :=
  cond (decide (i < (values.length : Int)))
    (Option.bind (idx groups i) fun x1 =>
    cond (decide (x1 < 0))
      (some ([], 3, ()))
      (cond (decide (x1 ≥ n_2))
        (some ([], 3, ()))
        (J4 values groups n_2 out i x1)))
    (some (out, 0, ()))
noncomputable def SJ4 (values : List Int) (groups : List Int) (n_2 : Int) (out : List api_BucketV) (i : Int) (g_11 : Int) : R :=
  cond (decide (0 ≤ g_11) && decide (g_11 < (out.length : Int)))
    (cond (decide (0 ≤ g_11) && decide (g_11 < (out.length : Int)))
      (cond (decide (0 ≤ g_11) && decide (g_11 < ((out.set g_11.toNat ((out.getD g_11.toNat (0, 0, 0, 0, ())).1, (out.getD g_11.toNat (0, 0, 0, 0, ())).2.1, IntKind.i64.wrap (((out.getD g_11.toNat (0, 0, 0, 0, ())).2.2.1) + 1), (out.getD g_11.toNat (0, 0, 0, 0, ())).2.2.2.1, ())).length : Int)))
        (Option.bind (idx values i) fun x1 =>
        cond (decide (0 ≤ g_11) && decide (g_11 < ((out.set g_11.toNat ((out.getD g_11.toNat (0, 0, 0, 0, ())).1, (out.getD g_11.toNat (0, 0, 0, 0, ())).2.1, IntKind.i64.wrap (((out.getD g_11.toNat (0, 0, 0, 0, ())).2.2.1) + 1), (out.getD g_11.toNat (0, 0, 0, 0, ())).2.2.2.1, ())).length : Int)))
          (L3 values groups n_2 ((out.set g_11.toNat ((out.getD g_11.toNat (0, 0, 0, 0, ())).1, (out.getD g_11.toNat (0, 0, 0, 0, ())).2.1, IntKind.i64.wrap (((out.getD g_11.toNat (0, 0, 0, 0, ())).2.2.1) + 1), (out.getD g_11.toNat (0, 0, 0, 0, ())).2.2.2.1, ())).set g_11.toNat (((out.set g_11.toNat ((out.getD g_11.toNat (0, 0, 0, 0, ())).1, (out.getD g_11.toNat (0, 0, 0, 0, ())).2.1, IntKind.i64.wrap (((out.getD g_11.toNat (0, 0, 0, 0, ())).2.2.1) + 1), (out.getD g_11.toNat (0, 0, 0, 0, ())).2.2.2.1, ())).getD g_11.toNat (0, 0, 0, 0, ())).1, ((out.set g_11.toNat ((out.getD g_11.toNat (0, 0, 0, 0, ())).1, (out.getD g_11.toNat (0, 0, 0, 0, ())).2.1, IntKind.i64.wrap (((out.getD g_11.toNat (0, 0, 0, 0, ())).2.2.1) + 1), (out.getD g_11.toNat (0, 0, 0, 0, ())).2.2.2.1, ())).getD g_11.toNat (0, 0, 0, 0, ())).2.1, ((out.set g_11.toNat ((out.getD g_11.toNat (0, 0, 0, 0, ())).1, (out.getD g_11.toNat (0, 0, 0, 0, ())).2.1, IntKind.i64.wrap (((out.getD g_11.toNat (0, 0, 0, 0, ())).2.2.1) + 1), (out.getD g_11.toNat (0, 0, 0, 0, ())).2.2.2.1, ())).getD g_11.toNat (0, 0, 0, 0, ())).2.2.1, IntKind.i64.wrap ((((out.set g_11.toNat ((out.getD g_11.toNat (0, 0, 0, 0, ())).1, (out.getD g_11.toNat (0, 0, 0, 0, ())).2.1, IntKind.i64.wrap (((out.getD g_11.toNat (0, 0, 0, 0, ())).2.2.1) + 1), (out.getD g_11.toNat (0, 0, 0, 0, ())).2.2.2.1, ())).getD g_11.toNat (0, 0, 0, 0, ())).2.2.2.1) + x1), ())) (IntKind.i64.wrap (i + 1)))
          none)
        none)
      none)
    none
noncomputable def Se (values : List Int) (groups : List Int) (n_2 : Int) : R :=
  cond ((values.length : Int) != (groups.length : Int))
    (some ([], 2, ()))
    (cond (decide ((values.length : Int) > 4096))
      (some ([], 4, ()))
      (cond (decide (n_2 > 64))
        (some ([], 4, ()))
        (J0 values groups n_2)))
theorem J0_eq (values groups n_2) : J0 values groups n_2 = SJ0 values groups n_2 := (lim_eq (.code c4 .ret) (tJ0 values groups n_2)).trans (by kernel_rfl)
theorem J1_eq (values groups n_2) : J1 values groups n_2 = SJ1 values groups n_2 := (lim_eq (.code c5 .ret) (tJ1 values groups n_2)).trans (by kernel_rfl)
theorem L2_eq (values groups n_2 out g_9) : L2 values groups n_2 out g_9 = SL2 values groups n_2 out g_9 := (lim_eq (.loop c6 K14) (tL2 values groups n_2 out g_9)).trans (by kernel_rfl)
theorem L3_eq (values groups n_2 out i) : L3 values groups n_2 out i = SL3 values groups n_2 out i := (lim_eq (.loop c2 K22) (tL3 values groups n_2 out i)).trans (by kernel_rfl)
theorem J4_eq (values groups n_2 out i g_11) : J4 values groups n_2 out i g_11 = SJ4 values groups n_2 out i g_11 := (lim_eq (.code c7 K27) (tJ4 values groups n_2 out i g_11)).trans (by kernel_rfl)
theorem se (x : (argTy ps).den) : run E (lim E fin) fin depth (bodyOf Try.f18) .ret (entryFrom 0 ps x) = Se x.1 x.2.1 x.2.2.1 := by kernel_rfl
end ref59_Groups
noncomputable def ref59_Groups (values : List Int) (groups : List Int) (n_2 : Int) : ref59_Groups.R :=
  ref59_Groups.Se values groups n_2
namespace ref59_Groups
noncomputable def sig : Sig := ⟨ps, rs, fun x => ref59_Groups x.1 x.2.1 x.2.2.1⟩
theorem val (x : (argTy ps).den) : lim E fin (.code (bodyOf Try.f18) .ret) (entryFrom 0 ps x) = sig.run x := (lim_eq (.code (bodyOf Try.f18) .ret) (entryFrom 0 ps x)).trans (se x)
theorem ok : CallOK Try.prog 18 sig :=
  callOK_of_lim (E := E) mixed tt_ok (ctxOk_cons ctxOk_nil ref59_within.ok Try.func28 (by kernel_rfl) (by kernel_rfl)) Try.func18 (by kernel_rfl : Try.f18.body = some (bodyOf Try.f18)) Try.ntmps18 (of_decide_eq_true (by kernel_rfl)) (of_decide_eq_true (by kernel_rfl)) fun x y h => (val x).trans h
noncomputable def ctxc (n : Nat) : List (Nat × Sig) := [(28, ref59_within.sigc n)]
noncomputable def sigc (n : Nat) : Sig := ⟨ps, rs, fun x => runs (withCtx E (ctxc n)) fin n (.code (bodyOf Try.f18) .ret) (entryFrom 0 ps x)⟩
theorem sigc_le (n : Nat) : ∀ x y, (sigc n).run x = some y → sig.run x = some y := fun x y h => (val x).symm.trans (runs_lim (E := E) (c := ctxc n) (ctxLe_cons ctxLe_nil (ref59_within.sigc_le n)) h)
end ref59_Groups
namespace law59_DistributionGroups
abbrev ps : List PM := [.pure (.sl (.int .i64)), .pure (.sl (.int .i64)), .pure (.int .i64)]
abbrev rs : List RM := [.pure .bool]
abbrev R : Type := Option (Bool × Unit)
noncomputable def E : Env := { tt := tt, ctx := [(10, law59_few.sig), (11, law59_awake.sig), (17, distribution_Groups.sig), (18, ref59_Groups.sig), (16, same_Buckets.sig)], nt := 45, ann := [(3, [(0, .keep), (1, .keep), (2, .keep)])] }
noncomputable def c0 : Code := sub [1, 1] (bodyOf Try.f5)
noncomputable def fin : ASt → R := Kret E Try.f5.results.toList ps rs
def tJ0 (values : List Int) (groups : List Int) (n_2 : Int) : ASt := ⟨[(2, .one (.val (.int .i64) n_2)), (1, .one (.val (.sl (.int .i64)) groups)), (0, .one (.val (.sl (.int .i64)) values))], []⟩
noncomputable def J0 (values : List Int) (groups : List Int) (n_2 : Int) : R := lim E fin (.code c0 .ret) (tJ0 values groups n_2)
noncomputable def SJ0 (values : List Int) (groups : List Int) (n_2 : Int) : R :=
  Option.bind (distribution_Groups values groups n_2) fun x1 =>
  Option.bind (ref59_Groups values groups n_2) fun x2 =>
  Option.bind (same_Buckets x1.1 x2.1) fun x3 =>
  cond x3.1
    (cond (x1.2.1 == x2.2.1)
      (Option.bind law59_awake fun x4 =>
      some (x4.1, ()))
      (some (false, ())))
    (some (false, ()))
noncomputable def Se (values : List Int) (groups : List Int) (n_2 : Int) : R :=
  Option.bind (law59_few values) fun x1 =>
  cond (!x1.1)
    (Option.bind law59_awake fun x2 =>
    some (x2.1, ()))
    (Option.bind (law59_few groups) fun x3 =>
    cond (!x3.1)
      (Option.bind law59_awake fun x4 =>
      some (x4.1, ()))
      (J0 values groups n_2))
theorem J0_eq (values groups n_2) : J0 values groups n_2 = SJ0 values groups n_2 := (lim_eq (.code c0 .ret) (tJ0 values groups n_2)).trans (by kernel_rfl)
theorem se (x : (argTy ps).den) : run E (lim E fin) fin depth (bodyOf Try.f5) .ret (entryFrom 0 ps x) = Se x.1 x.2.1 x.2.2.1 := by kernel_rfl
end law59_DistributionGroups
noncomputable def law59_DistributionGroups (values : List Int) (groups : List Int) (n_2 : Int) : law59_DistributionGroups.R :=
  law59_DistributionGroups.Se values groups n_2
namespace law59_DistributionGroups
noncomputable def sig : Sig := ⟨ps, rs, fun x => law59_DistributionGroups x.1 x.2.1 x.2.2.1⟩
theorem val (x : (argTy ps).den) : lim E fin (.code (bodyOf Try.f5) .ret) (entryFrom 0 ps x) = sig.run x := (lim_eq (.code (bodyOf Try.f5) .ret) (entryFrom 0 ps x)).trans (se x)
theorem ok : CallOK Try.prog 5 sig :=
  callOK_of_lim (E := E) mixed tt_ok (ctxOk_cons (ctxOk_cons (ctxOk_cons (ctxOk_cons (ctxOk_cons ctxOk_nil same_Buckets.ok Try.func16 (by kernel_rfl) (by kernel_rfl)) ref59_Groups.ok Try.func18 (by kernel_rfl) (by kernel_rfl)) distribution_Groups.ok Try.func17 (by kernel_rfl) (by kernel_rfl)) law59_awake.ok Try.func11 (by kernel_rfl) (by kernel_rfl)) law59_few.ok Try.func10 (by kernel_rfl) (by kernel_rfl)) Try.func5 (by kernel_rfl : Try.f5.body = some (bodyOf Try.f5)) Try.ntmps5 (of_decide_eq_true (by kernel_rfl)) (of_decide_eq_true (by kernel_rfl)) fun x y h => (val x).trans h
noncomputable def ctxc (n : Nat) : List (Nat × Sig) := [(10, law59_few.sigc n), (11, law59_awake.sigc n), (17, distribution_Groups.sigc n), (18, ref59_Groups.sigc n), (16, same_Buckets.sigc n)]
noncomputable def sigc (n : Nat) : Sig := ⟨ps, rs, fun x => runs (withCtx E (ctxc n)) fin n (.code (bodyOf Try.f5) .ret) (entryFrom 0 ps x)⟩
theorem sigc_le (n : Nat) : ∀ x y, (sigc n).run x = some y → sig.run x = some y := fun x y h => (val x).symm.trans (runs_lim (E := E) (c := ctxc n) (ctxLe_cons (ctxLe_cons (ctxLe_cons (ctxLe_cons (ctxLe_cons ctxLe_nil (same_Buckets.sigc_le n)) (ref59_Groups.sigc_le n)) (distribution_Groups.sigc_le n)) (law59_awake.sigc_le n)) (law59_few.sigc_le n)) h)
end law59_DistributionGroups
end Go.Proofs.Ytphpegconhdnfaa
