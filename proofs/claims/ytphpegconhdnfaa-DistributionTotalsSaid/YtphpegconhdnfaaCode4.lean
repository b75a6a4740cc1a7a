import Derived.Test.YtphpegconhdnfaaCode3
set_option maxRecDepth 100000
set_option linter.unusedVariables false
namespace Go.Proofs.Ytphpegconhdnfaa
open Go Go.Lift
namespace ref59_Groups
abbrev ps : List PM := [.pure (.sl (.int .i64)), .pure (.sl (.int .i64)), .pure (.int .i64)]
abbrev rs : List RM := [.own api_Bucket, .pure (.int .i64)]
abbrev R : Type := Option (List api_BucketV × Int × Unit)
noncomputable def E : Env := { tt := tt, ctx := [(28, ref59_within.sig)], nt := 85, ann := [(5, [(0, .keep), (1, .keep), (2, .keep)]), (7, [(0, .keep), (1, .keep), (2, .keep)]), (1000009, [(0, .keep), (1, .keep), (2, .keep), (8, .own api_Bucket), (9, .keep)]), (1000013, [(0, .keep), (1, .keep), (2, .keep), (8, .own api_Bucket), (10, .keep)]), (18, [(0, .keep), (1, .keep), (2, .keep), (8, .own api_Bucket), (10, .keep), (11, .keep)])] }
noncomputable def c0 : Code := sub [1, 1, 1, 1, 1, 1] (bodyOf Try.f18)
noncomputable def c1 : Code := sub [1, 1, 1, 1, 1, 1, 1] (bodyOf Try.f18)
noncomputable def c2 : Code := sub [1, 1, 1, 1, 1, 1, 0, 1, 0, 0] (bodyOf Try.f18)
noncomputable def c3 : Code := sub [1, 1, 1, 1, 1, 1, 0, 1, 0, 0, 1, 1] (bodyOf Try.f18)
noncomputable def c4 : Code := sub [1, 1, 1] (bodyOf Try.f18)
noncomputable def c5 : Code := sub [1, 1, 1, 1] (bodyOf Try.f18)
noncomputable def c6 : Code := sub [1, 1, 1, 1, 1, 0, 1, 0, 0] (bodyOf Try.f18)
noncomputable def c7 : Code := sub [1, 1, 1, 1, 1, 1, 0, 1, 0, 0, 1, 0, 0, 1, 1] (bodyOf Try.f18)
noncomputable def K12 : Kont := .seq c0 .ret
noncomputable def K14 : Kont := .blk 0 K12
noncomputable def K20 : Kont := .seq c1 .ret
noncomputable def K22 : Kont := .blk 2 K20
noncomputable def K23 : Kont := .loop c2 K22
noncomputable def K26 : Kont := .seq c3 K23
noncomputable def K27 : Kont := .blk 3 K26
noncomputable def fin : ASt → R := Kret E Try.f18.results.toList ps rs
def tJ0 (values : List Int) (groups : List Int) (n_2 : Int) : ASt := ⟨[(2, .one (.val (.int .i64) n_2)), (1, .one (.val (.sl (.int .i64)) groups)), (0, .one (.val (.sl (.int .i64)) values))], []⟩
def tJ1 (values : List Int) (groups : List Int) (n_2 : Int) : ASt := ⟨[(2, .one (.val (.int .i64) n_2)), (1, .one (.val (.sl (.int .i64)) groups)), (0, .one (.val (.sl (.int .i64)) values))], []⟩
def tL2 (values : List Int) (groups : List Int) (n_2 : Int) (out : List api_BucketV) (g_9 : Int) : ASt := ⟨[(9, .one (.val (.int .i64) g_9)), (8, .one (.own 8)), (2, .one (.val (.int .i64) n_2)), (1, .one (.val (.sl (.int .i64)) groups)), (0, .one (.val (.sl (.int .i64)) values))], [(8, some ⟨.free, api_Bucket, out⟩)]⟩
def tL3 (values : List Int) (groups : List Int) (n_2 : Int) (out : List api_BucketV) (i : Int) : ASt := ⟨[(10, .one (.val (.int .i64) i)), (8, .one (.own 8)), (2, .one (.val (.int .i64) n_2)), (1, .one (.val (.sl (.int .i64)) groups)), (0, .one (.val (.sl (.int .i64)) values))], [(8, some ⟨.free, api_Bucket, out⟩)]⟩
def tJ4 (values : List Int) (groups : List Int) (n_2 : Int) (out : List api_BucketV) (i : Int) (g_11 : Int) : ASt := ⟨[(11, .one (.val (.int .i64) g_11)), (10, .one (.val (.int .i64) i)), (8, .one (.own 8)), (2, .one (.val (.int .i64) n_2)), (1, .one (.val (.sl (.int .i64)) groups)), (0, .one (.val (.sl (.int .i64)) values))], [(8, some ⟨.free, api_Bucket, out⟩)]⟩
noncomputable def J0 (values : List Int) (groups : List Int) (n_2 : Int) : R := lim E fin (.code c4 .ret) (tJ0 values groups n_2)
noncomputable def J1 (values : List Int) (groups : List Int) (n_2 : Int) : R := lim E fin (.code c5 .ret) (tJ1 values groups n_2)
noncomputable def L2 (values : List Int) (groups : List Int) (n_2 : Int) (out : List api_BucketV) (g_9 : Int) : R := lim E fin (.loop c6 K14) (tL2 values groups n_2 out g_9)
noncomputable def L3 (values : List Int) (groups : List Int) (n_2 : Int) (out : List api_BucketV) (i : Int) : R := lim E fin (.loop c2 K22) (tL3 values groups n_2 out i)
noncomputable def J4 (values : List Int) (groups : List Int) (n_2 : Int) (out : List api_BucketV) (i : Int) (g_11 : Int) : R := lim E fin (.code c7 K27) (tJ4 values groups n_2 out i g_11)
noncomputable def SJ0 (values : List Int) (groups : List Int) (n_2 : Int) : R :=
  cond (decide (n_2 < 1))
    (some ([], 3, ()))
    (Option.bind (ref59_within values) fun x1 =>
    cond (!x1.1)
      (some ([], 3, ()))
      (J1 values groups n_2))
noncomputable def SJ1 (values : List Int) (groups : List Int) (n_2 : Int) : R :=
  L2 values groups n_2 [] 0
noncomputable def SL2 (values : List Int) (groups : List Int) (n_2 : Int) (out : List api_BucketV) (g_9 : Int) : R :=
  cond (decide (g_9 < n_2))
    (cond (decide ((out.length + 1) * 32 ≤ room) && decide (0 < Ty.nc (.pair (.int .i64) (.pair (.int .i64) (.pair (.int .i64) (.pair (.int .i64) .unit))))))
      (L2 values groups n_2 (out ++ [(g_9, IntKind.i64.wrap (g_9 + 1), 0, 0, ())]) (IntKind.i64.wrap (g_9 + 1)))
      none)
    (L3 values groups n_2 out 0)
noncomputable def SL3 (values : List Int) (groups : List Int) (n_2 : Int) (out : List api_BucketV) (i : Int) : R :=
  cond (decide (i < (values.length : Int)))
    (Option.bind (idx groups i) fun x1 =>
    cond (decide (x1 < 0))
      (some ([], 3, ()))
      (cond (decide (x1 ≥ n_2))
        (some ([], 3, ()))
        (J4 values groups n_2 out i x1)))
    (some (out, 0, ()))
noncomputable def SJ4 (values : List Int) (groups : List Int) (n_2 : Int) (out : List api_BucketV) (i : Int) (g_11 : Int) : R :=
  cond (decide (0 ≤ g_11) && decide (g_11 < (out.length : Int)))
    (cond (decide (0 ≤ g_11) && decide (g_11 < (out.length : Int)))
      (cond (decide (0 ≤ g_11) && decide (g_11 < ((out.set g_11.toNat ((out.getD g_11.toNat (0, 0, 0, 0, ())).1, (out.getD g_11.toNat (0, 0, 0, 0, ())).2.1, IntKind.i64.wrap (((out.getD g_11.toNat (0, 0, 0, 0, ())).2.2.1) + 1), (out.getD g_11.toNat (0, 0, 0, 0, ())).2.2.2.1, ())).length : Int)))
        (Option.bind (idx values i) fun x1 =>
        cond (decide (0 ≤ g_11) && decide (g_11 < ((out.set g_11.toNat ((out.getD g_11.toNat (0, 0, 0, 0, ())).1, (out.getD g_11.toNat (0, 0, 0, 0, ())).2.1, IntKind.i64.wrap (((out.getD g_11.toNat (0, 0, 0, 0, ())).2.2.1) + 1), (out.getD g_11.toNat (0, 0, 0, 0, ())).2.2.2.1, ())).length : Int)))
          (L3 values groups n_2 ((out.set g_11.toNat ((out.getD g_11.toNat (0, 0, 0, 0, ())).1, (out.getD g_11.toNat (0, 0, 0, 0, ())).2.1, IntKind.i64.wrap (((out.getD g_11.toNat (0, 0, 0, 0, ())).2.2.1) + 1), (out.getD g_11.toNat (0, 0, 0, 0, ())).2.2.2.1, ())).set g_11.toNat (((out.set g_11.toNat ((out.getD g_11.toNat (0, 0, 0, 0, ())).1, (out.getD g_11.toNat (0, 0, 0, 0, ())).2.1, IntKind.i64.wrap (((out.getD g_11.toNat (0, 0, 0, 0, ())).2.2.1) + 1), (out.getD g_11.toNat (0, 0, 0, 0, ())).2.2.2.1, ())).getD g_11.toNat (0, 0, 0, 0, ())).1, ((out.set g_11.toNat ((out.getD g_11.toNat (0, 0, 0, 0, ())).1, (out.getD g_11.toNat (0, 0, 0, 0, ())).2.1, IntKind.i64.wrap (((out.getD g_11.toNat (0, 0, 0, 0, ())).2.2.1) + 1), (out.getD g_11.toNat (0, 0, 0, 0, ())).2.2.2.1, ())).getD g_11.toNat (0, 0, 0, 0, ())).2.1, ((out.set g_11.toNat ((out.getD g_11.toNat (0, 0, 0, 0, ())).1, (out.getD g_11.toNat (0, 0, 0, 0, ())).2.1, IntKind.i64.wrap (((out.getD g_11.toNat (0, 0, 0, 0, ())).2.2.1) + 1), (out.getD g_11.toNat (0, 0, 0, 0, ())).2.2.2.1, ())).getD g_11.toNat (0, 0, 0, 0, ())).2.2.1, IntKind.i64.wrap ((((out.set g_11.toNat ((out.getD g_11.toNat (0, 0, 0, 0, ())).1, (out.getD g_11.toNat (0, 0, 0, 0, ())).2.1, IntKind.i64.wrap (((out.getD g_11.toNat (0, 0, 0, 0, ())).2.2.1) + 1), (out.getD g_11.toNat (0, 0, 0, 0, ())).2.2.2.1, ())).getD g_11.toNat (0, 0, 0, 0, ())).2.2.2.1) + x1), ())) (IntKind.i64.wrap (i + 1)))
          none)
        none)
      none)
    none
noncomputable def Se (values : List Int) (groups : List Int) (n_2 : Int) : R :=
  cond ((values.length : Int) != (groups.length : Int))
    (some ([], 2, ()))
    (cond (decide ((values.length : Int) > 4096))
      (some ([], 4, ()))
      (cond (decide (n_2 > 64))
        (some ([], 4, ()))
        (J0 values groups n_2)))
theorem J0_eq (values groups n_2) : J0 values groups n_2 = SJ0 values groups n_2 := (lim_eq (.code c4 .ret) (tJ0 values groups n_2)).trans (by kernel_rfl)
theorem J1_eq (values groups n_2) : J1 values groups n_2 = SJ1 values groups n_2 := (lim_eq (.code c5 .ret) (tJ1 values groups n_2)).trans (by kernel_rfl)
theorem L2_eq (values groups n_2 out g_9) : L2 values groups n_2 out g_9 = SL2 values groups n_2 out g_9 := (lim_eq (.loop c6 K14) (tL2 values groups n_2 out g_9)).trans (by kernel_rfl)
theorem L3_eq (values groups n_2 out i) : L3 values groups n_2 out i = SL3 values groups n_2 out i := (lim_eq (.loop c2 K22) (tL3 values groups n_2 out i)).trans (by kernel_rfl)
theorem J4_eq (values groups n_2 out i g_11) : J4 values groups n_2 out i g_11 = SJ4 values groups n_2 out i g_11 := (lim_eq (.code c7 K27) (tJ4 values groups n_2 out i g_11)).trans (by kernel_rfl)
theorem se (x : (argTy ps).den) : run E (lim E fin) fin depth (bodyOf Try.f18) .ret (entryFrom 0 ps x) = Se x.1 x.2.1 x.2.2.1 := by kernel_rfl
end ref59_Groups
noncomputable def ref59_Groups (values : List Int) (groups : List Int) (n_2 : Int) : ref59_Groups.R :=
  ref59_Groups.Se values groups n_2
namespace ref59_Groups
noncomputable def sig : Sig := ⟨ps, rs, fun x => ref59_Groups x.1 x.2.1 x.2.2.1⟩
theorem val (x : (argTy ps).den) : lim E fin (.code (bodyOf Try.f18) .ret) (entryFrom 0 ps x) = sig.run x := (lim_eq (.code (bodyOf Try.f18) .ret) (entryFrom 0 ps x)).trans (se x)
theorem ok : CallOK Try.prog 18 sig :=
  callOK_of_lim (E := E) mixed tt_ok (ctxOk_cons ctxOk_nil ref59_within.ok Try.func28 (by kernel_rfl) (by kernel_rfl)) Try.func18 (by kernel_rfl : Try.f18.body = some (bodyOf Try.f18)) Try.ntmps18 (of_decide_eq_true (by kernel_rfl)) (of_decide_eq_true (by kernel_rfl)) fun x y h => (val x).trans h
noncomputable def ctxc (n : Nat) : List (Nat × Sig) := [(28, ref59_within.sigc n)]
noncomputable def sigc (n : Nat) : Sig := ⟨ps, rs, fun x => runs (withCtx E (ctxc n)) fin n (.code (bodyOf Try.f18) .ret) (entryFrom 0 ps x)⟩
theorem sigc_le (n : Nat) : ∀ x y, (sigc n).run x = some y → sig.run x = some y := fun x y h => (val x).symm.trans (runs_lim (E := E) (c := ctxc n) (ctxLe_cons ctxLe_nil (ref59_within.sigc_le n)) h)
end ref59_Groups
namespace ref02_Abs
abbrev ps : List PM := [.pure (.int .i64)]
abbrev rs : List RM := [.pure (.int .i64)]
abbrev R : Type := Option (Int × Unit)
noncomputable def E : Env := { tt := tt, ctx := [], nt := 8, ann := [] }
noncomputable def fin : ASt → R := Kret E Try.f46.results.toList ps rs
noncomputable def Se (n_0 : Int) : R :=
  cond (decide (n_0 < 0))
    (some (IntKind.i64.wrap (0 - n_0), ()))
    (some (n_0, ()))
theorem se (x : (argTy ps).den) : run E (lim E fin) fin depth (bodyOf Try.f46) .ret (entryFrom 0 ps x) = Se x.1 := by kernel_rfl
end ref02_Abs
noncomputable def ref02_Abs (n_0 : Int) : ref02_Abs.R :=
  ref02_Abs.Se n_0
namespace ref02_Abs
noncomputable def sig : Sig := ⟨ps, rs, fun x => ref02_Abs x.1⟩
theorem val (x : (argTy ps).den) : lim E fin (.code (bodyOf Try.f46) .ret) (entryFrom 0 ps x) = sig.run x := (lim_eq (.code (bodyOf Try.f46) .ret) (entryFrom 0 ps x)).trans (se x)
theorem ok : CallOK Try.prog 46 sig :=
  callOK_of_lim (E := E) mixed tt_ok ctxOk_nil Try.func46 (by kernel_rfl : Try.f46.body = some (bodyOf Try.f46)) Try.ntmps46 (of_decide_eq_true (by kernel_rfl)) (of_decide_eq_true (by kernel_rfl)) fun x y h => (val x).trans h
noncomputable def ctxc (n : Nat) : List (Nat × Sig) := []
noncomputable def sigc (n : Nat) : Sig := ⟨ps, rs, fun x => runs (withCtx E (ctxc n)) fin n (.code (bodyOf Try.f46) .ret) (entryFrom 0 ps x)⟩
theorem sigc_le (n : Nat) : ∀ x y, (sigc n).run x = some y → sig.run x = some y := fun x y h => (val x).symm.trans (runs_lim (E := E) (c := ctxc n) ctxLe_nil h)
end ref02_Abs
namespace ref02_part
abbrev ps : List PM := [.pure (.int .i64), .pure (.int .i64), .pure (.int .i64)]
abbrev rs : List RM := [.pure (.int .i64), .pure (.int .i64)]
abbrev R : Type := Option (Int × Int × Unit)
noncomputable def E : Env := { tt := tt, ctx := [], nt := 37, ann := [(1000003, [(0, .keep), (1, .keep), (2, .keep), (8, .keep), (9, .keep), (10, .keep)]), (8, [(0, .keep), (1, .keep), (2, .keep), (8, .keep), (9, .keep), (10, .keep)])] }
noncomputable def c0 : Code := sub [1, 1, 1] (bodyOf Try.f47)
noncomputable def c1 : Code := sub [1, 1, 0, 1, 0, 0] (bodyOf Try.f47)
noncomputable def c2 : Code := sub [1, 1, 0, 1, 0, 0, 1, 1] (bodyOf Try.f47)
noncomputable def c3 : Code := sub [1, 1, 0, 1, 0, 0, 1, 0, 0, 1, 1] (bodyOf Try.f47)
noncomputable def K3 : Kont := .seq c0 .ret
noncomputable def K5 : Kont := .blk 0 K3
noncomputable def K6 : Kont := .loop c1 K5
noncomputable def K9 : Kont := .seq c2 K6
noncomputable def K10 : Kont := .blk 1 K9
noncomputable def fin : ASt → R := Kret E Try.f47.results.toList ps rs
def tL0 (x_0 : Int) (w : Int) (sum : Int) (q : Int) (r_9 : Int) (bit : Int) : ASt := ⟨[(10, .one (.val (.int .i64) bit)), (9, .one (.val (.int .i64) r_9)), (8, .one (.val (.int .i64) q)), (2, .one (.val (.int .i64) sum)), (1, .one (.val (.int .i64) w)), (0, .one (.val (.int .i64) x_0))], []⟩
def tJ1 (x_0 : Int) (w : Int) (sum : Int) (q : Int) (r_9 : Int) (bit : Int) : ASt := ⟨[(10, .one (.val (.int .i64) bit)), (9, .one (.val (.int .i64) r_9)), (8, .one (.val (.int .i64) q)), (2, .one (.val (.int .i64) sum)), (1, .one (.val (.int .i64) w)), (0, .one (.val (.int .i64) x_0))], []⟩
noncomputable def L0 (x_0 : Int) (w : Int) (sum : Int) (q : Int) (r_9 : Int) (bit : Int) : R := lim E fin (.loop c1 K5) (tL0 x_0 w sum q r_9 bit)
noncomputable def J1 (x_0 : Int) (w : Int) (sum : Int) (q : Int) (r_9 : Int) (bit : Int) : R := lim E fin (.code c3 K10) (tJ1 x_0 w sum q r_9 bit)
noncomputable def SL0 (x_0 : Int) (w : Int) (sum : Int) (q : Int) (r_9 : Int) (bit : Int) : R :=
  cond (decide (bit > 0))
    (cond (decide (bit = 0))
      none
      (cond ((Int.tmod (IntKind.i64.wrap (Int.tdiv w bit)) 2) == 1)
        (J1 x_0 w sum (IntKind.i64.wrap (2 * q)) (IntKind.i64.wrap ((IntKind.i64.wrap (2 * r_9)) + x_0)) bit)
        (J1 x_0 w sum (IntKind.i64.wrap (2 * q)) (IntKind.i64.wrap (2 * r_9)) bit)))
    (some (q, r_9, ()))
noncomputable def SJ1 (x_0 : Int) (w : Int) (sum : Int) (q : Int) (r_9 : Int) (bit : Int) : R :=
  cond (decide (sum = 0))
    none
    (cond (decide (sum = 0))
      none
      (L0 x_0 w sum (IntKind.i64.wrap (q + (IntKind.i64.wrap (Int.tdiv r_9 sum)))) (Int.tmod r_9 sum) (IntKind.i64.wrap (Int.tdiv bit 2))))
noncomputable def Se (x_0 : Int) (w : Int) (sum : Int) : R :=
  L0 x_0 w sum 0 0 1073741824
theorem L0_eq (x_0 w sum q r_9 bit) : L0 x_0 w sum q r_9 bit = SL0 x_0 w sum q r_9 bit := (lim_eq (.loop c1 K5) (tL0 x_0 w sum q r_9 bit)).trans (by kernel_rfl)
theorem J1_eq (x_0 w sum q r_9 bit) : J1 x_0 w sum q r_9 bit = SJ1 x_0 w sum q r_9 bit := (lim_eq (.code c3 K10) (tJ1 x_0 w sum q r_9 bit)).trans (by kernel_rfl)
theorem se (x : (argTy ps).den) : run E (lim E fin) fin depth (bodyOf Try.f47) .ret (entryFrom 0 ps x) = Se x.1 x.2.1 x.2.2.1 := by kernel_rfl
end ref02_part
noncomputable def ref02_part (x_0 : Int) (w : Int) (sum : Int) : ref02_part.R :=
  ref02_part.Se x_0 w sum
namespace ref02_part
noncomputable def sig : Sig := ⟨ps, rs, fun x => ref02_part x.1 x.2.1 x.2.2.1⟩
theorem val (x : (argTy ps).den) : lim E fin (.code (bodyOf Try.f47) .ret) (entryFrom 0 ps x) = sig.run x := (lim_eq (.code (bodyOf Try.f47) .ret) (entryFrom 0 ps x)).trans (se x)
theorem ok : CallOK Try.prog 47 sig :=
  callOK_of_lim (E := E) mixed tt_ok ctxOk_nil Try.func47 (by kernel_rfl : Try.f47.body = some (bodyOf Try.f47)) Try.ntmps47 (of_decide_eq_true (by kernel_rfl)) (of_decide_eq_true (by kernel_rfl)) fun x y h => (val x).trans h
noncomputable def ctxc (n : Nat) : List (Nat × Sig) := []
noncomputable def sigc (n : Nat) : Sig := ⟨ps, rs, fun x => runs (withCtx E (ctxc n)) fin n (.code (bodyOf Try.f47) .ret) (entryFrom 0 ps x)⟩
theorem sigc_le (n : Nat) : ∀ x y, (sigc n).run x = some y → sig.run x = some y := fun x y h => (val x).symm.trans (runs_lim (E := E) (c := ctxc n) ctxLe_nil h)
end ref02_part
namespace ref02_greatest
abbrev ps : List PM := [.pure (.sl (.int .i64))]
abbrev rs : List RM := [.pure (.int .i64)]
abbrev R : Type := Option (Int × Unit)
noncomputable def E : Env := { tt := tt, ctx := [], nt := 33, ann := [(1000003, [(0, .keep), (3, .keep), (4, .keep)])] }
noncomputable def c0 : Code := sub [1, 1, 1] (bodyOf Try.f48)
noncomputable def c1 : Code := sub [1, 1, 0, 1, 0, 0] (bodyOf Try.f48)
noncomputable def K3 : Kont := .seq c0 .ret
noncomputable def K5 : Kont := .blk 0 K3
noncomputable def fin : ASt → R := Kret E Try.f48.results.toList ps rs
def tL0 (rest : List Int) (best : Int) (i : Int) : ASt := ⟨[(4, .one (.val (.int .i64) i)), (3, .one (.val (.int .i64) best)), (0, .one (.val (.sl (.int .i64)) rest))], []⟩
noncomputable def L0 (rest : List Int) (best : Int) (i : Int) : R := lim E fin (.loop c1 K5) (tL0 rest best i)
noncomputable def SL0 (rest : List Int) (best : Int) (i : Int) : R :=
  cond (decide (i < (rest.length : Int)))
    (Option.bind (idx rest i) fun x1 =>
    cond (decide (x1 > 0))
      (cond (decide (best < 0))
        (L0 rest i (IntKind.i64.wrap (i + 1)))
        (Option.bind (idx rest i) fun x2 =>
        Option.bind (idx rest best) fun x3 =>
        cond (decide (x2 > x3))
          (L0 rest i (IntKind.i64.wrap (i + 1)))
          (L0 rest best (IntKind.i64.wrap (i + 1)))))
      (L0 rest best (IntKind.i64.wrap (i + 1))))
    (some (best, ()))
noncomputable def Se (rest : List Int) : R :=
  L0 rest (-1) 0
theorem L0_eq (rest best i) : L0 rest best i = SL0 rest best i := (lim_eq (.loop c1 K5) (tL0 rest best i)).trans (by kernel_rfl)
theorem se (x : (argTy ps).den) : run E (lim E fin) fin depth (bodyOf Try.f48) .ret (entryFrom 0 ps x) = Se x.1 := by kernel_rfl
end ref02_greatest
noncomputable def ref02_greatest (rest : List Int) : ref02_greatest.R :=
  ref02_greatest.Se rest
namespace ref02_greatest
noncomputable def sig : Sig := ⟨ps, rs, fun x => ref02_greatest x.1⟩
theorem val (x : (argTy ps).den) : lim E fin (.code (bodyOf Try.f48) .ret) (entryFrom 0 ps x) = sig.run x := (lim_eq (.code (bodyOf Try.f48) .ret) (entryFrom 0 ps x)).trans (se x)
theorem ok : CallOK Try.prog 48 sig :=
  callOK_of_lim (E := E) mixed tt_ok ctxOk_nil Try.func48 (by kernel_rfl : Try.f48.body = some (bodyOf Try.f48)) Try.ntmps48 (of_decide_eq_true (by kernel_rfl)) (of_decide_eq_true (by kernel_rfl)) fun x y h => (val x).trans h
noncomputable def ctxc (n : Nat) : List (Nat × Sig) := []
noncomputable def sigc (n : Nat) : Sig := ⟨ps, rs, fun x => runs (withCtx E (ctxc n)) fin n (.code (bodyOf Try.f48) .ret) (entryFrom 0 ps x)⟩
theorem sigc_le (n : Nat) : ∀ x y, (sigc n).run x = some y → sig.run x = some y := fun x y h => (val x).symm.trans (runs_lim (E := E) (c := ctxc n) ctxLe_nil h)
end ref02_greatest
namespace ref02_Allocate
abbrev ps : List PM := [.pure (.int .i64), .pure (.sl (.int .i64))]
abbrev rs : List RM := [.own (.int .i64), .pure (.int .i64)]
abbrev R : Type := Option (List Int × Int × Unit)
noncomputable def E : Env := { tt := tt, ctx := [(41, ref02_Beyond.sig), (46, ref02_Abs.sig), (47, ref02_part.sig), (48, ref02_greatest.sig)], nt := 128, ann := [(1000005, [(0, .keep), (1, .keep), (6, .keep), (7, .keep)]), (1000018, [(0, .keep), (1, .keep), (6, .keep), (8, .keep), (9, .own (.int .i64)), (10, .own (.int .i64)), (11, .keep), (12, .keep)]), (1000025, [(0, .keep), (9, .own (.int .i64)), (10, .own (.int .i64)), (11, .keep)]), (1000033, [(0, .keep), (9, .own (.int .i64)), (16, .keep)]), (35, [(0, .keep), (9, .own (.int .i64)), (16, .keep)])] }
noncomputable def c0 : Code := sub [1, 1, 1, 1] (bodyOf Try.f33)
noncomputable def c1 : Code := sub [1, 1, 1, 1, 1, 1, 1, 1, 1, 1] (bodyOf Try.f33)
noncomputable def c2 : Code := sub [1, 1, 1, 1, 1, 1, 1, 1, 1, 1, 1] (bodyOf Try.f33)
noncomputable def c3 : Code := sub [1, 1, 1, 1, 1, 1, 1, 1, 1, 1, 1, 1] (bodyOf Try.f33)
noncomputable def c4 : Code := sub [1, 1, 1, 1, 1, 1, 1, 1, 1, 1, 1, 0, 1, 0, 0] (bodyOf Try.f33)
noncomputable def c5 : Code := sub [1, 1, 1, 0, 1, 0, 0] (bodyOf Try.f33)
noncomputable def c6 : Code := sub [1, 1, 1, 1, 1, 1, 1, 1, 1, 0, 1, 0, 0] (bodyOf Try.f33)
noncomputable def c7 : Code := sub [1, 1, 1, 1, 1, 1, 1, 1, 1, 1, 0, 0, 0] (bodyOf Try.f33)
noncomputable def c8 : Code := sub [1, 1, 1, 1, 1, 1, 1, 1, 1, 1, 1, 0, 1, 0, 0, 1] (bodyOf Try.f33)
noncomputable def K6 : Kont := .seq c0 .ret
noncomputable def K8 : Kont := .blk 0 K6
noncomputable def K26 : Kont := .seq c1 .ret
noncomputable def K28 : Kont := .blk 2 K26
noncomputable def K38 : Kont := .seq c2 .ret
noncomputable def K39 : Kont := .blk 4 K38
noncomputable def K49 : Kont := .seq c3 .ret
noncomputable def K51 : Kont := .blk 6 K49
noncomputable def K52 : Kont := .loop c4 K51
noncomputable def fin : ASt → R := Kret E Try.f33.results.toList ps rs
def tL0 (c_0 : Int) (weights : List Int) (sum : Int) (i : Int) : ASt := ⟨[(7, .one (.val (.int .i64) i)), (6, .one (.val (.int .i64) sum)), (1, .one (.val (.sl (.int .i64)) weights)), (0, .one (.val (.int .i64) c_0))], []⟩
def tL1 (c_0 : Int) (weights : List Int) (sum : Int) (a : Int) (out : List Int) (rest : List Int) (left : Int) (i : Int) : ASt := ⟨[(12, .one (.val (.int .i64) i)), (11, .one (.val (.int .i64) left)), (10, .one (.own 10)), (9, .one (.own 9)), (8, .one (.val (.int .i64) a)), (6, .one (.val (.int .i64) sum)), (1, .one (.val (.sl (.int .i64)) weights)), (0, .one (.val (.int .i64) c_0))], [(10, some ⟨.free, .int .i64, rest⟩), (9, some ⟨.free, .int .i64, out⟩)]⟩
def tL2 (c_0 : Int) (out : List Int) (rest : List Int) (left : Int) : ASt := ⟨[(11, .one (.val (.int .i64) left)), (10, .one (.own 10)), (9, .one (.own 9)), (0, .one (.val (.int .i64) c_0))], [(10, some ⟨.free, .int .i64, rest⟩), (9, some ⟨.free, .int .i64, out⟩)]⟩
def tL3 (c_0 : Int) (out : List Int) (i : Int) : ASt := ⟨[(16, .one (.val (.int .i64) i)), (9, .one (.own 9)), (0, .one (.val (.int .i64) c_0))], [(9, some ⟨.free, .int .i64, out⟩)]⟩
def tJ4 (c_0 : Int) (out : List Int) (i : Int) : ASt := ⟨[(16, .one (.val (.int .i64) i)), (9, .one (.own 9)), (0, .one (.val (.int .i64) c_0))], [(9, some ⟨.free, .int .i64, out⟩)]⟩
noncomputable def L0 (c_0 : Int) (weights : List Int) (sum : Int) (i : Int) : R := lim E fin (.loop c5 K8) (tL0 c_0 weights sum i)
noncomputable def L1 (c_0 : Int) (weights : List Int) (sum : Int) (a : Int) (out : List Int) (rest : List Int) (left : Int) (i : Int) : R := lim E fin (.loop c6 K28) (tL1 c_0 weights sum a out rest left i)
noncomputable def L2 (c_0 : Int) (out : List Int) (rest : List Int) (left : Int) : R := lim E fin (.loop c7 K39) (tL2 c_0 out rest left)
noncomputable def L3 (c_0 : Int) (out : List Int) (i : Int) : R := lim E fin (.loop c4 K51) (tL3 c_0 out i)
noncomputable def J4 (c_0 : Int) (out : List Int) (i : Int) : R := lim E fin (.code c8 K52) (tJ4 c_0 out i)
noncomputable def SL0 (c_0 : Int) (weights : List Int) (sum : Int) (i : Int) : R :=
  cond (decide (i < (weights.length : Int)))
    (Option.bind (idx weights i) fun x1 =>
    cond (decide (x1 < 0))
      (some ([], 3, ()))
      (Option.bind (idx weights i) fun x2 =>
      cond (decide (x2 > 1000000000))
        (some ([], 3, ()))
        (Option.bind (idx weights i) fun x3 =>
        L0 c_0 weights (IntKind.i64.wrap (sum + x3)) (IntKind.i64.wrap (i + 1)))))
    (cond (decide ((weights.length : Int) > 64))
      (some ([], 4, ()))
      (cond (sum == 0)
        (some ([], 12, ()))
        (Option.bind (ref02_Abs c_0) fun x4 =>
        L1 c_0 weights sum x4.1 [] [] x4.1 0)))
noncomputable def SL1 (c_0 : Int) (weights : List Int) (sum : Int) (a : Int) (out : List Int) (rest : List Int) (left : Int) (i : Int) : R :=
  cond (decide (i < (weights.length : Int)))
    (cond (decide (sum = 0))
      none
      (Option.bind (idx weights i) fun x1 =>
      Option.bind (ref02_part (Int.tmod a sum) x1 sum) fun x2 =>
      cond (decide (sum = 0))
        none
        (Option.bind (idx weights i) fun x3 =>
        cond (decide ((out.length + 1) * 8 ≤ room) && decide (0 < Ty.nc (.int .i64)))
          (cond (decide ((rest.length + 1) * 8 ≤ room) && decide (0 < Ty.nc (.int .i64)))
            (L1 c_0 weights sum a (out ++ [IntKind.i64.wrap (x2.1 + (IntKind.i64.wrap ((IntKind.i64.wrap (Int.tdiv a sum)) * x3)))]) (rest ++ [x2.2.1]) (IntKind.i64.wrap (left - (IntKind.i64.wrap (x2.1 + (IntKind.i64.wrap ((IntKind.i64.wrap (Int.tdiv a sum)) * x3)))))) (IntKind.i64.wrap (i + 1)))
            none)
          none)))
    (L2 c_0 out rest left)
noncomputable def SL2 (c_0 : Int) (out : List Int) (rest : List Int) (left : Int) : R :=
  cond (decide (left > 0))
    (Option.bind (ref02_greatest rest) fun x1 =>
    cond (decide (x1.1 < 0))
      (some ([], 1, ()))
      (cond (decide (0 ≤ x1.1) && decide (x1.1 < (out.length : Int)))
        (cond (decide (0 ≤ x1.1) && decide (x1.1 < (out.length : Int)))
          (cond (decide (0 ≤ x1.1) && decide (x1.1 < (rest.length : Int)))
            (L2 c_0 (out.set x1.1.toNat (IntKind.i64.wrap ((out.getD x1.1.toNat 0) + 1))) (rest.set x1.1.toNat 0) (IntKind.i64.wrap (left - 1)))
            none)
          none)
        none))
    (L3 c_0 out 0)
noncomputable def SL3 (c_0 : Int) (out : List Int) (i : Int) : R :=
  cond (decide (i < (out.length : Int)))
    (cond (decide (c_0 < 0))
      (J4 c_0 out i)
      (some (out, 0, ())))
    (some (out, 0, ()))
noncomputable def SJ4 (c_0 : Int) (out : List Int) (i : Int) : R :=
  cond (decide (0 ≤ i) && decide (i < (out.length : Int)))
    (cond (decide (0 ≤ i) && decide (i < (out.length : Int)))
      (L3 c_0 (out.set i.toNat (IntKind.i64.wrap (0 - (out.getD i.toNat 0)))) (IntKind.i64.wrap (i + 1)))
      none)
    none
noncomputable def Se (c_0 : Int) (weights : List Int) : R :=
  Option.bind (ref02_Beyond c_0 1000000000000000) fun x1 =>
  cond x1.1
    (some ([], 3, ()))
    (L0 c_0 weights 0 0)
theorem L0_eq (c_0 weights sum i) : L0 c_0 weights sum i = SL0 c_0 weights sum i := (lim_eq (.loop c5 K8) (tL0 c_0 weights sum i)).trans (by kernel_rfl)
theorem L1_eq (c_0 weights sum a out rest left i) : L1 c_0 weights sum a out rest left i = SL1 c_0 weights sum a out rest left i := (lim_eq (.loop c6 K28) (tL1 c_0 weights sum a out rest left i)).trans (by kernel_rfl)
theorem L2_eq (c_0 out rest left) : L2 c_0 out rest left = SL2 c_0 out rest left := (lim_eq (.loop c7 K39) (tL2 c_0 out rest left)).trans (by kernel_rfl)
theorem L3_eq (c_0 out i) : L3 c_0 out i = SL3 c_0 out i := (lim_eq (.loop c4 K51) (tL3 c_0 out i)).trans (by kernel_rfl)
theorem J4_eq (c_0 out i) : J4 c_0 out i = SJ4 c_0 out i := (lim_eq (.code c8 K52) (tJ4 c_0 out i)).trans (by kernel_rfl)
theorem se (x : (argTy ps).den) : run E (lim E fin) fin depth (bodyOf Try.f33) .ret (entryFrom 0 ps x) = Se x.1 x.2.1 := by kernel_rfl
end ref02_Allocate
noncomputable def ref02_Allocate (c_0 : Int) (weights : List Int) : ref02_Allocate.R :=
  ref02_Allocate.Se c_0 weights
namespace ref02_Allocate
noncomputable def sig : Sig := ⟨ps, rs, fun x => ref02_Allocate x.1 x.2.1⟩
theorem val (x : (argTy ps).den) : lim E fin (.code (bodyOf Try.f33) .ret) (entryFrom 0 ps x) = sig.run x := (lim_eq (.code (bodyOf Try.f33) .ret) (entryFrom 0 ps x)).trans (se x)
theorem ok : CallOK Try.prog 33 sig :=
  callOK_of_lim (E := E) mixed tt_ok (ctxOk_cons (ctxOk_cons (ctxOk_cons (ctxOk_cons ctxOk_nil ref02_greatest.ok Try.func48 (by kernel_rfl) (by kernel_rfl)) ref02_part.ok Try.func47 (by kernel_rfl) (by kernel_rfl)) ref02_Abs.ok Try.func46 (by kernel_rfl) (by kernel_rfl)) ref02_Beyond.ok Try.func41 (by kernel_rfl) (by kernel_rfl)) Try.func33 (by kernel_rfl : Try.f33.body = some (bodyOf Try.f33)) Try.ntmps33 (of_decide_eq_true (by kernel_rfl)) (of_decide_eq_true (by kernel_rfl)) fun x y h => (val x).trans h
noncomputable def ctxc (n : Nat) : List (Nat × Sig) := [(41, ref02_Beyond.sigc n), (46, ref02_Abs.sigc n), (47, ref02_part.sigc n), (48, ref02_greatest.sigc n)]
noncomputable def sigc (n : Nat) : Sig := ⟨ps, rs, fun x => runs (withCtx E (ctxc n)) fin n (.code (bodyOf Try.f33) .ret) (entryFrom 0 ps x)⟩
theorem sigc_le (n : Nat) : ∀ x y, (sigc n).run x = some y → sig.run x = some y := fun x y h => (val x).symm.trans (runs_lim (E := E) (c := ctxc n) (ctxLe_cons (ctxLe_cons (ctxLe_cons (ctxLe_cons ctxLe_nil (ref02_greatest.sigc_le n)) (ref02_part.sigc_le n)) (ref02_Abs.sigc_le n)) (ref02_Beyond.sigc_le n)) h)
end ref02_Allocate
namespace ref59_Shares
abbrev ps : List PM := [.pure (.sl (.int .i64)), .pure (.int .i64)]
abbrev rs : List RM := [.own (.int .i64), .pure (.int .i64)]
abbrev R : Type := Option (List Int × Int × Unit)
noncomputable def E : Env := { tt := tt, ctx := [(28, ref59_within.sig), (33, ref02_Allocate.sig), (25, ref59_Sorted.sig)], nt := 73, ann := [(5, [(0, .keep), (1, .keep)]), (1000007, [(0, .keep), (1, .keep), (6, .own (.int .i64)), (7, .keep)]), (1000015, [(1, .keep), (8, .keep), (10, .keep), (11, .own (.int .i64)), (12, .keep), (13, .keep)]), (1000019, [(1, .keep), (8, .keep), (10, .keep), (11, .own (.int .i64)), (12, .keep), (13, .keep), (14, .keep), (15, .keep)])] }
noncomputable def c0 : Code := sub [1, 1, 1, 1, 1] (bodyOf Try.f20)
noncomputable def c1 : Code := sub [1, 1, 1, 1, 1, 1, 1, 1, 1, 1] (bodyOf Try.f20)
noncomputable def c2 : Code := sub [1, 1, 1, 1, 1, 1, 1, 1, 1, 0, 1, 0, 0] (bodyOf Try.f20)
noncomputable def c3 : Code := sub [1, 1, 1, 1, 1, 1, 1, 1, 1, 0, 1, 0, 0, 1, 1] (bodyOf Try.f20)
noncomputable def c4 : Code := sub [1, 1, 1, 1, 1, 1, 1, 1, 1, 0, 1, 0, 0, 1, 0, 0, 1, 1] (bodyOf Try.f20)
noncomputable def c5 : Code := sub [1, 1, 1] (bodyOf Try.f20)
noncomputable def c6 : Code := sub [1, 1, 1, 1, 0, 1, 0, 0] (bodyOf Try.f20)
noncomputable def c7 : Code := sub [1, 1, 1, 1, 1, 1, 1, 1, 1, 0, 1, 0, 0, 1, 0, 0, 1, 0, 1, 0, 0] (bodyOf Try.f20)
noncomputable def K9 : Kont := .seq c0 .ret
noncomputable def K11 : Kont := .blk 0 K9
noncomputable def K21 : Kont := .seq c1 .ret
noncomputable def K23 : Kont := .blk 2 K21
noncomputable def K24 : Kont := .loop c2 K23
noncomputable def K27 : Kont := .seq c3 K24
noncomputable def K28 : Kont := .blk 3 K27
noncomputable def K30 : Kont := .seq c4 K28
noncomputable def K32 : Kont := .blk 4 K30
noncomputable def fin : ASt → R := Kret E Try.f20.results.toList ps rs
def tJ0 (values : List Int) (n_1 : Int) : ASt := ⟨[(1, .one (.val (.int .i64) n_1)), (0, .one (.val (.sl (.int .i64)) values))], []⟩
def tL1 (values : List Int) (n_1 : Int) (weights : List Int) (i : Int) : ASt := ⟨[(7, .one (.val (.int .i64) i)), (6, .one (.own 6)), (1, .one (.val (.int .i64) n_1)), (0, .one (.val (.sl (.int .i64)) values))], [(6, some ⟨.free, .int .i64, weights⟩)]⟩
def tL2 (n_1 : Int) (sizes : List Int) (l : List Int) (out : List Int) (at_12 : Int) (i : Int) : ASt := ⟨[(13, .one (.val (.int .i64) i)), (12, .one (.val (.int .i64) at_12)), (11, .one (.own 11)), (10, .one (.own 10)), (8, .one (.own 8)), (1, .one (.val (.int .i64) n_1))], [(11, some ⟨.free, .int .i64, out⟩), (10, some ⟨.free, .int .i64, l⟩), (8, some ⟨.free, .int .i64, sizes⟩)]⟩
def tL3 (n_1 : Int) (sizes : List Int) (l : List Int) (out : List Int) (at_12 : Int) (i : Int) (sum : Int) (k : Int) : ASt := ⟨[(15, .one (.val (.int .i64) k)), (14, .one (.val (.int .i64) sum)), (13, .one (.val (.int .i64) i)), (12, .one (.val (.int .i64) at_12)), (11, .one (.own 11)), (10, .one (.own 10)), (8, .one (.own 8)), (1, .one (.val (.int .i64) n_1))], [(11, some ⟨.free, .int .i64, out⟩), (10, some ⟨.free, .int .i64, l⟩), (8, some ⟨.free, .int .i64, sizes⟩)]⟩
noncomputable def J0 (values : List Int) (n_1 : Int) : R := lim E fin (.code c5 .ret) (tJ0 values n_1)
noncomputable def L1 (values : List Int) (n_1 : Int) (weights : List Int) (i : Int) : R := lim E fin (.loop c6 K11) (tL1 values n_1 weights i)
noncomputable def L2 (n_1 : Int) (sizes : List Int) (l : List Int) (out : List Int) (at_12 : Int) (i : Int) : R := lim E fin (.loop c2 K23) (tL2 n_1 sizes l out at_12 i)
noncomputable def L3 (n_1 : Int) (sizes : List Int) (l : List Int) (out : List Int) (at_12 : Int) (i : Int) (sum : Int) (k : Int) : R := lim E fin (.loop c7 K32) (tL3 n_1 sizes l out at_12 i sum k)
noncomputable def SJ0 (values : List Int) (n_1 : Int) : R :=
  L1 values n_1 [] 0
noncomputable def SL1 (values : List Int) (n_1 : Int) (weights : List Int) (i : Int) : R :=
  cond (decide (i < n_1))
    (cond (decide ((weights.length + 1) * 8 ≤ room) && decide (0 < Ty.nc (.int .i64)))
      (L1 values n_1 (weights ++ [1]) (IntKind.i64.wrap (i + 1)))
      none)
    (Option.bind (ref02_Allocate (values.length : Int) weights) fun x1 =>
    Option.bind (ref59_Sorted values) fun x2 =>
    L2 n_1 x1.1 x2.1 [] 0 0)
noncomputable def SL2 (n_1 : Int) (sizes : List Int) (l : List Int) (out : List Int) (at_12 : Int) (i : Int) : R :=
  cond (decide (i < n_1))
    (L3 n_1 sizes l out at_12 i 0 0)
    (some (out, 0, ()))
noncomputable def SL3 (n_1 : Int) (sizes : List Int) (l : List Int) (out : List Int) (at_12 : Int) (i : Int) (sum : Int) (k : Int) : R :=
  cond (decide (0 ≤ i) && decide (i < (sizes.length : Int)))
    (cond (decide (k < (sizes.getD i.toNat 0)))
      (cond (decide (0 ≤ at_12) && decide (at_12 < (l.length : Int)))
        (L3 n_1 sizes l out (IntKind.i64.wrap (at_12 + 1)) i (IntKind.i64.wrap (sum + (l.getD at_12.toNat 0))) (IntKind.i64.wrap (k + 1)))
        none)
      (cond (decide ((out.length + 1) * 8 ≤ room) && decide (0 < Ty.nc (.int .i64)))
        (L2 n_1 sizes l (out ++ [sum]) at_12 (IntKind.i64.wrap (i + 1)))
        none))
    none
noncomputable def Se (values : List Int) (n_1 : Int) : R :=
  cond (decide ((values.length : Int) > 4096))
    (some ([], 4, ()))
    (cond (decide (n_1 < 1))
      (some ([], 3, ()))
      (cond (decide (n_1 > 64))
        (some ([], 3, ()))
        (Option.bind (ref59_within values) fun x1 =>
        cond (!x1.1)
          (some ([], 3, ()))
          (J0 values n_1))))
theorem J0_eq (values n_1) : J0 values n_1 = SJ0 values n_1 := (lim_eq (.code c5 .ret) (tJ0 values n_1)).trans (by kernel_rfl)
theorem L1_eq (values n_1 weights i) : L1 values n_1 weights i = SL1 values n_1 weights i := (lim_eq (.loop c6 K11) (tL1 values n_1 weights i)).trans (by kernel_rfl)
theorem L2_eq (n_1 sizes l out at_12 i) : L2 n_1 sizes l out at_12 i = SL2 n_1 sizes l out at_12 i := (lim_eq (.loop c2 K23) (tL2 n_1 sizes l out at_12 i)).trans (by kernel_rfl)
theorem L3_eq (n_1 sizes l out at_12 i sum k) : L3 n_1 sizes l out at_12 i sum k = SL3 n_1 sizes l out at_12 i sum k := (lim_eq (.loop c7 K32) (tL3 n_1 sizes l out at_12 i sum k)).trans (by kernel_rfl)
theorem se (x : (argTy ps).den) : run E (lim E fin) fin depth (bodyOf Try.f20) .ret (entryFrom 0 ps x) = Se x.1 x.2.1 := by kernel_rfl
end ref59_Shares
noncomputable def ref59_Shares (values : List Int) (n_1 : Int) : ref59_Shares.R :=
  ref59_Shares.Se values n_1
namespace ref59_Shares
noncomputable def sig : Sig := ⟨ps, rs, fun x => ref59_Shares x.1 x.2.1⟩
theorem val (x : (argTy ps).den) : lim E fin (.code (bodyOf Try.f20) .ret) (entryFrom 0 ps x) = sig.run x := (lim_eq (.code (bodyOf Try.f20) .ret) (entryFrom 0 ps x)).trans (se x)
theorem ok : CallOK Try.prog 20 sig :=
  callOK_of_lim (E := E) mixed tt_ok (ctxOk_cons (ctxOk_cons (ctxOk_cons ctxOk_nil ref59_Sorted.ok Try.func25 (by kernel_rfl) (by kernel_rfl)) ref02_Allocate.ok Try.func33 (by kernel_rfl) (by kernel_rfl)) ref59_within.ok Try.func28 (by kernel_rfl) (by kernel_rfl)) Try.func20 (by kernel_rfl : Try.f20.body = some (bodyOf Try.f20)) Try.ntmps20 (of_decide_eq_true (by kernel_rfl)) (of_decide_eq_true (by kernel_rfl)) fun x y h => (val x).trans h
noncomputable def ctxc (n : Nat) : List (Nat × Sig) := [(28, ref59_within.sigc n), (33, ref02_Allocate.sigc n), (25, ref59_Sorted.sigc n)]
noncomputable def sigc (n : Nat) : Sig := ⟨ps, rs, fun x => runs (withCtx E (ctxc n)) fin n (.code (bodyOf Try.f20) .ret) (entryFrom 0 ps x)⟩
theorem sigc_le (n : Nat) : ∀ x y, (sigc n).run x = some y → sig.run x = some y := fun x y h => (val x).symm.trans (runs_lim (E := E) (c := ctxc n) (ctxLe_cons (ctxLe_cons (ctxLe_cons ctxLe_nil (ref59_Sorted.sigc_le n)) (ref02_Allocate.sigc_le n)) (ref59_within.sigc_le n)) h)
end ref59_Shares
namespace law59_total
abbrev ps : List PM := [.pure (.sl api_Bucket)]
abbrev rs : List RM := [.pure (.int .i64), .pure (.int .i64)]
abbrev R : Type := Option (Int × Int × Unit)
noncomputable def E : Env := { tt := tt, ctx := [], nt := 29, ann := [(1000003, [(0, .keep), (4, .keep), (5, .keep), (6, .keep)])] }
noncomputable def c0 : Code := sub [1, 1, 1] (bodyOf Try.f22)
noncomputable def c1 : Code := sub [1, 1, 0, 1, 0, 0] (bodyOf Try.f22)
noncomputable def K3 : Kont := .seq c0 .ret
noncomputable def K5 : Kont := .blk 0 K3
noncomputable def fin : ASt → R := Kret E Try.f22.results.toList ps rs
def tL0 (l : List api_BucketV) (count : Int) (sum : Int) (i : Int) : ASt := ⟨[(6, .one (.val (.int .i64) i)), (5, .one (.val (.int .i64) sum)), (4, .one (.val (.int .i64) count)), (0, .one (.val (.sl api_Bucket) l))], []⟩
noncomputable def L0 (l : List api_BucketV) (count : Int) (sum : Int) (i : Int) : R := lim E fin (.loop c1 K5) (tL0 l count sum i)
noncomputable def SL0 (l : List api_BucketV) (count : Int) (sum : Int) (i : Int) : R :=
  cond (decide (i < (l.length : Int)))
    (Option.bind (idx l i) fun x1 =>
    Option.bind (idx l i) fun x2 =>
    L0 l (IntKind.i64.wrap (count + x1.2.2.1)) (IntKind.i64.wrap (sum + x2.2.2.2.1)) (IntKind.i64.wrap (i + 1)))
    (some (count, sum, ()))
noncomputable def Se (l : List api_BucketV) : R :=
  L0 l 0 0 0
theorem L0_eq (l count sum i) : L0 l count sum i = SL0 l count sum i := (lim_eq (.loop c1 K5) (tL0 l count sum i)).trans (by kernel_rfl)
theorem se (x : (argTy ps).den) : run E (lim E fin) fin depth (bodyOf Try.f22) .ret (entryFrom 0 ps x) = Se x.1 := by kernel_rfl
end law59_total
noncomputable def law59_total (l : List api_BucketV) : law59_total.R :=
  law59_total.Se l
namespace law59_total
noncomputable def sig : Sig := ⟨ps, rs, fun x => law59_total x.1⟩
theorem val (x : (argTy ps).den) : lim E fin (.code (bodyOf Try.f22) .ret) (entryFrom 0 ps x) = sig.run x := (lim_eq (.code (bodyOf Try.f22) .ret) (entryFrom 0 ps x)).trans (se x)
theorem ok : CallOK Try.prog 22 sig :=
  callOK_of_lim (E := E) mixed tt_ok ctxOk_nil Try.func22 (by kernel_rfl : Try.f22.body = some (bodyOf Try.f22)) Try.ntmps22 (of_decide_eq_true (by kernel_rfl)) (of_decide_eq_true (by kernel_rfl)) fun x y h => (val x).trans h
noncomputable def ctxc (n : Nat) : List (Nat × Sig) := []
noncomputable def sigc (n : Nat) : Sig := ⟨ps, rs, fun x => runs (withCtx E (ctxc n)) fin n (.code (bodyOf Try.f22) .ret) (entryFrom 0 ps x)⟩
theorem sigc_le (n : Nat) : ∀ x y, (sigc n).run x = some y → sig.run x = some y := fun x y h => (val x).symm.trans (runs_lim (E := E) (c := ctxc n) ctxLe_nil h)
end law59_total
namespace law59_DistributionTotals
abbrev ps : List PM := [.pure (.sl (.int .i64)), .pure (.sl (.int .i64)), .pure (.sl (.int .i64)), .pure (.int .i64)]
abbrev rs : List RM := [.pure .bool]
abbrev R : Type := Option (Bool × Unit)
noncomputable def E : Env := { tt := tt, ctx := [(10, law59_few.sig), (11, law59_awake.sig), (14, distribution_Histogram.sig), (17, distribution_Groups.sig), (19, distribution_Shares.sig), (22, law59_total.sig)], nt := 134, ann := [(3, [(0, .keep), (1, .keep), (2, .keep), (3, .keep)]), (1000005, [(0, .keep), (1, .keep), (2, .keep), (3, .keep), (9, .keep), (10, .keep)]), (14, [(0, .keep), (3, .keep), (9, .keep), (13, .keep), (14, .keep), (15, .keep), (16, .keep)]), (17, [(3, .keep), (9, .keep), (15, .keep), (16, .keep)]), (1000018, [(3, .keep), (9, .keep), (15, .keep), (16, .keep), (19, .keep)])] }
noncomputable def c0 : Code := sub [1, 1, 1, 1] (bodyOf Try.f7)
noncomputable def c1 : Code := sub [1, 1, 1, 1, 1, 1, 1, 1, 1, 1, 1, 1] (bodyOf Try.f7)
noncomputable def c2 : Code := sub [1, 1] (bodyOf Try.f7)
noncomputable def c3 : Code := sub [1, 1, 1, 0, 1, 0, 0] (bodyOf Try.f7)
noncomputable def c4 : Code := sub [1, 1, 1, 1, 1, 1, 1, 1, 1] (bodyOf Try.f7)
noncomputable def c5 : Code := sub [1, 1, 1, 1, 1, 1, 1, 1, 1, 1, 1] (bodyOf Try.f7)
noncomputable def c6 : Code := sub [1, 1, 1, 1, 1, 1, 1, 1, 1, 1, 1, 0, 1, 0, 0] (bodyOf Try.f7)
noncomputable def K6 : Kont := .seq c0 .ret
noncomputable def K8 : Kont := .blk 0 K6
noncomputable def K25 : Kont := .seq c1 .ret
noncomputable def K27 : Kont := .blk 2 K25
noncomputable def fin : ASt → R := Kret E Try.f7.results.toList ps rs
def tJ0 (values : List Int) (bounds : List Int) (groups : List Int) (n_3 : Int) : ASt := ⟨[(3, .one (.val (.int .i64) n_3)), (2, .one (.val (.sl (.int .i64)) groups)), (1, .one (.val (.sl (.int .i64)) bounds)), (0, .one (.val (.sl (.int .i64)) values))], []⟩
def tL1 (values : List Int) (bounds : List Int) (groups : List Int) (n_3 : Int) (sum : Int) (i : Int) : ASt := ⟨[(10, .one (.val (.int .i64) i)), (9, .one (.val (.int .i64) sum)), (3, .one (.val (.int .i64) n_3)), (2, .one (.val (.sl (.int .i64)) groups)), (1, .one (.val (.sl (.int .i64)) bounds)), (0, .one (.val (.sl (.int .i64)) values))], []⟩
def tJ2 (values : List Int) (n_3 : Int) (sum : Int) (b : List api_BucketV) (f : Int) (c_15 : List Int) (g_16 : Int) : ASt := ⟨[(16, .one (.val (.int .i64) g_16)), (15, .one (.own 15)), (14, .one (.val (.int .i64) f)), (13, .one (.own 13)), (9, .one (.val (.int .i64) sum)), (3, .one (.val (.int .i64) n_3)), (0, .one (.val (.sl (.int .i64)) values))], [(15, some ⟨.free, .int .i64, c_15⟩), (13, some ⟨.free, api_Bucket, b⟩)]⟩
def tJ3 (n_3 : Int) (sum : Int) (c_15 : List Int) (g_16 : Int) : ASt := ⟨[(16, .one (.val (.int .i64) g_16)), (15, .one (.own 15)), (9, .one (.val (.int .i64) sum)), (3, .one (.val (.int .i64) n_3))], [(15, some ⟨.free, .int .i64, c_15⟩)]⟩
def tL4 (n_3 : Int) (sum : Int) (c_15 : List Int) (g_16 : Int) (i : Int) : ASt := ⟨[(19, .one (.val (.int .i64) i)), (16, .one (.val (.int .i64) g_16)), (15, .one (.own 15)), (9, .one (.val (.int .i64) sum)), (3, .one (.val (.int .i64) n_3))], [(15, some ⟨.free, .int .i64, c_15⟩)]⟩
noncomputable def J0 (values : List Int) (bounds : List Int) (groups : List Int) (n_3 : Int) : R := lim E fin (.code c2 .ret) (tJ0 values bounds groups n_3)
noncomputable def L1 (values : List Int) (bounds : List Int) (groups : List Int) (n_3 : Int) (sum : Int) (i : Int) : R := lim E fin (.loop c3 K8) (tL1 values bounds groups n_3 sum i)
noncomputable def J2 (values : List Int) (n_3 : Int) (sum : Int) (b : List api_BucketV) (f : Int) (c_15 : List Int) (g_16 : Int) : R := lim E fin (.code c4 .ret) (tJ2 values n_3 sum b f c_15 g_16)
noncomputable def J3 (n_3 : Int) (sum : Int) (c_15 : List Int) (g_16 : Int) : R := lim E fin (.code c5 .ret) (tJ3 n_3 sum c_15 g_16)
noncomputable def L4 (n_3 : Int) (sum : Int) (c_15 : List Int) (g_16 : Int) (i : Int) : R := lim E fin (.loop c6 K27) (tL4 n_3 sum c_15 g_16 i)
noncomputable def SJ0 (values : List Int) (bounds : List Int) (groups : List Int) (n_3 : Int) : R :=
  L1 values bounds groups n_3 0 0
noncomputable def SL1 (values : List Int) (bounds : List Int) (groups : List Int) (n_3 : Int) (sum : Int) (i : Int) : R :=
  cond (decide (i < (values.length : Int)))
    (Option.bind (idx values i) fun x1 =>
    L1 values bounds groups n_3 (IntKind.i64.wrap (sum + x1)) (IntKind.i64.wrap (i + 1)))
    (Option.bind (distribution_Histogram values bounds) fun x2 =>
    Option.bind (distribution_Groups values groups n_3) fun x3 =>
    Option.bind (distribution_Shares values n_3) fun x4 =>
    Option.bind (law59_total x2.1) fun x5 =>
    cond (x2.2.1 == 0)
      (cond (x5.1 != (values.length : Int))
        (some (false, ()))
        (cond (x5.2.1 != sum)
          (some (false, ()))
          (J2 values n_3 sum x3.1 x3.2.1 x4.1 x4.2.1)))
      (J2 values n_3 sum x3.1 x3.2.1 x4.1 x4.2.1))
noncomputable def SJ2 (values : List Int) (n_3 : Int) (sum : Int) (b : List api_BucketV) (f : Int) (c_15 : List Int) (g_16 : Int) : R :=
  Option.bind (law59_total b) fun x1 =>
  cond (f == 0)
    (cond (x1.1 != (values.length : Int))
      (some (false, ()))
      (cond (x1.2.1 != sum)
        (some (false, ()))
        (cond ((b.length : Int) != n_3)
          (some (false, ()))
          (J3 n_3 sum c_15 g_16))))
    (J3 n_3 sum c_15 g_16)
noncomputable def SJ3 (n_3 : Int) (sum : Int) (c_15 : List Int) (g_16 : Int) : R :=
  L4 n_3 sum c_15 g_16 0
noncomputable def SL4 (n_3 : Int) (sum : Int) (c_15 : List Int) (g_16 : Int) (i : Int) : R :=
  cond (decide (i < (c_15.length : Int)))
    (cond (decide (0 ≤ i) && decide (i < (c_15.length : Int)))
      (L4 n_3 (IntKind.i64.wrap (sum - (c_15.getD i.toNat 0))) c_15 g_16 (IntKind.i64.wrap (i + 1)))
      none)
    (cond (g_16 != 0)
      (Option.bind law59_awake fun x1 =>
      some (x1.1, ()))
      (cond (sum == 0)
        (cond ((c_15.length : Int) == n_3)
          (Option.bind law59_awake fun x2 =>
          some (x2.1, ()))
          (some (false, ())))
        (some (false, ()))))
noncomputable def Se (values : List Int) (bounds : List Int) (groups : List Int) (n_3 : Int) : R :=
  Option.bind (law59_few values) fun x1 =>
  cond (!x1.1)
    (Option.bind law59_awake fun x2 =>
    some (x2.1, ()))
    (Option.bind (law59_few bounds) fun x3 =>
    cond (!x3.1)
      (Option.bind law59_awake fun x4 =>
      some (x4.1, ()))
      (Option.bind (law59_few groups) fun x5 =>
      cond (!x5.1)
        (Option.bind law59_awake fun x6 =>
        some (x6.1, ()))
        (J0 values bounds groups n_3)))
theorem J0_eq (values bounds groups n_3) : J0 values bounds groups n_3 = SJ0 values bounds groups n_3 := (lim_eq (.code c2 .ret) (tJ0 values bounds groups n_3)).trans (by kernel_rfl)
theorem L1_eq (values bounds groups n_3 sum i) : L1 values bounds groups n_3 sum i = SL1 values bounds groups n_3 sum i := (lim_eq (.loop c3 K8) (tL1 values bounds groups n_3 sum i)).trans (by kernel_rfl)
theorem J2_eq (values n_3 sum b f c_15 g_16) : J2 values n_3 sum b f c_15 g_16 = SJ2 values n_3 sum b f c_15 g_16 := (lim_eq (.code c4 .ret) (tJ2 values n_3 sum b f c_15 g_16)).trans (by kernel_rfl)
theorem J3_eq (n_3 sum c_15 g_16) : J3 n_3 sum c_15 g_16 = SJ3 n_3 sum c_15 g_16 := (lim_eq (.code c5 .ret) (tJ3 n_3 sum c_15 g_16)).trans (by kernel_rfl)
theorem L4_eq (n_3 sum c_15 g_16 i) : L4 n_3 sum c_15 g_16 i = SL4 n_3 sum c_15 g_16 i := (lim_eq (.loop c6 K27) (tL4 n_3 sum c_15 g_16 i)).trans (by kernel_rfl)
theorem se (x : (argTy ps).den) : run E (lim E fin) fin depth (bodyOf Try.f7) .ret (entryFrom 0 ps x) = Se x.1 x.2.1 x.2.2.1 x.2.2.2.1 := by kernel_rfl
end law59_DistributionTotals
noncomputable def law59_DistributionTotals (values : List Int) (bounds : List Int) (groups : List Int) (n_3 : Int) : law59_DistributionTotals.R :=
  law59_DistributionTotals.Se values bounds groups n_3
namespace law59_DistributionTotals
noncomputable def sig : Sig := ⟨ps, rs, fun x => law59_DistributionTotals x.1 x.2.1 x.2.2.1 x.2.2.2.1⟩
theorem val (x : (argTy ps).den) : lim E fin (.code (bodyOf Try.f7) .ret) (entryFrom 0 ps x) = sig.run x := (lim_eq (.code (bodyOf Try.f7) .ret) (entryFrom 0 ps x)).trans (se x)
theorem ok : CallOK Try.prog 7 sig :=
  callOK_of_lim (E := E) mixed tt_ok (ctxOk_cons (ctxOk_cons (ctxOk_cons (ctxOk_cons (ctxOk_cons (ctxOk_cons ctxOk_nil law59_total.ok Try.func22 (by kernel_rfl) (by kernel_rfl)) distribution_Shares.ok Try.func19 (by kernel_rfl) (by kernel_rfl)) distribution_Groups.ok Try.func17 (by kernel_rfl) (by kernel_rfl)) distribution_Histogram.ok Try.func14 (by kernel_rfl) (by kernel_rfl)) law59_awake.ok Try.func11 (by kernel_rfl) (by kernel_rfl)) law59_few.ok Try.func10 (by kernel_rfl) (by kernel_rfl)) Try.func7 (by kernel_rfl : Try.f7.body = some (bodyOf Try.f7)) Try.ntmps7 (of_decide_eq_true (by kernel_rfl)) (of_decide_eq_true (by kernel_rfl)) fun x y h => (val x).trans h
noncomputable def ctxc (n : Nat) : List (Nat × Sig) := [(10, law59_few.sigc n), (11, law59_awake.sigc n), (14, distribution_Histogram.sigc n), (17, distribution_Groups.sigc n), (19, distribution_Shares.sigc n), (22, law59_total.sigc n)]
noncomputable def sigc (n : Nat) : Sig := ⟨ps, rs, fun x => runs (withCtx E (ctxc n)) fin n (.code (bodyOf Try.f7) .ret) (entryFrom 0 ps x)⟩
theorem sigc_le (n : Nat) : ∀ x y, (sigc n).run x = some y → sig.run x = some y := fun x y h => (val x).symm.trans (runs_lim (E := E) (c := ctxc n) (ctxLe_cons (ctxLe_cons (ctxLe_cons (ctxLe_cons (ctxLe_cons (ctxLe_cons ctxLe_nil (law59_total.sigc_le n)) (distribution_Shares.sigc_le n)) (distribution_Groups.sigc_le n)) (distribution_Histogram.sigc_le n)) (law59_awake.sigc_le n)) (law59_few.sigc_le n)) h)
end law59_DistributionTotals
end Go.Proofs.Ytphpegconhdnfaa
