import Derived.Test.YtphpegconhdnfaaCode2
set_option maxRecDepth 100000
set_option linter.unusedVariables false
namespace Go.Proofs.Ytphpegconhdnfaa
open Go Go.Lift
namespace slices_insertionSortCmpFunc_money_part_money_shares_1
abbrev ps : List PM := [.own money_part, .pure (.int .i64), .pure (.int .i64), .fn 56]
abbrev rs : List RM := []
abbrev R : Type := Option (List money_partV × Unit)
noncomputable def E : Env := { tt := tt, ctx := [(56, money_shares_1.sig)], nt := 53, ann := [(1000001, [(0, .keep), (1, .keep), (2, .keep), (3, .keep), (8, .keep)]), (1000004, [(0, .keep), (1, .keep), (2, .keep), (3, .keep), (8, .keep), (9, .keep)]), (6, [(0, .keep), (1, .keep), (2, .keep), (3, .keep), (8, .keep), (9, .keep)])] }
noncomputable def c0 : Code := sub [1, 0, 0] (bodyOf Try.f77)
noncomputable def c1 : Code := sub [1, 0, 0, 1, 1] (bodyOf Try.f77)
noncomputable def c2 : Code := sub [1, 0, 0, 1, 0, 0, 1, 0, 0] (bodyOf Try.f77)
noncomputable def c3 : Code := sub [1, 0, 0, 1, 0, 0, 1, 0, 0, 1] (bodyOf Try.f77)
noncomputable def K2 : Kont := .blk 0 .ret
noncomputable def K3 : Kont := .loop c0 K2
noncomputable def K6 : Kont := .seq c1 K3
noncomputable def K7 : Kont := .blk 1 K6
noncomputable def K9 : Kont := .blk 2 K7
noncomputable def K10 : Kont := .loop c2 K9
noncomputable def fin : ASt → R := Kret E Try.f77.results.toList ps rs
def tL0 (a : Int) (b : Int) (i : Int) (data_P : List money_partV) : ASt := ⟨[(8, .one (.val (.int .i64) i)), (3, .one (.fn 56 [])), (2, .one (.val (.int .i64) b)), (1, .one (.val (.int .i64) a)), (0, .one (.own 10000))], [(10000, some ⟨.fixed, money_part, data_P⟩)]⟩
def tL1 (a : Int) (b : Int) (i : Int) (j : Int) (data_P : List money_partV) : ASt := ⟨[(9, .one (.val (.int .i64) j)), (8, .one (.val (.int .i64) i)), (3, .one (.fn 56 [])), (2, .one (.val (.int .i64) b)), (1, .one (.val (.int .i64) a)), (0, .one (.own 10000))], [(10000, some ⟨.fixed, money_part, data_P⟩)]⟩
def tJ2 (a : Int) (b : Int) (i : Int) (j : Int) (data_P : List money_partV) : ASt := ⟨[(9, .one (.val (.int .i64) j)), (8, .one (.val (.int .i64) i)), (3, .one (.fn 56 [])), (2, .one (.val (.int .i64) b)), (1, .one (.val (.int .i64) a)), (0, .one (.own 10000))], [(10000, some ⟨.fixed, money_part, data_P⟩)]⟩
noncomputable def L0 (a : Int) (b : Int) (i : Int) (data_P : List money_partV) : R := lim E fin (.loop c0 K2) (tL0 a b i data_P)
noncomputable def L1 (a : Int) (b : Int) (i : Int) (j : Int) (data_P : List money_partV) : R := lim E fin (.loop c2 K9) (tL1 a b i j data_P)
noncomputable def J2 (a : Int) (b : Int) (i : Int) (j : Int) (data_P : List money_partV) : R := lim E fin (.code c3 K10) (tJ2 a b i j data_P)
noncomputable def SL0 (a : Int) (b : Int) (i : Int) (data_P : List money_partV) : R :=
  cond (decide (i < b))
    (L1 a b i i data_P)
    (some (data_P, ()))
noncomputable def SL1 (a : Int) (b : Int) (i : Int) (j : Int) (data_P : List money_partV) : R :=
  cond (decide (j > a))
    (cond (decide (0 ≤ j) && decide (j < (data_P.length : Int)))
      (cond (decide (0 ≤ IntKind.i64.wrap (j - 1)) && decide (IntKind.i64.wrap (j - 1) < (data_P.length : Int)))
        (Option.bind (money_shares_1 (data_P.getD j.toNat (0, 0, ())) (data_P.getD ((IntKind.i64.wrap (j - 1)).toNat) (0, 0, ()))) fun x1 =>
        cond (decide (x1.1 < 0))
          (J2 a b i j data_P)
          (L0 a b (IntKind.i64.wrap (i + 1)) data_P))
        none)
      none)
    (L0 a b (IntKind.i64.wrap (i + 1)) data_P)
noncomputable def SJ2 (a : Int) (b : Int) (i : Int) (j : Int) (data_P : List money_partV) : R :=
  cond (decide (0 ≤ IntKind.i64.wrap (j - 1)) && decide (IntKind.i64.wrap (j - 1) < (data_P.length : Int)))
    (cond (decide (0 ≤ j) && decide (j < (data_P.length : Int)))
      (cond (decide (0 ≤ j) && decide (j < (data_P.length : Int)))
        (cond (decide (0 ≤ IntKind.i64.wrap (j - 1)) && decide (IntKind.i64.wrap (j - 1) < ((data_P.set j.toNat (data_P.getD ((IntKind.i64.wrap (j - 1)).toNat) (0, 0, ()))).length : Int)))
          (L1 a b i (IntKind.i64.wrap (j - 1)) ((data_P.set j.toNat (data_P.getD ((IntKind.i64.wrap (j - 1)).toNat) (0, 0, ()))).set ((IntKind.i64.wrap (j - 1)).toNat) (data_P.getD j.toNat (0, 0, ()))))
          none)
        none)
      none)
    none
noncomputable def Se (data : List money_partV) (a : Int) (b : Int) : R :=
  L0 a b (IntKind.i64.wrap (a + 1)) data
theorem L0_eq (a b i data_P) : L0 a b i data_P = SL0 a b i data_P := (lim_eq (.loop c0 K2) (tL0 a b i data_P)).trans (by kernel_rfl)
theorem L1_eq (a b i j data_P) : L1 a b i j data_P = SL1 a b i j data_P := (lim_eq (.loop c2 K9) (tL1 a b i j data_P)).trans (by kernel_rfl)
theorem J2_eq (a b i j data_P) : J2 a b i j data_P = SJ2 a b i j data_P := (lim_eq (.code c3 K10) (tJ2 a b i j data_P)).trans (by kernel_rfl)
theorem se (x : (argTy ps).den) : run E (lim E fin) fin depth (bodyOf Try.f77) .ret (entryFrom 0 ps x) = Se x.1 x.2.1 x.2.2.1 := by kernel_rfl
end slices_insertionSortCmpFunc_money_part_money_shares_1
noncomputable def slices_insertionSortCmpFunc_money_part_money_shares_1 (data : List money_partV) (a : Int) (b : Int) : slices_insertionSortCmpFunc_money_part_money_shares_1.R :=
  slices_insertionSortCmpFunc_money_part_money_shares_1.Se data a b
namespace slices_insertionSortCmpFunc_money_part_money_shares_1
noncomputable def sig : Sig := ⟨ps, rs, fun x => slices_insertionSortCmpFunc_money_part_money_shares_1 x.1 x.2.1 x.2.2.1⟩
theorem val (x : (argTy ps).den) : lim E fin (.code (bodyOf Try.f77) .ret) (entryFrom 0 ps x) = sig.run x := (lim_eq (.code (bodyOf Try.f77) .ret) (entryFrom 0 ps x)).trans (se x)
theorem ok : CallOK Try.prog 77 sig :=
  callOK_of_lim (E := E) mixed tt_ok (ctxOk_cons ctxOk_nil money_shares_1.ok Try.func56 (by kernel_rfl) (by kernel_rfl)) Try.func77 (by kernel_rfl : Try.f77.body = some (bodyOf Try.f77)) Try.ntmps77 (of_decide_eq_true (by kernel_rfl)) (of_decide_eq_true (by kernel_rfl)) fun x y h => (val x).trans h
noncomputable def ctxc (n : Nat) : List (Nat × Sig) := [(56, money_shares_1.sigc n)]
noncomputable def sigc (n : Nat) : Sig := ⟨ps, rs, fun x => runs (withCtx E (ctxc n)) fin n (.code (bodyOf Try.f77) .ret) (entryFrom 0 ps x)⟩
theorem sigc_le (n : Nat) : ∀ x y, (sigc n).run x = some y → sig.run x = some y := fun x y h => (val x).symm.trans (runs_lim (E := E) (c := ctxc n) (ctxLe_cons ctxLe_nil (money_shares_1.sigc_le n)) h)
end slices_insertionSortCmpFunc_money_part_money_shares_1
namespace slices_swapRangeCmpFunc_money_part_money_shares_1
abbrev ps : List PM := [.own money_part, .pure (.int .i64), .pure (.int .i64), .pure (.int .i64), .fn 56]
abbrev rs : List RM := []
abbrev R : Type := Option (List money_partV × Unit)
noncomputable def E : Env := { tt := tt, ctx := [], nt := 38, ann := [(1000001, [(0, .keep), (1, .keep), (2, .keep), (3, .keep), (10, .keep)])] }
noncomputable def c0 : Code := sub [1, 0, 0] (bodyOf Try.f81)
noncomputable def K2 : Kont := .blk 0 .ret
noncomputable def fin : ASt → R := Kret E Try.f81.results.toList ps rs
def tL0 (a : Int) (b : Int) (n_3 : Int) (i : Int) (data_P : List money_partV) : ASt := ⟨[(10, .one (.val (.int .i64) i)), (3, .one (.val (.int .i64) n_3)), (2, .one (.val (.int .i64) b)), (1, .one (.val (.int .i64) a)), (0, .one (.own 10000))], [(10000, some ⟨.fixed, money_part, data_P⟩)]⟩
noncomputable def L0 (a : Int) (b : Int) (n_3 : Int) (i : Int) (data_P : List money_partV) : R := lim E fin (.loop c0 K2) (tL0 a b n_3 i data_P)
noncomputable def SL0 (a : Int) (b : Int) (n_3 : Int) (i : Int) (data_P : List money_partV) : R :=
  cond (decide (i < n_3))
    (cond (decide (0 ≤ IntKind.i64.wrap (b + i)) && decide (IntKind.i64.wrap (b + i) < (data_P.length : Int)))
      (cond (decide (0 ≤ IntKind.i64.wrap (a + i)) && decide (IntKind.i64.wrap (a + i) < (data_P.length : Int)))
        (cond (decide (0 ≤ IntKind.i64.wrap (a + i)) && decide (IntKind.i64.wrap (a + i) < (data_P.length : Int)))
          (cond (decide (0 ≤ IntKind.i64.wrap (b + i)) && decide (IntKind.i64.wrap (b + i) < ((data_P.set ((IntKind.i64.wrap (a + i)).toNat) (data_P.getD ((IntKind.i64.wrap (b + i)).toNat) (0, 0, ()))).length : Int)))
            (L0 a b n_3 (IntKind.i64.wrap (i + 1)) ((data_P.set ((IntKind.i64.wrap (a + i)).toNat) (data_P.getD ((IntKind.i64.wrap (b + i)).toNat) (0, 0, ()))).set ((IntKind.i64.wrap (b + i)).toNat) (data_P.getD ((IntKind.i64.wrap (a + i)).toNat) (0, 0, ()))))
            none)
          none)
        none)
      none)
    (some (data_P, ()))
noncomputable def Se (data : List money_partV) (a : Int) (b : Int) (n_3 : Int) : R :=
  L0 a b n_3 0 data
theorem L0_eq (a b n_3 i data_P) : L0 a b n_3 i data_P = SL0 a b n_3 i data_P := (lim_eq (.loop c0 K2) (tL0 a b n_3 i data_P)).trans (by kernel_rfl)
theorem se (x : (argTy ps).den) : run E (lim E fin) fin depth (bodyOf Try.f81) .ret (entryFrom 0 ps x) = Se x.1 x.2.1 x.2.2.1 x.2.2.2.1 := by kernel_rfl
end slices_swapRangeCmpFunc_money_part_money_shares_1
noncomputable def slices_swapRangeCmpFunc_money_part_money_shares_1 (data : List money_partV) (a : Int) (b : Int) (n_3 : Int) : slices_swapRangeCmpFunc_money_part_money_shares_1.R :=
  slices_swapRangeCmpFunc_money_part_money_shares_1.Se data a b n_3
namespace slices_swapRangeCmpFunc_money_part_money_shares_1
noncomputable def sig : Sig := ⟨ps, rs, fun x => slices_swapRangeCmpFunc_money_part_money_shares_1 x.1 x.2.1 x.2.2.1 x.2.2.2.1⟩
theorem val (x : (argTy ps).den) : lim E fin (.code (bodyOf Try.f81) .ret) (entryFrom 0 ps x) = sig.run x := (lim_eq (.code (bodyOf Try.f81) .ret) (entryFrom 0 ps x)).trans (se x)
theorem ok : CallOK Try.prog 81 sig :=
  callOK_of_lim (E := E) mixed tt_ok ctxOk_nil Try.func81 (by kernel_rfl : Try.f81.body = some (bodyOf Try.f81)) Try.ntmps81 (of_decide_eq_true (by kernel_rfl)) (of_decide_eq_true (by kernel_rfl)) fun x y h => (val x).trans h
noncomputable def ctxc (n : Nat) : List (Nat × Sig) := []
noncomputable def sigc (n : Nat) : Sig := ⟨ps, rs, fun x => runs (withCtx E (ctxc n)) fin n (.code (bodyOf Try.f81) .ret) (entryFrom 0 ps x)⟩
theorem sigc_le (n : Nat) : ∀ x y, (sigc n).run x = some y → sig.run x = some y := fun x y h => (val x).symm.trans (runs_lim (E := E) (c := ctxc n) ctxLe_nil h)
end slices_swapRangeCmpFunc_money_part_money_shares_1
namespace slices_rotateCmpFunc_money_part_money_shares_1
abbrev ps : List PM := [.own money_part, .pure (.int .i64), .pure (.int .i64), .pure (.int .i64), .fn 56]
abbrev rs : List RM := []
abbrev R : Type := Option (List money_partV × Unit)
noncomputable def E : Env := { tt := tt, ctx := [(81, slices_swapRangeCmpFunc_money_part_money_shares_1.sig)], nt := 58, ann := [(1000002, [(0, .keep), (2, .keep), (4, .keep), (10, .keep), (11, .keep)])] }
noncomputable def c0 : Code := sub [1, 1, 1] (bodyOf Try.f80)
noncomputable def c1 : Code := sub [1, 1, 0, 0, 0] (bodyOf Try.f80)
noncomputable def K3 : Kont := .seq c0 .ret
noncomputable def K4 : Kont := .blk 0 K3
noncomputable def fin : ASt → R := Kret E Try.f80.results.toList ps rs
def tL0 (m : Int) (i : Int) (j : Int) (data_P : List money_partV) : ASt := ⟨[(11, .one (.val (.int .i64) j)), (10, .one (.val (.int .i64) i)), (4, .one (.fn 56 [])), (2, .one (.val (.int .i64) m)), (0, .one (.own 10000))], [(10000, some ⟨.fixed, money_part, data_P⟩)]⟩
noncomputable def L0 (m : Int) (i : Int) (j : Int) (data_P : List money_partV) : R := lim E fin (.loop c1 K4) (tL0 m i j data_P)
noncomputable def SL0 (m : Int) (i : Int) (j : Int) (data_P : List money_partV) : R :=
  cond (i != j)
    (cond (decide (i > j))
      (Option.bind (slices_swapRangeCmpFunc_money_part_money_shares_1 data_P (IntKind.i64.wrap (m - i)) m j) fun x1 =>
      L0 m (IntKind.i64.wrap (i - j)) j x1.1)
      (Option.bind (slices_swapRangeCmpFunc_money_part_money_shares_1 data_P (IntKind.i64.wrap (m - i)) (IntKind.i64.wrap ((IntKind.i64.wrap (m + j)) - i)) i) fun x2 =>
      L0 m i (IntKind.i64.wrap (j - i)) x2.1))
    (Option.bind (slices_swapRangeCmpFunc_money_part_money_shares_1 data_P (IntKind.i64.wrap (m - i)) m i) fun x3 =>
    some (x3.1, ()))
noncomputable def Se (data : List money_partV) (a : Int) (m : Int) (b : Int) : R :=
  L0 m (IntKind.i64.wrap (m - a)) (IntKind.i64.wrap (b - m)) data
theorem L0_eq (m i j data_P) : L0 m i j data_P = SL0 m i j data_P := (lim_eq (.loop c1 K4) (tL0 m i j data_P)).trans (by kernel_rfl)
theorem se (x : (argTy ps).den) : run E (lim E fin) fin depth (bodyOf Try.f80) .ret (entryFrom 0 ps x) = Se x.1 x.2.1 x.2.2.1 x.2.2.2.1 := by kernel_rfl
end slices_rotateCmpFunc_money_part_money_shares_1
noncomputable def slices_rotateCmpFunc_money_part_money_shares_1 (data : List money_partV) (a : Int) (m : Int) (b : Int) : slices_rotateCmpFunc_money_part_money_shares_1.R :=
  slices_rotateCmpFunc_money_part_money_shares_1.Se data a m b
namespace slices_rotateCmpFunc_money_part_money_shares_1
noncomputable def sig : Sig := ⟨ps, rs, fun x => slices_rotateCmpFunc_money_part_money_shares_1 x.1 x.2.1 x.2.2.1 x.2.2.2.1⟩
theorem val (x : (argTy ps).den) : lim E fin (.code (bodyOf Try.f80) .ret) (entryFrom 0 ps x) = sig.run x := (lim_eq (.code (bodyOf Try.f80) .ret) (entryFrom 0 ps x)).trans (se x)
theorem ok : CallOK Try.prog 80 sig :=
  callOK_of_lim (E := E) mixed tt_ok (ctxOk_cons ctxOk_nil slices_swapRangeCmpFunc_money_part_money_shares_1.ok Try.func81 (by kernel_rfl) (by kernel_rfl)) Try.func80 (by kernel_rfl : Try.f80.body = some (bodyOf Try.f80)) Try.ntmps80 (of_decide_eq_true (by kernel_rfl)) (of_decide_eq_true (by kernel_rfl)) fun x y h => (val x).trans h
noncomputable def ctxc (n : Nat) : List (Nat × Sig) := [(81, slices_swapRangeCmpFunc_money_part_money_shares_1.sigc n)]
noncomputable def sigc (n : Nat) : Sig := ⟨ps, rs, fun x => runs (withCtx E (ctxc n)) fin n (.code (bodyOf Try.f80) .ret) (entryFrom 0 ps x)⟩
theorem sigc_le (n : Nat) : ∀ x y, (sigc n).run x = some y → sig.run x = some y := fun x y h => (val x).symm.trans (runs_lim (E := E) (c := ctxc n) (ctxLe_cons ctxLe_nil (slices_swapRangeCmpFunc_money_part_money_shares_1.sigc_le n)) h)
end slices_rotateCmpFunc_money_part_money_shares_1
namespace slices_symMergeCmpFunc_money_part_money_shares_1
abbrev ps : List PM := [.own money_part, .pure (.int .i64), .pure (.int .i64), .pure (.int .i64), .fn 56]
abbrev rs : List RM := []
abbrev R : Type := Option (List money_partV × Unit)
noncomputable def E0 : Env := { tt := tt, ctx := [], nt := 220, ann := [(1000003, [(0, .keep), (1, .keep), (4, .keep), (10, .keep), (11, .keep)]), (1000015, [(0, .keep), (2, .keep), (4, .keep), (14, .keep), (15, .keep)]), (32, [(0, .keep), (1, .keep), (2, .keep), (3, .keep), (4, .keep), (18, .keep), (19, .keep), (20, .keep), (21, .keep)]), (1000009, [(0, .keep), (10, .keep), (13, .keep)]), (1000021, [(0, .keep), (14, .keep), (17, .keep)]), (1000033, [(0, .keep), (1, .keep), (2, .keep), (3, .keep), (4, .keep), (18, .keep), (19, .keep), (20, .keep), (21, .keep), (22, .keep)]), (41, [(0, .keep), (1, .keep), (3, .keep), (4, .keep), (18, .keep), (20, .keep), (24, .keep)]), (43, [(0, .keep), (3, .keep), (4, .keep), (18, .keep), (24, .keep)])] }
noncomputable def ctx0 : List (Nat × Sig) := [(56, money_shares_1.sig), (80, slices_rotateCmpFunc_money_part_money_shares_1.sig)]
noncomputable def E (self : (List money_partV) → Int → Int → Int → R) : Env := withCtx E0 ((78, ⟨ps, rs, fun x => self x.1 x.2.1 x.2.2.1 x.2.2.2.1⟩) :: ctx0)
noncomputable def c0 : Code := sub [1] (bodyOf Try.f78)
noncomputable def c1 : Code := sub [0, 1, 0, 1, 1, 1] (bodyOf Try.f78)
noncomputable def c2 : Code := sub [1, 1] (bodyOf Try.f78)
noncomputable def c3 : Code := sub [1, 0, 1, 0, 1, 1, 1] (bodyOf Try.f78)
noncomputable def c4 : Code := sub [0, 1, 0, 1, 1, 1, 1] (bodyOf Try.f78)
noncomputable def c5 : Code := sub [1, 0, 1, 0, 1, 1, 1, 1] (bodyOf Try.f78)
noncomputable def c6 : Code := sub [1, 1, 1, 1, 1, 1, 1, 1] (bodyOf Try.f78)
noncomputable def c7 : Code := sub [0, 1, 0, 1, 1, 0, 0, 0] (bodyOf Try.f78)
noncomputable def c8 : Code := sub [1, 0, 1, 0, 1, 1, 0, 0, 0] (bodyOf Try.f78)
noncomputable def c9 : Code := sub [1, 1, 1, 1, 1, 1] (bodyOf Try.f78)
noncomputable def c10 : Code := sub [0, 1, 0, 1, 1, 1, 0, 1, 0, 0] (bodyOf Try.f78)
noncomputable def c11 : Code := sub [1, 0, 1, 0, 1, 1, 1, 0, 1, 0, 0] (bodyOf Try.f78)
noncomputable def c12 : Code := sub [1, 1, 1, 1, 1, 1, 1, 0, 0, 0] (bodyOf Try.f78)
noncomputable def c13 : Code := sub [1, 1, 1, 1, 1, 1, 1, 1, 1, 1] (bodyOf Try.f78)
noncomputable def c14 : Code := sub [1, 1, 1, 1, 1, 1, 1, 1, 1, 1, 1] (bodyOf Try.f78)
noncomputable def K1 : Kont := .seq c0 .ret
noncomputable def K5 : Kont := .seq c1 K1
noncomputable def K6 : Kont := .blk 0 K5
noncomputable def K8 : Kont := .seq c2 .ret
noncomputable def K12 : Kont := .seq c3 K8
noncomputable def K13 : Kont := .blk 4 K12
noncomputable def K27 : Kont := .seq c4 K1
noncomputable def K29 : Kont := .blk 2 K27
noncomputable def K36 : Kont := .seq c5 K8
noncomputable def K38 : Kont := .blk 6 K36
noncomputable def K41 : Kont := .seq c6 .ret
noncomputable def K42 : Kont := .blk 8 K41
noncomputable def fin : ASt → R := Kret E0 Try.f78.results.toList ps rs
def tL0 (a : Int) (i : Int) (j : Int) (data_P : List money_partV) : ASt := ⟨[(11, .one (.val (.int .i64) j)), (10, .one (.val (.int .i64) i)), (4, .one (.fn 56 [])), (1, .one (.val (.int .i64) a)), (0, .one (.own 10000))], [(10000, some ⟨.fixed, money_part, data_P⟩)]⟩
def tL1 (m : Int) (i : Int) (j : Int) (data_P : List money_partV) : ASt := ⟨[(15, .one (.val (.int .i64) j)), (14, .one (.val (.int .i64) i)), (4, .one (.fn 56 [])), (2, .one (.val (.int .i64) m)), (0, .one (.own 10000))], [(10000, some ⟨.fixed, money_part, data_P⟩)]⟩
def tJ2 (a : Int) (m : Int) (b : Int) (mid : Int) (n_19 : Int) (start : Int) (r_21 : Int) (data_P : List money_partV) : ASt := ⟨[(21, .one (.val (.int .i64) r_21)), (20, .one (.val (.int .i64) start)), (19, .one (.val (.int .i64) n_19)), (18, .one (.val (.int .i64) mid)), (4, .one (.fn 56 [])), (3, .one (.val (.int .i64) b)), (2, .one (.val (.int .i64) m)), (1, .one (.val (.int .i64) a)), (0, .one (.own 10000))], [(10000, some ⟨.fixed, money_part, data_P⟩)]⟩
def tL3 (i : Int) (k : Int) (data_P : List money_partV) : ASt := ⟨[(13, .one (.val (.int .i64) k)), (10, .one (.val (.int .i64) i)), (0, .one (.own 10000))], [(10000, some ⟨.fixed, money_part, data_P⟩)]⟩
def tL4 (i : Int) (k : Int) (data_P : List money_partV) : ASt := ⟨[(17, .one (.val (.int .i64) k)), (14, .one (.val (.int .i64) i)), (0, .one (.own 10000))], [(10000, some ⟨.fixed, money_part, data_P⟩)]⟩
def tL5 (a : Int) (m : Int) (b : Int) (mid : Int) (n_19 : Int) (start : Int) (r_21 : Int) (p : Int) (data_P : List money_partV) : ASt := ⟨[(22, .one (.val (.int .i64) p)), (21, .one (.val (.int .i64) r_21)), (20, .one (.val (.int .i64) start)), (19, .one (.val (.int .i64) n_19)), (18, .one (.val (.int .i64) mid)), (4, .one (.fn 56 [])), (3, .one (.val (.int .i64) b)), (2, .one (.val (.int .i64) m)), (1, .one (.val (.int .i64) a)), (0, .one (.own 10000))], [(10000, some ⟨.fixed, money_part, data_P⟩)]⟩
def tJ6 (a : Int) (b : Int) (mid : Int) (start : Int) (end_24 : Int) (data_P : List money_partV) : ASt := ⟨[(24, .one (.val (.int .i64) end_24)), (20, .one (.val (.int .i64) start)), (18, .one (.val (.int .i64) mid)), (4, .one (.fn 56 [])), (3, .one (.val (.int .i64) b)), (1, .one (.val (.int .i64) a)), (0, .one (.own 10000))], [(10000, some ⟨.fixed, money_part, data_P⟩)]⟩
def tJ7 (b : Int) (mid : Int) (end_24 : Int) (data_P : List money_partV) : ASt := ⟨[(24, .one (.val (.int .i64) end_24)), (18, .one (.val (.int .i64) mid)), (4, .one (.fn 56 [])), (3, .one (.val (.int .i64) b)), (0, .one (.own 10000))], [(10000, some ⟨.fixed, money_part, data_P⟩)]⟩
noncomputable def SL0 (self : (List money_partV) → Int → Int → Int → R) (kL0 : Int → Int → Int → (List money_partV) → R) (kL3 : Int → Int → (List money_partV) → R) (a : Int) (i : Int) (j : Int) (data_P : List money_partV) : R :=
  cond (decide (i < j))
    (cond (decide (0 ≤ IntKind.i64.wrap (Int.fdiv (IntKind.u64.wrap (IntKind.i64.wrap (i + j))) (2 ^ (min 1 IntKind.u64.bits)))) && decide (IntKind.i64.wrap (Int.fdiv (IntKind.u64.wrap (IntKind.i64.wrap (i + j))) (2 ^ (min 1 IntKind.u64.bits))) < (data_P.length : Int)))
      (cond (decide (0 ≤ a) && decide (a < (data_P.length : Int)))
        (Option.bind (money_shares_1 (data_P.getD ((IntKind.i64.wrap (Int.fdiv (IntKind.u64.wrap (IntKind.i64.wrap (i + j))) (2 ^ (min 1 IntKind.u64.bits)))).toNat) (0, 0, ())) (data_P.getD a.toNat (0, 0, ()))) fun x1 =>
        cond (decide (x1.1 < 0))
          (kL0 a (IntKind.i64.wrap ((IntKind.i64.wrap (Int.fdiv (IntKind.u64.wrap (IntKind.i64.wrap (i + j))) (2 ^ (min 1 IntKind.u64.bits)))) + 1)) j data_P)
          (kL0 a i (IntKind.i64.wrap (Int.fdiv (IntKind.u64.wrap (IntKind.i64.wrap (i + j))) (2 ^ (min 1 IntKind.u64.bits)))) data_P))
        none)
      none)
    (kL3 i a data_P)
noncomputable def SL1 (self : (List money_partV) → Int → Int → Int → R) (kL1 : Int → Int → Int → (List money_partV) → R) (kL4 : Int → Int → (List money_partV) → R) (m : Int) (i : Int) (j : Int) (data_P : List money_partV) : R :=
  cond (decide (i < j))
    (cond (decide (0 ≤ m) && decide (m < (data_P.length : Int)))
      (cond (decide (0 ≤ IntKind.i64.wrap (Int.fdiv (IntKind.u64.wrap (IntKind.i64.wrap (i + j))) (2 ^ (min 1 IntKind.u64.bits)))) && decide (IntKind.i64.wrap (Int.fdiv (IntKind.u64.wrap (IntKind.i64.wrap (i + j))) (2 ^ (min 1 IntKind.u64.bits))) < (data_P.length : Int)))
        (Option.bind (money_shares_1 (data_P.getD m.toNat (0, 0, ())) (data_P.getD ((IntKind.i64.wrap (Int.fdiv (IntKind.u64.wrap (IntKind.i64.wrap (i + j))) (2 ^ (min 1 IntKind.u64.bits)))).toNat) (0, 0, ()))) fun x1 =>
        cond (!(decide (x1.1 < 0)))
          (kL1 m (IntKind.i64.wrap ((IntKind.i64.wrap (Int.fdiv (IntKind.u64.wrap (IntKind.i64.wrap (i + j))) (2 ^ (min 1 IntKind.u64.bits)))) + 1)) j data_P)
          (kL1 m i (IntKind.i64.wrap (Int.fdiv (IntKind.u64.wrap (IntKind.i64.wrap (i + j))) (2 ^ (min 1 IntKind.u64.bits)))) data_P))
        none)
      none)
    (kL4 i m data_P)
noncomputable def SJ2 (self : (List money_partV) → Int → Int → Int → R) (kL5 : Int → Int → Int → Int → Int → Int → Int → Int → (List money_partV) → R) (a : Int) (m : Int) (b : Int) (mid : Int) (n_19 : Int) (start : Int) (r_21 : Int) (data_P : List money_partV) : R :=
  kL5 a m b mid n_19 start r_21 (IntKind.i64.wrap (n_19 - 1)) data_P
noncomputable def SL3 (self : (List money_partV) → Int → Int → Int → R) (kL3 : Int → Int → (List money_partV) → R) (i : Int) (k : Int) (data_P : List money_partV) : R :=
  cond (decide (k < (IntKind.i64.wrap (i - 1))))
    (cond (decide (0 ≤ IntKind.i64.wrap (k + 1)) && decide (IntKind.i64.wrap (k + 1) < (data_P.length : Int)))
      (cond (decide (0 ≤ k) && decide (k < (data_P.length : Int)))
        (cond (decide (0 ≤ k) && decide (k < (data_P.length : Int)))
          (cond (decide (0 ≤ IntKind.i64.wrap (k + 1)) && decide (IntKind.i64.wrap (k + 1) < ((data_P.set k.toNat (data_P.getD ((IntKind.i64.wrap (k + 1)).toNat) (0, 0, ()))).length : Int)))
            (kL3 i (IntKind.i64.wrap (k + 1)) ((data_P.set k.toNat (data_P.getD ((IntKind.i64.wrap (k + 1)).toNat) (0, 0, ()))).set ((IntKind.i64.wrap (k + 1)).toNat) (data_P.getD k.toNat (0, 0, ()))))
            none)
          none)
        none)
      none)
    (some (data_P, ()))
noncomputable def SL4 (self : (List money_partV) → Int → Int → Int → R) (kL4 : Int → Int → (List money_partV) → R) (i : Int) (k : Int) (data_P : List money_partV) : R :=
  cond (decide (k > i))
    (cond (decide (0 ≤ IntKind.i64.wrap (k - 1)) && decide (IntKind.i64.wrap (k - 1) < (data_P.length : Int)))
      (cond (decide (0 ≤ k) && decide (k < (data_P.length : Int)))
        (cond (decide (0 ≤ k) && decide (k < (data_P.length : Int)))
          (cond (decide (0 ≤ IntKind.i64.wrap (k - 1)) && decide (IntKind.i64.wrap (k - 1) < ((data_P.set k.toNat (data_P.getD ((IntKind.i64.wrap (k - 1)).toNat) (0, 0, ()))).length : Int)))
            (kL4 i (IntKind.i64.wrap (k - 1)) ((data_P.set k.toNat (data_P.getD ((IntKind.i64.wrap (k - 1)).toNat) (0, 0, ()))).set ((IntKind.i64.wrap (k - 1)).toNat) (data_P.getD k.toNat (0, 0, ()))))
            none)
          none)
        none)
      none)
    (some (data_P, ()))
noncomputable def SL5 (self : (List money_partV) → Int → Int → Int → R) (kL5 : Int → Int → Int → Int → Int → Int → Int → Int → (List money_partV) → R) (kJ6 : Int → Int → Int → Int → Int → (List money_partV) → R) (a : Int) (m : Int) (b : Int) (mid : Int) (n_19 : Int) (start : Int) (r_21 : Int) (p : Int) (data_P : List money_partV) : R :=
  cond (decide (start < r_21))
    (cond (decide (0 ≤ IntKind.i64.wrap (p - (IntKind.i64.wrap (Int.fdiv (IntKind.u64.wrap (IntKind.i64.wrap (start + r_21))) (2 ^ (min 1 IntKind.u64.bits)))))) && decide (IntKind.i64.wrap (p - (IntKind.i64.wrap (Int.fdiv (IntKind.u64.wrap (IntKind.i64.wrap (start + r_21))) (2 ^ (min 1 IntKind.u64.bits))))) < (data_P.length : Int)))
      (cond (decide (0 ≤ IntKind.i64.wrap (Int.fdiv (IntKind.u64.wrap (IntKind.i64.wrap (start + r_21))) (2 ^ (min 1 IntKind.u64.bits)))) && decide (IntKind.i64.wrap (Int.fdiv (IntKind.u64.wrap (IntKind.i64.wrap (start + r_21))) (2 ^ (min 1 IntKind.u64.bits))) < (data_P.length : Int)))
        (Option.bind (money_shares_1 (data_P.getD ((IntKind.i64.wrap (p - (IntKind.i64.wrap (Int.fdiv (IntKind.u64.wrap (IntKind.i64.wrap (start + r_21))) (2 ^ (min 1 IntKind.u64.bits)))))).toNat) (0, 0, ())) (data_P.getD ((IntKind.i64.wrap (Int.fdiv (IntKind.u64.wrap (IntKind.i64.wrap (start + r_21))) (2 ^ (min 1 IntKind.u64.bits)))).toNat) (0, 0, ()))) fun x1 =>
        cond (!(decide (x1.1 < 0)))
          (kL5 a m b mid n_19 (IntKind.i64.wrap ((IntKind.i64.wrap (Int.fdiv (IntKind.u64.wrap (IntKind.i64.wrap (start + r_21))) (2 ^ (min 1 IntKind.u64.bits)))) + 1)) r_21 p data_P)
          (kL5 a m b mid n_19 start (IntKind.i64.wrap (Int.fdiv (IntKind.u64.wrap (IntKind.i64.wrap (start + r_21))) (2 ^ (min 1 IntKind.u64.bits)))) p data_P))
        none)
      none)
    (cond (decide (start < m))
      (cond (decide (m < (IntKind.i64.wrap (n_19 - start))))
        (Option.bind (slices_rotateCmpFunc_money_part_money_shares_1 data_P start m (IntKind.i64.wrap (n_19 - start))) fun x2 =>
        kJ6 a b mid start (IntKind.i64.wrap (n_19 - start)) x2.1)
        (kJ6 a b mid start (IntKind.i64.wrap (n_19 - start)) data_P))
      (kJ6 a b mid start (IntKind.i64.wrap (n_19 - start)) data_P))
noncomputable def SJ6 (self : (List money_partV) → Int → Int → Int → R) (kJ7 : Int → Int → Int → (List money_partV) → R) (a : Int) (b : Int) (mid : Int) (start : Int) (end_24 : Int) (data_P : List money_partV) : R :=
  cond (decide (a < start))
    (cond (decide (start < mid))
      (Option.bind (self data_P a start mid) fun x1 =>
      kJ7 b mid end_24 x1.1)
      (kJ7 b mid end_24 data_P))
    (kJ7 b mid end_24 data_P)
noncomputable def SJ7 (self : (List money_partV) → Int → Int → Int → R) (b : Int) (mid : Int) (end_24 : Int) (data_P : List money_partV) : R :=
  cond (decide (mid < end_24))
    (cond (decide (end_24 < b))
      (Option.bind (self data_P mid end_24 b) fun x1 =>
      some (x1.1, ()))
      (some (data_P, ())))
    (some (data_P, ()))
noncomputable def Se (self : (List money_partV) → Int → Int → Int → R) (kL0 : Int → Int → Int → (List money_partV) → R) (kL1 : Int → Int → Int → (List money_partV) → R) (kJ2 : Int → Int → Int → Int → Int → Int → Int → (List money_partV) → R) (data : List money_partV) (a : Int) (m : Int) (b : Int) : R :=
  cond ((IntKind.i64.wrap (m - a)) == 1)
    (kL0 a m b data)
    (cond ((IntKind.i64.wrap (b - m)) == 1)
      (kL1 m a m data)
      (cond (decide (m > (IntKind.i64.wrap (Int.fdiv (IntKind.u64.wrap (IntKind.i64.wrap (a + b))) (2 ^ (min 1 IntKind.u64.bits))))))
        (kJ2 a m b (IntKind.i64.wrap (Int.fdiv (IntKind.u64.wrap (IntKind.i64.wrap (a + b))) (2 ^ (min 1 IntKind.u64.bits)))) (IntKind.i64.wrap ((IntKind.i64.wrap (Int.fdiv (IntKind.u64.wrap (IntKind.i64.wrap (a + b))) (2 ^ (min 1 IntKind.u64.bits)))) + m)) (IntKind.i64.wrap ((IntKind.i64.wrap ((IntKind.i64.wrap (Int.fdiv (IntKind.u64.wrap (IntKind.i64.wrap (a + b))) (2 ^ (min 1 IntKind.u64.bits)))) + m)) - b)) (IntKind.i64.wrap (Int.fdiv (IntKind.u64.wrap (IntKind.i64.wrap (a + b))) (2 ^ (min 1 IntKind.u64.bits)))) data)
        (kJ2 a m b (IntKind.i64.wrap (Int.fdiv (IntKind.u64.wrap (IntKind.i64.wrap (a + b))) (2 ^ (min 1 IntKind.u64.bits)))) (IntKind.i64.wrap ((IntKind.i64.wrap (Int.fdiv (IntKind.u64.wrap (IntKind.i64.wrap (a + b))) (2 ^ (min 1 IntKind.u64.bits)))) + m)) a m data)))
theorem sL0 (self : (List money_partV) → Int → Int → Int → R) (jmp : Tgt → ASt → R) (a : Int) (i : Int) (j : Int) (data_P : List money_partV) : run (E self) jmp fin depth c7 (.loop c7 K6) (tL0 a i j data_P) =
    SL0 self (fun a i j data_P => jmp (.loop c7 K6) (tL0 a i j data_P)) (fun i k data_P => jmp (.loop c10 K29) (tL3 i k data_P)) a i j data_P := by kernel_rfl
theorem sL1 (self : (List money_partV) → Int → Int → Int → R) (jmp : Tgt → ASt → R) (m : Int) (i : Int) (j : Int) (data_P : List money_partV) : run (E self) jmp fin depth c8 (.loop c8 K13) (tL1 m i j data_P) =
    SL1 self (fun m i j data_P => jmp (.loop c8 K13) (tL1 m i j data_P)) (fun i k data_P => jmp (.loop c11 K38) (tL4 i k data_P)) m i j data_P := by kernel_rfl
theorem sJ2 (self : (List money_partV) → Int → Int → Int → R) (jmp : Tgt → ASt → R) (a : Int) (m : Int) (b : Int) (mid : Int) (n_19 : Int) (start : Int) (r_21 : Int) (data_P : List money_partV) : run (E self) jmp fin depth c9 .ret (tJ2 a m b mid n_19 start r_21 data_P) =
    SJ2 self (fun a m b mid n_19 start r_21 p data_P => jmp (.loop c12 K42) (tL5 a m b mid n_19 start r_21 p data_P)) a m b mid n_19 start r_21 data_P := by kernel_rfl
theorem sL3 (self : (List money_partV) → Int → Int → Int → R) (jmp : Tgt → ASt → R) (i : Int) (k : Int) (data_P : List money_partV) : run (E self) jmp fin depth c10 (.loop c10 K29) (tL3 i k data_P) =
    SL3 self (fun i k data_P => jmp (.loop c10 K29) (tL3 i k data_P)) i k data_P := by kernel_rfl
theorem sL4 (self : (List money_partV) → Int → Int → Int → R) (jmp : Tgt → ASt → R) (i : Int) (k : Int) (data_P : List money_partV) : run (E self) jmp fin depth c11 (.loop c11 K38) (tL4 i k data_P) =
    SL4 self (fun i k data_P => jmp (.loop c11 K38) (tL4 i k data_P)) i k data_P := by kernel_rfl
theorem sL5 (self : (List money_partV) → Int → Int → Int → R) (jmp : Tgt → ASt → R) (a : Int) (m : Int) (b : Int) (mid : Int) (n_19 : Int) (start : Int) (r_21 : Int) (p : Int) (data_P : List money_partV) : run (E self) jmp fin depth c12 (.loop c12 K42) (tL5 a m b mid n_19 start r_21 p data_P) =
    SL5 self (fun a m b mid n_19 start r_21 p data_P => jmp (.loop c12 K42) (tL5 a m b mid n_19 start r_21 p data_P)) (fun a b mid start end_24 data_P => jmp (.code c13 .ret) (tJ6 a b mid start end_24 data_P)) a m b mid n_19 start r_21 p data_P := by kernel_rfl
theorem sJ6 (self : (List money_partV) → Int → Int → Int → R) (jmp : Tgt → ASt → R) (a : Int) (b : Int) (mid : Int) (start : Int) (end_24 : Int) (data_P : List money_partV) : run (E self) jmp fin depth c13 .ret (tJ6 a b mid start end_24 data_P) =
    SJ6 self (fun b mid end_24 data_P => jmp (.code c14 .ret) (tJ7 b mid end_24 data_P)) a b mid start end_24 data_P := by kernel_rfl
theorem sJ7 (self : (List money_partV) → Int → Int → Int → R) (jmp : Tgt → ASt → R) (b : Int) (mid : Int) (end_24 : Int) (data_P : List money_partV) : run (E self) jmp fin depth c14 .ret (tJ7 b mid end_24 data_P) =
    SJ7 self b mid end_24 data_P := by kernel_rfl
theorem se (self : (List money_partV) → Int → Int → Int → R) (jmp : Tgt → ASt → R) (x : (argTy ps).den) : run (E self) jmp fin depth (bodyOf Try.f78) .ret (entryFrom 0 ps x) =
    Se self (fun a i j data_P => jmp (.loop c7 K6) (tL0 a i j data_P)) (fun m i j data_P => jmp (.loop c8 K13) (tL1 m i j data_P)) (fun a m b mid n_19 start r_21 data_P => jmp (.code c9 .ret) (tJ2 a m b mid n_19 start r_21 data_P)) x.1 x.2.1 x.2.2.1 x.2.2.2.1 := by kernel_rfl
end slices_symMergeCmpFunc_money_part_money_shares_1
noncomputable def slices_symMergeCmpFunc_money_part_money_shares_1 (data : List money_partV) (a : Int) (m : Int) (b : Int) : slices_symMergeCmpFunc_money_part_money_shares_1.R :=
  recF slices_symMergeCmpFunc_money_part_money_shares_1.E0 slices_symMergeCmpFunc_money_part_money_shares_1.ctx0 78 slices_symMergeCmpFunc_money_part_money_shares_1.ps slices_symMergeCmpFunc_money_part_money_shares_1.rs slices_symMergeCmpFunc_money_part_money_shares_1.fin (bodyOf Try.f78) (data, a, m, b, (), ())
namespace slices_symMergeCmpFunc_money_part_money_shares_1
noncomputable def L0 (a : Int) (i : Int) (j : Int) (data_P : List money_partV) : R := lim (E slices_symMergeCmpFunc_money_part_money_shares_1) fin (.loop c7 K6) (tL0 a i j data_P)
noncomputable def L1 (m : Int) (i : Int) (j : Int) (data_P : List money_partV) : R := lim (E slices_symMergeCmpFunc_money_part_money_shares_1) fin (.loop c8 K13) (tL1 m i j data_P)
noncomputable def J2 (a : Int) (m : Int) (b : Int) (mid : Int) (n_19 : Int) (start : Int) (r_21 : Int) (data_P : List money_partV) : R := lim (E slices_symMergeCmpFunc_money_part_money_shares_1) fin (.code c9 .ret) (tJ2 a m b mid n_19 start r_21 data_P)
noncomputable def L3 (i : Int) (k : Int) (data_P : List money_partV) : R := lim (E slices_symMergeCmpFunc_money_part_money_shares_1) fin (.loop c10 K29) (tL3 i k data_P)
noncomputable def L4 (i : Int) (k : Int) (data_P : List money_partV) : R := lim (E slices_symMergeCmpFunc_money_part_money_shares_1) fin (.loop c11 K38) (tL4 i k data_P)
noncomputable def L5 (a : Int) (m : Int) (b : Int) (mid : Int) (n_19 : Int) (start : Int) (r_21 : Int) (p : Int) (data_P : List money_partV) : R := lim (E slices_symMergeCmpFunc_money_part_money_shares_1) fin (.loop c12 K42) (tL5 a m b mid n_19 start r_21 p data_P)
noncomputable def J6 (a : Int) (b : Int) (mid : Int) (start : Int) (end_24 : Int) (data_P : List money_partV) : R := lim (E slices_symMergeCmpFunc_money_part_money_shares_1) fin (.code c13 .ret) (tJ6 a b mid start end_24 data_P)
noncomputable def J7 (b : Int) (mid : Int) (end_24 : Int) (data_P : List money_partV) : R := lim (E slices_symMergeCmpFunc_money_part_money_shares_1) fin (.code c14 .ret) (tJ7 b mid end_24 data_P)
theorem L0_eq (a : Int) (i : Int) (j : Int) (data_P : List money_partV) : L0 a i j data_P = SL0 slices_symMergeCmpFunc_money_part_money_shares_1 L0 L3 a i j data_P :=
  (lim_eq (.loop c7 K6) (tL0 a i j data_P)).trans (sL0 slices_symMergeCmpFunc_money_part_money_shares_1 (lim (E slices_symMergeCmpFunc_money_part_money_shares_1) fin) a i j data_P)
theorem L1_eq (m : Int) (i : Int) (j : Int) (data_P : List money_partV) : L1 m i j data_P = SL1 slices_symMergeCmpFunc_money_part_money_shares_1 L1 L4 m i j data_P :=
  (lim_eq (.loop c8 K13) (tL1 m i j data_P)).trans (sL1 slices_symMergeCmpFunc_money_part_money_shares_1 (lim (E slices_symMergeCmpFunc_money_part_money_shares_1) fin) m i j data_P)
theorem J2_eq (a : Int) (m : Int) (b : Int) (mid : Int) (n_19 : Int) (start : Int) (r_21 : Int) (data_P : List money_partV) : J2 a m b mid n_19 start r_21 data_P = SJ2 slices_symMergeCmpFunc_money_part_money_shares_1 L5 a m b mid n_19 start r_21 data_P :=
  (lim_eq (.code c9 .ret) (tJ2 a m b mid n_19 start r_21 data_P)).trans (sJ2 slices_symMergeCmpFunc_money_part_money_shares_1 (lim (E slices_symMergeCmpFunc_money_part_money_shares_1) fin) a m b mid n_19 start r_21 data_P)
theorem L3_eq (i : Int) (k : Int) (data_P : List money_partV) : L3 i k data_P = SL3 slices_symMergeCmpFunc_money_part_money_shares_1 L3 i k data_P :=
  (lim_eq (.loop c10 K29) (tL3 i k data_P)).trans (sL3 slices_symMergeCmpFunc_money_part_money_shares_1 (lim (E slices_symMergeCmpFunc_money_part_money_shares_1) fin) i k data_P)
theorem L4_eq (i : Int) (k : Int) (data_P : List money_partV) : L4 i k data_P = SL4 slices_symMergeCmpFunc_money_part_money_shares_1 L4 i k data_P :=
  (lim_eq (.loop c11 K38) (tL4 i k data_P)).trans (sL4 slices_symMergeCmpFunc_money_part_money_shares_1 (lim (E slices_symMergeCmpFunc_money_part_money_shares_1) fin) i k data_P)
theorem L5_eq (a : Int) (m : Int) (b : Int) (mid : Int) (n_19 : Int) (start : Int) (r_21 : Int) (p : Int) (data_P : List money_partV) : L5 a m b mid n_19 start r_21 p data_P = SL5 slices_symMergeCmpFunc_money_part_money_shares_1 L5 J6 a m b mid n_19 start r_21 p data_P :=
  (lim_eq (.loop c12 K42) (tL5 a m b mid n_19 start r_21 p data_P)).trans (sL5 slices_symMergeCmpFunc_money_part_money_shares_1 (lim (E slices_symMergeCmpFunc_money_part_money_shares_1) fin) a m b mid n_19 start r_21 p data_P)
theorem J6_eq (a : Int) (b : Int) (mid : Int) (start : Int) (end_24 : Int) (data_P : List money_partV) : J6 a b mid start end_24 data_P = SJ6 slices_symMergeCmpFunc_money_part_money_shares_1 J7 a b mid start end_24 data_P :=
  (lim_eq (.code c13 .ret) (tJ6 a b mid start end_24 data_P)).trans (sJ6 slices_symMergeCmpFunc_money_part_money_shares_1 (lim (E slices_symMergeCmpFunc_money_part_money_shares_1) fin) a b mid start end_24 data_P)
theorem J7_eq (b : Int) (mid : Int) (end_24 : Int) (data_P : List money_partV) : J7 b mid end_24 data_P = SJ7 slices_symMergeCmpFunc_money_part_money_shares_1 b mid end_24 data_P :=
  (lim_eq (.code c14 .ret) (tJ7 b mid end_24 data_P)).trans (sJ7 slices_symMergeCmpFunc_money_part_money_shares_1 (lim (E slices_symMergeCmpFunc_money_part_money_shares_1) fin) b mid end_24 data_P)
theorem selfrun : (fun x : (argTy ps).den => slices_symMergeCmpFunc_money_part_money_shares_1 x.1 x.2.1 x.2.2.1 x.2.2.2.1) = recF E0 ctx0 78 ps rs fin (bodyOf Try.f78) := by kernel_rfl
end slices_symMergeCmpFunc_money_part_money_shares_1
noncomputable def slices_symMergeCmpFunc_money_part_money_shares_1.sig : Sig := ⟨slices_symMergeCmpFunc_money_part_money_shares_1.ps, slices_symMergeCmpFunc_money_part_money_shares_1.rs, fun x => slices_symMergeCmpFunc_money_part_money_shares_1 x.1 x.2.1 x.2.2.1 x.2.2.2.1⟩
theorem slices_symMergeCmpFunc_money_part_money_shares_1.val (x : (argTy slices_symMergeCmpFunc_money_part_money_shares_1.ps).den) : lim (slices_symMergeCmpFunc_money_part_money_shares_1.E slices_symMergeCmpFunc_money_part_money_shares_1) slices_symMergeCmpFunc_money_part_money_shares_1.fin (.code (bodyOf Try.f78) .ret) (entryFrom 0 slices_symMergeCmpFunc_money_part_money_shares_1.ps x) = slices_symMergeCmpFunc_money_part_money_shares_1.sig.run x := by
  have h := recF_eq (E := slices_symMergeCmpFunc_money_part_money_shares_1.E0) (ctx := slices_symMergeCmpFunc_money_part_money_shares_1.ctx0) (f := 78) (ps := slices_symMergeCmpFunc_money_part_money_shares_1.ps) (rs := slices_symMergeCmpFunc_money_part_money_shares_1.rs) (fin := slices_symMergeCmpFunc_money_part_money_shares_1.fin) (body := bodyOf Try.f78) x
  rw [← slices_symMergeCmpFunc_money_part_money_shares_1.selfrun] at h
  exact h.symm
theorem slices_symMergeCmpFunc_money_part_money_shares_1_eq (data : List money_partV) (a : Int) (m : Int) (b : Int) : slices_symMergeCmpFunc_money_part_money_shares_1 data a m b = slices_symMergeCmpFunc_money_part_money_shares_1.Se slices_symMergeCmpFunc_money_part_money_shares_1 slices_symMergeCmpFunc_money_part_money_shares_1.L0 slices_symMergeCmpFunc_money_part_money_shares_1.L1 slices_symMergeCmpFunc_money_part_money_shares_1.J2 data a m b :=
  (slices_symMergeCmpFunc_money_part_money_shares_1.val (data, a, m, b, (), ())).symm.trans ((lim_eq (.code (bodyOf Try.f78) .ret) (entryFrom 0 slices_symMergeCmpFunc_money_part_money_shares_1.ps (data, a, m, b, (), ()))).trans (slices_symMergeCmpFunc_money_part_money_shares_1.se slices_symMergeCmpFunc_money_part_money_shares_1 (lim (slices_symMergeCmpFunc_money_part_money_shares_1.E slices_symMergeCmpFunc_money_part_money_shares_1) slices_symMergeCmpFunc_money_part_money_shares_1.fin) (data, a, m, b, (), ())))
theorem slices_symMergeCmpFunc_money_part_money_shares_1.ok : CallOK Try.prog 78 slices_symMergeCmpFunc_money_part_money_shares_1.sig := by
  have h := callOK_rec (E := slices_symMergeCmpFunc_money_part_money_shares_1.E0) (ctx := slices_symMergeCmpFunc_money_part_money_shares_1.ctx0) (f := 78) (ps := slices_symMergeCmpFunc_money_part_money_shares_1.ps) (rs := slices_symMergeCmpFunc_money_part_money_shares_1.rs) (fin := slices_symMergeCmpFunc_money_part_money_shares_1.fin) (body := bodyOf Try.f78) mixed tt_ok (ctxOk_cons (ctxOk_cons ctxOk_nil slices_rotateCmpFunc_money_part_money_shares_1.ok Try.func80 (by kernel_rfl) (by kernel_rfl)) money_shares_1.ok Try.func56 (by kernel_rfl) (by kernel_rfl)) Try.func78 (by kernel_rfl : Try.f78.body = some (bodyOf Try.f78)) (by kernel_rfl) (by kernel_rfl) Try.ntmps78 (of_decide_eq_true (by kernel_rfl)) (of_decide_eq_true (by kernel_rfl)) rfl
  rw [← slices_symMergeCmpFunc_money_part_money_shares_1.selfrun] at h
  exact h
noncomputable def slices_symMergeCmpFunc_money_part_money_shares_1.ctxc (n : Nat) : List (Nat × Sig) := [(56, money_shares_1.sigc n), (80, slices_rotateCmpFunc_money_part_money_shares_1.sigc n)]
noncomputable def slices_symMergeCmpFunc_money_part_money_shares_1.runc (n : Nat) : Nat → (argTy slices_symMergeCmpFunc_money_part_money_shares_1.ps).den → slices_symMergeCmpFunc_money_part_money_shares_1.R
  | 0, _ => none
  | d + 1, x => runs (withCtx slices_symMergeCmpFunc_money_part_money_shares_1.E0 ((78, ⟨slices_symMergeCmpFunc_money_part_money_shares_1.ps, slices_symMergeCmpFunc_money_part_money_shares_1.rs, slices_symMergeCmpFunc_money_part_money_shares_1.runc n d⟩) :: slices_symMergeCmpFunc_money_part_money_shares_1.ctxc n)) slices_symMergeCmpFunc_money_part_money_shares_1.fin n (.code (bodyOf Try.f78) .ret) (entryFrom 0 slices_symMergeCmpFunc_money_part_money_shares_1.ps x)
noncomputable def slices_symMergeCmpFunc_money_part_money_shares_1.sigc (n : Nat) : Sig := ⟨slices_symMergeCmpFunc_money_part_money_shares_1.ps, slices_symMergeCmpFunc_money_part_money_shares_1.rs, slices_symMergeCmpFunc_money_part_money_shares_1.runc n n⟩
theorem slices_symMergeCmpFunc_money_part_money_shares_1.runc_le (n : Nat) : ∀ d x y, slices_symMergeCmpFunc_money_part_money_shares_1.runc n d x = some y → slices_symMergeCmpFunc_money_part_money_shares_1.sig.run x = some y := by
  intro d
  induction d with
  | zero => intro x y h; cases h
  | succ d ih => exact fun x y h => (slices_symMergeCmpFunc_money_part_money_shares_1.val x).symm.trans (runs_lim (E := slices_symMergeCmpFunc_money_part_money_shares_1.E slices_symMergeCmpFunc_money_part_money_shares_1) (c := (78, ⟨slices_symMergeCmpFunc_money_part_money_shares_1.ps, slices_symMergeCmpFunc_money_part_money_shares_1.rs, slices_symMergeCmpFunc_money_part_money_shares_1.runc n d⟩) :: slices_symMergeCmpFunc_money_part_money_shares_1.ctxc n) (ctxLe_cons (ctxLe_cons (ctxLe_cons ctxLe_nil (slices_rotateCmpFunc_money_part_money_shares_1.sigc_le n)) (money_shares_1.sigc_le n)) ih) h)
theorem slices_symMergeCmpFunc_money_part_money_shares_1.sigc_le (n : Nat) : ∀ x y, (slices_symMergeCmpFunc_money_part_money_shares_1.sigc n).run x = some y → slices_symMergeCmpFunc_money_part_money_shares_1.sig.run x = some y := slices_symMergeCmpFunc_money_part_money_shares_1.runc_le n n
namespace slices_stableCmpFunc_money_part_money_shares_1
abbrev ps : List PM := [.own money_part, .pure (.int .i64), .fn 56]
abbrev rs : List RM := []
abbrev R : Type := Option (List money_partV × Unit)
noncomputable def E : Env := { tt := tt, ctx := [(77, slices_insertionSortCmpFunc_money_part_money_shares_1.sig), (78, slices_symMergeCmpFunc_money_part_money_shares_1.sig)], nt := 63, ann := [(1000002, [(0, .keep), (1, .keep), (2, .keep), (6, .keep), (7, .keep), (8, .keep)]), (1000007, [(0, .keep), (1, .keep), (2, .keep), (6, .keep)]), (1000009, [(0, .keep), (1, .keep), (2, .keep), (6, .keep), (7, .keep), (8, .keep)])] }
noncomputable def c0 : Code := sub [1, 1, 1] (bodyOf Try.f70)
noncomputable def c1 : Code := sub [1, 1, 1, 1, 0, 0] (bodyOf Try.f70)
noncomputable def c2 : Code := sub [1, 1, 1, 1, 0, 0, 1, 0, 1, 1] (bodyOf Try.f70)
noncomputable def c3 : Code := sub [1, 1, 0, 0, 0] (bodyOf Try.f70)
noncomputable def c4 : Code := sub [1, 1, 1, 1, 0, 0, 1, 0, 1, 0, 0, 0] (bodyOf Try.f70)
noncomputable def K3 : Kont := .seq c0 .ret
noncomputable def K4 : Kont := .blk 0 K3
noncomputable def K12 : Kont := .blk 2 .ret
noncomputable def K13 : Kont := .loop c1 K12
noncomputable def K16 : Kont := .blk 3 K13
noncomputable def K18 : Kont := .seq c2 K16
noncomputable def K19 : Kont := .blk 4 K18
noncomputable def fin : ASt → R := Kret E Try.f70.results.toList ps rs
def tL0 (n_1 : Int) (blockSize : Int) (a : Int) (b : Int) (data_P : List money_partV) : ASt := ⟨[(8, .one (.val (.int .i64) b)), (7, .one (.val (.int .i64) a)), (6, .one (.val (.int .i64) blockSize)), (2, .one (.fn 56 [])), (1, .one (.val (.int .i64) n_1)), (0, .one (.own 10000))], [(10000, some ⟨.fixed, money_part, data_P⟩)]⟩
def tL1 (n_1 : Int) (blockSize : Int) (data_P : List money_partV) : ASt := ⟨[(6, .one (.val (.int .i64) blockSize)), (2, .one (.fn 56 [])), (1, .one (.val (.int .i64) n_1)), (0, .one (.own 10000))], [(10000, some ⟨.fixed, money_part, data_P⟩)]⟩
def tL2 (n_1 : Int) (blockSize : Int) (a : Int) (b : Int) (data_P : List money_partV) : ASt := ⟨[(8, .one (.val (.int .i64) b)), (7, .one (.val (.int .i64) a)), (6, .one (.val (.int .i64) blockSize)), (2, .one (.fn 56 [])), (1, .one (.val (.int .i64) n_1)), (0, .one (.own 10000))], [(10000, some ⟨.fixed, money_part, data_P⟩)]⟩
noncomputable def L0 (n_1 : Int) (blockSize : Int) (a : Int) (b : Int) (data_P : List money_partV) : R := lim E fin (.loop c3 K4) (tL0 n_1 blockSize a b data_P)
noncomputable def L1 (n_1 : Int) (blockSize : Int) (data_P : List money_partV) : R := lim E fin (.loop c1 K12) (tL1 n_1 blockSize data_P)
noncomputable def L2 (n_1 : Int) (blockSize : Int) (a : Int) (b : Int) (data_P : List money_partV) : R := lim E fin (.loop c4 K19) (tL2 n_1 blockSize a b data_P)
noncomputable def SL0 (n_1 : Int) (blockSize : Int) (a : Int) (b : Int) (data_P : List money_partV) : R :=
  cond (decide (b ≤ n_1))
    (Option.bind (slices_insertionSortCmpFunc_money_part_money_shares_1 data_P a b) fun x1 =>
    L0 n_1 blockSize b (IntKind.i64.wrap (b + blockSize)) x1.1)
    (Option.bind (slices_insertionSortCmpFunc_money_part_money_shares_1 data_P a n_1) fun x2 =>
    L1 n_1 blockSize x2.1)
noncomputable def SL1 (n_1 : Int) (blockSize : Int) (data_P : List money_partV) : R :=
  cond (decide (blockSize < n_1))
    (L2 n_1 blockSize 0 (IntKind.i64.wrap (2 * blockSize)) data_P)
    (some (data_P, ()))
noncomputable def SL2 (n_1 : Int) (blockSize : Int) (a : Int) (b : Int) (data_P : List money_partV) : R :=
  cond (decide (b ≤ n_1))
    (Option.bind (slices_symMergeCmpFunc_money_part_money_shares_1 data_P a (IntKind.i64.wrap (a + blockSize)) b) fun x1 =>
    L2 n_1 blockSize b (IntKind.i64.wrap (b + (IntKind.i64.wrap (2 * blockSize)))) x1.1)
    (cond (decide ((IntKind.i64.wrap (a + blockSize)) < n_1))
      (Option.bind (slices_symMergeCmpFunc_money_part_money_shares_1 data_P a (IntKind.i64.wrap (a + blockSize)) n_1) fun x2 =>
      L1 n_1 (IntKind.i64.wrap (blockSize * 2)) x2.1)
      (L1 n_1 (IntKind.i64.wrap (blockSize * 2)) data_P))
noncomputable def Se (data : List money_partV) (n_1 : Int) : R :=
  L0 n_1 20 0 20 data
theorem L0_eq (n_1 blockSize a b data_P) : L0 n_1 blockSize a b data_P = SL0 n_1 blockSize a b data_P := (lim_eq (.loop c3 K4) (tL0 n_1 blockSize a b data_P)).trans (by kernel_rfl)
theorem L1_eq (n_1 blockSize data_P) : L1 n_1 blockSize data_P = SL1 n_1 blockSize data_P := (lim_eq (.loop c1 K12) (tL1 n_1 blockSize data_P)).trans (by kernel_rfl)
theorem L2_eq (n_1 blockSize a b data_P) : L2 n_1 blockSize a b data_P = SL2 n_1 blockSize a b data_P := (lim_eq (.loop c4 K19) (tL2 n_1 blockSize a b data_P)).trans (by kernel_rfl)
theorem se (x : (argTy ps).den) : run E (lim E fin) fin depth (bodyOf Try.f70) .ret (entryFrom 0 ps x) = Se x.1 x.2.1 := by kernel_rfl
end slices_stableCmpFunc_money_part_money_shares_1
noncomputable def slices_stableCmpFunc_money_part_money_shares_1 (data : List money_partV) (n_1 : Int) : slices_stableCmpFunc_money_part_money_shares_1.R :=
  slices_stableCmpFunc_money_part_money_shares_1.Se data n_1
namespace slices_stableCmpFunc_money_part_money_shares_1
noncomputable def sig : Sig := ⟨ps, rs, fun x => slices_stableCmpFunc_money_part_money_shares_1 x.1 x.2.1⟩
theorem val (x : (argTy ps).den) : lim E fin (.code (bodyOf Try.f70) .ret) (entryFrom 0 ps x) = sig.run x := (lim_eq (.code (bodyOf Try.f70) .ret) (entryFrom 0 ps x)).trans (se x)
theorem ok : CallOK Try.prog 70 sig :=
  callOK_of_lim (E := E) mixed tt_ok (ctxOk_cons (ctxOk_cons ctxOk_nil slices_symMergeCmpFunc_money_part_money_shares_1.ok Try.func78 (by kernel_rfl) (by kernel_rfl)) slices_insertionSortCmpFunc_money_part_money_shares_1.ok Try.func77 (by kernel_rfl) (by kernel_rfl)) Try.func70 (by kernel_rfl : Try.f70.body = some (bodyOf Try.f70)) Try.ntmps70 (of_decide_eq_true (by kernel_rfl)) (of_decide_eq_true (by kernel_rfl)) fun x y h => (val x).trans h
noncomputable def ctxc (n : Nat) : List (Nat × Sig) := [(77, slices_insertionSortCmpFunc_money_part_money_shares_1.sigc n), (78, slices_symMergeCmpFunc_money_part_money_shares_1.sigc n)]
noncomputable def sigc (n : Nat) : Sig := ⟨ps, rs, fun x => runs (withCtx E (ctxc n)) fin n (.code (bodyOf Try.f70) .ret) (entryFrom 0 ps x)⟩
theorem sigc_le (n : Nat) : ∀ x y, (sigc n).run x = some y → sig.run x = some y := fun x y h => (val x).symm.trans (runs_lim (E := E) (c := ctxc n) (ctxLe_cons (ctxLe_cons ctxLe_nil (slices_symMergeCmpFunc_money_part_money_shares_1.sigc_le n)) (slices_insertionSortCmpFunc_money_part_money_shares_1.sigc_le n)) h)
end slices_stableCmpFunc_money_part_money_shares_1
namespace slices_SortStableFunc_money_part_money_part_money_shares_1
abbrev ps : List PM := [.own money_part, .fn 56]
abbrev rs : List RM := []
abbrev R : Type := Option (List money_partV × Unit)
noncomputable def E : Env := { tt := tt, ctx := [(70, slices_stableCmpFunc_money_part_money_shares_1.sig)], nt := 9, ann := [] }
noncomputable def fin : ASt → R := Kret E Try.f55.results.toList ps rs
noncomputable def Se (x_0 : List money_partV) : R :=
  Option.bind (slices_stableCmpFunc_money_part_money_shares_1 x_0 (x_0.length : Int)) fun x1 =>
  some (x1.1, ())
theorem se (x : (argTy ps).den) : run E (lim E fin) fin depth (bodyOf Try.f55) .ret (entryFrom 0 ps x) = Se x.1 := by kernel_rfl
end slices_SortStableFunc_money_part_money_part_money_shares_1
noncomputable def slices_SortStableFunc_money_part_money_part_money_shares_1 (x_0 : List money_partV) : slices_SortStableFunc_money_part_money_part_money_shares_1.R :=
  slices_SortStableFunc_money_part_money_part_money_shares_1.Se x_0
namespace slices_SortStableFunc_money_part_money_part_money_shares_1
noncomputable def sig : Sig := ⟨ps, rs, fun x => slices_SortStableFunc_money_part_money_part_money_shares_1 x.1⟩
theorem val (x : (argTy ps).den) : lim E fin (.code (bodyOf Try.f55) .ret) (entryFrom 0 ps x) = sig.run x := (lim_eq (.code (bodyOf Try.f55) .ret) (entryFrom 0 ps x)).trans (se x)
theorem ok : CallOK Try.prog 55 sig :=
  callOK_of_lim (E := E) mixed tt_ok (ctxOk_cons ctxOk_nil slices_stableCmpFunc_money_part_money_shares_1.ok Try.func70 (by kernel_rfl) (by kernel_rfl)) Try.func55 (by kernel_rfl : Try.f55.body = some (bodyOf Try.f55)) Try.ntmps55 (of_decide_eq_true (by kernel_rfl)) (of_decide_eq_true (by kernel_rfl)) fun x y h => (val x).trans h
noncomputable def ctxc (n : Nat) : List (Nat × Sig) := [(70, slices_stableCmpFunc_money_part_money_shares_1.sigc n)]
noncomputable def sigc (n : Nat) : Sig := ⟨ps, rs, fun x => runs (withCtx E (ctxc n)) fin n (.code (bodyOf Try.f55) .ret) (entryFrom 0 ps x)⟩
theorem sigc_le (n : Nat) : ∀ x y, (sigc n).run x = some y → sig.run x = some y := fun x y h => (val x).symm.trans (runs_lim (E := E) (c := ctxc n) (ctxLe_cons ctxLe_nil (slices_stableCmpFunc_money_part_money_shares_1.sigc_le n)) h)
end slices_SortStableFunc_money_part_money_part_money_shares_1
namespace money_shares
abbrev ps : List PM := [.pure (.int .u64), .pure (.sl (.int .i64)), .pure (.int .u64)]
abbrev rs : List RM := [.own (.int .i64)]
abbrev R : Type := Option (List Int × Unit)
noncomputable def E : Env := { tt := tt, ctx := [(53, math_bits_Mul64.sig), (54, math_bits_Div64.sig), (55, slices_SortStableFunc_money_part_money_part_money_shares_1.sig)], nt := 80, ann := [(1000005, [(0, .keep), (2, .keep), (7, .keep), (8, .keep), (9, .keep), (25, .keep), (26, .keep), (27, .keep)]), (1000014, [(7, .keep), (65, .keep), (66, .keep), (67, .keep)])] }
noncomputable def c0 : Code := sub [1, 1, 1, 1, 1] (bodyOf Try.f44)
noncomputable def c1 : Code := sub [1, 1, 1, 1, 1, 1, 1] (bodyOf Try.f44)
noncomputable def c2 : Code := sub [1, 1, 1, 1, 0, 1, 0, 0] (bodyOf Try.f44)
noncomputable def c3 : Code := sub [1, 1, 1, 1, 1, 1, 0, 1, 0, 0] (bodyOf Try.f44)
noncomputable def K5 : Kont := .seq c0 .ret
noncomputable def K7 : Kont := .blk 0 K5
noncomputable def K18 : Kont := .seq c1 .ret
noncomputable def K20 : Kont := .blk 2 K18
noncomputable def fin : ASt → R := Kret E Try.f44.results.toList ps rs
def tL0 (c_0 : Int) (sum : Int) (out : List Int) (parts : List money_partV) (left : Int) (v_25 : List Int) (v_26 : Int) (v_27 : Int) : ASt := ⟨[(27, .one (.val (.int .i64) v_27)), (26, .one (.val (.int .i64) v_26)), (25, .one (.val (.sl (.int .i64)) v_25)), (9, .one (.val (.int .u64) left)), (8, .one (.own 8)), (7, .one (.own 7)), (2, .one (.val (.int .u64) sum)), (0, .one (.val (.int .u64) c_0))], [(8, some ⟨.free, money_part, parts⟩), (7, some ⟨.free, .int .i64, out⟩)]⟩
def tL1 (out : List Int) (v_65 : List money_partV) (v_66 : Int) (v_67 : Int) : ASt := ⟨[(67, .one (.val (.int .i64) v_67)), (66, .one (.val (.int .i64) v_66)), (65, .one (.own 65)), (7, .one (.own 7))], [(65, some ⟨.free, money_part, v_65⟩), (7, some ⟨.free, .int .i64, out⟩)]⟩
noncomputable def L0 (c_0 : Int) (sum : Int) (out : List Int) (parts : List money_partV) (left : Int) (v_25 : List Int) (v_26 : Int) (v_27 : Int) : R := lim E fin (.loop c2 K7) (tL0 c_0 sum out parts left v_25 v_26 v_27)
noncomputable def L1 (out : List Int) (v_65 : List money_partV) (v_66 : Int) (v_67 : Int) : R := lim E fin (.loop c3 K20) (tL1 out v_65 v_66 v_67)
noncomputable def SL0 (c_0 : Int) (sum : Int) (out : List Int) (parts : List money_partV) (left : Int) (v_25 : List Int) (v_26 : Int) (v_27 : Int) : R :=
  cond (decide (v_27 < v_26))
    (Option.bind (idx v_25 v_27) fun x1 =>
    Option.bind (math_bits_Mul64 c_0 (IntKind.u64.wrap x1)) fun x2 =>
    Option.bind (math_bits_Div64 x2.1 x2.2.1 sum) fun x3 =>
    cond (decide (0 ≤ v_27) && decide (v_27 < (out.length : Int)))
      (cond (decide (0 ≤ v_27) && decide (v_27 < (parts.length : Int)))
        (L0 c_0 sum (out.set v_27.toNat (IntKind.i64.wrap x3.1)) (parts.set v_27.toNat (v_27, x3.2.1, ())) (IntKind.u64.wrap (left - x3.1)) v_25 v_26 (IntKind.i64.wrap (v_27 + 1)))
        none)
      none)
    (Option.bind (slices_SortStableFunc_money_part_money_part_money_shares_1 parts) fun x4 =>
    cond (decide ((0 : Int) ≤ 0) && (decide ((0 : Int) ≤ left) && decide (left ≤ (x4.1.length : Int))))
      (L1 out (x4.1.take left.toNat) (left.toNat : Int) 0)
      none)
noncomputable def SL1 (out : List Int) (v_65 : List money_partV) (v_66 : Int) (v_67 : Int) : R :=
  cond (decide (v_67 < v_66))
    (cond (decide (0 ≤ v_67) && decide (v_67 < (v_65.length : Int)))
      (cond (decide (0 ≤ (v_65.getD v_67.toNat (0, 0, ())).1) && decide ((v_65.getD v_67.toNat (0, 0, ())).1 < (out.length : Int)))
        (cond (decide (0 ≤ (v_65.getD v_67.toNat (0, 0, ())).1) && decide ((v_65.getD v_67.toNat (0, 0, ())).1 < (out.length : Int)))
          (L1 (out.set (((v_65.getD v_67.toNat (0, 0, ())).1).toNat) (IntKind.i64.wrap ((out.getD (((v_65.getD v_67.toNat (0, 0, ())).1).toNat) 0) + 1))) v_65 v_66 (IntKind.i64.wrap (v_67 + 1)))
          none)
        none)
      none)
    (some (out, ()))
noncomputable def Se (c_0 : Int) (weights : List Int) (sum : Int) : R :=
  cond (decide (0 ≤ ((weights.length : Int) : Int)) && (decide (((weights.length : Int) : Int) ≤ (weights.length : Int)) && (decide (((weights.length : Int) : Int) * 8 ≤ room) && (decide (((weights.length : Int) : Int) ≤ maxLen) && decide (0 < Ty.nc (.int .i64))))))
    (cond (decide (0 ≤ ((weights.length : Int) : Int)) && (decide (((weights.length : Int) : Int) ≤ (weights.length : Int)) && (decide (((weights.length : Int) : Int) * 16 ≤ room) && (decide (((weights.length : Int) : Int) ≤ maxLen) && decide (0 < Ty.nc (.pair (.int .i64) (.pair (.int .u64) .unit)))))))
      (L0 c_0 sum (List.replicate weights.length (0 : Int)) (List.replicate weights.length ((0, 0, ()) : Int × Int × Unit)) c_0 weights (weights.length : Int) 0)
      none)
    none
theorem L0_eq (c_0 sum out parts left v_25 v_26 v_27) : L0 c_0 sum out parts left v_25 v_26 v_27 = SL0 c_0 sum out parts left v_25 v_26 v_27 := (lim_eq (.loop c2 K7) (tL0 c_0 sum out parts left v_25 v_26 v_27)).trans (by kernel_rfl)
theorem L1_eq (out v_65 v_66 v_67) : L1 out v_65 v_66 v_67 = SL1 out v_65 v_66 v_67 := (lim_eq (.loop c3 K20) (tL1 out v_65 v_66 v_67)).trans (by kernel_rfl)
theorem se (x : (argTy ps).den) : run E (lim E fin) fin depth (bodyOf Try.f44) .ret (entryFrom 0 ps x) = Se x.1 x.2.1 x.2.2.1 := by kernel_rfl
end money_shares
noncomputable def money_shares (c_0 : Int) (weights : List Int) (sum : Int) : money_shares.R :=
  money_shares.Se c_0 weights sum
namespace money_shares
noncomputable def sig : Sig := ⟨ps, rs, fun x => money_shares x.1 x.2.1 x.2.2.1⟩
theorem val (x : (argTy ps).den) : lim E fin (.code (bodyOf Try.f44) .ret) (entryFrom 0 ps x) = sig.run x := (lim_eq (.code (bodyOf Try.f44) .ret) (entryFrom 0 ps x)).trans (se x)
theorem ok : CallOK Try.prog 44 sig :=
  callOK_of_lim (E := E) mixed tt_ok (ctxOk_cons (ctxOk_cons (ctxOk_cons ctxOk_nil slices_SortStableFunc_money_part_money_part_money_shares_1.ok Try.func55 (by kernel_rfl) (by kernel_rfl)) math_bits_Div64.ok Try.func54 (by kernel_rfl) (by kernel_rfl)) math_bits_Mul64.ok Try.func53 (by kernel_rfl) (by kernel_rfl)) Try.func44 (by kernel_rfl : Try.f44.body = some (bodyOf Try.f44)) Try.ntmps44 (of_decide_eq_true (by kernel_rfl)) (of_decide_eq_true (by kernel_rfl)) fun x y h => (val x).trans h
noncomputable def ctxc (n : Nat) : List (Nat × Sig) := [(53, math_bits_Mul64.sigc n), (54, math_bits_Div64.sigc n), (55, slices_SortStableFunc_money_part_money_part_money_shares_1.sigc n)]
noncomputable def sigc (n : Nat) : Sig := ⟨ps, rs, fun x => runs (withCtx E (ctxc n)) fin n (.code (bodyOf Try.f44) .ret) (entryFrom 0 ps x)⟩
theorem sigc_le (n : Nat) : ∀ x y, (sigc n).run x = some y → sig.run x = some y := fun x y h => (val x).symm.trans (runs_lim (E := E) (c := ctxc n) (ctxLe_cons (ctxLe_cons (ctxLe_cons ctxLe_nil (slices_SortStableFunc_money_part_money_part_money_shares_1.sigc_le n)) (math_bits_Div64.sigc_le n)) (math_bits_Mul64.sigc_le n)) h)
end money_shares
namespace money_Allocate
abbrev ps : List PM := [.pure (.int .i64), .pure (.sl (.int .i64))]
abbrev rs : List RM := [.own (.int .i64), .pure (.int .i64)]
abbrev R : Type := Option (List Int × Int × Unit)
noncomputable def E : Env := { tt := tt, ctx := [(43, money_abs.sig), (44, money_shares.sig)], nt := 67, ann := [(1000004, [(0, .keep), (1, .keep), (16, .keep), (17, .keep), (18, .keep)]), (1000013, [(0, .keep), (1, .keep), (8, .keep), (32, .keep), (33, .keep), (34, .keep)]), (1000022, [(11, .keep), (53, .keep), (54, .keep)])] }
noncomputable def c0 : Code := sub [1, 1, 1] (bodyOf Try.f31)
noncomputable def c1 : Code := sub [1, 1, 1, 1, 1, 1] (bodyOf Try.f31)
noncomputable def c2 : Code := sub [1, 1, 1, 1, 1, 1, 1, 1, 1] (bodyOf Try.f31)
noncomputable def c3 : Code := sub [1, 1, 0, 1, 0, 0] (bodyOf Try.f31)
noncomputable def c4 : Code := sub [1, 1, 1, 1, 1, 0, 1, 0, 0] (bodyOf Try.f31)
noncomputable def c5 : Code := sub [1, 1, 1, 1, 1, 1, 1, 1, 0, 1, 0, 1, 0, 0] (bodyOf Try.f31)
noncomputable def K5 : Kont := .seq c0 .ret
noncomputable def K7 : Kont := .blk 0 K5
noncomputable def K20 : Kont := .seq c1 .ret
noncomputable def K22 : Kont := .blk 2 K20
noncomputable def K33 : Kont := .seq c2 .ret
noncomputable def K36 : Kont := .blk 4 K33
noncomputable def fin : ASt → R := Kret E Try.f31.results.toList ps rs
def tL0 (c_0 : Int) (weights : List Int) (v_16 : List Int) (v_17 : Int) (v_18 : Int) : ASt := ⟨[(18, .one (.val (.int .i64) v_18)), (17, .one (.val (.int .i64) v_17)), (16, .one (.val (.sl (.int .i64)) v_16)), (1, .one (.val (.sl (.int .i64)) weights)), (0, .one (.val (.int .i64) c_0))], []⟩
def tL1 (c_0 : Int) (weights : List Int) (sum : Int) (v_32 : List Int) (v_33 : Int) (v_34 : Int) : ASt := ⟨[(34, .one (.val (.int .i64) v_34)), (33, .one (.val (.int .i64) v_33)), (32, .one (.val (.sl (.int .i64)) v_32)), (8, .one (.val (.int .u64) sum)), (1, .one (.val (.sl (.int .i64)) weights)), (0, .one (.val (.int .i64) c_0))], []⟩
def tL2 (out : List Int) (v_53 : Int) (v_54 : Int) : ASt := ⟨[(54, .one (.val (.int .i64) v_54)), (53, .one (.val (.int .i64) v_53)), (11, .one (.own 11))], [(11, some ⟨.free, .int .i64, out⟩)]⟩
noncomputable def L0 (c_0 : Int) (weights : List Int) (v_16 : List Int) (v_17 : Int) (v_18 : Int) : R := lim E fin (.loop c3 K7) (tL0 c_0 weights v_16 v_17 v_18)
noncomputable def L1 (c_0 : Int) (weights : List Int) (sum : Int) (v_32 : List Int) (v_33 : Int) (v_34 : Int) : R := lim E fin (.loop c4 K22) (tL1 c_0 weights sum v_32 v_33 v_34)
noncomputable def L2 (out : List Int) (v_53 : Int) (v_54 : Int) : R := lim E fin (.loop c5 K36) (tL2 out v_53 v_54)
noncomputable def SL0 (c_0 : Int) (weights : List Int) (v_16 : List Int) (v_17 : Int) (v_18 : Int) : R :=
  cond (decide (v_18 < v_17))
    (Option.bind (idx v_16 v_18) fun x1 =>
    cond (decide (x1 < 0))
      (some ([], 3, ()))
      (cond (decide (x1 > 1000000000))
        (some ([], 3, ()))
        (L0 c_0 weights v_16 v_17 (IntKind.i64.wrap (v_18 + 1)))))
    (cond (decide ((weights.length : Int) > 64))
      (some ([], 4, ()))
      (L1 c_0 weights 0 weights (weights.length : Int) 0))
noncomputable def SL1 (c_0 : Int) (weights : List Int) (sum : Int) (v_32 : List Int) (v_33 : Int) (v_34 : Int) : R :=
  cond (decide (v_34 < v_33))
    (Option.bind (idx v_32 v_34) fun x1 =>
    L1 c_0 weights (IntKind.u64.wrap (sum + (IntKind.u64.wrap x1))) v_32 v_33 (IntKind.i64.wrap (v_34 + 1)))
    (cond (sum == 0)
      (some ([], 12, ()))
      (Option.bind (money_abs c_0) fun x2 =>
      Option.bind (money_shares x2.1 weights sum) fun x3 =>
      cond (decide (c_0 < 0))
        (L2 x3.1 (x3.1.length : Int) 0)
        (some (x3.1, 0, ()))))
noncomputable def SL2 (out : List Int) (v_53 : Int) (v_54 : Int) : R :=
  cond (decide (v_54 < v_53))
    (cond (decide (0 ≤ v_54) && decide (v_54 < (out.length : Int)))
      (cond (decide (0 ≤ v_54) && decide (v_54 < (out.length : Int)))
        (L2 (out.set v_54.toNat (IntKind.i64.wrap (0 - (out.getD v_54.toNat 0)))) v_53 (IntKind.i64.wrap (v_54 + 1)))
        none)
      none)
    (some (out, 0, ()))
noncomputable def Se (c_0 : Int) (weights : List Int) : R :=
  Option.bind (money_abs c_0) fun x1 =>
  cond (decide (x1.1 > 1000000000000000))
    (some ([], 3, ()))
    (L0 c_0 weights weights (weights.length : Int) 0)
theorem L0_eq (c_0 weights v_16 v_17 v_18) : L0 c_0 weights v_16 v_17 v_18 = SL0 c_0 weights v_16 v_17 v_18 := (lim_eq (.loop c3 K7) (tL0 c_0 weights v_16 v_17 v_18)).trans (by kernel_rfl)
theorem L1_eq (c_0 weights sum v_32 v_33 v_34) : L1 c_0 weights sum v_32 v_33 v_34 = SL1 c_0 weights sum v_32 v_33 v_34 := (lim_eq (.loop c4 K22) (tL1 c_0 weights sum v_32 v_33 v_34)).trans (by kernel_rfl)
theorem L2_eq (out v_53 v_54) : L2 out v_53 v_54 = SL2 out v_53 v_54 := (lim_eq (.loop c5 K36) (tL2 out v_53 v_54)).trans (by kernel_rfl)
theorem se (x : (argTy ps).den) : run E (lim E fin) fin depth (bodyOf Try.f31) .ret (entryFrom 0 ps x) = Se x.1 x.2.1 := by kernel_rfl
end money_Allocate
noncomputable def money_Allocate (c_0 : Int) (weights : List Int) : money_Allocate.R :=
  money_Allocate.Se c_0 weights
namespace money_Allocate
noncomputable def sig : Sig := ⟨ps, rs, fun x => money_Allocate x.1 x.2.1⟩
theorem val (x : (argTy ps).den) : lim E fin (.code (bodyOf Try.f31) .ret) (entryFrom 0 ps x) = sig.run x := (lim_eq (.code (bodyOf Try.f31) .ret) (entryFrom 0 ps x)).trans (se x)
theorem ok : CallOK Try.prog 31 sig :=
  callOK_of_lim (E := E) mixed tt_ok (ctxOk_cons (ctxOk_cons ctxOk_nil money_shares.ok Try.func44 (by kernel_rfl) (by kernel_rfl)) money_abs.ok Try.func43 (by kernel_rfl) (by kernel_rfl)) Try.func31 (by kernel_rfl : Try.f31.body = some (bodyOf Try.f31)) Try.ntmps31 (of_decide_eq_true (by kernel_rfl)) (of_decide_eq_true (by kernel_rfl)) fun x y h => (val x).trans h
noncomputable def ctxc (n : Nat) : List (Nat × Sig) := [(43, money_abs.sigc n), (44, money_shares.sigc n)]
noncomputable def sigc (n : Nat) : Sig := ⟨ps, rs, fun x => runs (withCtx E (ctxc n)) fin n (.code (bodyOf Try.f31) .ret) (entryFrom 0 ps x)⟩
theorem sigc_le (n : Nat) : ∀ x y, (sigc n).run x = some y → sig.run x = some y := fun x y h => (val x).symm.trans (runs_lim (E := E) (c := ctxc n) (ctxLe_cons (ctxLe_cons ctxLe_nil (money_shares.sigc_le n)) (money_abs.sigc_le n)) h)
end money_Allocate
namespace distribution_Shares
abbrev ps : List PM := [.pure (.sl (.int .i64)), .pure (.int .i64)]
abbrev rs : List RM := [.own (.int .i64), .pure (.int .i64)]
abbrev R : Type := Option (List Int × Int × Unit)
noncomputable def E : Env := { tt := tt, ctx := [(26, distribution_allWithin.sig), (32, slices_Repeat_int_int.sig), (31, money_Allocate.sig), (24, slices_Values_int_int.sig), (23, slices_Sorted_int_slices_Values_int_int_1.sig)], nt := 71, ann := [(7, [(0, .keep), (1, .keep)]), (1000013, [(8, .keep), (9, .keep), (43, .keep), (44, .keep), (45, .keep)]), (1000016, [(8, .keep), (9, .keep), (10, .keep), (11, .keep), (43, .keep), (44, .keep), (45, .keep), (52, .keep), (53, .keep), (54, .keep)])] }
noncomputable def c0 : Code := sub [1, 1, 1, 1, 1, 1, 1] (bodyOf Try.f19)
noncomputable def c1 : Code := sub [1, 1, 1, 1, 1, 1, 0, 1, 0, 0] (bodyOf Try.f19)
noncomputable def c2 : Code := sub [1, 1, 1, 1, 1, 1, 0, 1, 0, 0, 1, 1, 1] (bodyOf Try.f19)
noncomputable def c3 : Code := sub [1, 1, 1, 1, 1, 1, 0, 1, 0, 0, 1, 1, 0, 0, 1, 1] (bodyOf Try.f19)
noncomputable def c4 : Code := sub [1, 1] (bodyOf Try.f19)
noncomputable def c5 : Code := sub [1, 1, 1, 1, 1, 1, 0, 1, 0, 0, 1, 1, 0, 0, 1, 0, 1, 0, 0] (bodyOf Try.f19)
noncomputable def K16 : Kont := .seq c0 .ret
noncomputable def K18 : Kont := .blk 1 K16
noncomputable def K19 : Kont := .loop c1 K18
noncomputable def K22 : Kont := .seq c2 K19
noncomputable def K23 : Kont := .blk 2 K22
noncomputable def K25 : Kont := .seq c3 K23
noncomputable def K27 : Kont := .blk 3 K25
noncomputable def fin : ASt → R := Kret E Try.f19.results.toList ps rs
def tJ0 (values : List Int) (n_1 : Int) : ASt := ⟨[(1, .one (.val (.int .i64) n_1)), (0, .one (.val (.sl (.int .i64)) values))], []⟩
def tL1 (rest : List Int) (out : List Int) (v_43 : List Int) (v_44 : Int) (v_45 : Int) : ASt := ⟨[(45, .one (.val (.int .i64) v_45)), (44, .one (.val (.int .i64) v_44)), (43, .one (.own 43)), (9, .one (.own 9)), (8, .one (.own 8))], [(43, some ⟨.free, .int .i64, v_43⟩), (9, some ⟨.free, .int .i64, out⟩), (8, some ⟨.free, .int .i64, rest⟩)]⟩
def tL2 (rest : List Int) (out : List Int) (g_10 : Int) (size : Int) (v_43 : List Int) (v_44 : Int) (v_45 : Int) (v_lo : Nat) (v_len : Nat) (v_53 : Int) (v_54 : Int) : ASt := ⟨[(54, .one (.val (.int .i64) v_54)), (53, .one (.val (.int .i64) v_53)), (52, .one (.osub 8 v_lo v_len)), (45, .one (.val (.int .i64) v_45)), (44, .one (.val (.int .i64) v_44)), (43, .one (.own 43)), (11, .one (.val (.int .i64) size)), (10, .one (.val (.int .i64) g_10)), (9, .one (.own 9)), (8, .one (.own 8))], [(43, some ⟨.free, .int .i64, v_43⟩), (9, some ⟨.free, .int .i64, out⟩), (8, some ⟨.free, .int .i64, rest⟩)]⟩
noncomputable def J0 (values : List Int) (n_1 : Int) : R := lim E fin (.code c4 .ret) (tJ0 values n_1)
noncomputable def L1 (rest : List Int) (out : List Int) (v_43 : List Int) (v_44 : Int) (v_45 : Int) : R := lim E fin (.loop c1 K18) (tL1 rest out v_43 v_44 v_45)
noncomputable def L2 (rest : List Int) (out : List Int) (g_10 : Int) (size : Int) (v_43 : List Int) (v_44 : Int) (v_45 : Int) (v_lo : Nat) (v_len : Nat) (v_53 : Int) (v_54 : Int) : R := lim E fin (.loop c5 K27) (tL2 rest out g_10 size v_43 v_44 v_45 v_lo v_len v_53 v_54)
noncomputable def SJ0 (values : List Int) (n_1 : Int) : R :=
  Option.bind (slices_Repeat_int_int [1] n_1) fun x1 =>
  Option.bind (money_Allocate (values.length : Int) x1.1) fun x2 =>
  cond (x2.2.1 != 0)
    (some ([], x2.2.1, ()))
    (Option.bind (slices_Values_int_int values) fun x3 =>
    Option.bind (slices_Sorted_int_slices_Values_int_int_1 (x3.1.1, ())) fun x4 =>
    cond (decide (0 ≤ (n_1 : Int)) && (decide ((n_1 : Int) ≤ n_1) && (decide ((n_1 : Int) * 8 ≤ room) && (decide ((n_1 : Int) ≤ maxLen) && decide (0 < Ty.nc (.int .i64))))))
      (L1 x4.1 (List.replicate n_1.toNat (0 : Int)) x2.1 (x2.1.length : Int) 0)
      none)
noncomputable def SL1 (rest : List Int) (out : List Int) (v_43 : List Int) (v_44 : Int) (v_45 : Int) : R :=
  cond (decide (v_45 < v_44))
    (cond (decide (0 ≤ v_45) && decide (v_45 < (v_43.length : Int)))
      (cond (decide ((0 : Int) ≤ 0) && (decide ((0 : Int) ≤ (v_43.getD v_45.toNat 0)) && decide ((v_43.getD v_45.toNat 0) ≤ (rest.length : Int))))
        (L2 rest out v_45 (v_43.getD v_45.toNat 0) v_43 v_44 v_45 0 ((v_43.getD v_45.toNat 0).toNat) ((v_43.getD v_45.toNat 0).toNat : Int) 0)
        none)
      none)
    (some (out, 0, ()))
noncomputable def SL2 (rest : List Int) (out : List Int) (g_10 : Int) (size : Int) (v_43 : List Int) (v_44 : Int) (v_45 : Int) (v_lo : Nat) (v_len : Nat) (v_53 : Int) (v_54 : Int) : R :=
  cond (decide (v_54 < v_53))
    (cond (decide (0 ≤ v_54) && decide (v_54 < ((v_len : Nat) : Int)))
      (cond (decide (0 ≤ g_10) && decide (g_10 < (out.length : Int)))
        (cond (decide (0 ≤ g_10) && decide (g_10 < (out.length : Int)))
          (L2 rest (out.set g_10.toNat (IntKind.i64.wrap ((out.getD g_10.toNat 0) + (rest.getD (v_lo + v_54.toNat) 0)))) g_10 size v_43 v_44 v_45 v_lo v_len v_53 (IntKind.i64.wrap (v_54 + 1)))
          none)
        none)
      none)
    (cond (decide ((0 : Int) ≤ size) && (decide ((size : Int) ≤ (rest.length : Int)) && decide ((rest.length : Int) ≤ (rest.length : Int))))
      (L1 ((rest.drop size.toNat).take (rest.length - size.toNat)) out v_43 v_44 (IntKind.i64.wrap (v_45 + 1)))
      none)
noncomputable def Se (values : List Int) (n_1 : Int) : R :=
  cond (decide ((values.length : Int) > 4096))
    (some ([], 4, ()))
    (cond (decide (n_1 < 1))
      (cond (decide (n_1 < 1))
        (some ([], 3, ()))
        (J0 values n_1))
      (cond (decide (n_1 > 64))
        (cond (decide (n_1 > 64))
          (some ([], 3, ()))
          (J0 values n_1))
        (Option.bind (distribution_allWithin values) fun x1 =>
        cond (!x1.1)
          (some ([], 3, ()))
          (J0 values n_1))))
theorem J0_eq (values n_1) : J0 values n_1 = SJ0 values n_1 := (lim_eq (.code c4 .ret) (tJ0 values n_1)).trans (by kernel_rfl)
theorem L1_eq (rest out v_43 v_44 v_45) : L1 rest out v_43 v_44 v_45 = SL1 rest out v_43 v_44 v_45 := (lim_eq (.loop c1 K18) (tL1 rest out v_43 v_44 v_45)).trans (by kernel_rfl)
theorem L2_eq (rest out g_10 size v_43 v_44 v_45 v_lo v_len v_53 v_54) : L2 rest out g_10 size v_43 v_44 v_45 v_lo v_len v_53 v_54 = SL2 rest out g_10 size v_43 v_44 v_45 v_lo v_len v_53 v_54 := (lim_eq (.loop c5 K27) (tL2 rest out g_10 size v_43 v_44 v_45 v_lo v_len v_53 v_54)).trans (by kernel_rfl)
theorem se (x : (argTy ps).den) : run E (lim E fin) fin depth (bodyOf Try.f19) .ret (entryFrom 0 ps x) = Se x.1 x.2.1 := by kernel_rfl
end distribution_Shares
noncomputable def distribution_Shares (values : List Int) (n_1 : Int) : distribution_Shares.R :=
  distribution_Shares.Se values n_1
namespace distribution_Shares
noncomputable def sig : Sig := ⟨ps, rs, fun x => distribution_Shares x.1 x.2.1⟩
theorem val (x : (argTy ps).den) : lim E fin (.code (bodyOf Try.f19) .ret) (entryFrom 0 ps x) = sig.run x := (lim_eq (.code (bodyOf Try.f19) .ret) (entryFrom 0 ps x)).trans (se x)
theorem ok : CallOK Try.prog 19 sig :=
  callOK_of_lim (E := E) mixed tt_ok (ctxOk_cons (ctxOk_cons (ctxOk_cons (ctxOk_cons (ctxOk_cons ctxOk_nil slices_Sorted_int_slices_Values_int_int_1.ok Try.func23 (by kernel_rfl) (by kernel_rfl)) slices_Values_int_int.ok Try.func24 (by kernel_rfl) (by kernel_rfl)) money_Allocate.ok Try.func31 (by kernel_rfl) (by kernel_rfl)) slices_Repeat_int_int.ok Try.func32 (by kernel_rfl) (by kernel_rfl)) distribution_allWithin.ok Try.func26 (by kernel_rfl) (by kernel_rfl)) Try.func19 (by kernel_rfl : Try.f19.body = some (bodyOf Try.f19)) Try.ntmps19 (of_decide_eq_true (by kernel_rfl)) (of_decide_eq_true (by kernel_rfl)) fun x y h => (val x).trans h
noncomputable def ctxc (n : Nat) : List (Nat × Sig) := [(26, distribution_allWithin.sigc n), (32, slices_Repeat_int_int.sigc n), (31, money_Allocate.sigc n), (24, slices_Values_int_int.sigc n), (23, slices_Sorted_int_slices_Values_int_int_1.sigc n)]
noncomputable def sigc (n : Nat) : Sig := ⟨ps, rs, fun x => runs (withCtx E (ctxc n)) fin n (.code (bodyOf Try.f19) .ret) (entryFrom 0 ps x)⟩
theorem sigc_le (n : Nat) : ∀ x y, (sigc n).run x = some y → sig.run x = some y := fun x y h => (val x).symm.trans (runs_lim (E := E) (c := ctxc n) (ctxLe_cons (ctxLe_cons (ctxLe_cons (ctxLe_cons (ctxLe_cons ctxLe_nil (slices_Sorted_int_slices_Values_int_int_1.sigc_le n)) (slices_Values_int_int.sigc_le n)) (money_Allocate.sigc_le n)) (slices_Repeat_int_int.sigc_le n)) (distribution_allWithin.sigc_le n)) h)
end distribution_Shares
namespace same_Ints
abbrev ps : List PM := [.pure (.sl (.int .i64)), .pure (.sl (.int .i64))]
abbrev rs : List RM := [.pure .bool]
abbrev R : Type := Option (Bool × Unit)
noncomputable def E : Env := { tt := tt, ctx := [], nt := 32, ann := [(1000004, [(0, .keep), (1, .keep), (5, .keep)]), (6, [(0, .keep), (1, .keep), (5, .keep)])] }
noncomputable def c0 : Code := sub [1, 1, 1] (bodyOf Try.f21)
noncomputable def c1 : Code := sub [1, 1, 0, 1, 0, 0] (bodyOf Try.f21)
noncomputable def c2 : Code := sub [1, 1, 0, 1, 0, 0, 1] (bodyOf Try.f21)
noncomputable def K5 : Kont := .seq c0 .ret
noncomputable def K7 : Kont := .blk 0 K5
noncomputable def K8 : Kont := .loop c1 K7
noncomputable def fin : ASt → R := Kret E Try.f21.results.toList ps rs
def tL0 (a : List Int) (b : List Int) (i : Int) : ASt := ⟨[(5, .one (.val (.int .i64) i)), (1, .one (.val (.sl (.int .i64)) b)), (0, .one (.val (.sl (.int .i64)) a))], []⟩
def tJ1 (a : List Int) (b : List Int) (i : Int) : ASt := ⟨[(5, .one (.val (.int .i64) i)), (1, .one (.val (.sl (.int .i64)) b)), (0, .one (.val (.sl (.int .i64)) a))], []⟩
noncomputable def L0 (a : List Int) (b : List Int) (i : Int) : R := lim E fin (.loop c1 K7) (tL0 a b i)
noncomputable def J1 (a : List Int) (b : List Int) (i : Int) : R := lim E fin (.code c2 K8) (tJ1 a b i)
noncomputable def SL0 (a : List Int) (b : List Int) (i : Int) : R :=
  cond (decide (i < (a.length : Int)))
    (cond (decide (i < (b.length : Int)))
      (J1 a b i)
      (some (true, ())))
    (some (true, ()))
noncomputable def SJ1 (a : List Int) (b : List Int) (i : Int) : R :=
  Option.bind (idx a i) fun x1 =>
  Option.bind (idx b i) fun x2 =>
  cond (x1 != x2)
    (some (false, ()))
    (L0 a b (IntKind.i64.wrap (i + 1)))
noncomputable def Se (a : List Int) (b : List Int) : R :=
  cond ((a.length : Int) != (b.length : Int))
    (some (false, ()))
    (L0 a b 0)
theorem L0_eq (a b i) : L0 a b i = SL0 a b i := (lim_eq (.loop c1 K7) (tL0 a b i)).trans (by kernel_rfl)
theorem J1_eq (a b i) : J1 a b i = SJ1 a b i := (lim_eq (.code c2 K8) (tJ1 a b i)).trans (by kernel_rfl)
theorem se (x : (argTy ps).den) : run E (lim E fin) fin depth (bodyOf Try.f21) .ret (entryFrom 0 ps x) = Se x.1 x.2.1 := by kernel_rfl
end same_Ints
noncomputable def same_Ints (a : List Int) (b : List Int) : same_Ints.R :=
  same_Ints.Se a b
namespace same_Ints
noncomputable def sig : Sig := ⟨ps, rs, fun x => same_Ints x.1 x.2.1⟩
theorem val (x : (argTy ps).den) : lim E fin (.code (bodyOf Try.f21) .ret) (entryFrom 0 ps x) = sig.run x := (lim_eq (.code (bodyOf Try.f21) .ret) (entryFrom 0 ps x)).trans (se x)
theorem ok : CallOK Try.prog 21 sig :=
  callOK_of_lim (E := E) mixed tt_ok ctxOk_nil Try.func21 (by kernel_rfl : Try.f21.body = some (bodyOf Try.f21)) Try.ntmps21 (of_decide_eq_true (by kernel_rfl)) (of_decide_eq_true (by kernel_rfl)) fun x y h => (val x).trans h
noncomputable def ctxc (n : Nat) : List (Nat × Sig) := []
noncomputable def sigc (n : Nat) : Sig := ⟨ps, rs, fun x => runs (withCtx E (ctxc n)) fin n (.code (bodyOf Try.f21) .ret) (entryFrom 0 ps x)⟩
theorem sigc_le (n : Nat) : ∀ x y, (sigc n).run x = some y → sig.run x = some y := fun x y h => (val x).symm.trans (runs_lim (E := E) (c := ctxc n) ctxLe_nil h)
end same_Ints
namespace law59_awake
abbrev ps : List PM := []
abbrev rs : List RM := [.pure .bool]
abbrev R : Type := Option (Bool × Unit)
noncomputable def E : Env := { tt := tt, ctx := [(12, distribution_Quantile.sig), (14, distribution_Histogram.sig), (17, distribution_Groups.sig), (19, distribution_Shares.sig), (21, same_Ints.sig)], nt := 77, ann := [] }
noncomputable def fin : ASt → R := Kret E Try.f11.results.toList ps rs
noncomputable def Se : R :=
  Option.bind (distribution_Quantile [40, 10, 30, 20] 1 2) fun x1 =>
  Option.bind (distribution_Histogram [5, 10, 15, 20] [10, 20]) fun x2 =>
  Option.bind (distribution_Groups [5, 10, 15] [1, 0, 1] 2) fun x3 =>
  Option.bind (distribution_Shares [40, 10, 30, 20, 50] 2) fun x4 =>
  cond (x1.1 == 20)
    (cond x1.2.1
      (cond (x2.2.1 == 0)
        (cond ((x2.1.length : Int) == 3)
          (cond (decide (0 ≤ 1) && decide (1 < (x2.1.length : Int)))
            (cond (eqTy (.pair (.int .i64) (.pair (.int .i64) (.pair (.int .i64) (.pair (.int .i64) .unit)))) (x2.1.getD 1 (0, 0, 0, 0, ())) (10, 20, 2, 25, ()))
              (cond (x3.2.1 == 0)
                (cond ((x3.1.length : Int) == 2)
                  (cond (decide (0 ≤ 1) && decide (1 < (x3.1.length : Int)))
                    (cond (eqTy (.pair (.int .i64) (.pair (.int .i64) (.pair (.int .i64) (.pair (.int .i64) .unit)))) (x3.1.getD 1 (0, 0, 0, 0, ())) (1, 2, 2, 20, ()))
                      (cond (x4.2.1 == 0)
                        (Option.bind (same_Ints x4.1 [60, 90]) fun x5 =>
                        some (x5.1, ()))
                        (some (false, ())))
                      (some (false, ())))
                    none)
                  (some (false, ())))
                (some (false, ())))
              (some (false, ())))
            none)
          (some (false, ())))
        (some (false, ())))
      (some (false, ())))
    (some (false, ()))
theorem se (x : (argTy ps).den) : run E (lim E fin) fin depth (bodyOf Try.f11) .ret (entryFrom 0 ps x) = Se := by kernel_rfl
end law59_awake
noncomputable def law59_awake : law59_awake.R :=
  law59_awake.Se 
namespace law59_awake
noncomputable def sig : Sig := ⟨ps, rs, fun x => law59_awake⟩
theorem val (x : (argTy ps).den) : lim E fin (.code (bodyOf Try.f11) .ret) (entryFrom 0 ps x) = sig.run x := (lim_eq (.code (bodyOf Try.f11) .ret) (entryFrom 0 ps x)).trans (se x)
theorem ok : CallOK Try.prog 11 sig :=
  callOK_of_lim (E := E) mixed tt_ok (ctxOk_cons (ctxOk_cons (ctxOk_cons (ctxOk_cons (ctxOk_cons ctxOk_nil same_Ints.ok Try.func21 (by kernel_rfl) (by kernel_rfl)) distribution_Shares.ok Try.func19 (by kernel_rfl) (by kernel_rfl)) distribution_Groups.ok Try.func17 (by kernel_rfl) (by kernel_rfl)) distribution_Histogram.ok Try.func14 (by kernel_rfl) (by kernel_rfl)) distribution_Quantile.ok Try.func12 (by kernel_rfl) (by kernel_rfl)) Try.func11 (by kernel_rfl : Try.f11.body = some (bodyOf Try.f11)) Try.ntmps11 (of_decide_eq_true (by kernel_rfl)) (of_decide_eq_true (by kernel_rfl)) fun x y h => (val x).trans h
noncomputable def ctxc (n : Nat) : List (Nat × Sig) := [(12, distribution_Quantile.sigc n), (14, distribution_Histogram.sigc n), (17, distribution_Groups.sigc n), (19, distribution_Shares.sigc n), (21, same_Ints.sigc n)]
noncomputable def sigc (n : Nat) : Sig := ⟨ps, rs, fun x => runs (withCtx E (ctxc n)) fin n (.code (bodyOf Try.f11) .ret) (entryFrom 0 ps x)⟩
theorem sigc_le (n : Nat) : ∀ x y, (sigc n).run x = some y → sig.run x = some y := fun x y h => (val x).symm.trans (runs_lim (E := E) (c := ctxc n) (ctxLe_cons (ctxLe_cons (ctxLe_cons (ctxLe_cons (ctxLe_cons ctxLe_nil (same_Ints.sigc_le n)) (distribution_Shares.sigc_le n)) (distribution_Groups.sigc_le n)) (distribution_Histogram.sigc_le n)) (distribution_Quantile.sigc_le n)) h)
end law59_awake
namespace ref59_Sorted
abbrev ps : List PM := [.pure (.sl (.int .i64))]
abbrev rs : List RM := [.own (.int .i64)]
abbrev R : Type := Option (List Int × Unit)
noncomputable def E : Env := { tt := tt, ctx := [], nt := 51, ann := [(1000003, [(3, .keep), (4, .keep)]), (1000006, [(3, .keep), (4, .keep), (5, .keep)]), (8, [(3, .keep), (4, .keep), (5, .keep)])] }
noncomputable def c0 : Code := sub [1, 1, 1] (bodyOf Try.f25)
noncomputable def c1 : Code := sub [1, 1, 0, 1, 0, 0] (bodyOf Try.f25)
noncomputable def c2 : Code := sub [1, 1, 0, 1, 0, 0, 1, 1] (bodyOf Try.f25)
noncomputable def c3 : Code := sub [1, 1, 0, 1, 0, 0, 1, 0, 0, 1, 0, 0] (bodyOf Try.f25)
noncomputable def c4 : Code := sub [1, 1, 0, 1, 0, 0, 1, 0, 0, 1, 0, 0, 1] (bodyOf Try.f25)
noncomputable def K3 : Kont := .seq c0 .ret
noncomputable def K5 : Kont := .blk 0 K3
noncomputable def K6 : Kont := .loop c1 K5
noncomputable def K9 : Kont := .seq c2 K6
noncomputable def K10 : Kont := .blk 1 K9
noncomputable def K12 : Kont := .blk 2 K10
noncomputable def K13 : Kont := .loop c3 K12
noncomputable def fin : ASt → R := Kret E Try.f25.results.toList ps rs
def tL0 (out : List Int) (i : Int) : ASt := ⟨[(4, .one (.val (.int .i64) i)), (3, .one (.own 3))], [(3, some ⟨.free, .int .i64, out⟩)]⟩
def tL1 (out : List Int) (i : Int) (k : Int) : ASt := ⟨[(5, .one (.val (.int .i64) k)), (4, .one (.val (.int .i64) i)), (3, .one (.own 3))], [(3, some ⟨.free, .int .i64, out⟩)]⟩
def tJ2 (out : List Int) (i : Int) (k : Int) : ASt := ⟨[(5, .one (.val (.int .i64) k)), (4, .one (.val (.int .i64) i)), (3, .one (.own 3))], [(3, some ⟨.free, .int .i64, out⟩)]⟩
noncomputable def L0 (out : List Int) (i : Int) : R := lim E fin (.loop c1 K5) (tL0 out i)
noncomputable def L1 (out : List Int) (i : Int) (k : Int) : R := lim E fin (.loop c3 K12) (tL1 out i k)
noncomputable def J2 (out : List Int) (i : Int) (k : Int) : R := lim E fin (.code c4 K13) (tJ2 out i k)
noncomputable def SL0 (out : List Int) (i : Int) : R :=
  cond (decide (i < (out.length : Int)))
    (L1 out i i)
    (some (out, ()))
noncomputable def SL1 (out : List Int) (i : Int) (k : Int) : R :=
  cond (decide (k > 0))
    (cond (decide (0 ≤ IntKind.i64.wrap (k - 1)) && decide (IntKind.i64.wrap (k - 1) < (out.length : Int)))
      (cond (decide (0 ≤ k) && decide (k < (out.length : Int)))
        (cond (decide ((out.getD ((IntKind.i64.wrap (k - 1)).toNat) 0) > (out.getD k.toNat 0)))
          (J2 out i k)
          (L0 out (IntKind.i64.wrap (i + 1))))
        none)
      none)
    (L0 out (IntKind.i64.wrap (i + 1)))
noncomputable def SJ2 (out : List Int) (i : Int) (k : Int) : R :=
  cond (decide (0 ≤ k) && decide (k < (out.length : Int)))
    (cond (decide (0 ≤ IntKind.i64.wrap (k - 1)) && decide (IntKind.i64.wrap (k - 1) < (out.length : Int)))
      (cond (decide (0 ≤ k) && decide (k < (out.length : Int)))
        (cond (decide (0 ≤ IntKind.i64.wrap (k - 1)) && decide (IntKind.i64.wrap (k - 1) < ((out.set k.toNat (out.getD ((IntKind.i64.wrap (k - 1)).toNat) 0)).length : Int)))
          (L1 ((out.set k.toNat (out.getD ((IntKind.i64.wrap (k - 1)).toNat) 0)).set ((IntKind.i64.wrap (k - 1)).toNat) (out.getD k.toNat 0)) i (IntKind.i64.wrap (k - 1)))
          none)
        none)
      none)
    none
noncomputable def Se (values : List Int) : R :=
  cond (decide ((0 + values.length) * 8 ≤ room) && decide (0 < Ty.nc (.int .i64)))
    (L0 values 1)
    none
theorem L0_eq (out i) : L0 out i = SL0 out i := (lim_eq (.loop c1 K5) (tL0 out i)).trans (by kernel_rfl)
theorem L1_eq (out i k) : L1 out i k = SL1 out i k := (lim_eq (.loop c3 K12) (tL1 out i k)).trans (by kernel_rfl)
theorem J2_eq (out i k) : J2 out i k = SJ2 out i k := (lim_eq (.code c4 K13) (tJ2 out i k)).trans (by kernel_rfl)
theorem se (x : (argTy ps).den) : run E (lim E fin) fin depth (bodyOf Try.f25) .ret (entryFrom 0 ps x) = Se x.1 := by kernel_rfl
end ref59_Sorted
noncomputable def ref59_Sorted (values : List Int) : ref59_Sorted.R :=
  ref59_Sorted.Se values
namespace ref59_Sorted
noncomputable def sig : Sig := ⟨ps, rs, fun x => ref59_Sorted x.1⟩
theorem val (x : (argTy ps).den) : lim E fin (.code (bodyOf Try.f25) .ret) (entryFrom 0 ps x) = sig.run x := (lim_eq (.code (bodyOf Try.f25) .ret) (entryFrom 0 ps x)).trans (se x)
theorem ok : CallOK Try.prog 25 sig :=
  callOK_of_lim (E := E) mixed tt_ok ctxOk_nil Try.func25 (by kernel_rfl : Try.f25.body = some (bodyOf Try.f25)) Try.ntmps25 (of_decide_eq_true (by kernel_rfl)) (of_decide_eq_true (by kernel_rfl)) fun x y h => (val x).trans h
noncomputable def ctxc (n : Nat) : List (Nat × Sig) := []
noncomputable def sigc (n : Nat) : Sig := ⟨ps, rs, fun x => runs (withCtx E (ctxc n)) fin n (.code (bodyOf Try.f25) .ret) (entryFrom 0 ps x)⟩
theorem sigc_le (n : Nat) : ∀ x y, (sigc n).run x = some y → sig.run x = some y := fun x y h => (val x).symm.trans (runs_lim (E := E) (c := ctxc n) ctxLe_nil h)
end ref59_Sorted
namespace ref02_Beyond
abbrev ps : List PM := [.pure (.int .i64), .pure (.int .i64)]
abbrev rs : List RM := [.pure .bool]
abbrev R : Type := Option (Bool × Unit)
noncomputable def E : Env := { tt := tt, ctx := [], nt := 14, ann := [] }
noncomputable def fin : ASt → R := Kret E Try.f41.results.toList ps rs
noncomputable def Se (n_0 : Int) (most : Int) : R :=
  cond (decide (n_0 > most))
    (some (true, ()))
    (some (decide (n_0 < (IntKind.i64.wrap (0 - most))), ()))
theorem se (x : (argTy ps).den) : run E (lim E fin) fin depth (bodyOf Try.f41) .ret (entryFrom 0 ps x) = Se x.1 x.2.1 := by kernel_rfl
end ref02_Beyond
noncomputable def ref02_Beyond (n_0 : Int) (most : Int) : ref02_Beyond.R :=
  ref02_Beyond.Se n_0 most
namespace ref02_Beyond
noncomputable def sig : Sig := ⟨ps, rs, fun x => ref02_Beyond x.1 x.2.1⟩
theorem val (x : (argTy ps).den) : lim E fin (.code (bodyOf Try.f41) .ret) (entryFrom 0 ps x) = sig.run x := (lim_eq (.code (bodyOf Try.f41) .ret) (entryFrom 0 ps x)).trans (se x)
theorem ok : CallOK Try.prog 41 sig :=
  callOK_of_lim (E := E) mixed tt_ok ctxOk_nil Try.func41 (by kernel_rfl : Try.f41.body = some (bodyOf Try.f41)) Try.ntmps41 (of_decide_eq_true (by kernel_rfl)) (of_decide_eq_true (by kernel_rfl)) fun x y h => (val x).trans h
noncomputable def ctxc (n : Nat) : List (Nat × Sig) := []
noncomputable def sigc (n : Nat) : Sig := ⟨ps, rs, fun x => runs (withCtx E (ctxc n)) fin n (.code (bodyOf Try.f41) .ret) (entryFrom 0 ps x)⟩
theorem sigc_le (n : Nat) : ∀ x y, (sigc n).run x = some y → sig.run x = some y := fun x y h => (val x).symm.trans (runs_lim (E := E) (c := ctxc n) ctxLe_nil h)
end ref02_Beyond
namespace ref59_within
abbrev ps : List PM := [.pure (.sl (.int .i64))]
abbrev rs : List RM := [.pure .bool]
abbrev R : Type := Option (Bool × Unit)
noncomputable def E : Env := { tt := tt, ctx := [(41, ref02_Beyond.sig)], nt := 15, ann := [(1000002, [(0, .keep), (3, .keep)])] }
noncomputable def c0 : Code := sub [1, 1] (bodyOf Try.f28)
noncomputable def c1 : Code := sub [1, 0, 1, 0, 0] (bodyOf Try.f28)
noncomputable def K2 : Kont := .seq c0 .ret
noncomputable def K4 : Kont := .blk 0 K2
noncomputable def fin : ASt → R := Kret E Try.f28.results.toList ps rs
def tL0 (l : List Int) (i : Int) : ASt := ⟨[(3, .one (.val (.int .i64) i)), (0, .one (.val (.sl (.int .i64)) l))], []⟩
noncomputable def L0 (l : List Int) (i : Int) : R := lim E fin (.loop c1 K4) (tL0 l i)
noncomputable def SL0 (l : List Int) (i : Int) : R :=
  cond (decide (i < (l.length : Int)))
    (Option.bind (idx l i) fun x1 =>
    Option.bind (ref02_Beyond x1 1000000000000000) fun x2 =>
    cond x2.1
      (some (false, ()))
      (L0 l (IntKind.i64.wrap (i + 1))))
    (some (true, ()))
noncomputable def Se (l : List Int) : R :=
  L0 l 0
theorem L0_eq (l i) : L0 l i = SL0 l i := (lim_eq (.loop c1 K4) (tL0 l i)).trans (by kernel_rfl)
theorem se (x : (argTy ps).den) : run E (lim E fin) fin depth (bodyOf Try.f28) .ret (entryFrom 0 ps x) = Se x.1 := by kernel_rfl
end ref59_within
noncomputable def ref59_within (l : List Int) : ref59_within.R :=
  ref59_within.Se l
namespace ref59_within
noncomputable def sig : Sig := ⟨ps, rs, fun x => ref59_within x.1⟩
theorem val (x : (argTy ps).den) : lim E fin (.code (bodyOf Try.f28) .ret) (entryFrom 0 ps x) = sig.run x := (lim_eq (.code (bodyOf Try.f28) .ret) (entryFrom 0 ps x)).trans (se x)
theorem ok : CallOK Try.prog 28 sig :=
  callOK_of_lim (E := E) mixed tt_ok (ctxOk_cons ctxOk_nil ref02_Beyond.ok Try.func41 (by kernel_rfl) (by kernel_rfl)) Try.func28 (by kernel_rfl : Try.f28.body = some (bodyOf Try.f28)) Try.ntmps28 (of_decide_eq_true (by kernel_rfl)) (of_decide_eq_true (by kernel_rfl)) fun x y h => (val x).trans h
noncomputable def ctxc (n : Nat) : List (Nat × Sig) := [(41, ref02_Beyond.sigc n)]
noncomputable def sigc (n : Nat) : Sig := ⟨ps, rs, fun x => runs (withCtx E (ctxc n)) fin n (.code (bodyOf Try.f28) .ret) (entryFrom 0 ps x)⟩
theorem sigc_le (n : Nat) : ∀ x y, (sigc n).run x = some y → sig.run x = some y := fun x y h => (val x).symm.trans (runs_lim (E := E) (c := ctxc n) (ctxLe_cons ctxLe_nil (ref02_Beyond.sigc_le n)) h)
end ref59_within
namespace ref59_Histogram
abbrev ps : List PM := [.pure (.sl (.int .i64)), .pure (.sl (.int .i64))]
abbrev rs : List RM := [.own api_Bucket, .pure (.int .i64)]
abbrev R : Type := Option (List api_BucketV × Int × Unit)
noncomputable def E : Env := { tt := tt, ctx := [(28, ref59_within.sig)], nt := 106, ann := [(3, [(0, .keep), (1, .keep)]), (5, [(0, .keep), (1, .keep)]), (1000006, [(0, .keep), (1, .keep), (6, .keep)]), (1000012, [(0, .keep), (1, .keep), (7, .own api_Bucket), (8, .keep)]), (17, [(0, .keep), (1, .keep), (7, .own api_Bucket), (8, .keep), (9, .keep)]), (19, [(0, .keep), (1, .keep), (7, .own api_Bucket), (8, .keep), (9, .keep)]), (1000020, [(0, .keep), (1, .keep), (7, .own api_Bucket), (8, .keep), (9, .keep), (10, .keep)]), (23, [(0, .keep), (1, .keep), (7, .own api_Bucket), (8, .keep), (9, .keep), (10, .keep), (88, .keep)])] }
noncomputable def c0 : Code := sub [1, 1, 1, 1] (bodyOf Try.f15)
noncomputable def c1 : Code := sub [1, 1, 1, 1, 1, 1] (bodyOf Try.f15)
noncomputable def c2 : Code := sub [1, 1, 1, 1, 1, 0, 1, 0, 0] (bodyOf Try.f15)
noncomputable def c3 : Code := sub [1, 1, 1, 1, 1, 0, 1, 0, 0, 1, 1] (bodyOf Try.f15)
noncomputable def c4 : Code := sub [1, 1, 1, 1, 1, 0, 1, 0, 0, 1, 0, 0, 1, 1, 1, 1] (bodyOf Try.f15)
noncomputable def c5 : Code := sub [1, 1, 1, 1, 1, 0, 1, 0, 0, 1, 0, 0, 1, 1, 1, 0, 1, 0, 0] (bodyOf Try.f15)
noncomputable def c6 : Code := sub [1, 1, 1, 1, 1, 0, 1, 0, 0, 1, 0, 0, 1, 1, 1, 0, 1, 0, 0, 1, 1] (bodyOf Try.f15)
noncomputable def c7 : Code := sub [1, 1] (bodyOf Try.f15)
noncomputable def c8 : Code := sub [1, 1, 1] (bodyOf Try.f15)
noncomputable def c9 : Code := sub [1, 1, 1, 0, 1, 0, 0] (bodyOf Try.f15)
noncomputable def c10 : Code := sub [1, 1, 1, 1, 1, 0, 1, 0, 0, 1, 0, 0, 1, 1] (bodyOf Try.f15)
noncomputable def c11 : Code := sub [1, 1, 1, 1, 1, 0, 1, 0, 0, 1, 0, 0, 1, 1, 1] (bodyOf Try.f15)
noncomputable def c12 : Code := sub [1, 1, 1, 1, 1, 0, 1, 0, 0, 1, 0, 0, 1, 1, 1, 0, 1, 0, 0, 1, 0, 0, 1] (bodyOf Try.f15)
noncomputable def K8 : Kont := .seq c0 .ret
noncomputable def K10 : Kont := .blk 0 K8
noncomputable def K19 : Kont := .seq c1 .ret
noncomputable def K21 : Kont := .blk 2 K19
noncomputable def K22 : Kont := .loop c2 K21
noncomputable def K25 : Kont := .seq c3 K22
noncomputable def K26 : Kont := .blk 3 K25
noncomputable def K33 : Kont := .seq c4 K26
noncomputable def K35 : Kont := .blk 4 K33
noncomputable def K36 : Kont := .loop c5 K35
noncomputable def K39 : Kont := .seq c6 K36
noncomputable def K40 : Kont := .blk 5 K39
noncomputable def fin : ASt → R := Kret E Try.f15.results.toList ps rs
def tJ0 (values : List Int) (bounds : List Int) : ASt := ⟨[(1, .one (.val (.sl (.int .i64)) bounds)), (0, .one (.val (.sl (.int .i64)) values))], []⟩
def tJ1 (values : List Int) (bounds : List Int) : ASt := ⟨[(1, .one (.val (.sl (.int .i64)) bounds)), (0, .one (.val (.sl (.int .i64)) values))], []⟩
def tL2 (values : List Int) (bounds : List Int) (i : Int) : ASt := ⟨[(6, .one (.val (.int .i64) i)), (1, .one (.val (.sl (.int .i64)) bounds)), (0, .one (.val (.sl (.int .i64)) values))], []⟩
def tL3 (values : List Int) (bounds : List Int) (out : List api_BucketV) (i : Int) : ASt := ⟨[(8, .one (.val (.int .i64) i)), (7, .one (.own 7)), (1, .one (.val (.sl (.int .i64)) bounds)), (0, .one (.val (.sl (.int .i64)) values))], [(7, some ⟨.free, api_Bucket, out⟩)]⟩
def tJ4 (values : List Int) (bounds : List Int) (out : List api_BucketV) (i : Int) (b : api_BucketV) : ASt := ⟨[(9, .one (.optr 9 0 [])), (8, .one (.val (.int .i64) i)), (7, .one (.own 7)), (1, .one (.val (.sl (.int .i64)) bounds)), (0, .one (.val (.sl (.int .i64)) values))], [(9, some ⟨.free, api_Bucket, [b]⟩), (7, some ⟨.free, api_Bucket, out⟩)]⟩
def tJ5 (values : List Int) (bounds : List Int) (out : List api_BucketV) (i : Int) (b : api_BucketV) : ASt := ⟨[(9, .one (.optr 9 0 [])), (8, .one (.val (.int .i64) i)), (7, .one (.own 7)), (1, .one (.val (.sl (.int .i64)) bounds)), (0, .one (.val (.sl (.int .i64)) values))], [(9, some ⟨.free, api_Bucket, [b]⟩), (7, some ⟨.free, api_Bucket, out⟩)]⟩
def tL6 (values : List Int) (bounds : List Int) (out : List api_BucketV) (i : Int) (b : api_BucketV) (k : Int) : ASt := ⟨[(10, .one (.val (.int .i64) k)), (9, .one (.optr 9 0 [])), (8, .one (.val (.int .i64) i)), (7, .one (.own 7)), (1, .one (.val (.sl (.int .i64)) bounds)), (0, .one (.val (.sl (.int .i64)) values))], [(9, some ⟨.free, api_Bucket, [b]⟩), (7, some ⟨.free, api_Bucket, out⟩)]⟩
def tJ7 (values : List Int) (bounds : List Int) (out : List api_BucketV) (i : Int) (b : api_BucketV) (k : Int) (v_88 : Bool) : ASt := ⟨[(88, .one (.val .bool v_88)), (10, .one (.val (.int .i64) k)), (9, .one (.optr 9 0 [])), (8, .one (.val (.int .i64) i)), (7, .one (.own 7)), (1, .one (.val (.sl (.int .i64)) bounds)), (0, .one (.val (.sl (.int .i64)) values))], [(9, some ⟨.free, api_Bucket, [b]⟩), (7, some ⟨.free, api_Bucket, out⟩)]⟩
noncomputable def J0 (values : List Int) (bounds : List Int) : R := lim E fin (.code c7 .ret) (tJ0 values bounds)
noncomputable def J1 (values : List Int) (bounds : List Int) : R := lim E fin (.code c8 .ret) (tJ1 values bounds)
noncomputable def L2 (values : List Int) (bounds : List Int) (i : Int) : R := lim E fin (.loop c9 K10) (tL2 values bounds i)
noncomputable def L3 (values : List Int) (bounds : List Int) (out : List api_BucketV) (i : Int) : R := lim E fin (.loop c2 K21) (tL3 values bounds out i)
noncomputable def J4 (values : List Int) (bounds : List Int) (out : List api_BucketV) (i : Int) (b : api_BucketV) : R := lim E fin (.code c10 K26) (tJ4 values bounds out i b)
noncomputable def J5 (values : List Int) (bounds : List Int) (out : List api_BucketV) (i : Int) (b : api_BucketV) : R := lim E fin (.code c11 K26) (tJ5 values bounds out i b)
noncomputable def L6 (values : List Int) (bounds : List Int) (out : List api_BucketV) (i : Int) (b : api_BucketV) (k : Int) : R := lim E fin (.loop c5 K35) (tL6 values bounds out i b k)
noncomputable def J7 (values : List Int) (bounds : List Int) (out : List api_BucketV) (i : Int) (b : api_BucketV) (k : Int) (v_88 : Bool) : R := lim E fin (.code c12 K40) (tJ7 values bounds out i b k v_88)
noncomputable def SJ0 (values : List Int) (bounds : List Int) : R :=
  Option.bind (ref59_within values) fun x1 =>
  cond (!x1.1)
    (some ([], 3, ()))
    (Option.bind (ref59_within bounds) fun x2 =>
    cond (!x2.1)
      (some ([], 3, ()))
      (J1 values bounds))
noncomputable def SJ1 (values : List Int) (bounds : List Int) : R :=
  L2 values bounds 1
noncomputable def SL2 (values : List Int) (bounds : List Int) (i : Int) : R :=
  cond (decide (i < (bounds.length : Int)))
    (Option.bind (idx bounds (IntKind.i64.wrap (i - 1))) fun x1 =>
    Option.bind (idx bounds i) fun x2 =>
    cond (decide (x1 ≥ x2))
      (some ([], 9, ()))
      (L2 values bounds (IntKind.i64.wrap (i + 1))))
    (L3 values bounds [] 0)
noncomputable def SL3 (values : List Int) (bounds : List Int) (out : List api_BucketV) (i : Int) : R :=
  cond (decide (i ≤ (bounds.length : Int)))
    (cond (decide (i > 0))
      (Option.bind (idx bounds (IntKind.i64.wrap (i - 1))) fun x1 =>
      J4 values bounds out i (x1, 1000000000000001, 0, 0, ()))
      (J4 values bounds out i ((-1000000000000000), 1000000000000001, 0, 0, ())))
    (some (out, 0, ()))
noncomputable def SJ4 (values : List Int) (bounds : List Int) (out : List api_BucketV) (i : Int) (b : api_BucketV) : R :=
  cond (decide (i < (bounds.length : Int)))
    (Option.bind (idx bounds i) fun x1 =>
    J5 values bounds out i (b.1, x1, b.2.2.1, b.2.2.2.1, ()))
    (J5 values bounds out i b)
noncomputable def SJ5 (values : List Int) (bounds : List Int) (out : List api_BucketV) (i : Int) (b : api_BucketV) : R :=
  L6 values bounds out i b 0
noncomputable def SL6 (values : List Int) (bounds : List Int) (out : List api_BucketV) (i : Int) (b : api_BucketV) (k : Int) : R :=
  cond (decide (k < (values.length : Int)))
    (Option.bind (idx values k) fun x1 =>
    cond (decide (b.1 ≤ x1))
      (Option.bind (idx values k) fun x2 =>
      J7 values bounds out i b k (decide (x2 < b.2.1)))
      (J7 values bounds out i b k false))
    (cond (decide ((out.length + 1) * 32 ≤ room) && decide (0 < Ty.nc (.pair (.int .i64) (.pair (.int .i64) (.pair (.int .i64) (.pair (.int .i64) .unit))))))
      (L3 values bounds (out ++ [b]) (IntKind.i64.wrap (i + 1)))
      none)
noncomputable def SJ7 (values : List Int) (bounds : List Int) (out : List api_BucketV) (i : Int) (b : api_BucketV) (k : Int) (v_88 : Bool) : R :=
  cond v_88
    (Option.bind (idx values k) fun x1 =>
    L6 values bounds out i (b.1, b.2.1, IntKind.i64.wrap (b.2.2.1 + 1), IntKind.i64.wrap (b.2.2.2.1 + x1), ()) (IntKind.i64.wrap (k + 1)))
    (L6 values bounds out i b (IntKind.i64.wrap (k + 1)))
noncomputable def Se (values : List Int) (bounds : List Int) : R :=
  cond (decide ((values.length : Int) > 4096))
    (some ([], 4, ()))
    (cond (decide ((bounds.length : Int) > 64))
      (some ([], 4, ()))
      (J0 values bounds))
theorem J0_eq (values bounds) : J0 values bounds = SJ0 values bounds := (lim_eq (.code c7 .ret) (tJ0 values bounds)).trans (by kernel_rfl)
theorem J1_eq (values bounds) : J1 values bounds = SJ1 values bounds := (lim_eq (.code c8 .ret) (tJ1 values bounds)).trans (by kernel_rfl)
theorem L2_eq (values bounds i) : L2 values bounds i = SL2 values bounds i := (lim_eq (.loop c9 K10) (tL2 values bounds i)).trans (by kernel_rfl)
theorem L3_eq (values bounds out i) : L3 values bounds out i = SL3 values bounds out i := (lim_eq (.loop c2 K21) (tL3 values bounds out i)).trans (by kernel_rfl)
theorem J4_eq (values bounds out i b) : J4 values bounds out i b = SJ4 values bounds out i b := (lim_eq (.code c10 K26) (tJ4 values bounds out i b)).trans (by kernel_rfl)
theorem J5_eq (values bounds out i b) : J5 values bounds out i b = SJ5 values bounds out i b := (lim_eq (.code c11 K26) (tJ5 values bounds out i b)).trans (by kernel_rfl)
theorem L6_eq (values bounds out i b k) : L6 values bounds out i b k = SL6 values bounds out i b k := (lim_eq (.loop c5 K35) (tL6 values bounds out i b k)).trans (by kernel_rfl)
theorem J7_eq (values bounds out i b k v_88) : J7 values bounds out i b k v_88 = SJ7 values bounds out i b k v_88 := (lim_eq (.code c12 K40) (tJ7 values bounds out i b k v_88)).trans (by kernel_rfl)
theorem se (x : (argTy ps).den) : run E (lim E fin) fin depth (bodyOf Try.f15) .ret (entryFrom 0 ps x) = Se x.1 x.2.1 := by kernel_rfl
end ref59_Histogram
noncomputable def ref59_Histogram (values : List Int) (bounds : List Int) : ref59_Histogram.R :=
  ref59_Histogram.Se values bounds
namespace ref59_Histogram
noncomputable def sig : Sig := ⟨ps, rs, fun x => ref59_Histogram x.1 x.2.1⟩
theorem val (x : (argTy ps).den) : lim E fin (.code (bodyOf Try.f15) .ret) (entryFrom 0 ps x) = sig.run x := (lim_eq (.code (bodyOf Try.f15) .ret) (entryFrom 0 ps x)).trans (se x)
theorem ok : CallOK Try.prog 15 sig :=
  callOK_of_lim (E := E) mixed tt_ok (ctxOk_cons ctxOk_nil ref59_within.ok Try.func28 (by kernel_rfl) (by kernel_rfl)) Try.func15 (by kernel_rfl : Try.f15.body = some (bodyOf Try.f15)) Try.ntmps15 (of_decide_eq_true (by kernel_rfl)) (of_decide_eq_true (by kernel_rfl)) fun x y h => (val x).trans h
noncomputable def ctxc (n : Nat) : List (Nat × Sig) := [(28, ref59_within.sigc n)]
noncomputable def sigc (n : Nat) : Sig := ⟨ps, rs, fun x => runs (withCtx E (ctxc n)) fin n (.code (bodyOf Try.f15) .ret) (entryFrom 0 ps x)⟩
theorem sigc_le (n : Nat) : ∀ x y, (sigc n).run x = some y → sig.run x = some y := fun x y h => (val x).symm.trans (runs_lim (E := E) (c := ctxc n) (ctxLe_cons ctxLe_nil (ref59_within.sigc_le n)) h)
end ref59_Histogram
end Go.Proofs.Ytphpegconhdnfaa
