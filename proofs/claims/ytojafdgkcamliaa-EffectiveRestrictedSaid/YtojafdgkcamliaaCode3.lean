import Derived.Test.YtojafdgkcamliaaCode2
set_option maxRecDepth 100000
set_option linter.unusedVariables false
namespace Go.Proofs.Ytojafdgkcamliaa
open Go Go.Lift
namespace same_Nodes
abbrev ps : List PM := [.pure (.sl api_DateRange), .pure (.sl api_DateRange)]
abbrev rs : List RM := [.pure .bool]
abbrev R : Type := Option (Bool × Unit)
noncomputable def E : Env := { tt := tt, ctx := [], nt := 32, ann := [(1000004, [(0, .keep), (1, .keep), (5, .keep)]), (6, [(0, .keep), (1, .keep), (5, .keep)])] }
noncomputable def c0 : Code := sub [1, 1, 1] (bodyOf Try.f21)
noncomputable def c1 : Code := sub [1, 1, 0, 1, 0, 0] (bodyOf Try.f21)
noncomputable def c2 : Code := sub [1, 1, 0, 1, 0, 0, 1] (bodyOf Try.f21)
noncomputable def K5 : Kont := .seq c0 .ret
noncomputable def K7 : Kont := .blk 0 K5
noncomputable def K8 : Kont := .loop c1 K7
noncomputable def fin : ASt → R := Kret E Try.f21.results.toList ps rs
def tL0 (a : List api_DateRangeV) (b : List api_DateRangeV) (i : Int) : ASt := ⟨[(5, .one (.val (.int .i64) i)), (1, .one (.val (.sl api_DateRange) b)), (0, .one (.val (.sl api_DateRange) a))], []⟩
def tJ1 (a : List api_DateRangeV) (b : List api_DateRangeV) (i : Int) : ASt := ⟨[(5, .one (.val (.int .i64) i)), (1, .one (.val (.sl api_DateRange) b)), (0, .one (.val (.sl api_DateRange) a))], []⟩
noncomputable def L0 (a : List api_DateRangeV) (b : List api_DateRangeV) (i : Int) : R := lim E fin (.loop c1 K7) (tL0 a b i)
noncomputable def J1 (a : List api_DateRangeV) (b : List api_DateRangeV) (i : Int) : R := lim E fin (.code c2 K8) (tJ1 a b i)
noncomputable def SL0 (a : List api_DateRangeV) (b : List api_DateRangeV) (i : Int) : R :=
  cond (decide (i < (a.length : Int)))
    (cond (decide (i < (b.length : Int)))
      (J1 a b i)
      (some (true, ())))
    (some (true, ()))
noncomputable def SJ1 (a : List api_DateRangeV) (b : List api_DateRangeV) (i : Int) : R :=
  Option.bind (idx a i) fun x1 =>
  Option.bind (idx b i) fun x2 =>
  cond (!eqTy (.pair (.int .i64) (.pair (.int .i64) .unit)) x1 x2)
    (some (false, ()))
    (L0 a b (IntKind.i64.wrap (i + 1)))
noncomputable def Se (a : List api_DateRangeV) (b : List api_DateRangeV) : R :=
  cond ((a.length : Int) != (b.length : Int))
    (some (false, ()))
    (L0 a b 0)
theorem L0_eq (a b i) : L0 a b i = SL0 a b i := (lim_eq (.loop c1 K7) (tL0 a b i)).trans (by kernel_rfl)
theorem J1_eq (a b i) : J1 a b i = SJ1 a b i := (lim_eq (.code c2 K8) (tJ1 a b i)).trans (by kernel_rfl)
theorem se (x : (argTy ps).den) : run E (lim E fin) fin depth (bodyOf Try.f21) .ret (entryFrom 0 ps x) = Se x.1 x.2.1 := by kernel_rfl
end same_Nodes
noncomputable def same_Nodes (a : List api_DateRangeV) (b : List api_DateRangeV) : same_Nodes.R :=
  same_Nodes.Se a b
namespace same_Nodes
noncomputable def sig : Sig := ⟨ps, rs, fun x => same_Nodes x.1 x.2.1⟩
theorem val (x : (argTy ps).den) : lim E fin (.code (bodyOf Try.f21) .ret) (entryFrom 0 ps x) = sig.run x := (lim_eq (.code (bodyOf Try.f21) .ret) (entryFrom 0 ps x)).trans (se x)
theorem ok : CallOK Try.prog 21 sig :=
  callOK_of_lim (E := E) mixed tt_ok ctxOk_nil Try.func21 (by kernel_rfl : Try.f21.body = some (bodyOf Try.f21)) Try.ntmps21 (of_decide_eq_true (by kernel_rfl)) (of_decide_eq_true (by kernel_rfl)) fun x y h => (val x).trans h
noncomputable def ctxc (n : Nat) : List (Nat × Sig) := []
noncomputable def sigc (n : Nat) : Sig := ⟨ps, rs, fun x => runs (withCtx E (ctxc n)) fin n (.code (bodyOf Try.f21) .ret) (entryFrom 0 ps x)⟩
theorem sigc_le (n : Nat) : ∀ x y, (sigc n).run x = some y → sig.run x = some y := fun x y h => (val x).symm.trans (runs_lim (E := E) (c := ctxc n) ctxLe_nil h)
end same_Nodes
namespace law15_EffectiveRestricted
abbrev ps : List PM := [.pure api_Law, .pure (.int .i64), .pure (.int .i64)]
abbrev rs : List RM := [.pure .bool]
abbrev R : Type := Option (Bool × Unit)
noncomputable def E : Env := { tt := tt, ctx := [(15, same_SmallLaw.sig), (10, law15_awake.sig), (17, effective_LawOn.sig), (14, effective_RulesOn.sig), (21, same_Nodes.sig)], nt := 163, ann := [(3, [(1, .keep), (2, .keep), (3, .keep)]), (1000007, [(1, .keep), (2, .keep), (3, .keep), (7, .keep), (8, .keep)]), (1000014, [(1, .keep), (2, .keep), (3, .keep), (7, .keep), (8, .keep), (9, .keep), (10, .keep), (11, .keep)]), (18, [(1, .keep), (2, .keep), (3, .keep), (7, .keep), (8, .keep), (9, .keep), (10, .keep), (11, .keep)])] }
noncomputable def c0 : Code := sub [1, 1, 1, 1, 1] (bodyOf Try.f7)
noncomputable def c1 : Code := sub [1, 1, 1, 1, 0, 1, 0, 0] (bodyOf Try.f7)
noncomputable def c2 : Code := sub [1, 1, 1, 1, 0, 1, 0, 0, 1, 1] (bodyOf Try.f7)
noncomputable def c3 : Code := sub [1, 1, 1, 1, 0, 1, 0, 0, 1, 0, 0, 1, 1, 1, 1, 0, 0] (bodyOf Try.f7)
noncomputable def c4 : Code := sub [1, 1, 1, 1, 0, 1, 0, 0, 1, 0, 0, 1, 1, 1, 1, 0, 0, 1, 1] (bodyOf Try.f7)
noncomputable def c5 : Code := sub [1, 1] (bodyOf Try.f7)
noncomputable def c6 : Code := sub [1, 1, 1, 1, 0, 1, 0, 0, 1, 0, 0, 1, 1, 1, 1, 0, 0, 1, 0, 0, 1] (bodyOf Try.f7)
noncomputable def K9 : Kont := .seq c0 .ret
noncomputable def K11 : Kont := .blk 0 K9
noncomputable def K12 : Kont := .loop c1 K11
noncomputable def K15 : Kont := .seq c2 K12
noncomputable def K16 : Kont := .blk 1 K15
noncomputable def K23 : Kont := .blk 2 K16
noncomputable def K24 : Kont := .loop c3 K23
noncomputable def K28 : Kont := .seq c4 K24
noncomputable def K29 : Kont := .blk 3 K28
noncomputable def fin : ASt → R := Kret E Try.f7.results.toList ps rs
def tJ0 (date : Int) (def_2 : Int) (l : api_LawV) : ASt := ⟨[(3, .one (.optr 3 0 [])), (2, .one (.val (.int .i64) def_2)), (1, .one (.val (.int .i64) date))], [(3, some ⟨.free, api_Law, [l]⟩)]⟩
def tL1 (date : Int) (def_2 : Int) (l : api_LawV) (on : api_LawV) (i : Int) : ASt := ⟨[(8, .one (.val (.int .i64) i)), (7, .one (.optr 7 0 [])), (3, .one (.optr 3 0 [])), (2, .one (.val (.int .i64) def_2)), (1, .one (.val (.int .i64) date))], [(7, some ⟨.free, api_Law, [on]⟩), (3, some ⟨.free, api_Law, [l]⟩)]⟩
def tL2 (date : Int) (def_2 : Int) (l : api_LawV) (on : api_LawV) (i : Int) (a : List Int) (b : List Int) (k : Int) : ASt := ⟨[(11, .one (.val (.int .i64) k)), (10, .one (.own 10)), (9, .one (.own 9)), (8, .one (.val (.int .i64) i)), (7, .one (.optr 7 0 [])), (3, .one (.optr 3 0 [])), (2, .one (.val (.int .i64) def_2)), (1, .one (.val (.int .i64) date))], [(10, some ⟨.free, .int .i64, b⟩), (9, some ⟨.free, .int .i64, a⟩), (7, some ⟨.free, api_Law, [on]⟩), (3, some ⟨.free, api_Law, [l]⟩)]⟩
def tJ3 (date : Int) (def_2 : Int) (l : api_LawV) (on : api_LawV) (i : Int) (a : List Int) (b : List Int) (k : Int) : ASt := ⟨[(11, .one (.val (.int .i64) k)), (10, .one (.own 10)), (9, .one (.own 9)), (8, .one (.val (.int .i64) i)), (7, .one (.optr 7 0 [])), (3, .one (.optr 3 0 [])), (2, .one (.val (.int .i64) def_2)), (1, .one (.val (.int .i64) date))], [(10, some ⟨.free, .int .i64, b⟩), (9, some ⟨.free, .int .i64, a⟩), (7, some ⟨.free, api_Law, [on]⟩), (3, some ⟨.free, api_Law, [l]⟩)]⟩
noncomputable def J0 (date : Int) (def_2 : Int) (l : api_LawV) : R := lim E fin (.code c5 .ret) (tJ0 date def_2 l)
noncomputable def L1 (date : Int) (def_2 : Int) (l : api_LawV) (on : api_LawV) (i : Int) : R := lim E fin (.loop c1 K11) (tL1 date def_2 l on i)
noncomputable def L2 (date : Int) (def_2 : Int) (l : api_LawV) (on : api_LawV) (i : Int) (a : List Int) (b : List Int) (k : Int) : R := lim E fin (.loop c3 K23) (tL2 date def_2 l on i a b k)
noncomputable def J3 (date : Int) (def_2 : Int) (l : api_LawV) (on : api_LawV) (i : Int) (a : List Int) (b : List Int) (k : Int) : R := lim E fin (.code c6 K29) (tJ3 date def_2 l on i a b k)
noncomputable def SJ0 (date : Int) (def_2 : Int) (l : api_LawV) : R :=
  Option.bind (effective_LawOn l date) fun x1 =>
  cond ((x1.1.2.2.1.length : Int) != (l.2.2.1.length : Int))
    (some (false, ()))
    (L1 date def_2 l x1.1 0)
noncomputable def SL1 (date : Int) (def_2 : Int) (l : api_LawV) (on : api_LawV) (i : Int) : R :=
  cond (decide (i < (l.2.2.1.length : Int)))
    (Option.bind (idx l.2.2.1 i) fun x1 =>
    Option.bind (effective_RulesOn x1 def_2 date) fun x2 =>
    Option.bind (idx on.2.2.1 i) fun x3 =>
    Option.bind (effective_RulesOn x3 def_2 date) fun x4 =>
    cond ((x2.1.length : Int) != (x4.1.length : Int))
      (some (false, ()))
      (L2 date def_2 l on i x2.1 x4.1 0))
    (Option.bind law15_awake fun x5 =>
    some (x5.1, ()))
noncomputable def SL2 (date : Int) (def_2 : Int) (l : api_LawV) (on : api_LawV) (i : Int) (a : List Int) (b : List Int) (k : Int) : R :=
  cond (decide (k < (a.length : Int)))
    (cond (decide (0 ≤ k) && decide (k < (a.length : Int)))
      (cond (decide ((a.getD k.toNat 0) < 0))
        (some (false, ()))
        (cond (decide (0 ≤ k) && decide (k < (a.length : Int)))
          (Option.bind (idx l.2.2.1 i) fun x1 =>
          cond (decide ((a.getD k.toNat 0) ≥ (x1.2.2.2.2.1.length : Int)))
            (some (false, ()))
            (cond (decide (0 ≤ k) && decide (k < (b.length : Int)))
              (cond (decide ((b.getD k.toNat 0) < 0))
                (some (false, ()))
                (cond (decide (0 ≤ k) && decide (k < (b.length : Int)))
                  (Option.bind (idx on.2.2.1 i) fun x2 =>
                  cond (decide ((b.getD k.toNat 0) ≥ (x2.2.2.2.2.1.length : Int)))
                    (some (false, ()))
                    (J3 date def_2 l on i a b k))
                  none))
              none))
          none))
      none)
    (L1 date def_2 l on (IntKind.i64.wrap (i + 1)))
noncomputable def SJ3 (date : Int) (def_2 : Int) (l : api_LawV) (on : api_LawV) (i : Int) (a : List Int) (b : List Int) (k : Int) : R :=
  Option.bind (idx l.2.2.1 i) fun x1 =>
  cond (decide (0 ≤ k) && decide (k < (a.length : Int)))
    (Option.bind (idx x1.2.2.2.2.1 (a.getD k.toNat 0)) fun x2 =>
    Option.bind (idx on.2.2.1 i) fun x3 =>
    cond (decide (0 ≤ k) && decide (k < (b.length : Int)))
      (Option.bind (idx x3.2.2.2.2.1 (b.getD k.toNat 0)) fun x4 =>
      cond (!(x2.1 == x4.1))
        (some (false, ()))
        (cond (x2.2.2.2.1 != x4.2.2.2.1)
          (some (false, ()))
          (Option.bind (same_Nodes x2.2.2.2.2.2.1 x4.2.2.2.2.2.1) fun x5 =>
          cond (!x5.1)
            (some (false, ()))
            (Option.bind (same_Nodes x2.2.2.2.2.2.2.1 x4.2.2.2.2.2.2.1) fun x6 =>
            cond (!x6.1)
              (some (false, ()))
              (L2 date def_2 l on i a b (IntKind.i64.wrap (k + 1)))))))
      none)
    none
noncomputable def Se (l : api_LawV) (date : Int) (def_2 : Int) : R :=
  Option.bind (same_SmallLaw l) fun x1 =>
  cond (!x1.1)
    (Option.bind law15_awake fun x2 =>
    some (x2.1, ()))
    (cond (decide (date < 0))
      (Option.bind law15_awake fun x3 =>
      some (x3.1, ()))
      (cond (decide (date > 109572))
        (Option.bind law15_awake fun x4 =>
        some (x4.1, ()))
        (J0 date def_2 l)))
theorem J0_eq (date def_2 l) : J0 date def_2 l = SJ0 date def_2 l := (lim_eq (.code c5 .ret) (tJ0 date def_2 l)).trans (by kernel_rfl)
theorem L1_eq (date def_2 l on i) : L1 date def_2 l on i = SL1 date def_2 l on i := (lim_eq (.loop c1 K11) (tL1 date def_2 l on i)).trans (by kernel_rfl)
theorem L2_eq (date def_2 l on i a b k) : L2 date def_2 l on i a b k = SL2 date def_2 l on i a b k := (lim_eq (.loop c3 K23) (tL2 date def_2 l on i a b k)).trans (by kernel_rfl)
theorem J3_eq (date def_2 l on i a b k) : J3 date def_2 l on i a b k = SJ3 date def_2 l on i a b k := (lim_eq (.code c6 K29) (tJ3 date def_2 l on i a b k)).trans (by kernel_rfl)
theorem se (x : (argTy ps).den) : run E (lim E fin) fin depth (bodyOf Try.f7) .ret (entryFrom 0 ps x) = Se x.1 x.2.1 x.2.2.1 := by kernel_rfl
end law15_EffectiveRestricted
noncomputable def law15_EffectiveRestricted (l : api_LawV) (date : Int) (def_2 : Int) : law15_EffectiveRestricted.R :=
  law15_EffectiveRestricted.Se l date def_2
namespace law15_EffectiveRestricted
noncomputable def sig : Sig := ⟨ps, rs, fun x => law15_EffectiveRestricted x.1 x.2.1 x.2.2.1⟩
theorem val (x : (argTy ps).den) : lim E fin (.code (bodyOf Try.f7) .ret) (entryFrom 0 ps x) = sig.run x := (lim_eq (.code (bodyOf Try.f7) .ret) (entryFrom 0 ps x)).trans (se x)
theorem ok : CallOK Try.prog 7 sig :=
  callOK_of_lim (E := E) mixed tt_ok (ctxOk_cons (ctxOk_cons (ctxOk_cons (ctxOk_cons (ctxOk_cons ctxOk_nil same_Nodes.ok Try.func21 (by kernel_rfl) (by kernel_rfl)) effective_RulesOn.ok Try.func14 (by kernel_rfl) (by kernel_rfl)) effective_LawOn.ok Try.func17 (by kernel_rfl) (by kernel_rfl)) law15_awake.ok Try.func10 (by kernel_rfl) (by kernel_rfl)) same_SmallLaw.ok Try.func15 (by kernel_rfl) (by kernel_rfl)) Try.func7 (by kernel_rfl : Try.f7.body = some (bodyOf Try.f7)) Try.ntmps7 (of_decide_eq_true (by kernel_rfl)) (of_decide_eq_true (by kernel_rfl)) fun x y h => (val x).trans h
noncomputable def ctxc (n : Nat) : List (Nat × Sig) := [(15, same_SmallLaw.sigc n), (10, law15_awake.sigc n), (17, effective_LawOn.sigc n), (14, effective_RulesOn.sigc n), (21, same_Nodes.sigc n)]
noncomputable def sigc (n : Nat) : Sig := ⟨ps, rs, fun x => runs (withCtx E (ctxc n)) fin n (.code (bodyOf Try.f7) .ret) (entryFrom 0 ps x)⟩
theorem sigc_le (n : Nat) : ∀ x y, (sigc n).run x = some y → sig.run x = some y := fun x y h => (val x).symm.trans (runs_lim (E := E) (c := ctxc n) (ctxLe_cons (ctxLe_cons (ctxLe_cons (ctxLe_cons (ctxLe_cons ctxLe_nil (same_Nodes.sigc_le n)) (effective_RulesOn.sigc_le n)) (effective_LawOn.sigc_le n)) (law15_awake.sigc_le n)) (same_SmallLaw.sigc_le n)) h)
end law15_EffectiveRestricted
end Go.Proofs.Ytojafdgkcamliaa
