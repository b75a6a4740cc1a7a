import Derived.Test.YtmmimgjakoacaaaTys
set_option maxRecDepth 100000
set_option linter.unusedVariables false
namespace Go.Proofs.Ytmmimgjakoacaaa
open Go Go.Lift
namespace law34_two
abbrev ps : List PM := []
abbrev rs : List RM := [.own api_Fact]
abbrev R : Type := Option (List api_FactV × Unit)
noncomputable def E : Env := { tt := tt, ctx := [], nt := 8, ann := [] }
noncomputable def fin : ASt → R := Kret E Try.f19.results.toList ps rs
noncomputable def Se : R :=
  some ([(1, (-1), 0, (2, 0, 5, ()), (0, 100, ()), 10, ()), (2, (-1), 0, (2, 0, 7, ()), (50, 60, ()), 20, ())], ())
theorem se (x : (argTy ps).den) : run E (lim E fin) fin depth (bodyOf Try.f19) .ret (entryFrom 0 ps x) = Se := by kernel_rfl
end law34_two
noncomputable def law34_two : law34_two.R :=
  law34_two.Se 
namespace law34_two
noncomputable def sig : Sig := ⟨ps, rs, fun x => law34_two⟩
theorem val (x : (argTy ps).den) : lim E fin (.code (bodyOf Try.f19) .ret) (entryFrom 0 ps x) = sig.run x := (lim_eq (.code (bodyOf Try.f19) .ret) (entryFrom 0 ps x)).trans (se x)
theorem ok : CallOK Try.prog 19 sig :=
  callOK_of_lim (E := E) mixed tt_ok ctxOk_nil Try.func19 (by kernel_rfl : Try.f19.body = some (bodyOf Try.f19)) Try.ntmps19 (of_decide_eq_true (by kernel_rfl)) (of_decide_eq_true (by kernel_rfl)) (fun x y h => (val x).trans h)
noncomputable def ctxc (n : Nat) : List (Nat × Sig) := []
noncomputable def sigc (n : Nat) : Sig := ⟨ps, rs, fun x => runs (withCtx E (ctxc n)) fin n (.code (bodyOf Try.f19) .ret) (entryFrom 0 ps x)⟩
theorem sigc_le (n : Nat) : ∀ x y, (sigc n).run x = some y → sig.run x = some y := fun x y h => (val x).symm.trans (runs_lim (E := E) (c := ctxc n) ctxLe_nil h)
end law34_two
namespace facts_known_1
abbrev ps : List PM := [.pure api_Fact, .pure api_Fact]
abbrev rs : List RM := [.pure .bool]
abbrev R : Type := Option (Bool × Unit)
noncomputable def E : Env := { tt := tt, ctx := [], nt := 24, ann := [] }
noncomputable def fin : ASt → R := Kret E Try.f34.results.toList ps rs
noncomputable def Se (a : api_FactV) (b : api_FactV) : R :=
  cond (decide (a.2.2.2.2.2.1 > b.2.2.2.2.2.1))
    (some (true, ()))
    (cond (a.2.2.2.2.2.1 == b.2.2.2.2.2.1)
      (some (decide (a.1 > b.1), ()))
      (some (false, ())))
theorem se (x : (argTy ps).den) : run E (lim E fin) fin depth (bodyOf Try.f34) .ret (entryFrom 0 ps x) = Se x.1 x.2.1 := by kernel_rfl
end facts_known_1
noncomputable def facts_known_1 (a : api_FactV) (b : api_FactV) : facts_known_1.R :=
  facts_known_1.Se a b
namespace facts_known_1
noncomputable def sig : Sig := ⟨ps, rs, fun x => facts_known_1 x.1 x.2.1⟩
theorem val (x : (argTy ps).den) : lim E fin (.code (bodyOf Try.f34) .ret) (entryFrom 0 ps x) = sig.run x := (lim_eq (.code (bodyOf Try.f34) .ret) (entryFrom 0 ps x)).trans (se x)
theorem ok : CallOK Try.prog 34 sig :=
  callOK_of_lim (E := E) mixed tt_ok ctxOk_nil Try.func34 (by kernel_rfl : Try.f34.body = some (bodyOf Try.f34)) Try.ntmps34 (of_decide_eq_true (by kernel_rfl)) (of_decide_eq_true (by kernel_rfl)) (fun x y h => (val x).trans h)
noncomputable def ctxc (n : Nat) : List (Nat × Sig) := []
noncomputable def sigc (n : Nat) : Sig := ⟨ps, rs, fun x => runs (withCtx E (ctxc n)) fin n (.code (bodyOf Try.f34) .ret) (entryFrom 0 ps x)⟩
theorem sigc_le (n : Nat) : ∀ x y, (sigc n).run x = some y → sig.run x = some y := fun x y h => (val x).symm.trans (runs_lim (E := E) (c := ctxc n) ctxLe_nil h)
end facts_known_1
namespace facts_sorted_api_Fact_add_facts_known_1
abbrev R : Type := Option (List api_FactV)
noncomputable def E : Env := { tt := tt, ctx := [(34, facts_known_1.sig)], nt := 61, ann := [(4, [(0, .var [(0, .keep), (1, .keep)]), (3, .keep), (4, .keep)]), (1000002, [(0, .var [(0, .keep), (1, .keep)]), (3, .keep), (4, .keep)])] }
noncomputable def c0 : Code := sub [1, 1, 1] (bodyOf Try.f35)
noncomputable def c1 : Code := sub [1, 1, 0, 0, 0] (bodyOf Try.f35)
noncomputable def K3 : Kont := .seq c0 .ret
noncomputable def K4 : Kont := .blk 0 K3
noncomputable def fin : ASt → R := svRet api_Fact 34
def tJ0 (s_0 : List api_FactV) (x_3 : api_FactV) (at_4 : Int) : ASt := ⟨[(4, .one (.val (.int .i64) at_4)), (3, .one (.optr 3 0 [])), (0, .one (.vptr 10000 api_Fact_ 0))], [(3, some ⟨.free, api_Fact, [x_3]⟩), (10000, some ⟨.var [(0, .own 100000), (1, .fn 34 [])], svT, []⟩), (100000, some ⟨.free, api_Fact, s_0⟩)]⟩
def tL1 (s_0 : List api_FactV) (x_3 : api_FactV) (at_4 : Int) : ASt := ⟨[(4, .one (.val (.int .i64) at_4)), (3, .one (.optr 3 0 [])), (0, .one (.vptr 10000 api_Fact_ 0))], [(3, some ⟨.free, api_Fact, [x_3]⟩), (10000, some ⟨.var [(0, .own 100000), (1, .fn 34 [])], svT, []⟩), (100000, some ⟨.free, api_Fact, s_0⟩)]⟩
noncomputable def J0 (s_0 : List api_FactV) (x_3 : api_FactV) (at_4 : Int) : R := lim E fin (.code c0 .ret) (tJ0 s_0 x_3 at_4)
noncomputable def L1 (s_0 : List api_FactV) (x_3 : api_FactV) (at_4 : Int) : R := lim E fin (.loop c1 K4) (tL1 s_0 x_3 at_4)
noncomputable def SJ0 (s_0 : List api_FactV) (x_3 : api_FactV) (at_4 : Int) : R :=
  cond (decide ((s_0.length + 1) * 72 ≤ room) && decide (0 < Ty.nc (.pair (.int .i64) (.pair (.int .i64) (.pair (.int .i64) (.pair (.pair (.int .i64) (.pair (.int .i64) (.pair (.int .i64) .unit))) (.pair (.pair (.int .i64) (.pair (.int .i64) .unit)) (.pair (.int .i64) .unit))))))))
    (cond (decide ((0 : Int) ≤ IntKind.i64.wrap (at_4 + 1)) && (decide ((IntKind.i64.wrap (at_4 + 1) : Int) ≤ ((s_0 ++ [x_3]).length : Int)) && decide (((s_0 ++ [x_3]).length : Int) ≤ ((s_0 ++ [x_3]).length : Int))))
      (cond (decide ((0 : Int) ≤ at_4) && (decide ((at_4 : Int) ≤ ((s_0 ++ [x_3]).length : Int)) && decide (((s_0 ++ [x_3]).length : Int) ≤ ((s_0 ++ [x_3]).length : Int))))
        (cond (decide (0 ≤ at_4) && decide (at_4 < (((s_0 ++ [x_3]).take ((IntKind.i64.wrap (at_4 + 1)).toNat) ++ ((((s_0 ++ [x_3]).drop at_4.toNat).take ((s_0 ++ [x_3]).length - at_4.toNat)).take ((s_0 ++ [x_3]).length - (IntKind.i64.wrap (at_4 + 1)).toNat) ++ (s_0 ++ [x_3]).drop ((IntKind.i64.wrap (at_4 + 1)).toNat + (min ((s_0 ++ [x_3]).length - (IntKind.i64.wrap (at_4 + 1)).toNat) ((((s_0 ++ [x_3]).drop at_4.toNat).take ((s_0 ++ [x_3]).length - at_4.toNat)).length))))).length : Int)))
          (some (((s_0 ++ [x_3]).take ((IntKind.i64.wrap (at_4 + 1)).toNat) ++ ((((s_0 ++ [x_3]).drop at_4.toNat).take ((s_0 ++ [x_3]).length - at_4.toNat)).take ((s_0 ++ [x_3]).length - (IntKind.i64.wrap (at_4 + 1)).toNat) ++ (s_0 ++ [x_3]).drop ((IntKind.i64.wrap (at_4 + 1)).toNat + (min ((s_0 ++ [x_3]).length - (IntKind.i64.wrap (at_4 + 1)).toNat) ((((s_0 ++ [x_3]).drop at_4.toNat).take ((s_0 ++ [x_3]).length - at_4.toNat)).length))))).set at_4.toNat x_3))
          none)
        none)
      none)
    none
noncomputable def SL1 (s_0 : List api_FactV) (x_3 : api_FactV) (at_4 : Int) : R :=
  cond (decide (at_4 > 0))
    (cond (decide (0 ≤ IntKind.i64.wrap (at_4 - 1)) && decide (IntKind.i64.wrap (at_4 - 1) < (s_0.length : Int)))
      (Option.bind (facts_known_1 x_3 (s_0.getD ((IntKind.i64.wrap (at_4 - 1)).toNat) (0, 0, 0, (0, 0, 0, ()), (0, 0, ()), 0, ()))) fun x1 =>
      cond x1.1
        (L1 s_0 x_3 (IntKind.i64.wrap (at_4 - 1)))
        (J0 s_0 x_3 at_4))
      none)
    (J0 s_0 x_3 at_4)
noncomputable def Se (s : List api_FactV) (x_1 : api_FactV) : R :=
  L1 s x_1 (s.length : Int)
theorem J0_eq (s_0 x_3 at_4) : J0 s_0 x_3 at_4 = SJ0 s_0 x_3 at_4 := (lim_eq (.code c0 .ret) (tJ0 s_0 x_3 at_4)).trans (by kernel_rfl)
theorem L1_eq (s_0 x_3 at_4) : L1 s_0 x_3 at_4 = SL1 s_0 x_3 at_4 := (lim_eq (.loop c1 K4) (tL1 s_0 x_3 at_4)).trans (by kernel_rfl)
theorem se (s : List api_FactV) (x_1 : api_FactV) : run E (lim E fin) fin depth (bodyOf Try.f35) .ret (svEntry api_Fact api_Fact 34 s x_1) = Se s x_1 := by kernel_rfl
end facts_sorted_api_Fact_add_facts_known_1
noncomputable def facts_sorted_api_Fact_add_facts_known_1 (s : List api_FactV) (x_1 : api_FactV) : facts_sorted_api_Fact_add_facts_known_1.R :=
  facts_sorted_api_Fact_add_facts_known_1.Se s x_1
namespace facts_sorted_api_Fact_add_facts_known_1
noncomputable def sig : SSig := ⟨api_Fact, api_Fact, 34, fun l y => facts_sorted_api_Fact_add_facts_known_1 l y⟩
theorem val (s : List api_FactV) (x_1 : api_FactV) : lim E fin (.code (bodyOf Try.f35) .ret) (svEntry api_Fact api_Fact 34 s x_1) = facts_sorted_api_Fact_add_facts_known_1 s x_1 := (lim_eq (.code (bodyOf Try.f35) .ret) (svEntry api_Fact api_Fact 34 s x_1)).trans (se s x_1)
theorem ok : SvOK Try.prog 35 sig :=
  svOK_of_lim (E := E) mixed tt_ok (ctxOk_cons ctxOk_nil facts_known_1.ok Try.func34 (by kernel_rfl) (by kernel_rfl)) Try.func35 (by kernel_rfl : Try.f35.body = some (bodyOf Try.f35)) Try.ntmps35 (of_decide_eq_true (by kernel_rfl)) (by kernel_rfl) (fun l y m h => (val l y).trans h)
noncomputable def ctxc (n : Nat) : List (Nat × Sig) := [(34, facts_known_1.sigc n)]
noncomputable def sigc (n : Nat) : SSig := ⟨api_Fact, api_Fact, 34, fun l y => runs (withCtx E (ctxc n)) fin n (.code (bodyOf Try.f35) .ret) (svEntry api_Fact api_Fact 34 l y)⟩
theorem sigc_le (n : Nat) : ∀ l y m, (sigc n).run l y = some m → sig.run l y = some m := fun l y m h => (val l y).symm.trans (runs_lim (E := E) (c := ctxc n) (ctxLe_cons ctxLe_nil (facts_known_1.sigc_le n)) h)
end facts_sorted_api_Fact_add_facts_known_1
namespace facts_known
abbrev ps : List PM := [.pure (.sl api_Fact), .pure (.int .i64), .pure (.int .i64), .pure (.int .i64)]
abbrev rs : List RM := [.own api_Fact]
abbrev R : Type := Option (List api_FactV × Unit)
noncomputable def E : Env := { tt := tt, ctx := [], nt := 40, ann := [(1000003, [(1, .keep), (2, .keep), (3, .keep), (9, .var [(0, .own api_Fact), (1, .keep)]), (13, .keep), (14, .keep), (15, .keep)]), (2000009, []), (2000012, [])], sv := [(35, facts_sorted_api_Fact_add_facts_known_1.sig)] }
noncomputable def c0 : Code := sub [1, 1, 1] (bodyOf Try.f25)
noncomputable def c1 : Code := sub [1, 1, 0, 1, 0, 0] (bodyOf Try.f25)
noncomputable def K3 : Kont := .seq c0 .ret
noncomputable def K5 : Kont := .blk 0 K3
noncomputable def fin : ASt → R := Kret E Try.f25.results.toList ps rs
def tL0 (member : Int) (input : Int) (recorded : Int) (s_0 : List api_FactV) (v_13 : List api_FactV) (v_14 : Int) (v_15 : Int) : ASt := ⟨[(15, .one (.val (.int .i64) v_15)), (14, .one (.val (.int .i64) v_14)), (13, .one (.val (.sl api_Fact) v_13)), (9, .one (.vptr 9 api_Fact_ 0)), (3, .one (.val (.int .i64) recorded)), (2, .one (.val (.int .i64) input)), (1, .one (.val (.int .i64) member))], [(9, some ⟨.var [(0, .own 100576), (1, .fn 34 [])], api_Fact_, []⟩), (100576, some ⟨.free, api_Fact, s_0⟩)]⟩
noncomputable def L0 (member : Int) (input : Int) (recorded : Int) (s_0 : List api_FactV) (v_13 : List api_FactV) (v_14 : Int) (v_15 : Int) : R := lim E fin (.loop c1 K5) (tL0 member input recorded s_0 v_13 v_14 v_15)
noncomputable def SL0 (member : Int) (input : Int) (recorded : Int) (s_0 : List api_FactV) (v_13 : List api_FactV) (v_14 : Int) (v_15 : Int) : R :=
  cond (decide (v_15 < v_14))
    (Option.bind (idx v_13 v_15) fun x1 =>
    cond (x1.2.1 == member)
      (cond (x1.2.2.1 == input)
        (cond (decide (x1.2.2.2.2.2.1 ≤ recorded))
          (Option.bind (facts_sorted_api_Fact_add_facts_known_1 s_0 x1) fun x2 =>
          L0 member input recorded x2 v_13 v_14 (IntKind.i64.wrap (v_15 + 1)))
          (L0 member input recorded s_0 v_13 v_14 (IntKind.i64.wrap (v_15 + 1))))
        (L0 member input recorded s_0 v_13 v_14 (IntKind.i64.wrap (v_15 + 1))))
      (L0 member input recorded s_0 v_13 v_14 (IntKind.i64.wrap (v_15 + 1))))
    (some (s_0, ()))
noncomputable def Se (l : List api_FactV) (member : Int) (input : Int) (recorded : Int) : R :=
  L0 member input recorded [] l (l.length : Int) 0
theorem L0_eq (member input recorded s_0 v_13 v_14 v_15) : L0 member input recorded s_0 v_13 v_14 v_15 = SL0 member input recorded s_0 v_13 v_14 v_15 := (lim_eq (.loop c1 K5) (tL0 member input recorded s_0 v_13 v_14 v_15)).trans (by kernel_rfl)
theorem se (x : (argTy ps).den) : run E (lim E fin) fin depth (bodyOf Try.f25) .ret (entryFrom 0 ps x) = Se x.1 x.2.1 x.2.2.1 x.2.2.2.1 := by kernel_rfl
end facts_known
noncomputable def facts_known (l : List api_FactV) (member : Int) (input : Int) (recorded : Int) : facts_known.R :=
  facts_known.Se l member input recorded
namespace facts_known
noncomputable def sig : Sig := ⟨ps, rs, fun x => facts_known x.1 x.2.1 x.2.2.1 x.2.2.2.1⟩
theorem val (x : (argTy ps).den) : lim E fin (.code (bodyOf Try.f25) .ret) (entryFrom 0 ps x) = sig.run x := (lim_eq (.code (bodyOf Try.f25) .ret) (entryFrom 0 ps x)).trans (se x)
theorem ok : CallOK Try.prog 25 sig :=
  callOK_of_lim (E := E) mixed tt_ok ctxOk_nil Try.func25 (by kernel_rfl : Try.f25.body = some (bodyOf Try.f25)) Try.ntmps25 (of_decide_eq_true (by kernel_rfl)) (of_decide_eq_true (by kernel_rfl)) (fun x y h => (val x).trans h) (hV := (svsOk_cons svsOk_nil facts_sorted_api_Fact_add_facts_known_1.ok Try.func35 (by kernel_rfl) (by kernel_rfl)))
noncomputable def ctxc (n : Nat) : List (Nat × Sig) := []
noncomputable def svc (n : Nat) : List (Nat × SSig) := [(35, facts_sorted_api_Fact_add_facts_known_1.sigc n)]
noncomputable def sigc (n : Nat) : Sig := ⟨ps, rs, fun x => runs (withCS E (ctxc n) (svc n)) fin n (.code (bodyOf Try.f25) .ret) (entryFrom 0 ps x)⟩
theorem sigc_le (n : Nat) : ∀ x y, (sigc n).run x = some y → sig.run x = some y := fun x y h => (val x).symm.trans (runs_lim2 (E := E) (c := ctxc n) (v := svc n) ctxLe_nil (svLe_cons svLe_nil (facts_sorted_api_Fact_add_facts_known_1.sigc_le n)) h)
end facts_known
namespace daterange_Valid
abbrev ps : List PM := [.pure api_DateRange]
abbrev rs : List RM := [.pure .bool]
abbrev R : Type := Option (Bool × Unit)
noncomputable def E : Env := { tt := tt, ctx := [], nt := 18, ann := [] }
noncomputable def fin : ASt → R := Kret E Try.f31.results.toList ps rs
noncomputable def Se (r_0 : api_DateRangeV) : R :=
  cond (decide (0 ≤ r_0.1))
    (cond (decide (r_0.1 ≤ r_0.2.1))
      (some (decide (r_0.2.1 ≤ 109573), ()))
      (some (false, ())))
    (some (false, ()))
theorem se (x : (argTy ps).den) : run E (lim E fin) fin depth (bodyOf Try.f31) .ret (entryFrom 0 ps x) = Se x.1 := by kernel_rfl
end daterange_Valid
noncomputable def daterange_Valid (r_0 : api_DateRangeV) : daterange_Valid.R :=
  daterange_Valid.Se r_0
namespace daterange_Valid
noncomputable def sig : Sig := ⟨ps, rs, fun x => daterange_Valid x.1⟩
theorem val (x : (argTy ps).den) : lim E fin (.code (bodyOf Try.f31) .ret) (entryFrom 0 ps x) = sig.run x := (lim_eq (.code (bodyOf Try.f31) .ret) (entryFrom 0 ps x)).trans (se x)
theorem ok : CallOK Try.prog 31 sig :=
  callOK_of_lim (E := E) mixed tt_ok ctxOk_nil Try.func31 (by kernel_rfl : Try.f31.body = some (bodyOf Try.f31)) Try.ntmps31 (of_decide_eq_true (by kernel_rfl)) (of_decide_eq_true (by kernel_rfl)) (fun x y h => (val x).trans h)
noncomputable def ctxc (n : Nat) : List (Nat × Sig) := []
noncomputable def sigc (n : Nat) : Sig := ⟨ps, rs, fun x => runs (withCtx E (ctxc n)) fin n (.code (bodyOf Try.f31) .ret) (entryFrom 0 ps x)⟩
theorem sigc_le (n : Nat) : ∀ x y, (sigc n).run x = some y → sig.run x = some y := fun x y h => (val x).symm.trans (runs_lim (E := E) (c := ctxc n) ctxLe_nil h)
end daterange_Valid
namespace daterange_Contains
abbrev ps : List PM := [.pure api_DateRange, .pure (.int .i64)]
abbrev rs : List RM := [.pure .bool]
abbrev R : Type := Option (Bool × Unit)
noncomputable def E : Env := { tt := tt, ctx := [(31, daterange_Valid.sig)], nt := 19, ann := [] }
noncomputable def fin : ASt → R := Kret E Try.f33.results.toList ps rs
noncomputable def Se (r_0 : api_DateRangeV) (date : Int) : R :=
  Option.bind (daterange_Valid r_0) fun x1 =>
  cond x1.1
    (cond (decide (r_0.1 ≤ date))
      (some (decide (date < r_0.2.1), ()))
      (some (false, ())))
    (some (false, ()))
theorem se (x : (argTy ps).den) : run E (lim E fin) fin depth (bodyOf Try.f33) .ret (entryFrom 0 ps x) = Se x.1 x.2.1 := by kernel_rfl
end daterange_Contains
noncomputable def daterange_Contains (r_0 : api_DateRangeV) (date : Int) : daterange_Contains.R :=
  daterange_Contains.Se r_0 date
namespace daterange_Contains
noncomputable def sig : Sig := ⟨ps, rs, fun x => daterange_Contains x.1 x.2.1⟩
theorem val (x : (argTy ps).den) : lim E fin (.code (bodyOf Try.f33) .ret) (entryFrom 0 ps x) = sig.run x := (lim_eq (.code (bodyOf Try.f33) .ret) (entryFrom 0 ps x)).trans (se x)
theorem ok : CallOK Try.prog 33 sig :=
  callOK_of_lim (E := E) mixed tt_ok (ctxOk_cons ctxOk_nil daterange_Valid.ok Try.func31 (by kernel_rfl) (by kernel_rfl)) Try.func33 (by kernel_rfl : Try.f33.body = some (bodyOf Try.f33)) Try.ntmps33 (of_decide_eq_true (by kernel_rfl)) (of_decide_eq_true (by kernel_rfl)) (fun x y h => (val x).trans h)
noncomputable def ctxc (n : Nat) : List (Nat × Sig) := [(31, daterange_Valid.sigc n)]
noncomputable def sigc (n : Nat) : Sig := ⟨ps, rs, fun x => runs (withCtx E (ctxc n)) fin n (.code (bodyOf Try.f33) .ret) (entryFrom 0 ps x)⟩
theorem sigc_le (n : Nat) : ∀ x y, (sigc n).run x = some y → sig.run x = some y := fun x y h => (val x).symm.trans (runs_lim (E := E) (c := ctxc n) (ctxLe_cons ctxLe_nil (daterange_Valid.sigc_le n)) h)
end daterange_Contains
namespace facts_at
abbrev ps : List PM := [.pure (.sl api_Fact), .pure (.int .i64)]
abbrev rs : List RM := [.pure api_Value, .pure .bool]
abbrev R : Type := Option (api_ValueV × Bool × Unit)
noncomputable def E : Env := { tt := tt, ctx := [(33, daterange_Contains.sig)], nt := 22, ann := [(1000002, [(1, .keep), (4, .keep), (8, .keep), (9, .keep), (10, .keep)])] }
noncomputable def c0 : Code := sub [1, 1] (bodyOf Try.f24)
noncomputable def c1 : Code := sub [1, 0, 1, 0, 0] (bodyOf Try.f24)
noncomputable def K2 : Kont := .seq c0 .ret
noncomputable def K4 : Kont := .blk 0 K2
noncomputable def fin : ASt → R := Kret E Try.f24.results.toList ps rs
def tL0 (date : Int) (v_4 : api_ValueV) (v_8 : List api_FactV) (v_9 : Int) (v_10 : Int) : ASt := ⟨[(10, .one (.val (.int .i64) v_10)), (9, .one (.val (.int .i64) v_9)), (8, .one (.val (.sl api_Fact) v_8)), (4, .one (.optr 4 0 [])), (1, .one (.val (.int .i64) date))], [(4, some ⟨.free, api_Value, [v_4]⟩)]⟩
noncomputable def L0 (date : Int) (v_4 : api_ValueV) (v_8 : List api_FactV) (v_9 : Int) (v_10 : Int) : R := lim E fin (.loop c1 K4) (tL0 date v_4 v_8 v_9 v_10)
noncomputable def SL0 (date : Int) (v_4 : api_ValueV) (v_8 : List api_FactV) (v_9 : Int) (v_10 : Int) : R :=
  cond (decide (v_10 < v_9))
    (Option.bind (idx v_8 v_10) fun x1 =>
    Option.bind (daterange_Contains x1.2.2.2.2.1 date) fun x2 =>
    cond x2.1
      (some (x1.2.2.2.1, true, ()))
      (L0 date v_4 v_8 v_9 (IntKind.i64.wrap (v_10 + 1))))
    (some ((0, 0, 0, ()), false, ()))
noncomputable def Se (l : List api_FactV) (date : Int) : R :=
  L0 date (0, 0, 0, ()) l (l.length : Int) 0
theorem L0_eq (date v_4 v_8 v_9 v_10) : L0 date v_4 v_8 v_9 v_10 = SL0 date v_4 v_8 v_9 v_10 := (lim_eq (.loop c1 K4) (tL0 date v_4 v_8 v_9 v_10)).trans (by kernel_rfl)
theorem se (x : (argTy ps).den) : run E (lim E fin) fin depth (bodyOf Try.f24) .ret (entryFrom 0 ps x) = Se x.1 x.2.1 := by kernel_rfl
end facts_at
noncomputable def facts_at (l : List api_FactV) (date : Int) : facts_at.R :=
  facts_at.Se l date
namespace facts_at
noncomputable def sig : Sig := ⟨ps, rs, fun x => facts_at x.1 x.2.1⟩
theorem val (x : (argTy ps).den) : lim E fin (.code (bodyOf Try.f24) .ret) (entryFrom 0 ps x) = sig.run x := (lim_eq (.code (bodyOf Try.f24) .ret) (entryFrom 0 ps x)).trans (se x)
theorem ok : CallOK Try.prog 24 sig :=
  callOK_of_lim (E := E) mixed tt_ok (ctxOk_cons ctxOk_nil daterange_Contains.ok Try.func33 (by kernel_rfl) (by kernel_rfl)) Try.func24 (by kernel_rfl : Try.f24.body = some (bodyOf Try.f24)) Try.ntmps24 (of_decide_eq_true (by kernel_rfl)) (of_decide_eq_true (by kernel_rfl)) (fun x y h => (val x).trans h)
noncomputable def ctxc (n : Nat) : List (Nat × Sig) := [(33, daterange_Contains.sigc n)]
noncomputable def sigc (n : Nat) : Sig := ⟨ps, rs, fun x => runs (withCtx E (ctxc n)) fin n (.code (bodyOf Try.f24) .ret) (entryFrom 0 ps x)⟩
theorem sigc_le (n : Nat) : ∀ x y, (sigc n).run x = some y → sig.run x = some y := fun x y h => (val x).symm.trans (runs_lim (E := E) (c := ctxc n) (ctxLe_cons ctxLe_nil (daterange_Contains.sigc_le n)) h)
end facts_at
namespace facts_AsOf
abbrev ps : List PM := [.pure (.sl api_Fact), .pure (.int .i64), .pure (.int .i64), .pure (.int .i64), .pure (.int .i64)]
abbrev rs : List RM := [.pure api_Value, .pure .bool]
abbrev R : Type := Option (api_ValueV × Bool × Unit)
noncomputable def E : Env := { tt := tt, ctx := [(25, facts_known.sig), (24, facts_at.sig)], nt := 21, ann := [] }
noncomputable def fin : ASt → R := Kret E Try.f11.results.toList ps rs
noncomputable def Se (l : List api_FactV) (member : Int) (input : Int) (date : Int) (recorded : Int) : R :=
  Option.bind (facts_known l member input recorded) fun x1 =>
  Option.bind (facts_at x1.1 date) fun x2 =>
  some (x2.1, x2.2.1, ())
theorem se (x : (argTy ps).den) : run E (lim E fin) fin depth (bodyOf Try.f11) .ret (entryFrom 0 ps x) = Se x.1 x.2.1 x.2.2.1 x.2.2.2.1 x.2.2.2.2.1 := by kernel_rfl
end facts_AsOf
noncomputable def facts_AsOf (l : List api_FactV) (member : Int) (input : Int) (date : Int) (recorded : Int) : facts_AsOf.R :=
  facts_AsOf.Se l member input date recorded
namespace facts_AsOf
noncomputable def sig : Sig := ⟨ps, rs, fun x => facts_AsOf x.1 x.2.1 x.2.2.1 x.2.2.2.1 x.2.2.2.2.1⟩
theorem val (x : (argTy ps).den) : lim E fin (.code (bodyOf Try.f11) .ret) (entryFrom 0 ps x) = sig.run x := (lim_eq (.code (bodyOf Try.f11) .ret) (entryFrom 0 ps x)).trans (se x)
theorem ok : CallOK Try.prog 11 sig :=
  callOK_of_lim (E := E) mixed tt_ok (ctxOk_cons (ctxOk_cons ctxOk_nil facts_at.ok Try.func24 (by kernel_rfl) (by kernel_rfl)) facts_known.ok Try.func25 (by kernel_rfl) (by kernel_rfl)) Try.func11 (by kernel_rfl : Try.f11.body = some (bodyOf Try.f11)) Try.ntmps11 (of_decide_eq_true (by kernel_rfl)) (of_decide_eq_true (by kernel_rfl)) (fun x y h => (val x).trans h)
noncomputable def ctxc (n : Nat) : List (Nat × Sig) := [(25, facts_known.sigc n), (24, facts_at.sigc n)]
noncomputable def sigc (n : Nat) : Sig := ⟨ps, rs, fun x => runs (withCtx E (ctxc n)) fin n (.code (bodyOf Try.f11) .ret) (entryFrom 0 ps x)⟩
theorem sigc_le (n : Nat) : ∀ x y, (sigc n).run x = some y → sig.run x = some y := fun x y h => (val x).symm.trans (runs_lim (E := E) (c := ctxc n) (ctxLe_cons (ctxLe_cons ctxLe_nil (facts_at.sigc_le n)) (facts_known.sigc_le n)) h)
end facts_AsOf
namespace facts_check
abbrev ps : List PM := [.pure api_Fact]
abbrev rs : List RM := [.pure (.int .i64)]
abbrev R : Type := Option (Int × Unit)
noncomputable def E : Env := { tt := tt, ctx := [(31, daterange_Valid.sig)], nt := 63, ann := [(6, [(1, .keep), (3, .keep)]), (12, [(1, .keep), (19, .keep)])] }
noncomputable def c0 : Code := sub [1, 1] (bodyOf Try.f20)
noncomputable def c1 : Code := sub [1, 0, 0, 1] (bodyOf Try.f20)
noncomputable def c2 : Code := sub [1, 0, 0, 1, 1, 1] (bodyOf Try.f20)
noncomputable def K2 : Kont := .seq c0 .ret
noncomputable def K3 : Kont := .blk 0 K2
noncomputable def fin : ASt → R := Kret E Try.f20.results.toList ps rs
def tJ0 (f : api_FactV) (v_3 : Bool) : ASt := ⟨[(3, .one (.val .bool v_3)), (1, .one (.optr 1 0 []))], [(1, some ⟨.free, api_Fact, [f]⟩)]⟩
def tJ1 (f : api_FactV) (v_19 : Bool) : ASt := ⟨[(19, .one (.val .bool v_19)), (1, .one (.optr 1 0 []))], [(1, some ⟨.free, api_Fact, [f]⟩)]⟩
noncomputable def J0 (f : api_FactV) (v_3 : Bool) : R := lim E fin (.code c1 K3) (tJ0 f v_3)
noncomputable def J1 (f : api_FactV) (v_19 : Bool) : R := lim E fin (.code c2 K3) (tJ1 f v_19)
noncomputable def SJ0 (f : api_FactV) (v_3 : Bool) : R :=
  cond v_3
    (some (3, ()))
    (cond (f.2.1 == (-1))
      (cond (f.2.2.1 == (-1))
        (J1 f (f.2.2.1 == (-1)))
        (Option.bind (daterange_Valid f.2.2.2.2.1) fun x1 =>
        cond (!x1.1)
          (J1 f (!x1.1))
          (cond (f.2.2.2.2.1.1 == f.2.2.2.2.1.2.1)
            (J1 f (f.2.2.2.2.1.1 == f.2.2.2.2.1.2.1))
            (cond (decide (f.2.2.2.2.2.1 < 0))
              (J1 f (decide (f.2.2.2.2.2.1 < 0)))
              (J1 f (decide (f.2.2.2.2.2.1 > 109572)))))))
      (Option.bind (daterange_Valid f.2.2.2.2.1) fun x2 =>
      cond (!x2.1)
        (J1 f (!x2.1))
        (cond (f.2.2.2.2.1.1 == f.2.2.2.2.1.2.1)
          (J1 f (f.2.2.2.2.1.1 == f.2.2.2.2.1.2.1))
          (cond (decide (f.2.2.2.2.2.1 < 0))
            (J1 f (decide (f.2.2.2.2.2.1 < 0)))
            (J1 f (decide (f.2.2.2.2.2.1 > 109572)))))))
noncomputable def SJ1 (f : api_FactV) (v_19 : Bool) : R :=
  cond v_19
    (some (3, ()))
    (cond (decide (f.2.2.2.1.1 < 1))
      (cond (decide (f.2.2.2.1.1 < 1))
        (some (8, ()))
        (some (0, ())))
      (cond (decide (f.2.2.2.1.1 > 6))
        (cond (decide (f.2.2.2.1.1 > 6))
          (some (8, ()))
          (some (0, ())))
        (cond (f.2.2.1 == (-1))
          (cond (f.2.2.2.1.1 != 1)
            (some (8, ()))
            (some (0, ())))
          (some (0, ())))))
noncomputable def Se (f : api_FactV) : R :=
  cond (decide (f.1 < 0))
    (J0 f (decide (f.1 < 0)))
    (cond (decide (f.2.1 < (-1)))
      (J0 f (decide (f.2.1 < (-1))))
      (cond (decide (f.2.1 ≥ 8))
        (J0 f (decide (f.2.1 ≥ 8)))
        (cond (decide (f.2.2.1 < (-1)))
          (J0 f (decide (f.2.2.1 < (-1))))
          (J0 f (decide (f.2.2.1 ≥ 12))))))
theorem J0_eq (f v_3) : J0 f v_3 = SJ0 f v_3 := (lim_eq (.code c1 K3) (tJ0 f v_3)).trans (by kernel_rfl)
theorem J1_eq (f v_19) : J1 f v_19 = SJ1 f v_19 := (lim_eq (.code c2 K3) (tJ1 f v_19)).trans (by kernel_rfl)
theorem se (x : (argTy ps).den) : run E (lim E fin) fin depth (bodyOf Try.f20) .ret (entryFrom 0 ps x) = Se x.1 := by kernel_rfl
end facts_check
noncomputable def facts_check (f : api_FactV) : facts_check.R :=
  facts_check.Se f
namespace facts_check
noncomputable def sig : Sig := ⟨ps, rs, fun x => facts_check x.1⟩
theorem val (x : (argTy ps).den) : lim E fin (.code (bodyOf Try.f20) .ret) (entryFrom 0 ps x) = sig.run x := (lim_eq (.code (bodyOf Try.f20) .ret) (entryFrom 0 ps x)).trans (se x)
theorem ok : CallOK Try.prog 20 sig :=
  callOK_of_lim (E := E) mixed tt_ok (ctxOk_cons ctxOk_nil daterange_Valid.ok Try.func31 (by kernel_rfl) (by kernel_rfl)) Try.func20 (by kernel_rfl : Try.f20.body = some (bodyOf Try.f20)) Try.ntmps20 (of_decide_eq_true (by kernel_rfl)) (of_decide_eq_true (by kernel_rfl)) (fun x y h => (val x).trans h)
noncomputable def ctxc (n : Nat) : List (Nat × Sig) := [(31, daterange_Valid.sigc n)]
noncomputable def sigc (n : Nat) : Sig := ⟨ps, rs, fun x => runs (withCtx E (ctxc n)) fin n (.code (bodyOf Try.f20) .ret) (entryFrom 0 ps x)⟩
theorem sigc_le (n : Nat) : ∀ x y, (sigc n).run x = some y → sig.run x = some y := fun x y h => (val x).symm.trans (runs_lim (E := E) (c := ctxc n) (ctxLe_cons ctxLe_nil (daterange_Valid.sigc_le n)) h)
end facts_check
namespace facts_Validate_1
abbrev ps : List PM := [.pure api_Fact, .ptr api_Fact]
abbrev rs : List RM := [.pure .bool]
abbrev R : Type := Option (Bool × api_FactV × Unit)
noncomputable def E : Env := { tt := tt, ctx := [], nt := 9, ann := [] }
noncomputable def fin : ASt → R := Kret E Try.f22.results.toList ps rs
noncomputable def Se (x_0 : api_FactV) (p1 : api_FactV) : R :=
  some ((x_0.1 == p1.1), p1, ())
theorem se (x : (argTy ps).den) : run E (lim E fin) fin depth (bodyOf Try.f22) .ret (entryFrom 0 ps x) = Se x.1 x.2.1 := by kernel_rfl
end facts_Validate_1
noncomputable def facts_Validate_1 (x_0 : api_FactV) (p1 : api_FactV) : facts_Validate_1.R :=
  facts_Validate_1.Se x_0 p1
namespace facts_Validate_1
noncomputable def sig : Sig := ⟨ps, rs, fun x => facts_Validate_1 x.1 x.2.1⟩
theorem val (x : (argTy ps).den) : lim E fin (.code (bodyOf Try.f22) .ret) (entryFrom 0 ps x) = sig.run x := (lim_eq (.code (bodyOf Try.f22) .ret) (entryFrom 0 ps x)).trans (se x)
theorem ok : CallOK Try.prog 22 sig :=
  callOK_of_lim (E := E) mixed tt_ok ctxOk_nil Try.func22 (by kernel_rfl : Try.f22.body = some (bodyOf Try.f22)) Try.ntmps22 (of_decide_eq_true (by kernel_rfl)) (of_decide_eq_true (by kernel_rfl)) (fun x y h => (val x).trans h)
noncomputable def ctxc (n : Nat) : List (Nat × Sig) := []
noncomputable def sigc (n : Nat) : Sig := ⟨ps, rs, fun x => runs (withCtx E (ctxc n)) fin n (.code (bodyOf Try.f22) .ret) (entryFrom 0 ps x)⟩
theorem sigc_le (n : Nat) : ∀ x y, (sigc n).run x = some y → sig.run x = some y := fun x y h => (val x).symm.trans (runs_lim (E := E) (c := ctxc n) ctxLe_nil h)
end facts_Validate_1
namespace slices_IndexFunc_api_Fact_api_Fact_facts_Validate_1
abbrev ps : List PM := [.pure (.sl api_Fact), .ptr api_Fact (some 22)]
abbrev rs : List RM := [.pure (.int .i64)]
abbrev R : Type := Option (Int × api_FactV × Unit)
noncomputable def E : Env := { tt := tt, ctx := [(22, facts_Validate_1.sig)], nt := 19, ann := [(1000002, [(0, .keep), (1, .keep), (7, .keep), (8, .keep)])] }
noncomputable def c0 : Code := sub [1, 1] (bodyOf Try.f32)
noncomputable def c1 : Code := sub [1, 0, 1, 0, 0] (bodyOf Try.f32)
noncomputable def K2 : Kont := .seq c0 .ret
noncomputable def K4 : Kont := .blk 0 K2
noncomputable def fin : ASt → R := Kret E Try.f32.results.toList ps rs
def tL0 (s : List api_FactV) (v_7 : Int) (v_8 : Int) (f_P : api_FactV) : ASt := ⟨[(8, .one (.val (.int .i64) v_8)), (7, .one (.val (.int .i64) v_7)), (1, .one (.fn 22 [10001])), (0, .one (.val (.sl api_Fact) s))], [(10001, some ⟨.fixed, api_Fact, [f_P]⟩)]⟩
noncomputable def L0 (s : List api_FactV) (v_7 : Int) (v_8 : Int) (f_P : api_FactV) : R := lim E fin (.loop c1 K4) (tL0 s v_7 v_8 f_P)
noncomputable def SL0 (s : List api_FactV) (v_7 : Int) (v_8 : Int) (f_P : api_FactV) : R :=
  cond (decide (v_8 < v_7))
    (Option.bind (idx s v_8) fun x1 =>
    Option.bind (facts_Validate_1 x1 f_P) fun x2 =>
    cond x2.1
      (some (v_8, x2.2.1, ()))
      (L0 s v_7 (IntKind.i64.wrap (v_8 + 1)) x2.2.1))
    (some ((-1), f_P, ()))
noncomputable def Se (s : List api_FactV) (f : api_FactV) : R :=
  L0 s (s.length : Int) 0 f
theorem L0_eq (s v_7 v_8 f_P) : L0 s v_7 v_8 f_P = SL0 s v_7 v_8 f_P := (lim_eq (.loop c1 K4) (tL0 s v_7 v_8 f_P)).trans (by kernel_rfl)
theorem se (x : (argTy ps).den) : run E (lim E fin) fin depth (bodyOf Try.f32) .ret (entryFrom 0 ps x) = Se x.1 x.2.1 := by kernel_rfl
end slices_IndexFunc_api_Fact_api_Fact_facts_Validate_1
noncomputable def slices_IndexFunc_api_Fact_api_Fact_facts_Validate_1 (s : List api_FactV) (f : api_FactV) : slices_IndexFunc_api_Fact_api_Fact_facts_Validate_1.R :=
  slices_IndexFunc_api_Fact_api_Fact_facts_Validate_1.Se s f
namespace slices_IndexFunc_api_Fact_api_Fact_facts_Validate_1
noncomputable def sig : Sig := ⟨ps, rs, fun x => slices_IndexFunc_api_Fact_api_Fact_facts_Validate_1 x.1 x.2.1⟩
theorem val (x : (argTy ps).den) : lim E fin (.code (bodyOf Try.f32) .ret) (entryFrom 0 ps x) = sig.run x := (lim_eq (.code (bodyOf Try.f32) .ret) (entryFrom 0 ps x)).trans (se x)
theorem ok : CallOK Try.prog 32 sig :=
  callOK_of_lim (E := E) mixed tt_ok (ctxOk_cons ctxOk_nil facts_Validate_1.ok Try.func22 (by kernel_rfl) (by kernel_rfl)) Try.func32 (by kernel_rfl : Try.f32.body = some (bodyOf Try.f32)) Try.ntmps32 (of_decide_eq_true (by kernel_rfl)) (of_decide_eq_true (by kernel_rfl)) (fun x y h => (val x).trans h)
noncomputable def ctxc (n : Nat) : List (Nat × Sig) := [(22, facts_Validate_1.sigc n)]
noncomputable def sigc (n : Nat) : Sig := ⟨ps, rs, fun x => runs (withCtx E (ctxc n)) fin n (.code (bodyOf Try.f32) .ret) (entryFrom 0 ps x)⟩
theorem sigc_le (n : Nat) : ∀ x y, (sigc n).run x = some y → sig.run x = some y := fun x y h => (val x).symm.trans (runs_lim (E := E) (c := ctxc n) (ctxLe_cons ctxLe_nil (facts_Validate_1.sigc_le n)) h)
end slices_IndexFunc_api_Fact_api_Fact_facts_Validate_1
namespace slices_ContainsFunc_api_Fact_api_Fact_facts_Validate_1
abbrev ps : List PM := [.pure (.sl api_Fact), .ptr api_Fact (some 22)]
abbrev rs : List RM := [.pure .bool]
abbrev R : Type := Option (Bool × api_FactV × Unit)
noncomputable def E : Env := { tt := tt, ctx := [(32, slices_IndexFunc_api_Fact_api_Fact_facts_Validate_1.sig)], nt := 9, ann := [] }
noncomputable def fin : ASt → R := Kret E Try.f21.results.toList ps rs
noncomputable def Se (s : List api_FactV) (f : api_FactV) : R :=
  Option.bind (slices_IndexFunc_api_Fact_api_Fact_facts_Validate_1 s f) fun x1 =>
  some (decide (x1.1 ≥ 0), x1.2.1, ())
theorem se (x : (argTy ps).den) : run E (lim E fin) fin depth (bodyOf Try.f21) .ret (entryFrom 0 ps x) = Se x.1 x.2.1 := by kernel_rfl
end slices_ContainsFunc_api_Fact_api_Fact_facts_Validate_1
noncomputable def slices_ContainsFunc_api_Fact_api_Fact_facts_Validate_1 (s : List api_FactV) (f : api_FactV) : slices_ContainsFunc_api_Fact_api_Fact_facts_Validate_1.R :=
  slices_ContainsFunc_api_Fact_api_Fact_facts_Validate_1.Se s f
namespace slices_ContainsFunc_api_Fact_api_Fact_facts_Validate_1
noncomputable def sig : Sig := ⟨ps, rs, fun x => slices_ContainsFunc_api_Fact_api_Fact_facts_Validate_1 x.1 x.2.1⟩
theorem val (x : (argTy ps).den) : lim E fin (.code (bodyOf Try.f21) .ret) (entryFrom 0 ps x) = sig.run x := (lim_eq (.code (bodyOf Try.f21) .ret) (entryFrom 0 ps x)).trans (se x)
theorem ok : CallOK Try.prog 21 sig :=
  callOK_of_lim (E := E) mixed tt_ok (ctxOk_cons ctxOk_nil slices_IndexFunc_api_Fact_api_Fact_facts_Validate_1.ok Try.func32 (by kernel_rfl) (by kernel_rfl)) Try.func21 (by kernel_rfl : Try.f21.body = some (bodyOf Try.f21)) Try.ntmps21 (of_decide_eq_true (by kernel_rfl)) (of_decide_eq_true (by kernel_rfl)) (fun x y h => (val x).trans h)
noncomputable def ctxc (n : Nat) : List (Nat × Sig) := [(32, slices_IndexFunc_api_Fact_api_Fact_facts_Validate_1.sigc n)]
noncomputable def sigc (n : Nat) : Sig := ⟨ps, rs, fun x => runs (withCtx E (ctxc n)) fin n (.code (bodyOf Try.f21) .ret) (entryFrom 0 ps x)⟩
theorem sigc_le (n : Nat) : ∀ x y, (sigc n).run x = some y → sig.run x = some y := fun x y h => (val x).symm.trans (runs_lim (E := E) (c := ctxc n) (ctxLe_cons ctxLe_nil (slices_IndexFunc_api_Fact_api_Fact_facts_Validate_1.sigc_le n)) h)
end slices_ContainsFunc_api_Fact_api_Fact_facts_Validate_1
namespace facts_Validate
abbrev ps : List PM := [.pure (.sl api_Fact)]
abbrev rs : List RM := [.pure (.int .i64), .pure (.int .i64)]
abbrev R : Type := Option (Int × Int × Unit)
noncomputable def E : Env := { tt := tt, ctx := [(20, facts_check.sig), (21, slices_ContainsFunc_api_Fact_api_Fact_facts_Validate_1.sig)], nt := 30, ann := [(1000004, [(0, .keep), (10, .keep), (11, .keep), (12, .keep)])] }
noncomputable def c0 : Code := sub [1, 1, 1] (bodyOf Try.f9)
noncomputable def c1 : Code := sub [1, 1, 0, 1, 0, 0] (bodyOf Try.f9)
noncomputable def K5 : Kont := .seq c0 .ret
noncomputable def K7 : Kont := .blk 0 K5
noncomputable def fin : ASt → R := Kret E Try.f9.results.toList ps rs
def tL0 (l : List api_FactV) (v_10 : List api_FactV) (v_11 : Int) (v_12 : Int) : ASt := ⟨[(12, .one (.val (.int .i64) v_12)), (11, .one (.val (.int .i64) v_11)), (10, .one (.val (.sl api_Fact) v_10)), (0, .one (.val (.sl api_Fact) l))], []⟩
noncomputable def L0 (l : List api_FactV) (v_10 : List api_FactV) (v_11 : Int) (v_12 : Int) : R := lim E fin (.loop c1 K7) (tL0 l v_10 v_11 v_12)
noncomputable def SL0 (l : List api_FactV) (v_10 : List api_FactV) (v_11 : Int) (v_12 : Int) : R :=
  cond (decide (v_12 < v_11))
    (Option.bind (idx v_10 v_12) fun x1 =>
    Option.bind (facts_check x1) fun x2 =>
    cond (x2.1 != 0)
      (some (v_12, x2.1, ()))
      (cond (decide ((0 : Int) ≤ 0) && (decide ((0 : Int) ≤ v_12) && decide (v_12 ≤ (l.length : Int))))
        (Option.bind (slices_ContainsFunc_api_Fact_api_Fact_facts_Validate_1 (l.take v_12.toNat) x1) fun x3 =>
        cond x3.1
          (some (v_12, 7, ()))
          (L0 l v_10 v_11 (IntKind.i64.wrap (v_12 + 1))))
        none))
    (some (0, 0, ()))
noncomputable def Se (l : List api_FactV) : R :=
  cond (decide ((l.length : Int) > 128))
    (some (0, 4, ()))
    (L0 l l (l.length : Int) 0)
theorem L0_eq (l v_10 v_11 v_12) : L0 l v_10 v_11 v_12 = SL0 l v_10 v_11 v_12 := (lim_eq (.loop c1 K7) (tL0 l v_10 v_11 v_12)).trans (by kernel_rfl)
theorem se (x : (argTy ps).den) : run E (lim E fin) fin depth (bodyOf Try.f9) .ret (entryFrom 0 ps x) = Se x.1 := by kernel_rfl
end facts_Validate
noncomputable def facts_Validate (l : List api_FactV) : facts_Validate.R :=
  facts_Validate.Se l
namespace facts_Validate
noncomputable def sig : Sig := ⟨ps, rs, fun x => facts_Validate x.1⟩
theorem val (x : (argTy ps).den) : lim E fin (.code (bodyOf Try.f9) .ret) (entryFrom 0 ps x) = sig.run x := (lim_eq (.code (bodyOf Try.f9) .ret) (entryFrom 0 ps x)).trans (se x)
theorem ok : CallOK Try.prog 9 sig :=
  callOK_of_lim (E := E) mixed tt_ok (ctxOk_cons (ctxOk_cons ctxOk_nil slices_ContainsFunc_api_Fact_api_Fact_facts_Validate_1.ok Try.func21 (by kernel_rfl) (by kernel_rfl)) facts_check.ok Try.func20 (by kernel_rfl) (by kernel_rfl)) Try.func9 (by kernel_rfl : Try.f9.body = some (bodyOf Try.f9)) Try.ntmps9 (of_decide_eq_true (by kernel_rfl)) (of_decide_eq_true (by kernel_rfl)) (fun x y h => (val x).trans h)
noncomputable def ctxc (n : Nat) : List (Nat × Sig) := [(20, facts_check.sigc n), (21, slices_ContainsFunc_api_Fact_api_Fact_facts_Validate_1.sigc n)]
noncomputable def sigc (n : Nat) : Sig := ⟨ps, rs, fun x => runs (withCtx E (ctxc n)) fin n (.code (bodyOf Try.f9) .ret) (entryFrom 0 ps x)⟩
theorem sigc_le (n : Nat) : ∀ x y, (sigc n).run x = some y → sig.run x = some y := fun x y h => (val x).symm.trans (runs_lim (E := E) (c := ctxc n) (ctxLe_cons (ctxLe_cons ctxLe_nil (slices_ContainsFunc_api_Fact_api_Fact_facts_Validate_1.sigc_le n)) (facts_check.sigc_le n)) h)
end facts_Validate
namespace facts_ranges
abbrev ps : List PM := [.pure (.sl api_Fact)]
abbrev rs : List RM := [.own api_DateRange]
abbrev R : Type := Option (List api_DateRangeV × Unit)
noncomputable def E : Env := { tt := tt, ctx := [], nt := 19, ann := [(1000003, [(3, .own api_DateRange), (6, .keep), (7, .keep), (8, .keep)])] }
noncomputable def c0 : Code := sub [1, 1, 1] (bodyOf Try.f28)
noncomputable def c1 : Code := sub [1, 1, 0, 1, 0, 0] (bodyOf Try.f28)
noncomputable def K3 : Kont := .seq c0 .ret
noncomputable def K5 : Kont := .blk 0 K3
noncomputable def fin : ASt → R := Kret E Try.f28.results.toList ps rs
def tL0 (out : List api_DateRangeV) (v_6 : List api_FactV) (v_7 : Int) (v_8 : Int) : ASt := ⟨[(8, .one (.val (.int .i64) v_8)), (7, .one (.val (.int .i64) v_7)), (6, .one (.val (.sl api_Fact) v_6)), (3, .one (.own 3))], [(3, some ⟨.free, api_DateRange, out⟩)]⟩
noncomputable def L0 (out : List api_DateRangeV) (v_6 : List api_FactV) (v_7 : Int) (v_8 : Int) : R := lim E fin (.loop c1 K5) (tL0 out v_6 v_7 v_8)
noncomputable def SL0 (out : List api_DateRangeV) (v_6 : List api_FactV) (v_7 : Int) (v_8 : Int) : R :=
  cond (decide (v_8 < v_7))
    (Option.bind (idx v_6 v_8) fun x1 =>
    cond (decide ((out.length + 1) * 16 ≤ room) && decide (0 < Ty.nc (.pair (.int .i64) (.pair (.int .i64) .unit))))
      (L0 (out ++ [x1.2.2.2.2.1]) v_6 v_7 (IntKind.i64.wrap (v_8 + 1)))
      none)
    (some (out, ()))
noncomputable def Se (l : List api_FactV) : R :=
  L0 [] l (l.length : Int) 0
theorem L0_eq (out v_6 v_7 v_8) : L0 out v_6 v_7 v_8 = SL0 out v_6 v_7 v_8 := (lim_eq (.loop c1 K5) (tL0 out v_6 v_7 v_8)).trans (by kernel_rfl)
theorem se (x : (argTy ps).den) : run E (lim E fin) fin depth (bodyOf Try.f28) .ret (entryFrom 0 ps x) = Se x.1 := by kernel_rfl
end facts_ranges
noncomputable def facts_ranges (l : List api_FactV) : facts_ranges.R :=
  facts_ranges.Se l
namespace facts_ranges
noncomputable def sig : Sig := ⟨ps, rs, fun x => facts_ranges x.1⟩
theorem val (x : (argTy ps).den) : lim E fin (.code (bodyOf Try.f28) .ret) (entryFrom 0 ps x) = sig.run x := (lim_eq (.code (bodyOf Try.f28) .ret) (entryFrom 0 ps x)).trans (se x)
theorem ok : CallOK Try.prog 28 sig :=
  callOK_of_lim (E := E) mixed tt_ok ctxOk_nil Try.func28 (by kernel_rfl : Try.f28.body = some (bodyOf Try.f28)) Try.ntmps28 (of_decide_eq_true (by kernel_rfl)) (of_decide_eq_true (by kernel_rfl)) (fun x y h => (val x).trans h)
noncomputable def ctxc (n : Nat) : List (Nat × Sig) := []
noncomputable def sigc (n : Nat) : Sig := ⟨ps, rs, fun x => runs (withCtx E (ctxc n)) fin n (.code (bodyOf Try.f28) .ret) (entryFrom 0 ps x)⟩
theorem sigc_le (n : Nat) : ∀ x y, (sigc n).run x = some y → sig.run x = some y := fun x y h => (val x).symm.trans (runs_lim (E := E) (c := ctxc n) ctxLe_nil h)
end facts_ranges
namespace daterange_proper
abbrev ps : List PM := [.pure api_DateRange]
abbrev rs : List RM := [.pure .bool]
abbrev R : Type := Option (Bool × Unit)
noncomputable def E : Env := { tt := tt, ctx := [(31, daterange_Valid.sig)], nt := 12, ann := [] }
noncomputable def fin : ASt → R := Kret E Try.f37.results.toList ps rs
noncomputable def Se (r_0 : api_DateRangeV) : R :=
  Option.bind (daterange_Valid r_0) fun x1 =>
  cond x1.1
    (some (decide (r_0.1 < r_0.2.1), ()))
    (some (false, ()))
theorem se (x : (argTy ps).den) : run E (lim E fin) fin depth (bodyOf Try.f37) .ret (entryFrom 0 ps x) = Se x.1 := by kernel_rfl
end daterange_proper
noncomputable def daterange_proper (r_0 : api_DateRangeV) : daterange_proper.R :=
  daterange_proper.Se r_0
namespace daterange_proper
noncomputable def sig : Sig := ⟨ps, rs, fun x => daterange_proper x.1⟩
theorem val (x : (argTy ps).den) : lim E fin (.code (bodyOf Try.f37) .ret) (entryFrom 0 ps x) = sig.run x := (lim_eq (.code (bodyOf Try.f37) .ret) (entryFrom 0 ps x)).trans (se x)
theorem ok : CallOK Try.prog 37 sig :=
  callOK_of_lim (E := E) mixed tt_ok (ctxOk_cons ctxOk_nil daterange_Valid.ok Try.func31 (by kernel_rfl) (by kernel_rfl)) Try.func37 (by kernel_rfl : Try.f37.body = some (bodyOf Try.f37)) Try.ntmps37 (of_decide_eq_true (by kernel_rfl)) (of_decide_eq_true (by kernel_rfl)) (fun x y h => (val x).trans h)
noncomputable def ctxc (n : Nat) : List (Nat × Sig) := [(31, daterange_Valid.sigc n)]
noncomputable def sigc (n : Nat) : Sig := ⟨ps, rs, fun x => runs (withCtx E (ctxc n)) fin n (.code (bodyOf Try.f37) .ret) (entryFrom 0 ps x)⟩
theorem sigc_le (n : Nat) : ∀ x y, (sigc n).run x = some y → sig.run x = some y := fun x y h => (val x).symm.trans (runs_lim (E := E) (c := ctxc n) (ctxLe_cons ctxLe_nil (daterange_Valid.sigc_le n)) h)
end daterange_proper
namespace math_bits_Len64
abbrev ps : List PM := [.pure (.int .u64)]
abbrev rs : List RM := [.pure (.int .i64)]
abbrev R : Type := Option (Int × Unit)
noncomputable def E : Env := { tt := tt, ctx := [], nt := 25, ann := [(4, [(0, .keep), (2, .keep)]), (7, [(0, .keep), (2, .keep)])] }
noncomputable def c0 : Code := sub [1, 1] (bodyOf Try.f52)
noncomputable def c1 : Code := sub [1, 1, 1] (bodyOf Try.f52)
noncomputable def fin : ASt → R := Kret E Try.f52.results.toList ps rs
def tJ0 (x_0 : Int) (n_2 : Int) : ASt := ⟨[(2, .one (.val (.int .i64) n_2)), (0, .one (.val (.int .u64) x_0))], []⟩
def tJ1 (x_0 : Int) (n_2 : Int) : ASt := ⟨[(2, .one (.val (.int .i64) n_2)), (0, .one (.val (.int .u64) x_0))], []⟩
noncomputable def J0 (x_0 : Int) (n_2 : Int) : R := lim E fin (.code c0 .ret) (tJ0 x_0 n_2)
noncomputable def J1 (x_0 : Int) (n_2 : Int) : R := lim E fin (.code c1 .ret) (tJ1 x_0 n_2)
noncomputable def SJ0 (x_0 : Int) (n_2 : Int) : R :=
  cond (decide (x_0 ≥ 65536))
    (J1 (Int.fdiv x_0 (2 ^ (min 16 IntKind.u64.bits))) (IntKind.i64.wrap (n_2 + 16)))
    (J1 x_0 n_2)
noncomputable def SJ1 (x_0 : Int) (n_2 : Int) : R :=
  cond (decide (x_0 ≥ 256))
    (Option.bind (idx ([0, 1, 2, 2, 3, 3, 3, 3, 4, 4, 4, 4, 4, 4, 4, 4, 5, 5, 5, 5, 5, 5, 5, 5, 5, 5, 5, 5, 5, 5, 5, 5, 6, 6, 6, 6, 6, 6, 6, 6, 6, 6, 6, 6, 6, 6, 6, 6, 6, 6, 6, 6, 6, 6, 6, 6, 6, 6, 6, 6, 6, 6, 6, 6, 7, 7, 7, 7, 7, 7, 7, 7, 7, 7, 7, 7, 7, 7, 7, 7, 7, 7, 7, 7, 7, 7, 7, 7, 7, 7, 7, 7, 7, 7, 7, 7, 7, 7, 7, 7, 7, 7, 7, 7, 7, 7, 7, 7, 7, 7, 7, 7, 7, 7, 7, 7, 7, 7, 7, 7, 7, 7, 7, 7, 7, 7, 7, 7, 8, 8, 8, 8, 8, 8, 8, 8, 8, 8, 8, 8, 8, 8, 8, 8, 8, 8, 8, 8, 8, 8, 8, 8, 8, 8, 8, 8, 8, 8, 8, 8, 8, 8, 8, 8, 8, 8, 8, 8, 8, 8, 8, 8, 8, 8, 8, 8, 8, 8, 8, 8, 8, 8, 8, 8, 8, 8, 8, 8, 8, 8, 8, 8, 8, 8, 8, 8, 8, 8, 8, 8, 8, 8, 8, 8, 8, 8, 8, 8, 8, 8, 8, 8, 8, 8, 8, 8, 8, 8, 8, 8, 8, 8, 8, 8, 8, 8, 8, 8, 8, 8, 8, 8, 8, 8, 8, 8, 8, 8, 8, 8, 8, 8, 8, 8, 8, 8, 8, 8, 8, 8, 8, 8, 8, 8, 8, 8] : List UInt8) (IntKind.u8.wrap (Int.fdiv x_0 (2 ^ (min 8 IntKind.u64.bits))))) fun x1 =>
    some (IntKind.i64.wrap ((IntKind.i64.wrap (n_2 + 8)) + (IntKind.i64.wrap (x1.toNat : Int))), ()))
    (Option.bind (idx ([0, 1, 2, 2, 3, 3, 3, 3, 4, 4, 4, 4, 4, 4, 4, 4, 5, 5, 5, 5, 5, 5, 5, 5, 5, 5, 5, 5, 5, 5, 5, 5, 6, 6, 6, 6, 6, 6, 6, 6, 6, 6, 6, 6, 6, 6, 6, 6, 6, 6, 6, 6, 6, 6, 6, 6, 6, 6, 6, 6, 6, 6, 6, 6, 7, 7, 7, 7, 7, 7, 7, 7, 7, 7, 7, 7, 7, 7, 7, 7, 7, 7, 7, 7, 7, 7, 7, 7, 7, 7, 7, 7, 7, 7, 7, 7, 7, 7, 7, 7, 7, 7, 7, 7, 7, 7, 7, 7, 7, 7, 7, 7, 7, 7, 7, 7, 7, 7, 7, 7, 7, 7, 7, 7, 7, 7, 7, 7, 8, 8, 8, 8, 8, 8, 8, 8, 8, 8, 8, 8, 8, 8, 8, 8, 8, 8, 8, 8, 8, 8, 8, 8, 8, 8, 8, 8, 8, 8, 8, 8, 8, 8, 8, 8, 8, 8, 8, 8, 8, 8, 8, 8, 8, 8, 8, 8, 8, 8, 8, 8, 8, 8, 8, 8, 8, 8, 8, 8, 8, 8, 8, 8, 8, 8, 8, 8, 8, 8, 8, 8, 8, 8, 8, 8, 8, 8, 8, 8, 8, 8, 8, 8, 8, 8, 8, 8, 8, 8, 8, 8, 8, 8, 8, 8, 8, 8, 8, 8, 8, 8, 8, 8, 8, 8, 8, 8, 8, 8, 8, 8, 8, 8, 8, 8, 8, 8, 8, 8, 8, 8, 8, 8, 8, 8, 8, 8] : List UInt8) (IntKind.u8.wrap x_0)) fun x2 =>
    some (IntKind.i64.wrap (n_2 + (IntKind.i64.wrap (x2.toNat : Int))), ()))
noncomputable def Se (x_0 : Int) : R :=
  cond (decide (x_0 ≥ 4294967296))
    (J0 (Int.fdiv x_0 (2 ^ (min 32 IntKind.u64.bits))) 32)
    (J0 x_0 0)
theorem J0_eq (x_0 n_2) : J0 x_0 n_2 = SJ0 x_0 n_2 := (lim_eq (.code c0 .ret) (tJ0 x_0 n_2)).trans (by kernel_rfl)
theorem J1_eq (x_0 n_2) : J1 x_0 n_2 = SJ1 x_0 n_2 := (lim_eq (.code c1 .ret) (tJ1 x_0 n_2)).trans (by kernel_rfl)
theorem se (x : (argTy ps).den) : run E (lim E fin) fin depth (bodyOf Try.f52) .ret (entryFrom 0 ps x) = Se x.1 := by kernel_rfl
end math_bits_Len64
noncomputable def math_bits_Len64 (x_0 : Int) : math_bits_Len64.R :=
  math_bits_Len64.Se x_0
namespace math_bits_Len64
noncomputable def sig : Sig := ⟨ps, rs, fun x => math_bits_Len64 x.1⟩
theorem val (x : (argTy ps).den) : lim E fin (.code (bodyOf Try.f52) .ret) (entryFrom 0 ps x) = sig.run x := (lim_eq (.code (bodyOf Try.f52) .ret) (entryFrom 0 ps x)).trans (se x)
theorem ok : CallOK Try.prog 52 sig :=
  callOK_of_lim (E := E) mixed tt_ok ctxOk_nil Try.func52 (by kernel_rfl : Try.f52.body = some (bodyOf Try.f52)) Try.ntmps52 (of_decide_eq_true (by kernel_rfl)) (of_decide_eq_true (by kernel_rfl)) (fun x y h => (val x).trans h)
noncomputable def ctxc (n : Nat) : List (Nat × Sig) := []
noncomputable def sigc (n : Nat) : Sig := ⟨ps, rs, fun x => runs (withCtx E (ctxc n)) fin n (.code (bodyOf Try.f52) .ret) (entryFrom 0 ps x)⟩
theorem sigc_le (n : Nat) : ∀ x y, (sigc n).run x = some y → sig.run x = some y := fun x y h => (val x).symm.trans (runs_lim (E := E) (c := ctxc n) ctxLe_nil h)
end math_bits_Len64
namespace math_bits_Len
abbrev ps : List PM := [.pure (.int .u64)]
abbrev rs : List RM := [.pure (.int .i64)]
abbrev R : Type := Option (Int × Unit)
noncomputable def E : Env := { tt := tt, ctx := [(52, math_bits_Len64.sig)], nt := 8, ann := [] }
noncomputable def fin : ASt → R := Kret E Try.f41.results.toList ps rs
noncomputable def Se (x_0 : Int) : R :=
  Option.bind (math_bits_Len64 x_0) fun x1 =>
  some (x1.1, ())
theorem se (x : (argTy ps).den) : run E (lim E fin) fin depth (bodyOf Try.f41) .ret (entryFrom 0 ps x) = Se x.1 := by kernel_rfl
end math_bits_Len
noncomputable def math_bits_Len (x_0 : Int) : math_bits_Len.R :=
  math_bits_Len.Se x_0
namespace math_bits_Len
noncomputable def sig : Sig := ⟨ps, rs, fun x => math_bits_Len x.1⟩
theorem val (x : (argTy ps).den) : lim E fin (.code (bodyOf Try.f41) .ret) (entryFrom 0 ps x) = sig.run x := (lim_eq (.code (bodyOf Try.f41) .ret) (entryFrom 0 ps x)).trans (se x)
theorem ok : CallOK Try.prog 41 sig :=
  callOK_of_lim (E := E) mixed tt_ok (ctxOk_cons ctxOk_nil math_bits_Len64.ok Try.func52 (by kernel_rfl) (by kernel_rfl)) Try.func41 (by kernel_rfl : Try.f41.body = some (bodyOf Try.f41)) Try.ntmps41 (of_decide_eq_true (by kernel_rfl)) (of_decide_eq_true (by kernel_rfl)) (fun x y h => (val x).trans h)
noncomputable def ctxc (n : Nat) : List (Nat × Sig) := [(52, math_bits_Len64.sigc n)]
noncomputable def sigc (n : Nat) : Sig := ⟨ps, rs, fun x => runs (withCtx E (ctxc n)) fin n (.code (bodyOf Try.f41) .ret) (entryFrom 0 ps x)⟩
theorem sigc_le (n : Nat) : ∀ x y, (sigc n).run x = some y → sig.run x = some y := fun x y h => (val x).symm.trans (runs_lim (E := E) (c := ctxc n) (ctxLe_cons ctxLe_nil (math_bits_Len64.sigc_le n)) h)
end math_bits_Len
namespace cmp_isNaN_int
abbrev ps : List PM := [.pure (.int .i64)]
abbrev rs : List RM := [.pure .bool]
abbrev R : Type := Option (Bool × Unit)
noncomputable def E : Env := { tt := tt, ctx := [], nt := 6, ann := [] }
noncomputable def fin : ASt → R := Kret E Try.f58.results.toList ps rs
noncomputable def Se (x_0 : Int) : R :=
  some ((x_0 != x_0), ())
theorem se (x : (argTy ps).den) : run E (lim E fin) fin depth (bodyOf Try.f58) .ret (entryFrom 0 ps x) = Se x.1 := by kernel_rfl
end cmp_isNaN_int
noncomputable def cmp_isNaN_int (x_0 : Int) : cmp_isNaN_int.R :=
  cmp_isNaN_int.Se x_0
namespace cmp_isNaN_int
noncomputable def sig : Sig := ⟨ps, rs, fun x => cmp_isNaN_int x.1⟩
theorem val (x : (argTy ps).den) : lim E fin (.code (bodyOf Try.f58) .ret) (entryFrom 0 ps x) = sig.run x := (lim_eq (.code (bodyOf Try.f58) .ret) (entryFrom 0 ps x)).trans (se x)
theorem ok : CallOK Try.prog 58 sig :=
  callOK_of_lim (E := E) mixed tt_ok ctxOk_nil Try.func58 (by kernel_rfl : Try.f58.body = some (bodyOf Try.f58)) Try.ntmps58 (of_decide_eq_true (by kernel_rfl)) (of_decide_eq_true (by kernel_rfl)) (fun x y h => (val x).trans h)
noncomputable def ctxc (n : Nat) : List (Nat × Sig) := []
noncomputable def sigc (n : Nat) : Sig := ⟨ps, rs, fun x => runs (withCtx E (ctxc n)) fin n (.code (bodyOf Try.f58) .ret) (entryFrom 0 ps x)⟩
theorem sigc_le (n : Nat) : ∀ x y, (sigc n).run x = some y → sig.run x = some y := fun x y h => (val x).symm.trans (runs_lim (E := E) (c := ctxc n) ctxLe_nil h)
end cmp_isNaN_int
namespace cmp_Less_int
abbrev ps : List PM := [.pure (.int .i64), .pure (.int .i64)]
abbrev rs : List RM := [.pure .bool]
abbrev R : Type := Option (Bool × Unit)
noncomputable def E : Env := { tt := tt, ctx := [(58, cmp_isNaN_int.sig)], nt := 17, ann := [] }
noncomputable def fin : ASt → R := Kret E Try.f48.results.toList ps rs
noncomputable def Se (x_0 : Int) (y : Int) : R :=
  Option.bind (cmp_isNaN_int x_0) fun x1 =>
  cond x1.1
    (Option.bind (cmp_isNaN_int y) fun x2 =>
    cond (!x2.1)
      (some (true, ()))
      (some (decide (x_0 < y), ())))
    (some (decide (x_0 < y), ()))
theorem se (x : (argTy ps).den) : run E (lim E fin) fin depth (bodyOf Try.f48) .ret (entryFrom 0 ps x) = Se x.1 x.2.1 := by kernel_rfl
end cmp_Less_int
noncomputable def cmp_Less_int (x_0 : Int) (y : Int) : cmp_Less_int.R :=
  cmp_Less_int.Se x_0 y
namespace cmp_Less_int
noncomputable def sig : Sig := ⟨ps, rs, fun x => cmp_Less_int x.1 x.2.1⟩
theorem val (x : (argTy ps).den) : lim E fin (.code (bodyOf Try.f48) .ret) (entryFrom 0 ps x) = sig.run x := (lim_eq (.code (bodyOf Try.f48) .ret) (entryFrom 0 ps x)).trans (se x)
theorem ok : CallOK Try.prog 48 sig :=
  callOK_of_lim (E := E) mixed tt_ok (ctxOk_cons ctxOk_nil cmp_isNaN_int.ok Try.func58 (by kernel_rfl) (by kernel_rfl)) Try.func48 (by kernel_rfl : Try.f48.body = some (bodyOf Try.f48)) Try.ntmps48 (of_decide_eq_true (by kernel_rfl)) (of_decide_eq_true (by kernel_rfl)) (fun x y h => (val x).trans h)
noncomputable def ctxc (n : Nat) : List (Nat × Sig) := [(58, cmp_isNaN_int.sigc n)]
noncomputable def sigc (n : Nat) : Sig := ⟨ps, rs, fun x => runs (withCtx E (ctxc n)) fin n (.code (bodyOf Try.f48) .ret) (entryFrom 0 ps x)⟩
theorem sigc_le (n : Nat) : ∀ x y, (sigc n).run x = some y → sig.run x = some y := fun x y h => (val x).symm.trans (runs_lim (E := E) (c := ctxc n) (ctxLe_cons ctxLe_nil (cmp_isNaN_int.sigc_le n)) h)
end cmp_Less_int
namespace slices_insertionSortOrdered_int
abbrev ps : List PM := [.own (.int .i64), .pure (.int .i64), .pure (.int .i64)]
abbrev rs : List RM := []
abbrev R : Type := Option (List Int × Unit)
noncomputable def E : Env := { tt := tt, ctx := [(48, cmp_Less_int.sig)], nt := 49, ann := [(1000001, [(0, .keep), (1, .keep), (2, .keep), (6, .keep)]), (1000004, [(0, .keep), (1, .keep), (2, .keep), (6, .keep), (7, .keep)]), (6, [(0, .keep), (1, .keep), (2, .keep), (6, .keep), (7, .keep)])] }
noncomputable def c0 : Code := sub [1, 0, 0] (bodyOf Try.f42)
noncomputable def c1 : Code := sub [1, 0, 0, 1, 1] (bodyOf Try.f42)
noncomputable def c2 : Code := sub [1, 0, 0, 1, 0, 0, 1, 0, 0] (bodyOf Try.f42)
noncomputable def c3 : Code := sub [1, 0, 0, 1, 0, 0, 1, 0, 0, 1] (bodyOf Try.f42)
noncomputable def K2 : Kont := .blk 0 .ret
noncomputable def K3 : Kont := .loop c0 K2
noncomputable def K6 : Kont := .seq c1 K3
noncomputable def K7 : Kont := .blk 1 K6
noncomputable def K9 : Kont := .blk 2 K7
noncomputable def K10 : Kont := .loop c2 K9
noncomputable def fin : ASt → R := Kret E Try.f42.results.toList ps rs
def tL0 (a : Int) (b : Int) (i : Int) (data_P : List Int) : ASt := ⟨[(6, .one (.val (.int .i64) i)), (2, .one (.val (.int .i64) b)), (1, .one (.val (.int .i64) a)), (0, .one (.own 10000))], [(10000, some ⟨.fixed, .int .i64, data_P⟩)]⟩
def tL1 (a : Int) (b : Int) (i : Int) (j : Int) (data_P : List Int) : ASt := ⟨[(7, .one (.val (.int .i64) j)), (6, .one (.val (.int .i64) i)), (2, .one (.val (.int .i64) b)), (1, .one (.val (.int .i64) a)), (0, .one (.own 10000))], [(10000, some ⟨.fixed, .int .i64, data_P⟩)]⟩
def tJ2 (a : Int) (b : Int) (i : Int) (j : Int) (data_P : List Int) : ASt := ⟨[(7, .one (.val (.int .i64) j)), (6, .one (.val (.int .i64) i)), (2, .one (.val (.int .i64) b)), (1, .one (.val (.int .i64) a)), (0, .one (.own 10000))], [(10000, some ⟨.fixed, .int .i64, data_P⟩)]⟩
noncomputable def L0 (a : Int) (b : Int) (i : Int) (data_P : List Int) : R := lim E fin (.loop c0 K2) (tL0 a b i data_P)
noncomputable def L1 (a : Int) (b : Int) (i : Int) (j : Int) (data_P : List Int) : R := lim E fin (.loop c2 K9) (tL1 a b i j data_P)
noncomputable def J2 (a : Int) (b : Int) (i : Int) (j : Int) (data_P : List Int) : R := lim E fin (.code c3 K10) (tJ2 a b i j data_P)
noncomputable def SL0 (a : Int) (b : Int) (i : Int) (data_P : List Int) : R :=
  cond (decide (i < b))
    (L1 a b i i data_P)
    (some (data_P, ()))
noncomputable def SL1 (a : Int) (b : Int) (i : Int) (j : Int) (data_P : List Int) : R :=
  cond (decide (j > a))
    (cond (decide (0 ≤ j) && decide (j < (data_P.length : Int)))
      (cond (decide (0 ≤ IntKind.i64.wrap (j - 1)) && decide (IntKind.i64.wrap (j - 1) < (data_P.length : Int)))
        (Option.bind (cmp_Less_int (data_P.getD j.toNat 0) (data_P.getD ((IntKind.i64.wrap (j - 1)).toNat) 0)) fun x1 =>
        cond x1.1
          (J2 a b i j data_P)
          (L0 a b (IntKind.i64.wrap (i + 1)) data_P))
        none)
      none)
    (L0 a b (IntKind.i64.wrap (i + 1)) data_P)
noncomputable def SJ2 (a : Int) (b : Int) (i : Int) (j : Int) (data_P : List Int) : R :=
  cond (decide (0 ≤ IntKind.i64.wrap (j - 1)) && decide (IntKind.i64.wrap (j - 1) < (data_P.length : Int)))
    (cond (decide (0 ≤ j) && decide (j < (data_P.length : Int)))
      (cond (decide (0 ≤ j) && decide (j < (data_P.length : Int)))
        (cond (decide (0 ≤ IntKind.i64.wrap (j - 1)) && decide (IntKind.i64.wrap (j - 1) < ((data_P.set j.toNat (data_P.getD ((IntKind.i64.wrap (j - 1)).toNat) 0)).length : Int)))
          (L1 a b i (IntKind.i64.wrap (j - 1)) ((data_P.set j.toNat (data_P.getD ((IntKind.i64.wrap (j - 1)).toNat) 0)).set ((IntKind.i64.wrap (j - 1)).toNat) (data_P.getD j.toNat 0)))
          none)
        none)
      none)
    none
noncomputable def Se (data : List Int) (a : Int) (b : Int) : R :=
  L0 a b (IntKind.i64.wrap (a + 1)) data
theorem L0_eq (a b i data_P) : L0 a b i data_P = SL0 a b i data_P := (lim_eq (.loop c0 K2) (tL0 a b i data_P)).trans (by kernel_rfl)
theorem L1_eq (a b i j data_P) : L1 a b i j data_P = SL1 a b i j data_P := (lim_eq (.loop c2 K9) (tL1 a b i j data_P)).trans (by kernel_rfl)
theorem J2_eq (a b i j data_P) : J2 a b i j data_P = SJ2 a b i j data_P := (lim_eq (.code c3 K10) (tJ2 a b i j data_P)).trans (by kernel_rfl)
theorem se (x : (argTy ps).den) : run E (lim E fin) fin depth (bodyOf Try.f42) .ret (entryFrom 0 ps x) = Se x.1 x.2.1 x.2.2.1 := by kernel_rfl
end slices_insertionSortOrdered_int
noncomputable def slices_insertionSortOrdered_int (data : List Int) (a : Int) (b : Int) : slices_insertionSortOrdered_int.R :=
  slices_insertionSortOrdered_int.Se data a b
namespace slices_insertionSortOrdered_int
noncomputable def sig : Sig := ⟨ps, rs, fun x => slices_insertionSortOrdered_int x.1 x.2.1 x.2.2.1⟩
theorem val (x : (argTy ps).den) : lim E fin (.code (bodyOf Try.f42) .ret) (entryFrom 0 ps x) = sig.run x := (lim_eq (.code (bodyOf Try.f42) .ret) (entryFrom 0 ps x)).trans (se x)
theorem ok : CallOK Try.prog 42 sig :=
  callOK_of_lim (E := E) mixed tt_ok (ctxOk_cons ctxOk_nil cmp_Less_int.ok Try.func48 (by kernel_rfl) (by kernel_rfl)) Try.func42 (by kernel_rfl : Try.f42.body = some (bodyOf Try.f42)) Try.ntmps42 (of_decide_eq_true (by kernel_rfl)) (of_decide_eq_true (by kernel_rfl)) (fun x y h => (val x).trans h)
noncomputable def ctxc (n : Nat) : List (Nat × Sig) := [(48, cmp_Less_int.sigc n)]
noncomputable def sigc (n : Nat) : Sig := ⟨ps, rs, fun x => runs (withCtx E (ctxc n)) fin n (.code (bodyOf Try.f42) .ret) (entryFrom 0 ps x)⟩
theorem sigc_le (n : Nat) : ∀ x y, (sigc n).run x = some y → sig.run x = some y := fun x y h => (val x).symm.trans (runs_lim (E := E) (c := ctxc n) (ctxLe_cons ctxLe_nil (cmp_Less_int.sigc_le n)) h)
end slices_insertionSortOrdered_int
namespace slices_siftDownOrdered_int
abbrev ps : List PM := [.own (.int .i64), .pure (.int .i64), .pure (.int .i64), .pure (.int .i64)]
abbrev rs : List RM := []
abbrev R : Type := Option (List Int × Unit)
noncomputable def E : Env := { tt := tt, ctx := [(48, cmp_Less_int.sig)], nt := 76, ann := [(1000001, [(0, .keep), (2, .keep), (3, .keep), (8, .keep)]), (5, [(0, .keep), (2, .keep), (3, .keep), (8, .keep), (9, .keep)])] }
noncomputable def c0 : Code := sub [1, 0, 0] (bodyOf Try.f53)
noncomputable def c1 : Code := sub [1, 0, 0, 0, 1, 1, 1] (bodyOf Try.f53)
noncomputable def K2 : Kont := .blk 0 .ret
noncomputable def K3 : Kont := .loop c0 K2
noncomputable def K4 : Kont := .blk 1 K3
noncomputable def fin : ASt → R := Kret E Try.f53.results.toList ps rs
def tL0 (hi : Int) (first : Int) (root : Int) (data_P : List Int) : ASt := ⟨[(8, .one (.val (.int .i64) root)), (3, .one (.val (.int .i64) first)), (2, .one (.val (.int .i64) hi)), (0, .one (.own 10000))], [(10000, some ⟨.fixed, .int .i64, data_P⟩)]⟩
def tJ1 (hi : Int) (first : Int) (root : Int) (child : Int) (data_P : List Int) : ASt := ⟨[(9, .one (.val (.int .i64) child)), (8, .one (.val (.int .i64) root)), (3, .one (.val (.int .i64) first)), (2, .one (.val (.int .i64) hi)), (0, .one (.own 10000))], [(10000, some ⟨.fixed, .int .i64, data_P⟩)]⟩
noncomputable def L0 (hi : Int) (first : Int) (root : Int) (data_P : List Int) : R := lim E fin (.loop c0 K2) (tL0 hi first root data_P)
noncomputable def J1 (hi : Int) (first : Int) (root : Int) (child : Int) (data_P : List Int) : R := lim E fin (.code c1 K4) (tJ1 hi first root child data_P)
noncomputable def SL0 (hi : Int) (first : Int) (root : Int) (data_P : List Int) : R :=
  cond (decide ((IntKind.i64.wrap ((IntKind.i64.wrap (2 * root)) + 1)) ≥ hi))
    (some (data_P, ()))
    (cond (decide ((IntKind.i64.wrap ((IntKind.i64.wrap ((IntKind.i64.wrap (2 * root)) + 1)) + 1)) < hi))
      (cond (decide (0 ≤ IntKind.i64.wrap (first + (IntKind.i64.wrap ((IntKind.i64.wrap (2 * root)) + 1)))) && decide (IntKind.i64.wrap (first + (IntKind.i64.wrap ((IntKind.i64.wrap (2 * root)) + 1))) < (data_P.length : Int)))
        (cond (decide (0 ≤ IntKind.i64.wrap ((IntKind.i64.wrap (first + (IntKind.i64.wrap ((IntKind.i64.wrap (2 * root)) + 1)))) + 1)) && decide (IntKind.i64.wrap ((IntKind.i64.wrap (first + (IntKind.i64.wrap ((IntKind.i64.wrap (2 * root)) + 1)))) + 1) < (data_P.length : Int)))
          (Option.bind (cmp_Less_int (data_P.getD ((IntKind.i64.wrap (first + (IntKind.i64.wrap ((IntKind.i64.wrap (2 * root)) + 1)))).toNat) 0) (data_P.getD ((IntKind.i64.wrap ((IntKind.i64.wrap (first + (IntKind.i64.wrap ((IntKind.i64.wrap (2 * root)) + 1)))) + 1)).toNat) 0)) fun x1 =>
          cond x1.1
            (J1 hi first root (IntKind.i64.wrap ((IntKind.i64.wrap ((IntKind.i64.wrap (2 * root)) + 1)) + 1)) data_P)
            (J1 hi first root (IntKind.i64.wrap ((IntKind.i64.wrap (2 * root)) + 1)) data_P))
          none)
        none)
      (J1 hi first root (IntKind.i64.wrap ((IntKind.i64.wrap (2 * root)) + 1)) data_P))
noncomputable def SJ1 (hi : Int) (first : Int) (root : Int) (child : Int) (data_P : List Int) : R :=
  cond (decide (0 ≤ IntKind.i64.wrap (first + root)) && decide (IntKind.i64.wrap (first + root) < (data_P.length : Int)))
    (cond (decide (0 ≤ IntKind.i64.wrap (first + child)) && decide (IntKind.i64.wrap (first + child) < (data_P.length : Int)))
      (Option.bind (cmp_Less_int (data_P.getD ((IntKind.i64.wrap (first + root)).toNat) 0) (data_P.getD ((IntKind.i64.wrap (first + child)).toNat) 0)) fun x1 =>
      cond (!x1.1)
        (some (data_P, ()))
        (cond (decide (0 ≤ IntKind.i64.wrap (first + child)) && decide (IntKind.i64.wrap (first + child) < (data_P.length : Int)))
          (cond (decide (0 ≤ IntKind.i64.wrap (first + root)) && decide (IntKind.i64.wrap (first + root) < (data_P.length : Int)))
            (cond (decide (0 ≤ IntKind.i64.wrap (first + root)) && decide (IntKind.i64.wrap (first + root) < (data_P.length : Int)))
              (cond (decide (0 ≤ IntKind.i64.wrap (first + child)) && decide (IntKind.i64.wrap (first + child) < ((data_P.set ((IntKind.i64.wrap (first + root)).toNat) (data_P.getD ((IntKind.i64.wrap (first + child)).toNat) 0)).length : Int)))
                (L0 hi first child ((data_P.set ((IntKind.i64.wrap (first + root)).toNat) (data_P.getD ((IntKind.i64.wrap (first + child)).toNat) 0)).set ((IntKind.i64.wrap (first + child)).toNat) (data_P.getD ((IntKind.i64.wrap (first + root)).toNat) 0)))
                none)
              none)
            none)
          none))
      none)
    none
noncomputable def Se (data : List Int) (lo : Int) (hi : Int) (first : Int) : R :=
  L0 hi first lo data
theorem L0_eq (hi first root data_P) : L0 hi first root data_P = SL0 hi first root data_P := (lim_eq (.loop c0 K2) (tL0 hi first root data_P)).trans (by kernel_rfl)
theorem J1_eq (hi first root child data_P) : J1 hi first root child data_P = SJ1 hi first root child data_P := (lim_eq (.code c1 K4) (tJ1 hi first root child data_P)).trans (by kernel_rfl)
theorem se (x : (argTy ps).den) : run E (lim E fin) fin depth (bodyOf Try.f53) .ret (entryFrom 0 ps x) = Se x.1 x.2.1 x.2.2.1 x.2.2.2.1 := by kernel_rfl
end slices_siftDownOrdered_int
noncomputable def slices_siftDownOrdered_int (data : List Int) (lo : Int) (hi : Int) (first : Int) : slices_siftDownOrdered_int.R :=
  slices_siftDownOrdered_int.Se data lo hi first
namespace slices_siftDownOrdered_int
noncomputable def sig : Sig := ⟨ps, rs, fun x => slices_siftDownOrdered_int x.1 x.2.1 x.2.2.1 x.2.2.2.1⟩
theorem val (x : (argTy ps).den) : lim E fin (.code (bodyOf Try.f53) .ret) (entryFrom 0 ps x) = sig.run x := (lim_eq (.code (bodyOf Try.f53) .ret) (entryFrom 0 ps x)).trans (se x)
theorem ok : CallOK Try.prog 53 sig :=
  callOK_of_lim (E := E) mixed tt_ok (ctxOk_cons ctxOk_nil cmp_Less_int.ok Try.func48 (by kernel_rfl) (by kernel_rfl)) Try.func53 (by kernel_rfl : Try.f53.body = some (bodyOf Try.f53)) Try.ntmps53 (of_decide_eq_true (by kernel_rfl)) (of_decide_eq_true (by kernel_rfl)) (fun x y h => (val x).trans h)
noncomputable def ctxc (n : Nat) : List (Nat × Sig) := [(48, cmp_Less_int.sigc n)]
noncomputable def sigc (n : Nat) : Sig := ⟨ps, rs, fun x => runs (withCtx E (ctxc n)) fin n (.code (bodyOf Try.f53) .ret) (entryFrom 0 ps x)⟩
theorem sigc_le (n : Nat) : ∀ x y, (sigc n).run x = some y → sig.run x = some y := fun x y h => (val x).symm.trans (runs_lim (E := E) (c := ctxc n) (ctxLe_cons ctxLe_nil (cmp_Less_int.sigc_le n)) h)
end slices_siftDownOrdered_int
namespace slices_heapSortOrdered_int
abbrev ps : List PM := [.own (.int .i64), .pure (.int .i64), .pure (.int .i64)]
abbrev rs : List RM := []
abbrev R : Type := Option (List Int × Unit)
noncomputable def E : Env := { tt := tt, ctx := [(53, slices_siftDownOrdered_int.sig)], nt := 56, ann := [(1000004, [(0, .keep), (6, .keep), (7, .keep), (8, .keep), (9, .keep)]), (1000008, [(0, .keep), (6, .keep), (7, .keep), (10, .keep)])] }
noncomputable def c0 : Code := sub [1, 1, 1, 1] (bodyOf Try.f43)
noncomputable def c1 : Code := sub [1, 1, 1, 0, 1, 0, 0] (bodyOf Try.f43)
noncomputable def c2 : Code := sub [1, 1, 1, 1, 1, 0, 0] (bodyOf Try.f43)
noncomputable def K4 : Kont := .seq c0 .ret
noncomputable def K6 : Kont := .blk 0 K4
noncomputable def K13 : Kont := .blk 2 .ret
noncomputable def fin : ASt → R := Kret E Try.f43.results.toList ps rs
def tL0 (first : Int) (lo : Int) (hi : Int) (i : Int) (data_P : List Int) : ASt := ⟨[(9, .one (.val (.int .i64) i)), (8, .one (.val (.int .i64) hi)), (7, .one (.val (.int .i64) lo)), (6, .one (.val (.int .i64) first)), (0, .one (.own 10000))], [(10000, some ⟨.fixed, .int .i64, data_P⟩)]⟩
def tL1 (first : Int) (lo : Int) (i : Int) (data_P : List Int) : ASt := ⟨[(10, .one (.val (.int .i64) i)), (7, .one (.val (.int .i64) lo)), (6, .one (.val (.int .i64) first)), (0, .one (.own 10000))], [(10000, some ⟨.fixed, .int .i64, data_P⟩)]⟩
noncomputable def L0 (first : Int) (lo : Int) (hi : Int) (i : Int) (data_P : List Int) : R := lim E fin (.loop c1 K6) (tL0 first lo hi i data_P)
noncomputable def L1 (first : Int) (lo : Int) (i : Int) (data_P : List Int) : R := lim E fin (.loop c2 K13) (tL1 first lo i data_P)
noncomputable def SL0 (first : Int) (lo : Int) (hi : Int) (i : Int) (data_P : List Int) : R :=
  cond (decide (i ≥ 0))
    (Option.bind (slices_siftDownOrdered_int data_P i hi first) fun x1 =>
    L0 first lo hi (IntKind.i64.wrap (i - 1)) x1.1)
    (L1 first lo (IntKind.i64.wrap (hi - 1)) data_P)
noncomputable def SL1 (first : Int) (lo : Int) (i : Int) (data_P : List Int) : R :=
  cond (decide (i ≥ 0))
    (cond (decide (0 ≤ IntKind.i64.wrap (first + i)) && decide (IntKind.i64.wrap (first + i) < (data_P.length : Int)))
      (cond (decide (0 ≤ first) && decide (first < (data_P.length : Int)))
        (cond (decide (0 ≤ first) && decide (first < (data_P.length : Int)))
          (cond (decide (0 ≤ IntKind.i64.wrap (first + i)) && decide (IntKind.i64.wrap (first + i) < ((data_P.set first.toNat (data_P.getD ((IntKind.i64.wrap (first + i)).toNat) 0)).length : Int)))
            (Option.bind (slices_siftDownOrdered_int ((data_P.set first.toNat (data_P.getD ((IntKind.i64.wrap (first + i)).toNat) 0)).set ((IntKind.i64.wrap (first + i)).toNat) (data_P.getD first.toNat 0)) lo i first) fun x1 =>
            L1 first lo (IntKind.i64.wrap (i - 1)) x1.1)
            none)
          none)
        none)
      none)
    (some (data_P, ()))
noncomputable def Se (data : List Int) (a : Int) (b : Int) : R :=
  L0 a 0 (IntKind.i64.wrap (b - a)) (IntKind.i64.wrap (Int.tdiv (IntKind.i64.wrap ((IntKind.i64.wrap (b - a)) - 1)) 2)) data
theorem L0_eq (first lo hi i data_P) : L0 first lo hi i data_P = SL0 first lo hi i data_P := (lim_eq (.loop c1 K6) (tL0 first lo hi i data_P)).trans (by kernel_rfl)
theorem L1_eq (first lo i data_P) : L1 first lo i data_P = SL1 first lo i data_P := (lim_eq (.loop c2 K13) (tL1 first lo i data_P)).trans (by kernel_rfl)
theorem se (x : (argTy ps).den) : run E (lim E fin) fin depth (bodyOf Try.f43) .ret (entryFrom 0 ps x) = Se x.1 x.2.1 x.2.2.1 := by kernel_rfl
end slices_heapSortOrdered_int
noncomputable def slices_heapSortOrdered_int (data : List Int) (a : Int) (b : Int) : slices_heapSortOrdered_int.R :=
  slices_heapSortOrdered_int.Se data a b
namespace slices_heapSortOrdered_int
noncomputable def sig : Sig := ⟨ps, rs, fun x => slices_heapSortOrdered_int x.1 x.2.1 x.2.2.1⟩
theorem val (x : (argTy ps).den) : lim E fin (.code (bodyOf Try.f43) .ret) (entryFrom 0 ps x) = sig.run x := (lim_eq (.code (bodyOf Try.f43) .ret) (entryFrom 0 ps x)).trans (se x)
theorem ok : CallOK Try.prog 43 sig :=
  callOK_of_lim (E := E) mixed tt_ok (ctxOk_cons ctxOk_nil slices_siftDownOrdered_int.ok Try.func53 (by kernel_rfl) (by kernel_rfl)) Try.func43 (by kernel_rfl : Try.f43.body = some (bodyOf Try.f43)) Try.ntmps43 (of_decide_eq_true (by kernel_rfl)) (of_decide_eq_true (by kernel_rfl)) (fun x y h => (val x).trans h)
noncomputable def ctxc (n : Nat) : List (Nat × Sig) := [(53, slices_siftDownOrdered_int.sigc n)]
noncomputable def sigc (n : Nat) : Sig := ⟨ps, rs, fun x => runs (withCtx E (ctxc n)) fin n (.code (bodyOf Try.f43) .ret) (entryFrom 0 ps x)⟩
theorem sigc_le (n : Nat) : ∀ x y, (sigc n).run x = some y → sig.run x = some y := fun x y h => (val x).symm.trans (runs_lim (E := E) (c := ctxc n) (ctxLe_cons ctxLe_nil (slices_siftDownOrdered_int.sigc_le n)) h)
end slices_heapSortOrdered_int
namespace slices_nextPowerOfTwo
abbrev ps : List PM := [.pure (.int .i64)]
abbrev rs : List RM := [.pure (.int .u64)]
abbrev R : Type := Option (Int × Unit)
noncomputable def E : Env := { tt := tt, ctx := [(41, math_bits_Len.sig)], nt := 7, ann := [] }
noncomputable def fin : ASt → R := Kret E Try.f54.results.toList ps rs
noncomputable def Se (length_0 : Int) : R :=
  Option.bind (math_bits_Len (IntKind.u64.wrap length_0)) fun x1 =>
  cond (decide (x1.1 < 0))
    none
    (some (IntKind.u64.wrap (1 * 2 ^ (min x1.1.toNat IntKind.u64.bits)), ()))
theorem se (x : (argTy ps).den) : run E (lim E fin) fin depth (bodyOf Try.f54) .ret (entryFrom 0 ps x) = Se x.1 := by kernel_rfl
end slices_nextPowerOfTwo
noncomputable def slices_nextPowerOfTwo (length_0 : Int) : slices_nextPowerOfTwo.R :=
  slices_nextPowerOfTwo.Se length_0
namespace slices_nextPowerOfTwo
noncomputable def sig : Sig := ⟨ps, rs, fun x => slices_nextPowerOfTwo x.1⟩
theorem val (x : (argTy ps).den) : lim E fin (.code (bodyOf Try.f54) .ret) (entryFrom 0 ps x) = sig.run x := (lim_eq (.code (bodyOf Try.f54) .ret) (entryFrom 0 ps x)).trans (se x)
theorem ok : CallOK Try.prog 54 sig :=
  callOK_of_lim (E := E) mixed tt_ok (ctxOk_cons ctxOk_nil math_bits_Len.ok Try.func41 (by kernel_rfl) (by kernel_rfl)) Try.func54 (by kernel_rfl : Try.f54.body = some (bodyOf Try.f54)) Try.ntmps54 (of_decide_eq_true (by kernel_rfl)) (of_decide_eq_true (by kernel_rfl)) (fun x y h => (val x).trans h)
noncomputable def ctxc (n : Nat) : List (Nat × Sig) := [(41, math_bits_Len.sigc n)]
noncomputable def sigc (n : Nat) : Sig := ⟨ps, rs, fun x => runs (withCtx E (ctxc n)) fin n (.code (bodyOf Try.f54) .ret) (entryFrom 0 ps x)⟩
theorem sigc_le (n : Nat) : ∀ x y, (sigc n).run x = some y → sig.run x = some y := fun x y h => (val x).symm.trans (runs_lim (E := E) (c := ctxc n) (ctxLe_cons ctxLe_nil (math_bits_Len.sigc_le n)) h)
end slices_nextPowerOfTwo
namespace slices_xorshift_Next
abbrev ps : List PM := [.ptr (.int .u64)]
abbrev rs : List RM := [.pure (.int .u64)]
abbrev R : Type := Option (Int × Int × Unit)
noncomputable def E : Env := { tt := tt, ctx := [], nt := 33, ann := [] }
noncomputable def fin : ASt → R := Kret E Try.f55.results.toList ps rs
noncomputable def Se (r_0 : Int) : R :=
  some (IntKind.u64.wrap (BitVec.ofInt IntKind.u64.bits (IntKind.u64.wrap (BitVec.ofInt IntKind.u64.bits (IntKind.u64.wrap (BitVec.ofInt IntKind.u64.bits r_0 ^^^ BitVec.ofInt IntKind.u64.bits (IntKind.u64.wrap (r_0 * 2 ^ (min 13 IntKind.u64.bits)))).toNat) ^^^ BitVec.ofInt IntKind.u64.bits (Int.fdiv (IntKind.u64.wrap (BitVec.ofInt IntKind.u64.bits r_0 ^^^ BitVec.ofInt IntKind.u64.bits (IntKind.u64.wrap (r_0 * 2 ^ (min 13 IntKind.u64.bits)))).toNat) (2 ^ (min 7 IntKind.u64.bits)))).toNat) ^^^ BitVec.ofInt IntKind.u64.bits (IntKind.u64.wrap ((IntKind.u64.wrap (BitVec.ofInt IntKind.u64.bits (IntKind.u64.wrap (BitVec.ofInt IntKind.u64.bits r_0 ^^^ BitVec.ofInt IntKind.u64.bits (IntKind.u64.wrap (r_0 * 2 ^ (min 13 IntKind.u64.bits)))).toNat) ^^^ BitVec.ofInt IntKind.u64.bits (Int.fdiv (IntKind.u64.wrap (BitVec.ofInt IntKind.u64.bits r_0 ^^^ BitVec.ofInt IntKind.u64.bits (IntKind.u64.wrap (r_0 * 2 ^ (min 13 IntKind.u64.bits)))).toNat) (2 ^ (min 7 IntKind.u64.bits)))).toNat) * 2 ^ (min 17 IntKind.u64.bits)))).toNat, IntKind.u64.wrap (BitVec.ofInt IntKind.u64.bits (IntKind.u64.wrap (BitVec.ofInt IntKind.u64.bits (IntKind.u64.wrap (BitVec.ofInt IntKind.u64.bits r_0 ^^^ BitVec.ofInt IntKind.u64.bits (IntKind.u64.wrap (r_0 * 2 ^ (min 13 IntKind.u64.bits)))).toNat) ^^^ BitVec.ofInt IntKind.u64.bits (Int.fdiv (IntKind.u64.wrap (BitVec.ofInt IntKind.u64.bits r_0 ^^^ BitVec.ofInt IntKind.u64.bits (IntKind.u64.wrap (r_0 * 2 ^ (min 13 IntKind.u64.bits)))).toNat) (2 ^ (min 7 IntKind.u64.bits)))).toNat) ^^^ BitVec.ofInt IntKind.u64.bits (IntKind.u64.wrap ((IntKind.u64.wrap (BitVec.ofInt IntKind.u64.bits (IntKind.u64.wrap (BitVec.ofInt IntKind.u64.bits r_0 ^^^ BitVec.ofInt IntKind.u64.bits (IntKind.u64.wrap (r_0 * 2 ^ (min 13 IntKind.u64.bits)))).toNat) ^^^ BitVec.ofInt IntKind.u64.bits (Int.fdiv (IntKind.u64.wrap (BitVec.ofInt IntKind.u64.bits r_0 ^^^ BitVec.ofInt IntKind.u64.bits (IntKind.u64.wrap (r_0 * 2 ^ (min 13 IntKind.u64.bits)))).toNat) (2 ^ (min 7 IntKind.u64.bits)))).toNat) * 2 ^ (min 17 IntKind.u64.bits)))).toNat, ())
theorem se (x : (argTy ps).den) : run E (lim E fin) fin depth (bodyOf Try.f55) .ret (entryFrom 0 ps x) = Se x.1 := by kernel_rfl
end slices_xorshift_Next
noncomputable def slices_xorshift_Next (r_0 : Int) : slices_xorshift_Next.R :=
  slices_xorshift_Next.Se r_0
namespace slices_xorshift_Next
noncomputable def sig : Sig := ⟨ps, rs, fun x => slices_xorshift_Next x.1⟩
theorem val (x : (argTy ps).den) : lim E fin (.code (bodyOf Try.f55) .ret) (entryFrom 0 ps x) = sig.run x := (lim_eq (.code (bodyOf Try.f55) .ret) (entryFrom 0 ps x)).trans (se x)
theorem ok : CallOK Try.prog 55 sig :=
  callOK_of_lim (E := E) mixed tt_ok ctxOk_nil Try.func55 (by kernel_rfl : Try.f55.body = some (bodyOf Try.f55)) Try.ntmps55 (of_decide_eq_true (by kernel_rfl)) (of_decide_eq_true (by kernel_rfl)) (fun x y h => (val x).trans h)
noncomputable def ctxc (n : Nat) : List (Nat × Sig) := []
noncomputable def sigc (n : Nat) : Sig := ⟨ps, rs, fun x => runs (withCtx E (ctxc n)) fin n (.code (bodyOf Try.f55) .ret) (entryFrom 0 ps x)⟩
theorem sigc_le (n : Nat) : ∀ x y, (sigc n).run x = some y → sig.run x = some y := fun x y h => (val x).symm.trans (runs_lim (E := E) (c := ctxc n) ctxLe_nil h)
end slices_xorshift_Next
namespace slices_breakPatternsOrdered_int
abbrev ps : List PM := [.own (.int .i64), .pure (.int .i64), .pure (.int .i64)]
abbrev rs : List RM := []
abbrev R : Type := Option (List Int × Unit)
noncomputable def E : Env := { tt := tt, ctx := [(54, slices_nextPowerOfTwo.sig), (55, slices_xorshift_Next.sig)], nt := 65, ann := [(1000005, [(0, .keep), (1, .keep), (6, .keep), (7, .keep), (8, .keep), (9, .keep)]), (10, [(0, .keep), (1, .keep), (6, .keep), (7, .keep), (8, .keep), (9, .keep), (10, .keep)])] }
noncomputable def c0 : Code := sub [1, 1, 0, 1, 1, 1, 0, 0] (bodyOf Try.f44)
noncomputable def c1 : Code := sub [1, 1, 0, 1, 1, 1, 0, 0, 1, 1] (bodyOf Try.f44)
noncomputable def c2 : Code := sub [1, 1, 0, 1, 1, 1, 0, 0, 1, 0, 0, 1, 1] (bodyOf Try.f44)
noncomputable def K6 : Kont := .blk 0 .ret
noncomputable def K7 : Kont := .loop c0 K6
noncomputable def K10 : Kont := .seq c1 K7
noncomputable def K11 : Kont := .blk 1 K10
noncomputable def fin : ASt → R := Kret E Try.f44.results.toList ps rs
def tL0 (a : Int) (length_6 : Int) (random : Int) (modulus : Int) (idx_9 : Int) (data_P : List Int) : ASt := ⟨[(9, .one (.val (.int .i64) idx_9)), (8, .one (.val (.int .u64) modulus)), (7, .one (.optr 7 0 [])), (6, .one (.val (.int .i64) length_6)), (1, .one (.val (.int .i64) a)), (0, .one (.own 10000))], [(7, some ⟨.free, .int .u64, [random]⟩), (10000, some ⟨.fixed, .int .i64, data_P⟩)]⟩
def tJ1 (a : Int) (length_6 : Int) (random : Int) (modulus : Int) (idx_9 : Int) (other : Int) (data_P : List Int) : ASt := ⟨[(10, .one (.val (.int .i64) other)), (9, .one (.val (.int .i64) idx_9)), (8, .one (.val (.int .u64) modulus)), (7, .one (.optr 7 0 [])), (6, .one (.val (.int .i64) length_6)), (1, .one (.val (.int .i64) a)), (0, .one (.own 10000))], [(7, some ⟨.free, .int .u64, [random]⟩), (10000, some ⟨.fixed, .int .i64, data_P⟩)]⟩
noncomputable def L0 (a : Int) (length_6 : Int) (random : Int) (modulus : Int) (idx_9 : Int) (data_P : List Int) : R := lim E fin (.loop c0 K6) (tL0 a length_6 random modulus idx_9 data_P)
noncomputable def J1 (a : Int) (length_6 : Int) (random : Int) (modulus : Int) (idx_9 : Int) (other : Int) (data_P : List Int) : R := lim E fin (.code c2 K11) (tJ1 a length_6 random modulus idx_9 other data_P)
noncomputable def SL0 (a : Int) (length_6 : Int) (random : Int) (modulus : Int) (idx_9 : Int) (data_P : List Int) : R :=
  cond (decide (idx_9 ≤ (IntKind.i64.wrap ((IntKind.i64.wrap (a + (IntKind.i64.wrap ((IntKind.i64.wrap (Int.tdiv length_6 4)) * 2)))) + 1))))
    (Option.bind (slices_xorshift_Next random) fun x1 =>
    cond (decide ((IntKind.i64.wrap (IntKind.u64.wrap (BitVec.ofInt IntKind.u64.bits x1.1 &&& BitVec.ofInt IntKind.u64.bits (IntKind.u64.wrap (modulus - 1))).toNat)) ≥ length_6))
      (J1 a length_6 x1.2.1 modulus idx_9 (IntKind.i64.wrap ((IntKind.i64.wrap (IntKind.u64.wrap (BitVec.ofInt IntKind.u64.bits x1.1 &&& BitVec.ofInt IntKind.u64.bits (IntKind.u64.wrap (modulus - 1))).toNat)) - length_6)) data_P)
      (J1 a length_6 x1.2.1 modulus idx_9 (IntKind.i64.wrap (IntKind.u64.wrap (BitVec.ofInt IntKind.u64.bits x1.1 &&& BitVec.ofInt IntKind.u64.bits (IntKind.u64.wrap (modulus - 1))).toNat)) data_P))
    (some (data_P, ()))
noncomputable def SJ1 (a : Int) (length_6 : Int) (random : Int) (modulus : Int) (idx_9 : Int) (other : Int) (data_P : List Int) : R :=
  cond (decide (0 ≤ IntKind.i64.wrap (a + other)) && decide (IntKind.i64.wrap (a + other) < (data_P.length : Int)))
    (cond (decide (0 ≤ idx_9) && decide (idx_9 < (data_P.length : Int)))
      (cond (decide (0 ≤ idx_9) && decide (idx_9 < (data_P.length : Int)))
        (cond (decide (0 ≤ IntKind.i64.wrap (a + other)) && decide (IntKind.i64.wrap (a + other) < ((data_P.set idx_9.toNat (data_P.getD ((IntKind.i64.wrap (a + other)).toNat) 0)).length : Int)))
          (L0 a length_6 random modulus (IntKind.i64.wrap (idx_9 + 1)) ((data_P.set idx_9.toNat (data_P.getD ((IntKind.i64.wrap (a + other)).toNat) 0)).set ((IntKind.i64.wrap (a + other)).toNat) (data_P.getD idx_9.toNat 0)))
          none)
        none)
      none)
    none
noncomputable def Se (data : List Int) (a : Int) (b : Int) : R :=
  cond (decide ((IntKind.i64.wrap (b - a)) ≥ 8))
    (Option.bind (slices_nextPowerOfTwo (IntKind.i64.wrap (b - a))) fun x1 =>
    L0 a (IntKind.i64.wrap (b - a)) (IntKind.u64.wrap (IntKind.i64.wrap (b - a))) x1.1 (IntKind.i64.wrap ((IntKind.i64.wrap (a + (IntKind.i64.wrap ((IntKind.i64.wrap (Int.tdiv (IntKind.i64.wrap (b - a)) 4)) * 2)))) - 1)) data)
    (some (data, ()))
theorem L0_eq (a length_6 random modulus idx_9 data_P) : L0 a length_6 random modulus idx_9 data_P = SL0 a length_6 random modulus idx_9 data_P := (lim_eq (.loop c0 K6) (tL0 a length_6 random modulus idx_9 data_P)).trans (by kernel_rfl)
theorem J1_eq (a length_6 random modulus idx_9 other data_P) : J1 a length_6 random modulus idx_9 other data_P = SJ1 a length_6 random modulus idx_9 other data_P := (lim_eq (.code c2 K11) (tJ1 a length_6 random modulus idx_9 other data_P)).trans (by kernel_rfl)
theorem se (x : (argTy ps).den) : run E (lim E fin) fin depth (bodyOf Try.f44) .ret (entryFrom 0 ps x) = Se x.1 x.2.1 x.2.2.1 := by kernel_rfl
end slices_breakPatternsOrdered_int
noncomputable def slices_breakPatternsOrdered_int (data : List Int) (a : Int) (b : Int) : slices_breakPatternsOrdered_int.R :=
  slices_breakPatternsOrdered_int.Se data a b
namespace slices_breakPatternsOrdered_int
noncomputable def sig : Sig := ⟨ps, rs, fun x => slices_breakPatternsOrdered_int x.1 x.2.1 x.2.2.1⟩
theorem val (x : (argTy ps).den) : lim E fin (.code (bodyOf Try.f44) .ret) (entryFrom 0 ps x) = sig.run x := (lim_eq (.code (bodyOf Try.f44) .ret) (entryFrom 0 ps x)).trans (se x)
theorem ok : CallOK Try.prog 44 sig :=
  callOK_of_lim (E := E) mixed tt_ok (ctxOk_cons (ctxOk_cons ctxOk_nil slices_xorshift_Next.ok Try.func55 (by kernel_rfl) (by kernel_rfl)) slices_nextPowerOfTwo.ok Try.func54 (by kernel_rfl) (by kernel_rfl)) Try.func44 (by kernel_rfl : Try.f44.body = some (bodyOf Try.f44)) Try.ntmps44 (of_decide_eq_true (by kernel_rfl)) (of_decide_eq_true (by kernel_rfl)) (fun x y h => (val x).trans h)
noncomputable def ctxc (n : Nat) : List (Nat × Sig) := [(54, slices_nextPowerOfTwo.sigc n), (55, slices_xorshift_Next.sigc n)]
noncomputable def sigc (n : Nat) : Sig := ⟨ps, rs, fun x => runs (withCtx E (ctxc n)) fin n (.code (bodyOf Try.f44) .ret) (entryFrom 0 ps x)⟩
theorem sigc_le (n : Nat) : ∀ x y, (sigc n).run x = some y → sig.run x = some y := fun x y h => (val x).symm.trans (runs_lim (E := E) (c := ctxc n) (ctxLe_cons (ctxLe_cons ctxLe_nil (slices_xorshift_Next.sigc_le n)) (slices_nextPowerOfTwo.sigc_le n)) h)
end slices_breakPatternsOrdered_int
namespace slices_order2Ordered_int
abbrev ps : List PM := [.pure (.sl (.int .i64)), .pure (.int .i64), .pure (.int .i64), .ptr (.int .i64)]
abbrev rs : List RM := [.pure (.int .i64), .pure (.int .i64)]
abbrev R : Type := Option (Int × Int × Int × Unit)
noncomputable def E : Env := { tt := tt, ctx := [(48, cmp_Less_int.sig)], nt := 28, ann := [] }
noncomputable def fin : ASt → R := Kret E Try.f59.results.toList ps rs
noncomputable def Se (data : List Int) (a : Int) (b : Int) (swaps : Int) : R :=
  Option.bind (idx data b) fun x1 =>
  Option.bind (idx data a) fun x2 =>
  Option.bind (cmp_Less_int x1 x2) fun x3 =>
  cond x3.1
    (some (b, a, IntKind.i64.wrap (swaps + 1), ()))
    (some (a, b, swaps, ()))
theorem se (x : (argTy ps).den) : run E (lim E fin) fin depth (bodyOf Try.f59) .ret (entryFrom 0 ps x) = Se x.1 x.2.1 x.2.2.1 x.2.2.2.1 := by kernel_rfl
end slices_order2Ordered_int
noncomputable def slices_order2Ordered_int (data : List Int) (a : Int) (b : Int) (swaps : Int) : slices_order2Ordered_int.R :=
  slices_order2Ordered_int.Se data a b swaps
namespace slices_order2Ordered_int
noncomputable def sig : Sig := ⟨ps, rs, fun x => slices_order2Ordered_int x.1 x.2.1 x.2.2.1 x.2.2.2.1⟩
theorem val (x : (argTy ps).den) : lim E fin (.code (bodyOf Try.f59) .ret) (entryFrom 0 ps x) = sig.run x := (lim_eq (.code (bodyOf Try.f59) .ret) (entryFrom 0 ps x)).trans (se x)
theorem ok : CallOK Try.prog 59 sig :=
  callOK_of_lim (E := E) mixed tt_ok (ctxOk_cons ctxOk_nil cmp_Less_int.ok Try.func48 (by kernel_rfl) (by kernel_rfl)) Try.func59 (by kernel_rfl : Try.f59.body = some (bodyOf Try.f59)) Try.ntmps59 (of_decide_eq_true (by kernel_rfl)) (of_decide_eq_true (by kernel_rfl)) (fun x y h => (val x).trans h)
noncomputable def ctxc (n : Nat) : List (Nat × Sig) := [(48, cmp_Less_int.sigc n)]
noncomputable def sigc (n : Nat) : Sig := ⟨ps, rs, fun x => runs (withCtx E (ctxc n)) fin n (.code (bodyOf Try.f59) .ret) (entryFrom 0 ps x)⟩
theorem sigc_le (n : Nat) : ∀ x y, (sigc n).run x = some y → sig.run x = some y := fun x y h => (val x).symm.trans (runs_lim (E := E) (c := ctxc n) (ctxLe_cons ctxLe_nil (cmp_Less_int.sigc_le n)) h)
end slices_order2Ordered_int
namespace slices_medianOrdered_int
abbrev ps : List PM := [.pure (.sl (.int .i64)), .pure (.int .i64), .pure (.int .i64), .pure (.int .i64), .ptr (.int .i64)]
abbrev rs : List RM := [.pure (.int .i64)]
abbrev R : Type := Option (Int × Int × Unit)
noncomputable def E : Env := { tt := tt, ctx := [(59, slices_order2Ordered_int.sig)], nt := 36, ann := [] }
noncomputable def fin : ASt → R := Kret E Try.f57.results.toList ps rs
noncomputable def Se (data : List Int) (a : Int) (b : Int) (c_3 : Int) (swaps : Int) : R :=
  Option.bind (slices_order2Ordered_int data a b swaps) fun x1 =>
  Option.bind (slices_order2Ordered_int data x1.2.1 c_3 x1.2.2.1) fun x2 =>
  Option.bind (slices_order2Ordered_int data x1.1 x2.1 x2.2.2.1) fun x3 =>
  some (x3.2.1, x3.2.2.1, ())
theorem se (x : (argTy ps).den) : run E (lim E fin) fin depth (bodyOf Try.f57) .ret (entryFrom 0 ps x) = Se x.1 x.2.1 x.2.2.1 x.2.2.2.1 x.2.2.2.2.1 := by kernel_rfl
end slices_medianOrdered_int
noncomputable def slices_medianOrdered_int (data : List Int) (a : Int) (b : Int) (c_3 : Int) (swaps : Int) : slices_medianOrdered_int.R :=
  slices_medianOrdered_int.Se data a b c_3 swaps
namespace slices_medianOrdered_int
noncomputable def sig : Sig := ⟨ps, rs, fun x => slices_medianOrdered_int x.1 x.2.1 x.2.2.1 x.2.2.2.1 x.2.2.2.2.1⟩
theorem val (x : (argTy ps).den) : lim E fin (.code (bodyOf Try.f57) .ret) (entryFrom 0 ps x) = sig.run x := (lim_eq (.code (bodyOf Try.f57) .ret) (entryFrom 0 ps x)).trans (se x)
theorem ok : CallOK Try.prog 57 sig :=
  callOK_of_lim (E := E) mixed tt_ok (ctxOk_cons ctxOk_nil slices_order2Ordered_int.ok Try.func59 (by kernel_rfl) (by kernel_rfl)) Try.func57 (by kernel_rfl : Try.f57.body = some (bodyOf Try.f57)) Try.ntmps57 (of_decide_eq_true (by kernel_rfl)) (of_decide_eq_true (by kernel_rfl)) (fun x y h => (val x).trans h)
noncomputable def ctxc (n : Nat) : List (Nat × Sig) := [(59, slices_order2Ordered_int.sigc n)]
noncomputable def sigc (n : Nat) : Sig := ⟨ps, rs, fun x => runs (withCtx E (ctxc n)) fin n (.code (bodyOf Try.f57) .ret) (entryFrom 0 ps x)⟩
theorem sigc_le (n : Nat) : ∀ x y, (sigc n).run x = some y → sig.run x = some y := fun x y h => (val x).symm.trans (runs_lim (E := E) (c := ctxc n) (ctxLe_cons ctxLe_nil (slices_order2Ordered_int.sigc_le n)) h)
end slices_medianOrdered_int
namespace slices_medianAdjacentOrdered_int
abbrev ps : List PM := [.pure (.sl (.int .i64)), .pure (.int .i64), .ptr (.int .i64)]
abbrev rs : List RM := [.pure (.int .i64)]
abbrev R : Type := Option (Int × Int × Unit)
noncomputable def E : Env := { tt := tt, ctx := [(57, slices_medianOrdered_int.sig)], nt := 15, ann := [] }
noncomputable def fin : ASt → R := Kret E Try.f56.results.toList ps rs
noncomputable def Se (data : List Int) (a : Int) (swaps : Int) : R :=
  Option.bind (slices_medianOrdered_int data (IntKind.i64.wrap (a - 1)) a (IntKind.i64.wrap (a + 1)) swaps) fun x1 =>
  some (x1.1, x1.2.1, ())
theorem se (x : (argTy ps).den) : run E (lim E fin) fin depth (bodyOf Try.f56) .ret (entryFrom 0 ps x) = Se x.1 x.2.1 x.2.2.1 := by kernel_rfl
end slices_medianAdjacentOrdered_int
noncomputable def slices_medianAdjacentOrdered_int (data : List Int) (a : Int) (swaps : Int) : slices_medianAdjacentOrdered_int.R :=
  slices_medianAdjacentOrdered_int.Se data a swaps
namespace slices_medianAdjacentOrdered_int
noncomputable def sig : Sig := ⟨ps, rs, fun x => slices_medianAdjacentOrdered_int x.1 x.2.1 x.2.2.1⟩
theorem val (x : (argTy ps).den) : lim E fin (.code (bodyOf Try.f56) .ret) (entryFrom 0 ps x) = sig.run x := (lim_eq (.code (bodyOf Try.f56) .ret) (entryFrom 0 ps x)).trans (se x)
theorem ok : CallOK Try.prog 56 sig :=
  callOK_of_lim (E := E) mixed tt_ok (ctxOk_cons ctxOk_nil slices_medianOrdered_int.ok Try.func57 (by kernel_rfl) (by kernel_rfl)) Try.func56 (by kernel_rfl : Try.f56.body = some (bodyOf Try.f56)) Try.ntmps56 (of_decide_eq_true (by kernel_rfl)) (of_decide_eq_true (by kernel_rfl)) (fun x y h => (val x).trans h)
noncomputable def ctxc (n : Nat) : List (Nat × Sig) := [(57, slices_medianOrdered_int.sigc n)]
noncomputable def sigc (n : Nat) : Sig := ⟨ps, rs, fun x => runs (withCtx E (ctxc n)) fin n (.code (bodyOf Try.f56) .ret) (entryFrom 0 ps x)⟩
theorem sigc_le (n : Nat) : ∀ x y, (sigc n).run x = some y → sig.run x = some y := fun x y h => (val x).symm.trans (runs_lim (E := E) (c := ctxc n) (ctxLe_cons ctxLe_nil (slices_medianOrdered_int.sigc_le n)) h)
end slices_medianAdjacentOrdered_int
namespace slices_choosePivotOrdered_int
abbrev ps : List PM := [.pure (.sl (.int .i64)), .pure (.int .i64), .pure (.int .i64)]
abbrev rs : List RM := [.pure (.int .i64), .pure (.int .i64)]
abbrev R : Type := Option (Int × Int × Unit)
noncomputable def E : Env := { tt := tt, ctx := [(56, slices_medianAdjacentOrdered_int.sig), (57, slices_medianOrdered_int.sig)], nt := 57, ann := [(12, [(9, .keep), (11, .keep)])] }
noncomputable def c0 : Code := sub [1, 1, 1, 1, 1, 1, 1] (bodyOf Try.f45)
noncomputable def fin : ASt → R := Kret E Try.f45.results.toList ps rs
def tJ0 (swaps : Int) (j : Int) : ASt := ⟨[(11, .one (.val (.int .i64) j)), (9, .one (.optr 9 0 []))], [(9, some ⟨.free, .int .i64, [swaps]⟩)]⟩
noncomputable def J0 (swaps : Int) (j : Int) : R := lim E fin (.code c0 .ret) (tJ0 swaps j)
noncomputable def SJ0 (swaps : Int) (j : Int) : R :=
  cond (swaps == 0)
    (some (j, 1, ()))
    (cond (swaps == 12)
      (some (j, 2, ()))
      (some (j, 0, ())))
noncomputable def Se (data : List Int) (a : Int) (b : Int) : R :=
  cond (decide ((IntKind.i64.wrap (b - a)) ≥ 8))
    (cond (decide ((IntKind.i64.wrap (b - a)) ≥ 50))
      (Option.bind (slices_medianAdjacentOrdered_int data (IntKind.i64.wrap (a + (IntKind.i64.wrap ((IntKind.i64.wrap (Int.tdiv (IntKind.i64.wrap (b - a)) 4)) * 1)))) 0) fun x1 =>
      Option.bind (slices_medianAdjacentOrdered_int data (IntKind.i64.wrap (a + (IntKind.i64.wrap ((IntKind.i64.wrap (Int.tdiv (IntKind.i64.wrap (b - a)) 4)) * 2)))) x1.2.1) fun x2 =>
      Option.bind (slices_medianAdjacentOrdered_int data (IntKind.i64.wrap (a + (IntKind.i64.wrap ((IntKind.i64.wrap (Int.tdiv (IntKind.i64.wrap (b - a)) 4)) * 3)))) x2.2.1) fun x3 =>
      Option.bind (slices_medianOrdered_int data x1.1 x2.1 x3.1 x3.2.1) fun x4 =>
      J0 x4.2.1 x4.1)
      (Option.bind (slices_medianOrdered_int data (IntKind.i64.wrap (a + (IntKind.i64.wrap ((IntKind.i64.wrap (Int.tdiv (IntKind.i64.wrap (b - a)) 4)) * 1)))) (IntKind.i64.wrap (a + (IntKind.i64.wrap ((IntKind.i64.wrap (Int.tdiv (IntKind.i64.wrap (b - a)) 4)) * 2)))) (IntKind.i64.wrap (a + (IntKind.i64.wrap ((IntKind.i64.wrap (Int.tdiv (IntKind.i64.wrap (b - a)) 4)) * 3)))) 0) fun x5 =>
      J0 x5.2.1 x5.1))
    (J0 0 (IntKind.i64.wrap (a + (IntKind.i64.wrap ((IntKind.i64.wrap (Int.tdiv (IntKind.i64.wrap (b - a)) 4)) * 2)))))
theorem J0_eq (swaps j) : J0 swaps j = SJ0 swaps j := (lim_eq (.code c0 .ret) (tJ0 swaps j)).trans (by kernel_rfl)
theorem se (x : (argTy ps).den) : run E (lim E fin) fin depth (bodyOf Try.f45) .ret (entryFrom 0 ps x) = Se x.1 x.2.1 x.2.2.1 := by kernel_rfl
end slices_choosePivotOrdered_int
noncomputable def slices_choosePivotOrdered_int (data : List Int) (a : Int) (b : Int) : slices_choosePivotOrdered_int.R :=
  slices_choosePivotOrdered_int.Se data a b
namespace slices_choosePivotOrdered_int
noncomputable def sig : Sig := ⟨ps, rs, fun x => slices_choosePivotOrdered_int x.1 x.2.1 x.2.2.1⟩
theorem val (x : (argTy ps).den) : lim E fin (.code (bodyOf Try.f45) .ret) (entryFrom 0 ps x) = sig.run x := (lim_eq (.code (bodyOf Try.f45) .ret) (entryFrom 0 ps x)).trans (se x)
theorem ok : CallOK Try.prog 45 sig :=
  callOK_of_lim (E := E) mixed tt_ok (ctxOk_cons (ctxOk_cons ctxOk_nil slices_medianOrdered_int.ok Try.func57 (by kernel_rfl) (by kernel_rfl)) slices_medianAdjacentOrdered_int.ok Try.func56 (by kernel_rfl) (by kernel_rfl)) Try.func45 (by kernel_rfl : Try.f45.body = some (bodyOf Try.f45)) Try.ntmps45 (of_decide_eq_true (by kernel_rfl)) (of_decide_eq_true (by kernel_rfl)) (fun x y h => (val x).trans h)
noncomputable def ctxc (n : Nat) : List (Nat × Sig) := [(56, slices_medianAdjacentOrdered_int.sigc n), (57, slices_medianOrdered_int.sigc n)]
noncomputable def sigc (n : Nat) : Sig := ⟨ps, rs, fun x => runs (withCtx E (ctxc n)) fin n (.code (bodyOf Try.f45) .ret) (entryFrom 0 ps x)⟩
theorem sigc_le (n : Nat) : ∀ x y, (sigc n).run x = some y → sig.run x = some y := fun x y h => (val x).symm.trans (runs_lim (E := E) (c := ctxc n) (ctxLe_cons (ctxLe_cons ctxLe_nil (slices_medianOrdered_int.sigc_le n)) (slices_medianAdjacentOrdered_int.sigc_le n)) h)
end slices_choosePivotOrdered_int
namespace slices_reverseRangeOrdered_int
abbrev ps : List PM := [.own (.int .i64), .pure (.int .i64), .pure (.int .i64)]
abbrev rs : List RM := []
abbrev R : Type := Option (List Int × Unit)
noncomputable def E : Env := { tt := tt, ctx := [], nt := 32, ann := [(1000002, [(0, .keep), (6, .keep), (7, .keep)])] }
noncomputable def c0 : Code := sub [1, 1, 0, 0] (bodyOf Try.f46)
noncomputable def K3 : Kont := .blk 0 .ret
noncomputable def fin : ASt → R := Kret E Try.f46.results.toList ps rs
def tL0 (i : Int) (j : Int) (data_P : List Int) : ASt := ⟨[(7, .one (.val (.int .i64) j)), (6, .one (.val (.int .i64) i)), (0, .one (.own 10000))], [(10000, some ⟨.fixed, .int .i64, data_P⟩)]⟩
noncomputable def L0 (i : Int) (j : Int) (data_P : List Int) : R := lim E fin (.loop c0 K3) (tL0 i j data_P)
noncomputable def SL0 (i : Int) (j : Int) (data_P : List Int) : R :=
  cond (decide (i < j))
    (cond (decide (0 ≤ j) && decide (j < (data_P.length : Int)))
      (cond (decide (0 ≤ i) && decide (i < (data_P.length : Int)))
        (cond (decide (0 ≤ i) && decide (i < (data_P.length : Int)))
          (cond (decide (0 ≤ j) && decide (j < ((data_P.set i.toNat (data_P.getD j.toNat 0)).length : Int)))
            (L0 (IntKind.i64.wrap (i + 1)) (IntKind.i64.wrap (j - 1)) ((data_P.set i.toNat (data_P.getD j.toNat 0)).set j.toNat (data_P.getD i.toNat 0)))
            none)
          none)
        none)
      none)
    (some (data_P, ()))
noncomputable def Se (data : List Int) (a : Int) (b : Int) : R :=
  L0 a (IntKind.i64.wrap (b - 1)) data
theorem L0_eq (i j data_P) : L0 i j data_P = SL0 i j data_P := (lim_eq (.loop c0 K3) (tL0 i j data_P)).trans (by kernel_rfl)
theorem se (x : (argTy ps).den) : run E (lim E fin) fin depth (bodyOf Try.f46) .ret (entryFrom 0 ps x) = Se x.1 x.2.1 x.2.2.1 := by kernel_rfl
end slices_reverseRangeOrdered_int
noncomputable def slices_reverseRangeOrdered_int (data : List Int) (a : Int) (b : Int) : slices_reverseRangeOrdered_int.R :=
  slices_reverseRangeOrdered_int.Se data a b
namespace slices_reverseRangeOrdered_int
noncomputable def sig : Sig := ⟨ps, rs, fun x => slices_reverseRangeOrdered_int x.1 x.2.1 x.2.2.1⟩
theorem val (x : (argTy ps).den) : lim E fin (.code (bodyOf Try.f46) .ret) (entryFrom 0 ps x) = sig.run x := (lim_eq (.code (bodyOf Try.f46) .ret) (entryFrom 0 ps x)).trans (se x)
theorem ok : CallOK Try.prog 46 sig :=
  callOK_of_lim (E := E) mixed tt_ok ctxOk_nil Try.func46 (by kernel_rfl : Try.f46.body = some (bodyOf Try.f46)) Try.ntmps46 (of_decide_eq_true (by kernel_rfl)) (of_decide_eq_true (by kernel_rfl)) (fun x y h => (val x).trans h)
noncomputable def ctxc (n : Nat) : List (Nat × Sig) := []
noncomputable def sigc (n : Nat) : Sig := ⟨ps, rs, fun x => runs (withCtx E (ctxc n)) fin n (.code (bodyOf Try.f46) .ret) (entryFrom 0 ps x)⟩
theorem sigc_le (n : Nat) : ∀ x y, (sigc n).run x = some y → sig.run x = some y := fun x y h => (val x).symm.trans (runs_lim (E := E) (c := ctxc n) ctxLe_nil h)
end slices_reverseRangeOrdered_int
namespace slices_partialInsertionSortOrdered_int
abbrev ps : List PM := [.own (.int .i64), .pure (.int .i64), .pure (.int .i64)]
abbrev rs : List RM := [.pure .bool]
abbrev R : Type := Option (Bool × List Int × Unit)
noncomputable def E : Env := { tt := tt, ctx := [(48, cmp_Less_int.sig)], nt := 133, ann := [(1000003, [(0, .keep), (1, .keep), (2, .keep), (7, .keep), (8, .keep)]), (7, [(0, .keep), (1, .keep), (2, .keep), (7, .keep), (8, .keep)]), (1000005, [(0, .keep), (1, .keep), (2, .keep), (7, .keep), (8, .keep)]), (18, [(0, .keep), (1, .keep), (2, .keep), (7, .keep), (8, .keep)]), (1000014, [(0, .keep), (1, .keep), (2, .keep), (7, .keep), (8, .keep), (9, .keep)]), (1000020, [(0, .keep), (1, .keep), (2, .keep), (7, .keep), (8, .keep), (10, .keep)])] }
noncomputable def c0 : Code := sub [1, 1, 1] (bodyOf Try.f47)
noncomputable def c1 : Code := sub [1, 1, 0, 1, 0, 0] (bodyOf Try.f47)
noncomputable def c2 : Code := sub [1, 1, 0, 1, 0, 0, 1, 1] (bodyOf Try.f47)
noncomputable def c3 : Code := sub [1, 1, 0, 1, 0, 0, 1, 0, 0, 1] (bodyOf Try.f47)
noncomputable def c4 : Code := sub [1, 1, 0, 1, 0, 0, 1, 0, 0, 1, 1, 1, 1, 1] (bodyOf Try.f47)
noncomputable def c5 : Code := sub [1, 1, 0, 1, 0, 0, 1, 0, 0, 0, 0, 0] (bodyOf Try.f47)
noncomputable def c6 : Code := sub [1, 1, 0, 1, 0, 0, 1, 0, 0, 1, 1, 1, 1, 0, 1, 0, 1, 0, 0] (bodyOf Try.f47)
noncomputable def c7 : Code := sub [1, 1, 0, 1, 0, 0, 1, 0, 0, 1, 1, 1, 1, 1, 1, 0, 1, 0, 0] (bodyOf Try.f47)
noncomputable def K3 : Kont := .seq c0 .ret
noncomputable def K5 : Kont := .blk 0 K3
noncomputable def K6 : Kont := .loop c1 K5
noncomputable def K9 : Kont := .seq c2 K6
noncomputable def K10 : Kont := .blk 1 K9
noncomputable def K11 : Kont := .seq c3 K10
noncomputable def K12 : Kont := .blk 2 K11
noncomputable def K25 : Kont := .seq c4 K10
noncomputable def K28 : Kont := .blk 4 K25
noncomputable def K32 : Kont := .blk 6 K10
noncomputable def fin : ASt → R := Kret E Try.f47.results.toList ps rs
def tL0 (a : Int) (b : Int) (i : Int) (j : Int) (data_P : List Int) : ASt := ⟨[(8, .one (.val (.int .i64) j)), (7, .one (.val (.int .i64) i)), (2, .one (.val (.int .i64) b)), (1, .one (.val (.int .i64) a)), (0, .one (.own 10000))], [(10000, some ⟨.fixed, .int .i64, data_P⟩)]⟩
def tJ1 (a : Int) (b : Int) (i : Int) (j : Int) (data_P : List Int) : ASt := ⟨[(8, .one (.val (.int .i64) j)), (7, .one (.val (.int .i64) i)), (2, .one (.val (.int .i64) b)), (1, .one (.val (.int .i64) a)), (0, .one (.own 10000))], [(10000, some ⟨.fixed, .int .i64, data_P⟩)]⟩
def tL2 (a : Int) (b : Int) (i : Int) (j : Int) (data_P : List Int) : ASt := ⟨[(8, .one (.val (.int .i64) j)), (7, .one (.val (.int .i64) i)), (2, .one (.val (.int .i64) b)), (1, .one (.val (.int .i64) a)), (0, .one (.own 10000))], [(10000, some ⟨.fixed, .int .i64, data_P⟩)]⟩
def tJ3 (a : Int) (b : Int) (i : Int) (j : Int) (data_P : List Int) : ASt := ⟨[(8, .one (.val (.int .i64) j)), (7, .one (.val (.int .i64) i)), (2, .one (.val (.int .i64) b)), (1, .one (.val (.int .i64) a)), (0, .one (.own 10000))], [(10000, some ⟨.fixed, .int .i64, data_P⟩)]⟩
def tL4 (a : Int) (b : Int) (i : Int) (j : Int) (j_9 : Int) (data_P : List Int) : ASt := ⟨[(9, .one (.val (.int .i64) j_9)), (8, .one (.val (.int .i64) j)), (7, .one (.val (.int .i64) i)), (2, .one (.val (.int .i64) b)), (1, .one (.val (.int .i64) a)), (0, .one (.own 10000))], [(10000, some ⟨.fixed, .int .i64, data_P⟩)]⟩
def tL5 (a : Int) (b : Int) (i : Int) (j : Int) (j_10 : Int) (data_P : List Int) : ASt := ⟨[(10, .one (.val (.int .i64) j_10)), (8, .one (.val (.int .i64) j)), (7, .one (.val (.int .i64) i)), (2, .one (.val (.int .i64) b)), (1, .one (.val (.int .i64) a)), (0, .one (.own 10000))], [(10000, some ⟨.fixed, .int .i64, data_P⟩)]⟩
noncomputable def L0 (a : Int) (b : Int) (i : Int) (j : Int) (data_P : List Int) : R := lim E fin (.loop c1 K5) (tL0 a b i j data_P)
noncomputable def J1 (a : Int) (b : Int) (i : Int) (j : Int) (data_P : List Int) : R := lim E fin (.code c3 K10) (tJ1 a b i j data_P)
noncomputable def L2 (a : Int) (b : Int) (i : Int) (j : Int) (data_P : List Int) : R := lim E fin (.loop c5 K12) (tL2 a b i j data_P)
noncomputable def J3 (a : Int) (b : Int) (i : Int) (j : Int) (data_P : List Int) : R := lim E fin (.code c4 K10) (tJ3 a b i j data_P)
noncomputable def L4 (a : Int) (b : Int) (i : Int) (j : Int) (j_9 : Int) (data_P : List Int) : R := lim E fin (.loop c6 K28) (tL4 a b i j j_9 data_P)
noncomputable def L5 (a : Int) (b : Int) (i : Int) (j : Int) (j_10 : Int) (data_P : List Int) : R := lim E fin (.loop c7 K32) (tL5 a b i j j_10 data_P)
noncomputable def SL0 (a : Int) (b : Int) (i : Int) (j : Int) (data_P : List Int) : R :=
  cond (decide (j < 5))
    (L2 a b i j data_P)
    (some (false, data_P, ()))
noncomputable def SJ1 (a : Int) (b : Int) (i : Int) (j : Int) (data_P : List Int) : R :=
  cond (i == b)
    (some (true, data_P, ()))
    (cond (decide ((IntKind.i64.wrap (b - a)) < 50))
      (some (false, data_P, ()))
      (cond (decide (0 ≤ IntKind.i64.wrap (i - 1)) && decide (IntKind.i64.wrap (i - 1) < (data_P.length : Int)))
        (cond (decide (0 ≤ i) && decide (i < (data_P.length : Int)))
          (cond (decide (0 ≤ i) && decide (i < (data_P.length : Int)))
            (cond (decide (0 ≤ IntKind.i64.wrap (i - 1)) && decide (IntKind.i64.wrap (i - 1) < ((data_P.set i.toNat (data_P.getD ((IntKind.i64.wrap (i - 1)).toNat) 0)).length : Int)))
              (cond (decide ((IntKind.i64.wrap (i - a)) ≥ 2))
                (L4 a b i j (IntKind.i64.wrap (i - 1)) ((data_P.set i.toNat (data_P.getD ((IntKind.i64.wrap (i - 1)).toNat) 0)).set ((IntKind.i64.wrap (i - 1)).toNat) (data_P.getD i.toNat 0)))
                (J3 a b i j ((data_P.set i.toNat (data_P.getD ((IntKind.i64.wrap (i - 1)).toNat) 0)).set ((IntKind.i64.wrap (i - 1)).toNat) (data_P.getD i.toNat 0))))
              none)
            none)
          none)
        none))
noncomputable def SL2 (a : Int) (b : Int) (i : Int) (j : Int) (data_P : List Int) : R :=
  cond (decide (i < b))
    (cond (decide (0 ≤ i) && decide (i < (data_P.length : Int)))
      (cond (decide (0 ≤ IntKind.i64.wrap (i - 1)) && decide (IntKind.i64.wrap (i - 1) < (data_P.length : Int)))
        (Option.bind (cmp_Less_int (data_P.getD i.toNat 0) (data_P.getD ((IntKind.i64.wrap (i - 1)).toNat) 0)) fun x1 =>
        cond (!x1.1)
          (L2 a b (IntKind.i64.wrap (i + 1)) j data_P)
          (J1 a b i j data_P))
        none)
      none)
    (J1 a b i j data_P)
noncomputable def SJ3 (a : Int) (b : Int) (i : Int) (j : Int) (data_P : List Int) : R :=
  cond (decide ((IntKind.i64.wrap (b - i)) ≥ 2))
    (L5 a b i j (IntKind.i64.wrap (i + 1)) data_P)
    (L0 a b i (IntKind.i64.wrap (j + 1)) data_P)
noncomputable def SL4 (a : Int) (b : Int) (i : Int) (j : Int) (j_9 : Int) (data_P : List Int) : R :=
  cond (decide (j_9 ≥ 1))
    (cond (decide (0 ≤ j_9) && decide (j_9 < (data_P.length : Int)))
      (cond (decide (0 ≤ IntKind.i64.wrap (j_9 - 1)) && decide (IntKind.i64.wrap (j_9 - 1) < (data_P.length : Int)))
        (Option.bind (cmp_Less_int (data_P.getD j_9.toNat 0) (data_P.getD ((IntKind.i64.wrap (j_9 - 1)).toNat) 0)) fun x1 =>
        cond (!x1.1)
          (J3 a b i j data_P)
          (cond (decide (0 ≤ IntKind.i64.wrap (j_9 - 1)) && decide (IntKind.i64.wrap (j_9 - 1) < (data_P.length : Int)))
            (cond (decide (0 ≤ j_9) && decide (j_9 < (data_P.length : Int)))
              (cond (decide (0 ≤ j_9) && decide (j_9 < (data_P.length : Int)))
                (cond (decide (0 ≤ IntKind.i64.wrap (j_9 - 1)) && decide (IntKind.i64.wrap (j_9 - 1) < ((data_P.set j_9.toNat (data_P.getD ((IntKind.i64.wrap (j_9 - 1)).toNat) 0)).length : Int)))
                  (L4 a b i j (IntKind.i64.wrap (j_9 - 1)) ((data_P.set j_9.toNat (data_P.getD ((IntKind.i64.wrap (j_9 - 1)).toNat) 0)).set ((IntKind.i64.wrap (j_9 - 1)).toNat) (data_P.getD j_9.toNat 0)))
                  none)
                none)
              none)
            none))
        none)
      none)
    (J3 a b i j data_P)
noncomputable def SL5 (a : Int) (b : Int) (i : Int) (j : Int) (j_10 : Int) (data_P : List Int) : R :=
  cond (decide (j_10 < b))
    (cond (decide (0 ≤ j_10) && decide (j_10 < (data_P.length : Int)))
      (cond (decide (0 ≤ IntKind.i64.wrap (j_10 - 1)) && decide (IntKind.i64.wrap (j_10 - 1) < (data_P.length : Int)))
        (Option.bind (cmp_Less_int (data_P.getD j_10.toNat 0) (data_P.getD ((IntKind.i64.wrap (j_10 - 1)).toNat) 0)) fun x1 =>
        cond (!x1.1)
          (L0 a b i (IntKind.i64.wrap (j + 1)) data_P)
          (cond (decide (0 ≤ IntKind.i64.wrap (j_10 - 1)) && decide (IntKind.i64.wrap (j_10 - 1) < (data_P.length : Int)))
            (cond (decide (0 ≤ j_10) && decide (j_10 < (data_P.length : Int)))
              (cond (decide (0 ≤ j_10) && decide (j_10 < (data_P.length : Int)))
                (cond (decide (0 ≤ IntKind.i64.wrap (j_10 - 1)) && decide (IntKind.i64.wrap (j_10 - 1) < ((data_P.set j_10.toNat (data_P.getD ((IntKind.i64.wrap (j_10 - 1)).toNat) 0)).length : Int)))
                  (L5 a b i j (IntKind.i64.wrap (j_10 + 1)) ((data_P.set j_10.toNat (data_P.getD ((IntKind.i64.wrap (j_10 - 1)).toNat) 0)).set ((IntKind.i64.wrap (j_10 - 1)).toNat) (data_P.getD j_10.toNat 0)))
                  none)
                none)
              none)
            none))
        none)
      none)
    (L0 a b i (IntKind.i64.wrap (j + 1)) data_P)
noncomputable def Se (data : List Int) (a : Int) (b : Int) : R :=
  L0 a b (IntKind.i64.wrap (a + 1)) 0 data
theorem L0_eq (a b i j data_P) : L0 a b i j data_P = SL0 a b i j data_P := (lim_eq (.loop c1 K5) (tL0 a b i j data_P)).trans (by kernel_rfl)
theorem J1_eq (a b i j data_P) : J1 a b i j data_P = SJ1 a b i j data_P := (lim_eq (.code c3 K10) (tJ1 a b i j data_P)).trans (by kernel_rfl)
theorem L2_eq (a b i j data_P) : L2 a b i j data_P = SL2 a b i j data_P := (lim_eq (.loop c5 K12) (tL2 a b i j data_P)).trans (by kernel_rfl)
theorem J3_eq (a b i j data_P) : J3 a b i j data_P = SJ3 a b i j data_P := (lim_eq (.code c4 K10) (tJ3 a b i j data_P)).trans (by kernel_rfl)
theorem L4_eq (a b i j j_9 data_P) : L4 a b i j j_9 data_P = SL4 a b i j j_9 data_P := (lim_eq (.loop c6 K28) (tL4 a b i j j_9 data_P)).trans (by kernel_rfl)
theorem L5_eq (a b i j j_10 data_P) : L5 a b i j j_10 data_P = SL5 a b i j j_10 data_P := (lim_eq (.loop c7 K32) (tL5 a b i j j_10 data_P)).trans (by kernel_rfl)
theorem se (x : (argTy ps).den) : run E (lim E fin) fin depth (bodyOf Try.f47) .ret (entryFrom 0 ps x) = Se x.1 x.2.1 x.2.2.1 := by kernel_rfl
end slices_partialInsertionSortOrdered_int
noncomputable def slices_partialInsertionSortOrdered_int (data : List Int) (a : Int) (b : Int) : slices_partialInsertionSortOrdered_int.R :=
  slices_partialInsertionSortOrdered_int.Se data a b
namespace slices_partialInsertionSortOrdered_int
noncomputable def sig : Sig := ⟨ps, rs, fun x => slices_partialInsertionSortOrdered_int x.1 x.2.1 x.2.2.1⟩
theorem val (x : (argTy ps).den) : lim E fin (.code (bodyOf Try.f47) .ret) (entryFrom 0 ps x) = sig.run x := (lim_eq (.code (bodyOf Try.f47) .ret) (entryFrom 0 ps x)).trans (se x)
theorem ok : CallOK Try.prog 47 sig :=
  callOK_of_lim (E := E) mixed tt_ok (ctxOk_cons ctxOk_nil cmp_Less_int.ok Try.func48 (by kernel_rfl) (by kernel_rfl)) Try.func47 (by kernel_rfl : Try.f47.body = some (bodyOf Try.f47)) Try.ntmps47 (of_decide_eq_true (by kernel_rfl)) (of_decide_eq_true (by kernel_rfl)) (fun x y h => (val x).trans h)
noncomputable def ctxc (n : Nat) : List (Nat × Sig) := [(48, cmp_Less_int.sigc n)]
noncomputable def sigc (n : Nat) : Sig := ⟨ps, rs, fun x => runs (withCtx E (ctxc n)) fin n (.code (bodyOf Try.f47) .ret) (entryFrom 0 ps x)⟩
theorem sigc_le (n : Nat) : ∀ x y, (sigc n).run x = some y → sig.run x = some y := fun x y h => (val x).symm.trans (runs_lim (E := E) (c := ctxc n) (ctxLe_cons ctxLe_nil (cmp_Less_int.sigc_le n)) h)
end slices_partialInsertionSortOrdered_int
namespace slices_partitionEqualOrdered_int
abbrev ps : List PM := [.own (.int .i64), .pure (.int .i64), .pure (.int .i64), .pure (.int .i64)]
abbrev rs : List RM := [.pure (.int .i64)]
abbrev R : Type := Option (Int × List Int × Unit)
noncomputable def E : Env := { tt := tt, ctx := [(48, cmp_Less_int.sig)], nt := 84, ann := [(1000003, [(0, .keep), (1, .keep), (9, .keep), (10, .keep)]), (5, [(0, .keep), (1, .keep), (9, .keep), (10, .keep)]), (1000003, [(0, .keep), (1, .keep), (9, .keep), (10, .keep)]), (7, [(0, .keep), (1, .keep), (9, .keep), (10, .keep)]), (1000005, [(0, .keep), (1, .keep), (9, .keep), (10, .keep)])] }
noncomputable def c0 : Code := sub [1, 1, 1, 1] (bodyOf Try.f49)
noncomputable def c1 : Code := sub [1, 1, 1, 0, 0, 0] (bodyOf Try.f49)
noncomputable def c2 : Code := sub [1, 1, 1, 0, 0, 0, 0, 1] (bodyOf Try.f49)
noncomputable def c3 : Code := sub [1, 1, 1, 0, 0, 0, 0, 1, 1] (bodyOf Try.f49)
noncomputable def c4 : Code := sub [1, 1, 1, 0, 0, 0, 0, 0, 0, 0] (bodyOf Try.f49)
noncomputable def c5 : Code := sub [1, 1, 1, 0, 0, 0, 0, 1, 0, 0, 0] (bodyOf Try.f49)
noncomputable def K4 : Kont := .seq c0 .ret
noncomputable def K5 : Kont := .blk 0 K4
noncomputable def K6 : Kont := .loop c1 K5
noncomputable def K7 : Kont := .blk 1 K6
noncomputable def K8 : Kont := .seq c2 K7
noncomputable def K9 : Kont := .blk 2 K8
noncomputable def K14 : Kont := .seq c3 K7
noncomputable def K15 : Kont := .blk 4 K14
noncomputable def fin : ASt → R := Kret E Try.f49.results.toList ps rs
def tL0 (a : Int) (i : Int) (j : Int) (data_P : List Int) : ASt := ⟨[(10, .one (.val (.int .i64) j)), (9, .one (.val (.int .i64) i)), (1, .one (.val (.int .i64) a)), (0, .one (.own 10000))], [(10000, some ⟨.fixed, .int .i64, data_P⟩)]⟩
def tJ1 (a : Int) (i : Int) (j : Int) (data_P : List Int) : ASt := ⟨[(10, .one (.val (.int .i64) j)), (9, .one (.val (.int .i64) i)), (1, .one (.val (.int .i64) a)), (0, .one (.own 10000))], [(10000, some ⟨.fixed, .int .i64, data_P⟩)]⟩
def tL2 (a : Int) (i : Int) (j : Int) (data_P : List Int) : ASt := ⟨[(10, .one (.val (.int .i64) j)), (9, .one (.val (.int .i64) i)), (1, .one (.val (.int .i64) a)), (0, .one (.own 10000))], [(10000, some ⟨.fixed, .int .i64, data_P⟩)]⟩
def tJ3 (a : Int) (i : Int) (j : Int) (data_P : List Int) : ASt := ⟨[(10, .one (.val (.int .i64) j)), (9, .one (.val (.int .i64) i)), (1, .one (.val (.int .i64) a)), (0, .one (.own 10000))], [(10000, some ⟨.fixed, .int .i64, data_P⟩)]⟩
def tL4 (a : Int) (i : Int) (j : Int) (data_P : List Int) : ASt := ⟨[(10, .one (.val (.int .i64) j)), (9, .one (.val (.int .i64) i)), (1, .one (.val (.int .i64) a)), (0, .one (.own 10000))], [(10000, some ⟨.fixed, .int .i64, data_P⟩)]⟩
noncomputable def L0 (a : Int) (i : Int) (j : Int) (data_P : List Int) : R := lim E fin (.loop c1 K5) (tL0 a i j data_P)
noncomputable def J1 (a : Int) (i : Int) (j : Int) (data_P : List Int) : R := lim E fin (.code c2 K7) (tJ1 a i j data_P)
noncomputable def L2 (a : Int) (i : Int) (j : Int) (data_P : List Int) : R := lim E fin (.loop c4 K9) (tL2 a i j data_P)
noncomputable def J3 (a : Int) (i : Int) (j : Int) (data_P : List Int) : R := lim E fin (.code c3 K7) (tJ3 a i j data_P)
noncomputable def L4 (a : Int) (i : Int) (j : Int) (data_P : List Int) : R := lim E fin (.loop c5 K15) (tL4 a i j data_P)
noncomputable def SL0 (a : Int) (i : Int) (j : Int) (data_P : List Int) : R :=
  L2 a i j data_P
noncomputable def SJ1 (a : Int) (i : Int) (j : Int) (data_P : List Int) : R :=
  L4 a i j data_P
noncomputable def SL2 (a : Int) (i : Int) (j : Int) (data_P : List Int) : R :=
  cond (decide (i ≤ j))
    (cond (decide (0 ≤ a) && decide (a < (data_P.length : Int)))
      (cond (decide (0 ≤ i) && decide (i < (data_P.length : Int)))
        (Option.bind (cmp_Less_int (data_P.getD a.toNat 0) (data_P.getD i.toNat 0)) fun x1 =>
        cond (!x1.1)
          (L2 a (IntKind.i64.wrap (i + 1)) j data_P)
          (J1 a i j data_P))
        none)
      none)
    (J1 a i j data_P)
noncomputable def SJ3 (a : Int) (i : Int) (j : Int) (data_P : List Int) : R :=
  cond (decide (i > j))
    (some (i, data_P, ()))
    (cond (decide (0 ≤ j) && decide (j < (data_P.length : Int)))
      (cond (decide (0 ≤ i) && decide (i < (data_P.length : Int)))
        (cond (decide (0 ≤ i) && decide (i < (data_P.length : Int)))
          (cond (decide (0 ≤ j) && decide (j < ((data_P.set i.toNat (data_P.getD j.toNat 0)).length : Int)))
            (L0 a (IntKind.i64.wrap (i + 1)) (IntKind.i64.wrap (j - 1)) ((data_P.set i.toNat (data_P.getD j.toNat 0)).set j.toNat (data_P.getD i.toNat 0)))
            none)
          none)
        none)
      none)
noncomputable def SL4 (a : Int) (i : Int) (j : Int) (data_P : List Int) : R :=
  cond (decide (i ≤ j))
    (cond (decide (0 ≤ a) && decide (a < (data_P.length : Int)))
      (cond (decide (0 ≤ j) && decide (j < (data_P.length : Int)))
        (Option.bind (cmp_Less_int (data_P.getD a.toNat 0) (data_P.getD j.toNat 0)) fun x1 =>
        cond x1.1
          (L4 a i (IntKind.i64.wrap (j - 1)) data_P)
          (J3 a i j data_P))
        none)
      none)
    (J3 a i j data_P)
noncomputable def Se (data : List Int) (a : Int) (b : Int) (pivot : Int) : R :=
  cond (decide (0 ≤ pivot) && decide (pivot < (data.length : Int)))
    (cond (decide (0 ≤ a) && decide (a < (data.length : Int)))
      (cond (decide (0 ≤ a) && decide (a < (data.length : Int)))
        (cond (decide (0 ≤ pivot) && decide (pivot < ((data.set a.toNat (data.getD pivot.toNat 0)).length : Int)))
          (L0 a (IntKind.i64.wrap (a + 1)) (IntKind.i64.wrap (b - 1)) ((data.set a.toNat (data.getD pivot.toNat 0)).set pivot.toNat (data.getD a.toNat 0)))
          none)
        none)
      none)
    none
theorem L0_eq (a i j data_P) : L0 a i j data_P = SL0 a i j data_P := (lim_eq (.loop c1 K5) (tL0 a i j data_P)).trans (by kernel_rfl)
theorem J1_eq (a i j data_P) : J1 a i j data_P = SJ1 a i j data_P := (lim_eq (.code c2 K7) (tJ1 a i j data_P)).trans (by kernel_rfl)
theorem L2_eq (a i j data_P) : L2 a i j data_P = SL2 a i j data_P := (lim_eq (.loop c4 K9) (tL2 a i j data_P)).trans (by kernel_rfl)
theorem J3_eq (a i j data_P) : J3 a i j data_P = SJ3 a i j data_P := (lim_eq (.code c3 K7) (tJ3 a i j data_P)).trans (by kernel_rfl)
theorem L4_eq (a i j data_P) : L4 a i j data_P = SL4 a i j data_P := (lim_eq (.loop c5 K15) (tL4 a i j data_P)).trans (by kernel_rfl)
theorem se (x : (argTy ps).den) : run E (lim E fin) fin depth (bodyOf Try.f49) .ret (entryFrom 0 ps x) = Se x.1 x.2.1 x.2.2.1 x.2.2.2.1 := by kernel_rfl
end slices_partitionEqualOrdered_int
noncomputable def slices_partitionEqualOrdered_int (data : List Int) (a : Int) (b : Int) (pivot : Int) : slices_partitionEqualOrdered_int.R :=
  slices_partitionEqualOrdered_int.Se data a b pivot
namespace slices_partitionEqualOrdered_int
noncomputable def sig : Sig := ⟨ps, rs, fun x => slices_partitionEqualOrdered_int x.1 x.2.1 x.2.2.1 x.2.2.2.1⟩
theorem val (x : (argTy ps).den) : lim E fin (.code (bodyOf Try.f49) .ret) (entryFrom 0 ps x) = sig.run x := (lim_eq (.code (bodyOf Try.f49) .ret) (entryFrom 0 ps x)).trans (se x)
theorem ok : CallOK Try.prog 49 sig :=
  callOK_of_lim (E := E) mixed tt_ok (ctxOk_cons ctxOk_nil cmp_Less_int.ok Try.func48 (by kernel_rfl) (by kernel_rfl)) Try.func49 (by kernel_rfl : Try.f49.body = some (bodyOf Try.f49)) Try.ntmps49 (of_decide_eq_true (by kernel_rfl)) (of_decide_eq_true (by kernel_rfl)) (fun x y h => (val x).trans h)
noncomputable def ctxc (n : Nat) : List (Nat × Sig) := [(48, cmp_Less_int.sigc n)]
noncomputable def sigc (n : Nat) : Sig := ⟨ps, rs, fun x => runs (withCtx E (ctxc n)) fin n (.code (bodyOf Try.f49) .ret) (entryFrom 0 ps x)⟩
theorem sigc_le (n : Nat) : ∀ x y, (sigc n).run x = some y → sig.run x = some y := fun x y h => (val x).symm.trans (runs_lim (E := E) (c := ctxc n) (ctxLe_cons ctxLe_nil (cmp_Less_int.sigc_le n)) h)
end slices_partitionEqualOrdered_int
end Go.Proofs.Ytmmimgjakoacaaa
