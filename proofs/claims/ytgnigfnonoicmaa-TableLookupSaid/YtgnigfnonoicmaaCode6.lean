import Derived.Test.YtgnigfnonoicmaaCode5
set_option maxRecDepth 100000
set_option linter.unusedVariables false
namespace Go.Proofs.Ytgnigfnonoicmaa
open Go Go.Lift
namespace table_ChangeDates_1
abbrev ps : List PM := [.pure (.int .i64)]
abbrev rs : List RM := [.pure .bool]
abbrev R : Type := Option (Bool × Unit)
noncomputable def E : Env := { tt := tt, ctx := [], nt := 9, ann := [] }
noncomputable def fin : ASt → R := Kret E Try.f59.results.toList ps rs
noncomputable def Se (d : Int) : R :=
  cond (decide (d < 1))
    (some (true, ()))
    (some (decide (d > 109572), ()))
theorem se (jmp : Tgt → ASt → R) (x : (argTy ps).den) : run E jmp fin depth (bodyOf Try.f59) .ret (entryFrom 0 ps x) =
    Se x.1 := by kernel_rfl
end table_ChangeDates_1
noncomputable def table_ChangeDates_1 (d : Int) : table_ChangeDates_1.R :=
  table_ChangeDates_1.Se d
noncomputable def table_ChangeDates_1.sig : Sig := ⟨table_ChangeDates_1.ps, table_ChangeDates_1.rs, fun x => table_ChangeDates_1 x.1⟩
theorem table_ChangeDates_1.ok : CallOK Try.prog 59 table_ChangeDates_1.sig :=
  callOK_of_lim (E := table_ChangeDates_1.E) mixed tt_ok ctxOk_nil Try.func59 (by kernel_rfl : Try.f59.body = some (bodyOf Try.f59)) Try.ntmps59 (of_decide_eq_true (by kernel_rfl)) (of_decide_eq_true (by kernel_rfl))
    fun x y h => ((lim_eq (.code (bodyOf Try.f59) .ret) (entryFrom 0 table_ChangeDates_1.ps x)).trans (table_ChangeDates_1.se (lim table_ChangeDates_1.E table_ChangeDates_1.fin) x)).trans h
theorem table_ChangeDates_1.val (x : (argTy table_ChangeDates_1.ps).den) : lim table_ChangeDates_1.E table_ChangeDates_1.fin (.code (bodyOf Try.f59) .ret) (entryFrom 0 table_ChangeDates_1.ps x) = table_ChangeDates_1.sig.run x :=
  (lim_eq (.code (bodyOf Try.f59) .ret) (entryFrom 0 table_ChangeDates_1.ps x)).trans (table_ChangeDates_1.se (lim table_ChangeDates_1.E table_ChangeDates_1.fin) x)
noncomputable def table_ChangeDates_1.ctxc (n : Nat) : List (Nat × Sig) := []
noncomputable def table_ChangeDates_1.sigc (n : Nat) : Sig := ⟨table_ChangeDates_1.ps, table_ChangeDates_1.rs, fun x => runs (withCtx table_ChangeDates_1.E (table_ChangeDates_1.ctxc n)) table_ChangeDates_1.fin n (.code (bodyOf Try.f59) .ret) (entryFrom 0 table_ChangeDates_1.ps x)⟩
theorem table_ChangeDates_1.sigc_le (n : Nat) : ∀ x y, (table_ChangeDates_1.sigc n).run x = some y → table_ChangeDates_1.sig.run x = some y :=
  fun x y h => (table_ChangeDates_1.val x).symm.trans (runs_lim (E := table_ChangeDates_1.E) (c := table_ChangeDates_1.ctxc n) ctxLe_nil h)
namespace slices_IndexFunc_int_int_table_ChangeDates_1
abbrev ps : List PM := [.pure (.sl (.int .i64)), .fn 59]
abbrev rs : List RM := [.pure (.int .i64)]
abbrev R : Type := Option (Int × Unit)
noncomputable def E : Env := { tt := tt, ctx := [(59, table_ChangeDates_1.sig)], nt := 19, ann := [(1000002, [(0, .keep), (1, .keep), (7, .keep), (8, .keep)])] }
noncomputable def c0 : Code := sub [1, 1] (bodyOf Try.f74)
noncomputable def c1 : Code := sub [1, 0, 1, 0, 0] (bodyOf Try.f74)
noncomputable def K2 : Kont := .seq c0 .ret
noncomputable def K4 : Kont := .blk 0 K2
noncomputable def fin : ASt → R := Kret E Try.f74.results.toList ps rs
def tL0 (s : List Int) (v_7 : Int) (v_8 : Int) : ASt := ⟨[(8, .one (.val (.int .i64) v_8)), (7, .one (.val (.int .i64) v_7)), (1, .one (.fn 59 [])), (0, .one (.val (.sl (.int .i64)) s))], []⟩
noncomputable def SL0 (kL0 : (List Int) → Int → Int → R) (s : List Int) (v_7 : Int) (v_8 : Int) : R :=
  cond (decide (v_8 < v_7))
    (Option.bind (idx s v_8) fun x1 =>
    Option.bind (table_ChangeDates_1 x1) fun x2 =>
    cond x2.1
      (some (v_8, ()))
      (kL0 s v_7 (IntKind.i64.wrap (v_8 + 1))))
    (some ((-1), ()))
noncomputable def Se (kL0 : (List Int) → Int → Int → R) (s : List Int) : R :=
  kL0 s (s.length : Int) 0
theorem sL0 (jmp : Tgt → ASt → R) (s : List Int) (v_7 : Int) (v_8 : Int) : run E jmp fin depth c1 (.loop c1 K4) (tL0 s v_7 v_8) =
    SL0 (fun s v_7 v_8 => jmp (.loop c1 K4) (tL0 s v_7 v_8)) s v_7 v_8 := by kernel_rfl
theorem se (jmp : Tgt → ASt → R) (x : (argTy ps).den) : run E jmp fin depth (bodyOf Try.f74) .ret (entryFrom 0 ps x) =
    Se (fun s v_7 v_8 => jmp (.loop c1 K4) (tL0 s v_7 v_8)) x.1 := by kernel_rfl
noncomputable def L0 (s : List Int) (v_7 : Int) (v_8 : Int) : R := lim E fin (.loop c1 K4) (tL0 s v_7 v_8)
theorem L0_eq (s : List Int) (v_7 : Int) (v_8 : Int) : L0 s v_7 v_8 = SL0 L0 s v_7 v_8 :=
  (lim_eq (.loop c1 K4) (tL0 s v_7 v_8)).trans (sL0 (lim E fin) s v_7 v_8)
end slices_IndexFunc_int_int_table_ChangeDates_1
noncomputable def slices_IndexFunc_int_int_table_ChangeDates_1 (s : List Int) : slices_IndexFunc_int_int_table_ChangeDates_1.R :=
  slices_IndexFunc_int_int_table_ChangeDates_1.Se slices_IndexFunc_int_int_table_ChangeDates_1.L0 s
noncomputable def slices_IndexFunc_int_int_table_ChangeDates_1.sig : Sig := ⟨slices_IndexFunc_int_int_table_ChangeDates_1.ps, slices_IndexFunc_int_int_table_ChangeDates_1.rs, fun x => slices_IndexFunc_int_int_table_ChangeDates_1 x.1⟩
theorem slices_IndexFunc_int_int_table_ChangeDates_1.ok : CallOK Try.prog 74 slices_IndexFunc_int_int_table_ChangeDates_1.sig :=
  callOK_of_lim (E := slices_IndexFunc_int_int_table_ChangeDates_1.E) mixed tt_ok (ctxOk_cons ctxOk_nil table_ChangeDates_1.ok Try.func59 (by kernel_rfl) (by kernel_rfl)) Try.func74 (by kernel_rfl : Try.f74.body = some (bodyOf Try.f74)) Try.ntmps74 (of_decide_eq_true (by kernel_rfl)) (of_decide_eq_true (by kernel_rfl))
    fun x y h => ((lim_eq (.code (bodyOf Try.f74) .ret) (entryFrom 0 slices_IndexFunc_int_int_table_ChangeDates_1.ps x)).trans (slices_IndexFunc_int_int_table_ChangeDates_1.se (lim slices_IndexFunc_int_int_table_ChangeDates_1.E slices_IndexFunc_int_int_table_ChangeDates_1.fin) x)).trans h
theorem slices_IndexFunc_int_int_table_ChangeDates_1.val (x : (argTy slices_IndexFunc_int_int_table_ChangeDates_1.ps).den) : lim slices_IndexFunc_int_int_table_ChangeDates_1.E slices_IndexFunc_int_int_table_ChangeDates_1.fin (.code (bodyOf Try.f74) .ret) (entryFrom 0 slices_IndexFunc_int_int_table_ChangeDates_1.ps x) = slices_IndexFunc_int_int_table_ChangeDates_1.sig.run x :=
  (lim_eq (.code (bodyOf Try.f74) .ret) (entryFrom 0 slices_IndexFunc_int_int_table_ChangeDates_1.ps x)).trans (slices_IndexFunc_int_int_table_ChangeDates_1.se (lim slices_IndexFunc_int_int_table_ChangeDates_1.E slices_IndexFunc_int_int_table_ChangeDates_1.fin) x)
noncomputable def slices_IndexFunc_int_int_table_ChangeDates_1.ctxc (n : Nat) : List (Nat × Sig) := [(59, table_ChangeDates_1.sigc n)]
noncomputable def slices_IndexFunc_int_int_table_ChangeDates_1.sigc (n : Nat) : Sig := ⟨slices_IndexFunc_int_int_table_ChangeDates_1.ps, slices_IndexFunc_int_int_table_ChangeDates_1.rs, fun x => runs (withCtx slices_IndexFunc_int_int_table_ChangeDates_1.E (slices_IndexFunc_int_int_table_ChangeDates_1.ctxc n)) slices_IndexFunc_int_int_table_ChangeDates_1.fin n (.code (bodyOf Try.f74) .ret) (entryFrom 0 slices_IndexFunc_int_int_table_ChangeDates_1.ps x)⟩
theorem slices_IndexFunc_int_int_table_ChangeDates_1.sigc_le (n : Nat) : ∀ x y, (slices_IndexFunc_int_int_table_ChangeDates_1.sigc n).run x = some y → slices_IndexFunc_int_int_table_ChangeDates_1.sig.run x = some y :=
  fun x y h => (slices_IndexFunc_int_int_table_ChangeDates_1.val x).symm.trans (runs_lim (E := slices_IndexFunc_int_int_table_ChangeDates_1.E) (c := slices_IndexFunc_int_int_table_ChangeDates_1.ctxc n) (ctxLe_cons ctxLe_nil (table_ChangeDates_1.sigc_le n)) h)
namespace slices_DeleteFunc_int_int_table_ChangeDates_1
abbrev ps : List PM := [.give (.int .i64), .fn 59]
abbrev rs : List RM := [.own (.int .i64)]
abbrev R : Type := Option (List Int × Unit)
noncomputable def E : Env := { tt := tt, ctx := [(74, slices_IndexFunc_int_int_table_ChangeDates_1.sig), (59, table_ChangeDates_1.sig)], nt := 42, ann := [(1000005, [(0, .keep), (1, .keep), (5, .keep), (6, .keep)])] }
noncomputable def c0 : Code := sub [1, 1, 1, 1] (bodyOf Try.f57)
noncomputable def c1 : Code := sub [1, 1, 1, 0, 1, 0, 0] (bodyOf Try.f57)
noncomputable def K6 : Kont := .seq c0 .ret
noncomputable def K8 : Kont := .blk 0 K6
noncomputable def fin : ASt → R := Kret E Try.f57.results.toList ps rs
def tL0 (s : List Int) (i : Int) (j : Int) : ASt := ⟨[(6, .one (.val (.int .i64) j)), (5, .one (.val (.int .i64) i)), (1, .one (.fn 59 [])), (0, .one (.own 0))], [(0, some ⟨.free, .int .i64, s⟩)]⟩
noncomputable def SL0 (kL0 : (List Int) → Int → Int → R) (s : List Int) (i : Int) (j : Int) : R :=
  cond (decide (j < (s.length : Int)))
    (cond (decide (0 ≤ j) && decide (j < (s.length : Int)))
      (Option.bind (table_ChangeDates_1 (s.getD j.toNat 0)) fun x1 =>
      cond (!x1.1)
        (cond (decide (0 ≤ i) && decide (i < (s.length : Int)))
          (kL0 (s.set i.toNat (s.getD j.toNat 0)) (IntKind.i64.wrap (i + 1)) (IntKind.i64.wrap (j + 1)))
          none)
        (kL0 s i (IntKind.i64.wrap (j + 1))))
      none)
    (cond (decide ((0 : Int) ≤ i) && (decide ((i : Int) ≤ (s.length : Int)) && decide ((s.length : Int) ≤ (s.length : Int))))
      (cond (decide (0 < (s.length - i.toNat)))
        (cond (decide ((0 : Int) ≤ 0) && (decide ((0 : Int) ≤ i) && decide (i ≤ ((s.take i.toNat ++ (List.replicate (s.length - i.toNat) 0 ++ s.drop (i.toNat + (s.length - i.toNat)))).length : Int))))
          (some (((s.take i.toNat ++ (List.replicate (s.length - i.toNat) 0 ++ s.drop (i.toNat + (s.length - i.toNat)))).take i.toNat), ()))
          none)
        none)
      none)
noncomputable def Se (kL0 : (List Int) → Int → Int → R) (s : List Int) : R :=
  Option.bind (slices_IndexFunc_int_int_table_ChangeDates_1 s) fun x1 =>
  cond (x1.1 == (-1))
    (some (s, ()))
    (kL0 s x1.1 (IntKind.i64.wrap (x1.1 + 1)))
theorem sL0 (jmp : Tgt → ASt → R) (s : List Int) (i : Int) (j : Int) : run E jmp fin depth c1 (.loop c1 K8) (tL0 s i j) =
    SL0 (fun s i j => jmp (.loop c1 K8) (tL0 s i j)) s i j := by kernel_rfl
theorem se (jmp : Tgt → ASt → R) (x : (argTy ps).den) : run E jmp fin depth (bodyOf Try.f57) .ret (entryFrom 0 ps x) =
    Se (fun s i j => jmp (.loop c1 K8) (tL0 s i j)) x.1 := by kernel_rfl
noncomputable def L0 (s : List Int) (i : Int) (j : Int) : R := lim E fin (.loop c1 K8) (tL0 s i j)
theorem L0_eq (s : List Int) (i : Int) (j : Int) : L0 s i j = SL0 L0 s i j :=
  (lim_eq (.loop c1 K8) (tL0 s i j)).trans (sL0 (lim E fin) s i j)
end slices_DeleteFunc_int_int_table_ChangeDates_1
noncomputable def slices_DeleteFunc_int_int_table_ChangeDates_1 (s : List Int) : slices_DeleteFunc_int_int_table_ChangeDates_1.R :=
  slices_DeleteFunc_int_int_table_ChangeDates_1.Se slices_DeleteFunc_int_int_table_ChangeDates_1.L0 s
noncomputable def slices_DeleteFunc_int_int_table_ChangeDates_1.sig : Sig := ⟨slices_DeleteFunc_int_int_table_ChangeDates_1.ps, slices_DeleteFunc_int_int_table_ChangeDates_1.rs, fun x => slices_DeleteFunc_int_int_table_ChangeDates_1 x.1⟩
theorem slices_DeleteFunc_int_int_table_ChangeDates_1.ok : CallOK Try.prog 57 slices_DeleteFunc_int_int_table_ChangeDates_1.sig :=
  callOK_of_lim (E := slices_DeleteFunc_int_int_table_ChangeDates_1.E) mixed tt_ok (ctxOk_cons (ctxOk_cons ctxOk_nil table_ChangeDates_1.ok Try.func59 (by kernel_rfl) (by kernel_rfl)) slices_IndexFunc_int_int_table_ChangeDates_1.ok Try.func74 (by kernel_rfl) (by kernel_rfl)) Try.func57 (by kernel_rfl : Try.f57.body = some (bodyOf Try.f57)) Try.ntmps57 (of_decide_eq_true (by kernel_rfl)) (of_decide_eq_true (by kernel_rfl))
    fun x y h => ((lim_eq (.code (bodyOf Try.f57) .ret) (entryFrom 0 slices_DeleteFunc_int_int_table_ChangeDates_1.ps x)).trans (slices_DeleteFunc_int_int_table_ChangeDates_1.se (lim slices_DeleteFunc_int_int_table_ChangeDates_1.E slices_DeleteFunc_int_int_table_ChangeDates_1.fin) x)).trans h
theorem slices_DeleteFunc_int_int_table_ChangeDates_1.val (x : (argTy slices_DeleteFunc_int_int_table_ChangeDates_1.ps).den) : lim slices_DeleteFunc_int_int_table_ChangeDates_1.E slices_DeleteFunc_int_int_table_ChangeDates_1.fin (.code (bodyOf Try.f57) .ret) (entryFrom 0 slices_DeleteFunc_int_int_table_ChangeDates_1.ps x) = slices_DeleteFunc_int_int_table_ChangeDates_1.sig.run x :=
  (lim_eq (.code (bodyOf Try.f57) .ret) (entryFrom 0 slices_DeleteFunc_int_int_table_ChangeDates_1.ps x)).trans (slices_DeleteFunc_int_int_table_ChangeDates_1.se (lim slices_DeleteFunc_int_int_table_ChangeDates_1.E slices_DeleteFunc_int_int_table_ChangeDates_1.fin) x)
noncomputable def slices_DeleteFunc_int_int_table_ChangeDates_1.ctxc (n : Nat) : List (Nat × Sig) := [(74, slices_IndexFunc_int_int_table_ChangeDates_1.sigc n), (59, table_ChangeDates_1.sigc n)]
noncomputable def slices_DeleteFunc_int_int_table_ChangeDates_1.sigc (n : Nat) : Sig := ⟨slices_DeleteFunc_int_int_table_ChangeDates_1.ps, slices_DeleteFunc_int_int_table_ChangeDates_1.rs, fun x => runs (withCtx slices_DeleteFunc_int_int_table_ChangeDates_1.E (slices_DeleteFunc_int_int_table_ChangeDates_1.ctxc n)) slices_DeleteFunc_int_int_table_ChangeDates_1.fin n (.code (bodyOf Try.f57) .ret) (entryFrom 0 slices_DeleteFunc_int_int_table_ChangeDates_1.ps x)⟩
theorem slices_DeleteFunc_int_int_table_ChangeDates_1.sigc_le (n : Nat) : ∀ x y, (slices_DeleteFunc_int_int_table_ChangeDates_1.sigc n).run x = some y → slices_DeleteFunc_int_int_table_ChangeDates_1.sig.run x = some y :=
  fun x y h => (slices_DeleteFunc_int_int_table_ChangeDates_1.val x).symm.trans (runs_lim (E := slices_DeleteFunc_int_int_table_ChangeDates_1.E) (c := slices_DeleteFunc_int_int_table_ChangeDates_1.ctxc n) (ctxLe_cons (ctxLe_cons ctxLe_nil (table_ChangeDates_1.sigc_le n)) (slices_IndexFunc_int_int_table_ChangeDates_1.sigc_le n)) h)
namespace table_ChangeDates
abbrev ps : List PM := [.pure api_Table]
abbrev rs : List RM := [.own (.int .i64)]
abbrev R : Type := Option (List Int × Unit)
noncomputable def E : Env := { tt := tt, ctx := [(58, daterange_Boundaries.sig), (57, slices_DeleteFunc_int_int_table_ChangeDates_1.sig)], nt := 22, ann := [(1000003, [(3, .own api_Type), (7, .keep), (8, .keep), (9, .keep)])] }
noncomputable def c0 : Code := sub [1, 1, 1] (bodyOf Try.f29)
noncomputable def c1 : Code := sub [1, 1, 0, 1, 0, 0] (bodyOf Try.f29)
noncomputable def K3 : Kont := .seq c0 .ret
noncomputable def K5 : Kont := .blk 0 K3
noncomputable def fin : ASt → R := Kret E Try.f29.results.toList ps rs
def tL0 (l : List api_TypeV) (v_7 : List api_RowV) (v_8 : Int) (v_9 : Int) : ASt := ⟨[(9, .one (.val (.int .i64) v_9)), (8, .one (.val (.int .i64) v_8)), (7, .one (.val (.sl api_Row) v_7)), (3, .one (.own 3))], [(3, some ⟨.free, api_Type, l⟩)]⟩
noncomputable def SL0 (kL0 : (List api_TypeV) → (List api_RowV) → Int → Int → R) (l : List api_TypeV) (v_7 : List api_RowV) (v_8 : Int) (v_9 : Int) : R :=
  cond (decide (v_9 < v_8))
    (Option.bind (idx v_7 v_9) fun x1 =>
    cond (decide ((l.length + 1) * 16 ≤ room) && decide (0 < Ty.nc (.pair (.int .i64) (.pair (.int .i64) .unit))))
      (kL0 (l ++ [x1.1]) v_7 v_8 (IntKind.i64.wrap (v_9 + 1)))
      none)
    (Option.bind (daterange_Boundaries l) fun x2 =>
    Option.bind (slices_DeleteFunc_int_int_table_ChangeDates_1 x2.1) fun x3 =>
    some (x3.1, ()))
noncomputable def Se (kL0 : (List api_TypeV) → (List api_RowV) → Int → Int → R) (t : api_TableV) : R :=
  kL0 [] t.2.2.2.1 (t.2.2.2.1.length : Int) 0
theorem sL0 (jmp : Tgt → ASt → R) (l : List api_TypeV) (v_7 : List api_RowV) (v_8 : Int) (v_9 : Int) : run E jmp fin depth c1 (.loop c1 K5) (tL0 l v_7 v_8 v_9) =
    SL0 (fun l v_7 v_8 v_9 => jmp (.loop c1 K5) (tL0 l v_7 v_8 v_9)) l v_7 v_8 v_9 := by kernel_rfl
theorem se (jmp : Tgt → ASt → R) (x : (argTy ps).den) : run E jmp fin depth (bodyOf Try.f29) .ret (entryFrom 0 ps x) =
    Se (fun l v_7 v_8 v_9 => jmp (.loop c1 K5) (tL0 l v_7 v_8 v_9)) x.1 := by kernel_rfl
noncomputable def L0 (l : List api_TypeV) (v_7 : List api_RowV) (v_8 : Int) (v_9 : Int) : R := lim E fin (.loop c1 K5) (tL0 l v_7 v_8 v_9)
theorem L0_eq (l : List api_TypeV) (v_7 : List api_RowV) (v_8 : Int) (v_9 : Int) : L0 l v_7 v_8 v_9 = SL0 L0 l v_7 v_8 v_9 :=
  (lim_eq (.loop c1 K5) (tL0 l v_7 v_8 v_9)).trans (sL0 (lim E fin) l v_7 v_8 v_9)
end table_ChangeDates
noncomputable def table_ChangeDates (t : api_TableV) : table_ChangeDates.R :=
  table_ChangeDates.Se table_ChangeDates.L0 t
noncomputable def table_ChangeDates.sig : Sig := ⟨table_ChangeDates.ps, table_ChangeDates.rs, fun x => table_ChangeDates x.1⟩
theorem table_ChangeDates.ok : CallOK Try.prog 29 table_ChangeDates.sig :=
  callOK_of_lim (E := table_ChangeDates.E) mixed tt_ok (ctxOk_cons (ctxOk_cons ctxOk_nil slices_DeleteFunc_int_int_table_ChangeDates_1.ok Try.func57 (by kernel_rfl) (by kernel_rfl)) daterange_Boundaries.ok Try.func58 (by kernel_rfl) (by kernel_rfl)) Try.func29 (by kernel_rfl : Try.f29.body = some (bodyOf Try.f29)) Try.ntmps29 (of_decide_eq_true (by kernel_rfl)) (of_decide_eq_true (by kernel_rfl))
    fun x y h => ((lim_eq (.code (bodyOf Try.f29) .ret) (entryFrom 0 table_ChangeDates.ps x)).trans (table_ChangeDates.se (lim table_ChangeDates.E table_ChangeDates.fin) x)).trans h
theorem table_ChangeDates.val (x : (argTy table_ChangeDates.ps).den) : lim table_ChangeDates.E table_ChangeDates.fin (.code (bodyOf Try.f29) .ret) (entryFrom 0 table_ChangeDates.ps x) = table_ChangeDates.sig.run x :=
  (lim_eq (.code (bodyOf Try.f29) .ret) (entryFrom 0 table_ChangeDates.ps x)).trans (table_ChangeDates.se (lim table_ChangeDates.E table_ChangeDates.fin) x)
noncomputable def table_ChangeDates.ctxc (n : Nat) : List (Nat × Sig) := [(58, daterange_Boundaries.sigc n), (57, slices_DeleteFunc_int_int_table_ChangeDates_1.sigc n)]
noncomputable def table_ChangeDates.sigc (n : Nat) : Sig := ⟨table_ChangeDates.ps, table_ChangeDates.rs, fun x => runs (withCtx table_ChangeDates.E (table_ChangeDates.ctxc n)) table_ChangeDates.fin n (.code (bodyOf Try.f29) .ret) (entryFrom 0 table_ChangeDates.ps x)⟩
theorem table_ChangeDates.sigc_le (n : Nat) : ∀ x y, (table_ChangeDates.sigc n).run x = some y → table_ChangeDates.sig.run x = some y :=
  fun x y h => (table_ChangeDates.val x).symm.trans (runs_lim (E := table_ChangeDates.E) (c := table_ChangeDates.ctxc n) (ctxLe_cons (ctxLe_cons ctxLe_nil (slices_DeleteFunc_int_int_table_ChangeDates_1.sigc_le n)) (daterange_Boundaries.sigc_le n)) h)
namespace ref05_nonempty
abbrev ps : List PM := [.pure api_Type]
abbrev rs : List RM := [.pure .bool]
abbrev R : Type := Option (Bool × Unit)
noncomputable def E : Env := { tt := tt, ctx := [(65, ref05_Valid.sig)], nt := 12, ann := [] }
noncomputable def fin : ASt → R := Kret E Try.f78.results.toList ps rs
noncomputable def Se (r_0 : api_TypeV) : R :=
  Option.bind (ref05_Valid r_0) fun x1 =>
  cond x1.1
    (some (decide (r_0.1 < r_0.2.1), ()))
    (some (false, ()))
theorem se (jmp : Tgt → ASt → R) (x : (argTy ps).den) : run E jmp fin depth (bodyOf Try.f78) .ret (entryFrom 0 ps x) =
    Se x.1 := by kernel_rfl
end ref05_nonempty
noncomputable def ref05_nonempty (r_0 : api_TypeV) : ref05_nonempty.R :=
  ref05_nonempty.Se r_0
noncomputable def ref05_nonempty.sig : Sig := ⟨ref05_nonempty.ps, ref05_nonempty.rs, fun x => ref05_nonempty x.1⟩
theorem ref05_nonempty.ok : CallOK Try.prog 78 ref05_nonempty.sig :=
  callOK_of_lim (E := ref05_nonempty.E) mixed tt_ok (ctxOk_cons ctxOk_nil ref05_Valid.ok Try.func65 (by kernel_rfl) (by kernel_rfl)) Try.func78 (by kernel_rfl : Try.f78.body = some (bodyOf Try.f78)) Try.ntmps78 (of_decide_eq_true (by kernel_rfl)) (of_decide_eq_true (by kernel_rfl))
    fun x y h => ((lim_eq (.code (bodyOf Try.f78) .ret) (entryFrom 0 ref05_nonempty.ps x)).trans (ref05_nonempty.se (lim ref05_nonempty.E ref05_nonempty.fin) x)).trans h
theorem ref05_nonempty.val (x : (argTy ref05_nonempty.ps).den) : lim ref05_nonempty.E ref05_nonempty.fin (.code (bodyOf Try.f78) .ret) (entryFrom 0 ref05_nonempty.ps x) = ref05_nonempty.sig.run x :=
  (lim_eq (.code (bodyOf Try.f78) .ret) (entryFrom 0 ref05_nonempty.ps x)).trans (ref05_nonempty.se (lim ref05_nonempty.E ref05_nonempty.fin) x)
noncomputable def ref05_nonempty.ctxc (n : Nat) : List (Nat × Sig) := [(65, ref05_Valid.sigc n)]
noncomputable def ref05_nonempty.sigc (n : Nat) : Sig := ⟨ref05_nonempty.ps, ref05_nonempty.rs, fun x => runs (withCtx ref05_nonempty.E (ref05_nonempty.ctxc n)) ref05_nonempty.fin n (.code (bodyOf Try.f78) .ret) (entryFrom 0 ref05_nonempty.ps x)⟩
theorem ref05_nonempty.sigc_le (n : Nat) : ∀ x y, (ref05_nonempty.sigc n).run x = some y → ref05_nonempty.sig.run x = some y :=
  fun x y h => (ref05_nonempty.val x).symm.trans (runs_lim (E := ref05_nonempty.E) (c := ref05_nonempty.ctxc n) (ctxLe_cons ctxLe_nil (ref05_Valid.sigc_le n)) h)
namespace ref05_Insert
abbrev ps : List PM := [.pure (.sl (.int .i64)), .pure (.int .i64)]
abbrev rs : List RM := [.own (.int .i64)]
abbrev R : Type := Option (List Int × Unit)
noncomputable def E : Env := { tt := tt, ctx := [], nt := 51, ann := [(1000003, [(0, .keep), (1, .keep), (5, .own (.int .i64)), (6, .keep)]), (1000009, [(0, .keep), (1, .keep), (5, .keep), (7, .keep)])] }
noncomputable def c0 : Code := sub [1, 1, 1] (bodyOf Try.f79)
noncomputable def c1 : Code := sub [1, 1, 1, 1, 1] (bodyOf Try.f79)
noncomputable def c2 : Code := sub [1, 1, 0, 1, 0, 0] (bodyOf Try.f79)
noncomputable def c3 : Code := sub [1, 1, 1, 1, 0, 1, 0, 0] (bodyOf Try.f79)
noncomputable def K3 : Kont := .seq c0 .ret
noncomputable def K5 : Kont := .blk 0 K3
noncomputable def K13 : Kont := .seq c1 .ret
noncomputable def K15 : Kont := .blk 2 K13
noncomputable def fin : ASt → R := Kret E Try.f79.results.toList ps rs
def tL0 (l : List Int) (n_1 : Int) (out : List Int) (i : Int) : ASt := ⟨[(6, .one (.val (.int .i64) i)), (5, .one (.own 5)), (1, .one (.val (.int .i64) n_1)), (0, .one (.val (.sl (.int .i64)) l))], [(5, some ⟨.free, .int .i64, out⟩)]⟩
def tL1 (l : List Int) (n_1 : Int) (out : List Int) (i : Int) : ASt := ⟨[(7, .one (.val (.int .i64) i)), (5, .one (.own 5)), (1, .one (.val (.int .i64) n_1)), (0, .one (.val (.sl (.int .i64)) l))], [(5, some ⟨.free, .int .i64, out⟩)]⟩
noncomputable def SL0 (kL0 : (List Int) → Int → (List Int) → Int → R) (kL1 : (List Int) → Int → (List Int) → Int → R) (l : List Int) (n_1 : Int) (out : List Int) (i : Int) : R :=
  cond (decide (i < (l.length : Int)))
    (Option.bind (idx l i) fun x1 =>
    cond (decide (x1 < n_1))
      (Option.bind (idx l i) fun x2 =>
      cond (decide ((out.length + 1) * 8 ≤ room) && decide (0 < Ty.nc (.int .i64)))
        (kL0 l n_1 (out ++ [x2]) (IntKind.i64.wrap (i + 1)))
        none)
      (kL0 l n_1 out (IntKind.i64.wrap (i + 1))))
    (cond (decide ((out.length + 1) * 8 ≤ room) && decide (0 < Ty.nc (.int .i64)))
      (kL1 l n_1 (out ++ [n_1]) 0)
      none)
noncomputable def SL1 (kL1 : (List Int) → Int → (List Int) → Int → R) (l : List Int) (n_1 : Int) (out : List Int) (i : Int) : R :=
  cond (decide (i < (l.length : Int)))
    (Option.bind (idx l i) fun x1 =>
    cond (decide (x1 > n_1))
      (Option.bind (idx l i) fun x2 =>
      cond (decide ((out.length + 1) * 8 ≤ room) && decide (0 < Ty.nc (.int .i64)))
        (kL1 l n_1 (out ++ [x2]) (IntKind.i64.wrap (i + 1)))
        none)
      (kL1 l n_1 out (IntKind.i64.wrap (i + 1))))
    (some (out, ()))
noncomputable def Se (kL0 : (List Int) → Int → (List Int) → Int → R) (l : List Int) (n_1 : Int) : R :=
  kL0 l n_1 [] 0
theorem sL0 (jmp : Tgt → ASt → R) (l : List Int) (n_1 : Int) (out : List Int) (i : Int) : run E jmp fin depth c2 (.loop c2 K5) (tL0 l n_1 out i) =
    SL0 (fun l n_1 out i => jmp (.loop c2 K5) (tL0 l n_1 out i)) (fun l n_1 out i => jmp (.loop c3 K15) (tL1 l n_1 out i)) l n_1 out i := by kernel_rfl
theorem sL1 (jmp : Tgt → ASt → R) (l : List Int) (n_1 : Int) (out : List Int) (i : Int) : run E jmp fin depth c3 (.loop c3 K15) (tL1 l n_1 out i) =
    SL1 (fun l n_1 out i => jmp (.loop c3 K15) (tL1 l n_1 out i)) l n_1 out i := by kernel_rfl
theorem se (jmp : Tgt → ASt → R) (x : (argTy ps).den) : run E jmp fin depth (bodyOf Try.f79) .ret (entryFrom 0 ps x) =
    Se (fun l n_1 out i => jmp (.loop c2 K5) (tL0 l n_1 out i)) x.1 x.2.1 := by kernel_rfl
noncomputable def L0 (l : List Int) (n_1 : Int) (out : List Int) (i : Int) : R := lim E fin (.loop c2 K5) (tL0 l n_1 out i)
noncomputable def L1 (l : List Int) (n_1 : Int) (out : List Int) (i : Int) : R := lim E fin (.loop c3 K15) (tL1 l n_1 out i)
theorem L0_eq (l : List Int) (n_1 : Int) (out : List Int) (i : Int) : L0 l n_1 out i = SL0 L0 L1 l n_1 out i :=
  (lim_eq (.loop c2 K5) (tL0 l n_1 out i)).trans (sL0 (lim E fin) l n_1 out i)
theorem L1_eq (l : List Int) (n_1 : Int) (out : List Int) (i : Int) : L1 l n_1 out i = SL1 L1 l n_1 out i :=
  (lim_eq (.loop c3 K15) (tL1 l n_1 out i)).trans (sL1 (lim E fin) l n_1 out i)
end ref05_Insert
noncomputable def ref05_Insert (l : List Int) (n_1 : Int) : ref05_Insert.R :=
  ref05_Insert.Se ref05_Insert.L0 l n_1
noncomputable def ref05_Insert.sig : Sig := ⟨ref05_Insert.ps, ref05_Insert.rs, fun x => ref05_Insert x.1 x.2.1⟩
theorem ref05_Insert.ok : CallOK Try.prog 79 ref05_Insert.sig :=
  callOK_of_lim (E := ref05_Insert.E) mixed tt_ok ctxOk_nil Try.func79 (by kernel_rfl : Try.f79.body = some (bodyOf Try.f79)) Try.ntmps79 (of_decide_eq_true (by kernel_rfl)) (of_decide_eq_true (by kernel_rfl))
    fun x y h => ((lim_eq (.code (bodyOf Try.f79) .ret) (entryFrom 0 ref05_Insert.ps x)).trans (ref05_Insert.se (lim ref05_Insert.E ref05_Insert.fin) x)).trans h
theorem ref05_Insert.val (x : (argTy ref05_Insert.ps).den) : lim ref05_Insert.E ref05_Insert.fin (.code (bodyOf Try.f79) .ret) (entryFrom 0 ref05_Insert.ps x) = ref05_Insert.sig.run x :=
  (lim_eq (.code (bodyOf Try.f79) .ret) (entryFrom 0 ref05_Insert.ps x)).trans (ref05_Insert.se (lim ref05_Insert.E ref05_Insert.fin) x)
noncomputable def ref05_Insert.ctxc (n : Nat) : List (Nat × Sig) := []
noncomputable def ref05_Insert.sigc (n : Nat) : Sig := ⟨ref05_Insert.ps, ref05_Insert.rs, fun x => runs (withCtx ref05_Insert.E (ref05_Insert.ctxc n)) ref05_Insert.fin n (.code (bodyOf Try.f79) .ret) (entryFrom 0 ref05_Insert.ps x)⟩
theorem ref05_Insert.sigc_le (n : Nat) : ∀ x y, (ref05_Insert.sigc n).run x = some y → ref05_Insert.sig.run x = some y :=
  fun x y h => (ref05_Insert.val x).symm.trans (runs_lim (E := ref05_Insert.E) (c := ref05_Insert.ctxc n) ctxLe_nil h)
namespace ref05_Boundaries
abbrev ps : List PM := [.pure (.sl api_Type)]
abbrev rs : List RM := [.own (.int .i64)]
abbrev R : Type := Option (List Int × Unit)
noncomputable def E : Env := { tt := tt, ctx := [(78, ref05_nonempty.sig), (79, ref05_Insert.sig)], nt := 30, ann := [(1000003, [(0, .keep), (3, .own (.int .i64)), (4, .keep)])] }
noncomputable def c0 : Code := sub [1, 1, 1] (bodyOf Try.f61)
noncomputable def c1 : Code := sub [1, 1, 0, 1, 0, 0] (bodyOf Try.f61)
noncomputable def K3 : Kont := .seq c0 .ret
noncomputable def K5 : Kont := .blk 0 K3
noncomputable def fin : ASt → R := Kret E Try.f61.results.toList ps rs
def tL0 (l : List api_TypeV) (out : List Int) (i : Int) : ASt := ⟨[(4, .one (.val (.int .i64) i)), (3, .one (.own 3)), (0, .one (.val (.sl api_Type) l))], [(3, some ⟨.free, .int .i64, out⟩)]⟩
noncomputable def SL0 (kL0 : (List api_TypeV) → (List Int) → Int → R) (l : List api_TypeV) (out : List Int) (i : Int) : R :=
  cond (decide (i < (l.length : Int)))
    (Option.bind (idx l i) fun x1 =>
    Option.bind (ref05_nonempty x1) fun x2 =>
    cond x2.1
      (Option.bind (idx l i) fun x3 =>
      Option.bind (ref05_Insert out x3.1) fun x4 =>
      Option.bind (idx l i) fun x5 =>
      Option.bind (ref05_Insert x4.1 x5.2.1) fun x6 =>
      kL0 l x6.1 (IntKind.i64.wrap (i + 1)))
      (kL0 l out (IntKind.i64.wrap (i + 1))))
    (some (out, ()))
noncomputable def Se (kL0 : (List api_TypeV) → (List Int) → Int → R) (l : List api_TypeV) : R :=
  kL0 l [] 0
theorem sL0 (jmp : Tgt → ASt → R) (l : List api_TypeV) (out : List Int) (i : Int) : run E jmp fin depth c1 (.loop c1 K5) (tL0 l out i) =
    SL0 (fun l out i => jmp (.loop c1 K5) (tL0 l out i)) l out i := by kernel_rfl
theorem se (jmp : Tgt → ASt → R) (x : (argTy ps).den) : run E jmp fin depth (bodyOf Try.f61) .ret (entryFrom 0 ps x) =
    Se (fun l out i => jmp (.loop c1 K5) (tL0 l out i)) x.1 := by kernel_rfl
noncomputable def L0 (l : List api_TypeV) (out : List Int) (i : Int) : R := lim E fin (.loop c1 K5) (tL0 l out i)
theorem L0_eq (l : List api_TypeV) (out : List Int) (i : Int) : L0 l out i = SL0 L0 l out i :=
  (lim_eq (.loop c1 K5) (tL0 l out i)).trans (sL0 (lim E fin) l out i)
end ref05_Boundaries
noncomputable def ref05_Boundaries (l : List api_TypeV) : ref05_Boundaries.R :=
  ref05_Boundaries.Se ref05_Boundaries.L0 l
noncomputable def ref05_Boundaries.sig : Sig := ⟨ref05_Boundaries.ps, ref05_Boundaries.rs, fun x => ref05_Boundaries x.1⟩
theorem ref05_Boundaries.ok : CallOK Try.prog 61 ref05_Boundaries.sig :=
  callOK_of_lim (E := ref05_Boundaries.E) mixed tt_ok (ctxOk_cons (ctxOk_cons ctxOk_nil ref05_Insert.ok Try.func79 (by kernel_rfl) (by kernel_rfl)) ref05_nonempty.ok Try.func78 (by kernel_rfl) (by kernel_rfl)) Try.func61 (by kernel_rfl : Try.f61.body = some (bodyOf Try.f61)) Try.ntmps61 (of_decide_eq_true (by kernel_rfl)) (of_decide_eq_true (by kernel_rfl))
    fun x y h => ((lim_eq (.code (bodyOf Try.f61) .ret) (entryFrom 0 ref05_Boundaries.ps x)).trans (ref05_Boundaries.se (lim ref05_Boundaries.E ref05_Boundaries.fin) x)).trans h
theorem ref05_Boundaries.val (x : (argTy ref05_Boundaries.ps).den) : lim ref05_Boundaries.E ref05_Boundaries.fin (.code (bodyOf Try.f61) .ret) (entryFrom 0 ref05_Boundaries.ps x) = ref05_Boundaries.sig.run x :=
  (lim_eq (.code (bodyOf Try.f61) .ret) (entryFrom 0 ref05_Boundaries.ps x)).trans (ref05_Boundaries.se (lim ref05_Boundaries.E ref05_Boundaries.fin) x)
noncomputable def ref05_Boundaries.ctxc (n : Nat) : List (Nat × Sig) := [(78, ref05_nonempty.sigc n), (79, ref05_Insert.sigc n)]
noncomputable def ref05_Boundaries.sigc (n : Nat) : Sig := ⟨ref05_Boundaries.ps, ref05_Boundaries.rs, fun x => runs (withCtx ref05_Boundaries.E (ref05_Boundaries.ctxc n)) ref05_Boundaries.fin n (.code (bodyOf Try.f61) .ret) (entryFrom 0 ref05_Boundaries.ps x)⟩
theorem ref05_Boundaries.sigc_le (n : Nat) : ∀ x y, (ref05_Boundaries.sigc n).run x = some y → ref05_Boundaries.sig.run x = some y :=
  fun x y h => (ref05_Boundaries.val x).symm.trans (runs_lim (E := ref05_Boundaries.E) (c := ref05_Boundaries.ctxc n) (ctxLe_cons (ctxLe_cons ctxLe_nil (ref05_Insert.sigc_le n)) (ref05_nonempty.sigc_le n)) h)
namespace ref12_Within
abbrev ps : List PM := [.pure (.sl (.int .i64))]
abbrev rs : List RM := [.own (.int .i64)]
abbrev R : Type := Option (List Int × Unit)
noncomputable def E : Env := { tt := tt, ctx := [], nt := 31, ann := [(1000003, [(0, .keep), (3, .own (.int .i64)), (4, .keep)]), (6, [(0, .keep), (3, .own (.int .i64)), (4, .keep), (22, .keep)])] }
noncomputable def c0 : Code := sub [1, 1, 1] (bodyOf Try.f60)
noncomputable def c1 : Code := sub [1, 1, 0, 1, 0, 0] (bodyOf Try.f60)
noncomputable def c2 : Code := sub [1, 1, 0, 1, 0, 0, 1, 1] (bodyOf Try.f60)
noncomputable def c3 : Code := sub [1, 1, 0, 1, 0, 0, 1, 0, 0, 1] (bodyOf Try.f60)
noncomputable def K3 : Kont := .seq c0 .ret
noncomputable def K5 : Kont := .blk 0 K3
noncomputable def K6 : Kont := .loop c1 K5
noncomputable def K9 : Kont := .seq c2 K6
noncomputable def K10 : Kont := .blk 1 K9
noncomputable def fin : ASt → R := Kret E Try.f60.results.toList ps rs
def tL0 (l : List Int) (out : List Int) (i : Int) : ASt := ⟨[(4, .one (.val (.int .i64) i)), (3, .one (.own 3)), (0, .one (.val (.sl (.int .i64)) l))], [(3, some ⟨.free, .int .i64, out⟩)]⟩
def tJ1 (l : List Int) (out : List Int) (i : Int) (v_22 : Bool) : ASt := ⟨[(22, .one (.val .bool v_22)), (4, .one (.val (.int .i64) i)), (3, .one (.own 3)), (0, .one (.val (.sl (.int .i64)) l))], [(3, some ⟨.free, .int .i64, out⟩)]⟩
noncomputable def SL0 (kJ1 : (List Int) → (List Int) → Int → Bool → R) (l : List Int) (out : List Int) (i : Int) : R :=
  cond (decide (i < (l.length : Int)))
    (Option.bind (idx l i) fun x1 =>
    cond (decide (x1 ≥ 1))
      (Option.bind (idx l i) fun x2 =>
      kJ1 l out i (decide (x2 ≤ 109572)))
      (kJ1 l out i false))
    (some (out, ()))
noncomputable def SJ1 (kL0 : (List Int) → (List Int) → Int → R) (l : List Int) (out : List Int) (i : Int) (v_22 : Bool) : R :=
  cond v_22
    (Option.bind (idx l i) fun x1 =>
    cond (decide ((out.length + 1) * 8 ≤ room) && decide (0 < Ty.nc (.int .i64)))
      (kL0 l (out ++ [x1]) (IntKind.i64.wrap (i + 1)))
      none)
    (kL0 l out (IntKind.i64.wrap (i + 1)))
noncomputable def Se (kL0 : (List Int) → (List Int) → Int → R) (l : List Int) : R :=
  kL0 l [] 0
theorem sL0 (jmp : Tgt → ASt → R) (l : List Int) (out : List Int) (i : Int) : run E jmp fin depth c1 (.loop c1 K5) (tL0 l out i) =
    SL0 (fun l out i v_22 => jmp (.code c3 K10) (tJ1 l out i v_22)) l out i := by kernel_rfl
theorem sJ1 (jmp : Tgt → ASt → R) (l : List Int) (out : List Int) (i : Int) (v_22 : Bool) : run E jmp fin depth c3 K10 (tJ1 l out i v_22) =
    SJ1 (fun l out i => jmp (.loop c1 K5) (tL0 l out i)) l out i v_22 := by kernel_rfl
theorem se (jmp : Tgt → ASt → R) (x : (argTy ps).den) : run E jmp fin depth (bodyOf Try.f60) .ret (entryFrom 0 ps x) =
    Se (fun l out i => jmp (.loop c1 K5) (tL0 l out i)) x.1 := by kernel_rfl
noncomputable def L0 (l : List Int) (out : List Int) (i : Int) : R := lim E fin (.loop c1 K5) (tL0 l out i)
noncomputable def J1 (l : List Int) (out : List Int) (i : Int) (v_22 : Bool) : R := lim E fin (.code c3 K10) (tJ1 l out i v_22)
theorem L0_eq (l : List Int) (out : List Int) (i : Int) : L0 l out i = SL0 J1 l out i :=
  (lim_eq (.loop c1 K5) (tL0 l out i)).trans (sL0 (lim E fin) l out i)
theorem J1_eq (l : List Int) (out : List Int) (i : Int) (v_22 : Bool) : J1 l out i v_22 = SJ1 L0 l out i v_22 :=
  (lim_eq (.code c3 K10) (tJ1 l out i v_22)).trans (sJ1 (lim E fin) l out i v_22)
end ref12_Within
noncomputable def ref12_Within (l : List Int) : ref12_Within.R :=
  ref12_Within.Se ref12_Within.L0 l
noncomputable def ref12_Within.sig : Sig := ⟨ref12_Within.ps, ref12_Within.rs, fun x => ref12_Within x.1⟩
theorem ref12_Within.ok : CallOK Try.prog 60 ref12_Within.sig :=
  callOK_of_lim (E := ref12_Within.E) mixed tt_ok ctxOk_nil Try.func60 (by kernel_rfl : Try.f60.body = some (bodyOf Try.f60)) Try.ntmps60 (of_decide_eq_true (by kernel_rfl)) (of_decide_eq_true (by kernel_rfl))
    fun x y h => ((lim_eq (.code (bodyOf Try.f60) .ret) (entryFrom 0 ref12_Within.ps x)).trans (ref12_Within.se (lim ref12_Within.E ref12_Within.fin) x)).trans h
theorem ref12_Within.val (x : (argTy ref12_Within.ps).den) : lim ref12_Within.E ref12_Within.fin (.code (bodyOf Try.f60) .ret) (entryFrom 0 ref12_Within.ps x) = ref12_Within.sig.run x :=
  (lim_eq (.code (bodyOf Try.f60) .ret) (entryFrom 0 ref12_Within.ps x)).trans (ref12_Within.se (lim ref12_Within.E ref12_Within.fin) x)
noncomputable def ref12_Within.ctxc (n : Nat) : List (Nat × Sig) := []
noncomputable def ref12_Within.sigc (n : Nat) : Sig := ⟨ref12_Within.ps, ref12_Within.rs, fun x => runs (withCtx ref12_Within.E (ref12_Within.ctxc n)) ref12_Within.fin n (.code (bodyOf Try.f60) .ret) (entryFrom 0 ref12_Within.ps x)⟩
theorem ref12_Within.sigc_le (n : Nat) : ∀ x y, (ref12_Within.sigc n).run x = some y → ref12_Within.sig.run x = some y :=
  fun x y h => (ref12_Within.val x).symm.trans (runs_lim (E := ref12_Within.E) (c := ref12_Within.ctxc n) ctxLe_nil h)
namespace ref12_ChangeDates
abbrev ps : List PM := [.pure api_Table]
abbrev rs : List RM := [.own (.int .i64)]
abbrev R : Type := Option (List Int × Unit)
noncomputable def E : Env := { tt := tt, ctx := [(61, ref05_Boundaries.sig), (60, ref12_Within.sig)], nt := 24, ann := [(1000003, [(1, .keep), (3, .own api_Type), (4, .keep)])] }
noncomputable def c0 : Code := sub [1, 1, 1] (bodyOf Try.f30)
noncomputable def c1 : Code := sub [1, 1, 0, 1, 0, 0] (bodyOf Try.f30)
noncomputable def K3 : Kont := .seq c0 .ret
noncomputable def K5 : Kont := .blk 0 K3
noncomputable def fin : ASt → R := Kret E Try.f30.results.toList ps rs
def tL0 (t : api_TableV) (l : List api_TypeV) (i : Int) : ASt := ⟨[(4, .one (.val (.int .i64) i)), (3, .one (.own 3)), (1, .one (.optr 1 0 []))], [(3, some ⟨.free, api_Type, l⟩), (1, some ⟨.free, api_Table, [t]⟩)]⟩
noncomputable def SL0 (kL0 : api_TableV → (List api_TypeV) → Int → R) (t : api_TableV) (l : List api_TypeV) (i : Int) : R :=
  cond (decide (i < (t.2.2.2.1.length : Int)))
    (Option.bind (idx t.2.2.2.1 i) fun x1 =>
    cond (decide ((l.length + 1) * 16 ≤ room) && decide (0 < Ty.nc (.pair (.int .i64) (.pair (.int .i64) .unit))))
      (kL0 t (l ++ [x1.1]) (IntKind.i64.wrap (i + 1)))
      none)
    (Option.bind (ref05_Boundaries l) fun x2 =>
    Option.bind (ref12_Within x2.1) fun x3 =>
    some (x3.1, ()))
noncomputable def Se (kL0 : api_TableV → (List api_TypeV) → Int → R) (t : api_TableV) : R :=
  kL0 t [] 0
theorem sL0 (jmp : Tgt → ASt → R) (t : api_TableV) (l : List api_TypeV) (i : Int) : run E jmp fin depth c1 (.loop c1 K5) (tL0 t l i) =
    SL0 (fun t l i => jmp (.loop c1 K5) (tL0 t l i)) t l i := by kernel_rfl
theorem se (jmp : Tgt → ASt → R) (x : (argTy ps).den) : run E jmp fin depth (bodyOf Try.f30) .ret (entryFrom 0 ps x) =
    Se (fun t l i => jmp (.loop c1 K5) (tL0 t l i)) x.1 := by kernel_rfl
noncomputable def L0 (t : api_TableV) (l : List api_TypeV) (i : Int) : R := lim E fin (.loop c1 K5) (tL0 t l i)
theorem L0_eq (t : api_TableV) (l : List api_TypeV) (i : Int) : L0 t l i = SL0 L0 t l i :=
  (lim_eq (.loop c1 K5) (tL0 t l i)).trans (sL0 (lim E fin) t l i)
end ref12_ChangeDates
noncomputable def ref12_ChangeDates (t : api_TableV) : ref12_ChangeDates.R :=
  ref12_ChangeDates.Se ref12_ChangeDates.L0 t
noncomputable def ref12_ChangeDates.sig : Sig := ⟨ref12_ChangeDates.ps, ref12_ChangeDates.rs, fun x => ref12_ChangeDates x.1⟩
theorem ref12_ChangeDates.ok : CallOK Try.prog 30 ref12_ChangeDates.sig :=
  callOK_of_lim (E := ref12_ChangeDates.E) mixed tt_ok (ctxOk_cons (ctxOk_cons ctxOk_nil ref12_Within.ok Try.func60 (by kernel_rfl) (by kernel_rfl)) ref05_Boundaries.ok Try.func61 (by kernel_rfl) (by kernel_rfl)) Try.func30 (by kernel_rfl : Try.f30.body = some (bodyOf Try.f30)) Try.ntmps30 (of_decide_eq_true (by kernel_rfl)) (of_decide_eq_true (by kernel_rfl))
    fun x y h => ((lim_eq (.code (bodyOf Try.f30) .ret) (entryFrom 0 ref12_ChangeDates.ps x)).trans (ref12_ChangeDates.se (lim ref12_ChangeDates.E ref12_ChangeDates.fin) x)).trans h
theorem ref12_ChangeDates.val (x : (argTy ref12_ChangeDates.ps).den) : lim ref12_ChangeDates.E ref12_ChangeDates.fin (.code (bodyOf Try.f30) .ret) (entryFrom 0 ref12_ChangeDates.ps x) = ref12_ChangeDates.sig.run x :=
  (lim_eq (.code (bodyOf Try.f30) .ret) (entryFrom 0 ref12_ChangeDates.ps x)).trans (ref12_ChangeDates.se (lim ref12_ChangeDates.E ref12_ChangeDates.fin) x)
noncomputable def ref12_ChangeDates.ctxc (n : Nat) : List (Nat × Sig) := [(61, ref05_Boundaries.sigc n), (60, ref12_Within.sigc n)]
noncomputable def ref12_ChangeDates.sigc (n : Nat) : Sig := ⟨ref12_ChangeDates.ps, ref12_ChangeDates.rs, fun x => runs (withCtx ref12_ChangeDates.E (ref12_ChangeDates.ctxc n)) ref12_ChangeDates.fin n (.code (bodyOf Try.f30) .ret) (entryFrom 0 ref12_ChangeDates.ps x)⟩
theorem ref12_ChangeDates.sigc_le (n : Nat) : ∀ x y, (ref12_ChangeDates.sigc n).run x = some y → ref12_ChangeDates.sig.run x = some y :=
  fun x y h => (ref12_ChangeDates.val x).symm.trans (runs_lim (E := ref12_ChangeDates.E) (c := ref12_ChangeDates.ctxc n) (ctxLe_cons (ctxLe_cons ctxLe_nil (ref12_Within.sigc_le n)) (ref05_Boundaries.sigc_le n)) h)
namespace same_Ints
abbrev ps : List PM := [.pure (.sl (.int .i64)), .pure (.sl (.int .i64))]
abbrev rs : List RM := [.pure .bool]
abbrev R : Type := Option (Bool × Unit)
noncomputable def E : Env := { tt := tt, ctx := [], nt := 32, ann := [(1000004, [(0, .keep), (1, .keep), (5, .keep)]), (6, [(0, .keep), (1, .keep), (5, .keep)])] }
noncomputable def c0 : Code := sub [1, 1, 1] (bodyOf Try.f28)
noncomputable def c1 : Code := sub [1, 1, 0, 1, 0, 0] (bodyOf Try.f28)
noncomputable def c2 : Code := sub [1, 1, 0, 1, 0, 0, 1] (bodyOf Try.f28)
noncomputable def K5 : Kont := .seq c0 .ret
noncomputable def K7 : Kont := .blk 0 K5
noncomputable def K8 : Kont := .loop c1 K7
noncomputable def fin : ASt → R := Kret E Try.f28.results.toList ps rs
def tL0 (a : List Int) (b : List Int) (i : Int) : ASt := ⟨[(5, .one (.val (.int .i64) i)), (1, .one (.val (.sl (.int .i64)) b)), (0, .one (.val (.sl (.int .i64)) a))], []⟩
def tJ1 (a : List Int) (b : List Int) (i : Int) : ASt := ⟨[(5, .one (.val (.int .i64) i)), (1, .one (.val (.sl (.int .i64)) b)), (0, .one (.val (.sl (.int .i64)) a))], []⟩
noncomputable def SL0 (kJ1 : (List Int) → (List Int) → Int → R) (a : List Int) (b : List Int) (i : Int) : R :=
  cond (decide (i < (a.length : Int)))
    (cond (decide (i < (b.length : Int)))
      (kJ1 a b i)
      (some (true, ())))
    (some (true, ()))
noncomputable def SJ1 (kL0 : (List Int) → (List Int) → Int → R) (a : List Int) (b : List Int) (i : Int) : R :=
  Option.bind (idx a i) fun x1 =>
  Option.bind (idx b i) fun x2 =>
  cond (x1 != x2)
    (some (false, ()))
    (kL0 a b (IntKind.i64.wrap (i + 1)))
noncomputable def Se (kL0 : (List Int) → (List Int) → Int → R) (a : List Int) (b : List Int) : R :=
  cond ((a.length : Int) != (b.length : Int))
    (some (false, ()))
    (kL0 a b 0)
theorem sL0 (jmp : Tgt → ASt → R) (a : List Int) (b : List Int) (i : Int) : run E jmp fin depth c1 (.loop c1 K7) (tL0 a b i) =
    SL0 (fun a b i => jmp (.code c2 K8) (tJ1 a b i)) a b i := by kernel_rfl
theorem sJ1 (jmp : Tgt → ASt → R) (a : List Int) (b : List Int) (i : Int) : run E jmp fin depth c2 K8 (tJ1 a b i) =
    SJ1 (fun a b i => jmp (.loop c1 K7) (tL0 a b i)) a b i := by kernel_rfl
theorem se (jmp : Tgt → ASt → R) (x : (argTy ps).den) : run E jmp fin depth (bodyOf Try.f28) .ret (entryFrom 0 ps x) =
    Se (fun a b i => jmp (.loop c1 K7) (tL0 a b i)) x.1 x.2.1 := by kernel_rfl
noncomputable def L0 (a : List Int) (b : List Int) (i : Int) : R := lim E fin (.loop c1 K7) (tL0 a b i)
noncomputable def J1 (a : List Int) (b : List Int) (i : Int) : R := lim E fin (.code c2 K8) (tJ1 a b i)
theorem L0_eq (a : List Int) (b : List Int) (i : Int) : L0 a b i = SL0 J1 a b i :=
  (lim_eq (.loop c1 K7) (tL0 a b i)).trans (sL0 (lim E fin) a b i)
theorem J1_eq (a : List Int) (b : List Int) (i : Int) : J1 a b i = SJ1 L0 a b i :=
  (lim_eq (.code c2 K8) (tJ1 a b i)).trans (sJ1 (lim E fin) a b i)
end same_Ints
noncomputable def same_Ints (a : List Int) (b : List Int) : same_Ints.R :=
  same_Ints.Se same_Ints.L0 a b
noncomputable def same_Ints.sig : Sig := ⟨same_Ints.ps, same_Ints.rs, fun x => same_Ints x.1 x.2.1⟩
theorem same_Ints.ok : CallOK Try.prog 28 same_Ints.sig :=
  callOK_of_lim (E := same_Ints.E) mixed tt_ok ctxOk_nil Try.func28 (by kernel_rfl : Try.f28.body = some (bodyOf Try.f28)) Try.ntmps28 (of_decide_eq_true (by kernel_rfl)) (of_decide_eq_true (by kernel_rfl))
    fun x y h => ((lim_eq (.code (bodyOf Try.f28) .ret) (entryFrom 0 same_Ints.ps x)).trans (same_Ints.se (lim same_Ints.E same_Ints.fin) x)).trans h
theorem same_Ints.val (x : (argTy same_Ints.ps).den) : lim same_Ints.E same_Ints.fin (.code (bodyOf Try.f28) .ret) (entryFrom 0 same_Ints.ps x) = same_Ints.sig.run x :=
  (lim_eq (.code (bodyOf Try.f28) .ret) (entryFrom 0 same_Ints.ps x)).trans (same_Ints.se (lim same_Ints.E same_Ints.fin) x)
noncomputable def same_Ints.ctxc (n : Nat) : List (Nat × Sig) := []
noncomputable def same_Ints.sigc (n : Nat) : Sig := ⟨same_Ints.ps, same_Ints.rs, fun x => runs (withCtx same_Ints.E (same_Ints.ctxc n)) same_Ints.fin n (.code (bodyOf Try.f28) .ret) (entryFrom 0 same_Ints.ps x)⟩
theorem same_Ints.sigc_le (n : Nat) : ∀ x y, (same_Ints.sigc n).run x = some y → same_Ints.sig.run x = some y :=
  fun x y h => (same_Ints.val x).symm.trans (runs_lim (E := same_Ints.E) (c := same_Ints.ctxc n) ctxLe_nil h)
namespace law12_TableLookup
abbrev ps : List PM := [.pure api_Table, .pure (.int .i64), .pure (.int .i64)]
abbrev rs : List RM := [.pure .bool]
abbrev R : Type := Option (Bool × Unit)
noncomputable def E : Env := { tt := tt, ctx := [(10, law12_few.sig), (12, law12_awake.sig), (18, table_Lookup.sig), (27, ref12_Lookup.sig), (29, table_ChangeDates.sig), (30, ref12_ChangeDates.sig), (28, same_Ints.sig)], nt := 47, ann := [] }
noncomputable def fin : ASt → R := Kret E Try.f9.results.toList ps rs
noncomputable def Se (t : api_TableV) (date : Int) (key : Int) : R :=
  Option.bind (law12_few t 80) fun x1 =>
  cond (!x1.1)
    (Option.bind law12_awake fun x2 =>
    some (x2.1, ()))
    (Option.bind (table_Lookup t date key) fun x3 =>
    Option.bind (ref12_Lookup t date key) fun x4 =>
    cond (x3.1 == x4.1)
      (cond (x3.2.1 == x4.2.1)
        (Option.bind (table_ChangeDates t) fun x5 =>
        Option.bind (ref12_ChangeDates t) fun x6 =>
        Option.bind (same_Ints x5.1 x6.1) fun x7 =>
        cond x7.1
          (Option.bind law12_awake fun x8 =>
          some (x8.1, ()))
          (some (false, ())))
        (some (false, ())))
      (some (false, ())))
theorem se (jmp : Tgt → ASt → R) (x : (argTy ps).den) : run E jmp fin depth (bodyOf Try.f9) .ret (entryFrom 0 ps x) =
    Se x.1 x.2.1 x.2.2.1 := by kernel_rfl
end law12_TableLookup
noncomputable def law12_TableLookup (t : api_TableV) (date : Int) (key : Int) : law12_TableLookup.R :=
  law12_TableLookup.Se t date key
noncomputable def law12_TableLookup.sig : Sig := ⟨law12_TableLookup.ps, law12_TableLookup.rs, fun x => law12_TableLookup x.1 x.2.1 x.2.2.1⟩
theorem law12_TableLookup.ok : CallOK Try.prog 9 law12_TableLookup.sig :=
  callOK_of_lim (E := law12_TableLookup.E) mixed tt_ok (ctxOk_cons (ctxOk_cons (ctxOk_cons (ctxOk_cons (ctxOk_cons (ctxOk_cons (ctxOk_cons ctxOk_nil same_Ints.ok Try.func28 (by kernel_rfl) (by kernel_rfl)) ref12_ChangeDates.ok Try.func30 (by kernel_rfl) (by kernel_rfl)) table_ChangeDates.ok Try.func29 (by kernel_rfl) (by kernel_rfl)) ref12_Lookup.ok Try.func27 (by kernel_rfl) (by kernel_rfl)) table_Lookup.ok Try.func18 (by kernel_rfl) (by kernel_rfl)) law12_awake.ok Try.func12 (by kernel_rfl) (by kernel_rfl)) law12_few.ok Try.func10 (by kernel_rfl) (by kernel_rfl)) Try.func9 (by kernel_rfl : Try.f9.body = some (bodyOf Try.f9)) Try.ntmps9 (of_decide_eq_true (by kernel_rfl)) (of_decide_eq_true (by kernel_rfl))
    fun x y h => ((lim_eq (.code (bodyOf Try.f9) .ret) (entryFrom 0 law12_TableLookup.ps x)).trans (law12_TableLookup.se (lim law12_TableLookup.E law12_TableLookup.fin) x)).trans h
theorem law12_TableLookup.val (x : (argTy law12_TableLookup.ps).den) : lim law12_TableLookup.E law12_TableLookup.fin (.code (bodyOf Try.f9) .ret) (entryFrom 0 law12_TableLookup.ps x) = law12_TableLookup.sig.run x :=
  (lim_eq (.code (bodyOf Try.f9) .ret) (entryFrom 0 law12_TableLookup.ps x)).trans (law12_TableLookup.se (lim law12_TableLookup.E law12_TableLookup.fin) x)
noncomputable def law12_TableLookup.ctxc (n : Nat) : List (Nat × Sig) := [(10, law12_few.sigc n), (12, law12_awake.sigc n), (18, table_Lookup.sigc n), (27, ref12_Lookup.sigc n), (29, table_ChangeDates.sigc n), (30, ref12_ChangeDates.sigc n), (28, same_Ints.sigc n)]
noncomputable def law12_TableLookup.sigc (n : Nat) : Sig := ⟨law12_TableLookup.ps, law12_TableLookup.rs, fun x => runs (withCtx law12_TableLookup.E (law12_TableLookup.ctxc n)) law12_TableLookup.fin n (.code (bodyOf Try.f9) .ret) (entryFrom 0 law12_TableLookup.ps x)⟩
theorem law12_TableLookup.sigc_le (n : Nat) : ∀ x y, (law12_TableLookup.sigc n).run x = some y → law12_TableLookup.sig.run x = some y :=
  fun x y h => (law12_TableLookup.val x).symm.trans (runs_lim (E := law12_TableLookup.E) (c := law12_TableLookup.ctxc n) (ctxLe_cons (ctxLe_cons (ctxLe_cons (ctxLe_cons (ctxLe_cons (ctxLe_cons (ctxLe_cons ctxLe_nil (same_Ints.sigc_le n)) (ref12_ChangeDates.sigc_le n)) (table_ChangeDates.sigc_le n)) (ref12_Lookup.sigc_le n)) (table_Lookup.sigc_le n)) (law12_awake.sigc_le n)) (law12_few.sigc_le n)) h)
end Go.Proofs.Ytgnigfnonoicmaa
