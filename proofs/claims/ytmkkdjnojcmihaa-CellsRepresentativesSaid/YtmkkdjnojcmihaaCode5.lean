/- The functions of the program as typed Lean functions, with the proof that they are what the code computes. -/
import Derived.Test.YtmkkdjnojcmihaaCode4
set_option maxRecDepth 100000
set_option linter.unusedVariables false
namespace Go.Proofs.Ytmkkdjnojcmihaa
open Go Go.Lift

/-! ### guerdon/guerdonref23.Representatives -/
namespace ref23_Representatives
abbrev ps : List PM := [.pure api_Type, .pure (.sl api_Enum), .pure (.sl (.int .i64))]
abbrev rs : List RM := [.own (.int .i64)]
abbrev R : Type := Option (List Int × Unit)
noncomputable def E : Env := { tt := tt, ctx := [(17, ref09_Bounds.sig), (32, ref05_Insert.sig)], nt := 71, ann := [(6, [(2, .keep), (7, .keep), (8, .keep), (9, .keep), (28, .keep)]), (1000007, [(8, .keep), (9, .own (.int .i64)), (10, .keep)]), (1000013, [(2, .keep), (7, .keep), (8, .keep), (9, .keep), (11, .keep)])] }
noncomputable def c0 : Code := sub [1, 1, 1, 1, 1] (bodyOf Try.f16)
noncomputable def c1 : Code := sub [1, 1, 1, 1, 0, 1, 0, 1] (bodyOf Try.f16)
noncomputable def c2 : Code := sub [1, 1, 1, 1, 1, 1, 1] (bodyOf Try.f16)
noncomputable def c3 : Code := sub [1, 1, 1, 1, 0, 1] (bodyOf Try.f16)
noncomputable def c4 : Code := sub [1, 1, 1, 1, 0, 1, 0, 0, 1, 0, 0] (bodyOf Try.f16)
noncomputable def c5 : Code := sub [1, 1, 1, 1, 1, 1, 0, 1, 0, 0] (bodyOf Try.f16)
noncomputable def K7 : Kont := .seq c0 .ret
noncomputable def K9 : Kont := .seq c1 K7
noncomputable def K11 : Kont := .blk 0 K9
noncomputable def K14 : Kont := .seq c2 .ret
noncomputable def K16 : Kont := .blk 2 K14
noncomputable def fin : ASt → R := Kret E Try.f16.results.toList ps rs
def tJ0 (cuts : List Int) (lo : Int) (hi : Int) (v_28 : Bool) : ASt := ⟨[(28, .one (.val .bool v_28)), (9, .one (.nilsl)), (8, .one (.val (.int .i64) hi)), (7, .one (.val (.int .i64) lo)), (2, .one (.val (.sl (.int .i64)) cuts))], []⟩
def tL1 (hi : Int) (out : List Int) (n_10 : Int) : ASt := ⟨[(10, .one (.val (.int .i64) n_10)), (9, .one (.own 9)), (8, .one (.val (.int .i64) hi))], [(9, some ⟨.free, .int .i64, out⟩)]⟩
def tL2 (cuts : List Int) (lo : Int) (hi : Int) (out : List Int) (i : Int) : ASt := ⟨[(11, .one (.val (.int .i64) i)), (9, .one (.own 9)), (8, .one (.val (.int .i64) hi)), (7, .one (.val (.int .i64) lo)), (2, .one (.val (.sl (.int .i64)) cuts))], [(9, some ⟨.free, .int .i64, out⟩)]⟩
noncomputable def SJ0 (kL1 : Int → (List Int) → Int → R) (kL2 : (List Int) → Int → Int → (List Int) → Int → R) (cuts : List Int) (lo : Int) (hi : Int) (v_28 : Bool) : R :=
  cond v_28
    (kL1 hi [] lo)
    (kL2 cuts lo hi [lo] 0)
noncomputable def SL1 (kL1 : Int → (List Int) → Int → R) (hi : Int) (out : List Int) (n_10 : Int) : R :=
  cond (decide (n_10 ≤ hi))
    (cond (decide ((out.length + 1) * 8 ≤ room) && decide (0 < Ty.nc (.int .i64)))
      (kL1 hi (out ++ [n_10]) (IntKind.i64.wrap (n_10 + 1)))
      none)
    (some (out, ()))
noncomputable def SL2 (kL2 : (List Int) → Int → Int → (List Int) → Int → R) (cuts : List Int) (lo : Int) (hi : Int) (out : List Int) (i : Int) : R :=
  cond (decide (i < (cuts.length : Int)))
    (Option.bind (idx cuts i) fun x1 =>
    cond (decide (x1 ≥ lo))
      (Option.bind (idx cuts i) fun x2 =>
      cond (decide (x2 ≤ hi))
        (Option.bind (idx cuts i) fun x3 =>
        Option.bind (ref05_Insert out x3) fun x4 =>
        kL2 cuts lo hi x4.1 (IntKind.i64.wrap (i + 1)))
        (kL2 cuts lo hi out (IntKind.i64.wrap (i + 1))))
      (kL2 cuts lo hi out (IntKind.i64.wrap (i + 1))))
    (some (out, ()))
noncomputable def Se (kJ0 : (List Int) → Int → Int → Bool → R) (t : api_TypeV) (enums : List api_EnumV) (cuts : List Int) : R :=
  Option.bind (ref09_Bounds t enums) fun x1 =>
  cond (decide (x1.2.1 < x1.1))
    (some ([], ()))
    (cond (t.1 == 1)
      (kJ0 cuts x1.1 x1.2.1 true)
      (kJ0 cuts x1.1 x1.2.1 (t.1 == 6)))
theorem sJ0 (jmp : Tgt → ASt → R) (cuts : List Int) (lo : Int) (hi : Int) (v_28 : Bool) : run E jmp fin depth c3 K7 (tJ0 cuts lo hi v_28) =
    SJ0 (fun hi out n_10 => jmp (.loop c4 K11) (tL1 hi out n_10)) (fun cuts lo hi out i => jmp (.loop c5 K16) (tL2 cuts lo hi out i)) cuts lo hi v_28 := by kernel_rfl
theorem sL1 (jmp : Tgt → ASt → R) (hi : Int) (out : List Int) (n_10 : Int) : run E jmp fin depth c4 (.loop c4 K11) (tL1 hi out n_10) =
    SL1 (fun hi out n_10 => jmp (.loop c4 K11) (tL1 hi out n_10)) hi out n_10 := by kernel_rfl
theorem sL2 (jmp : Tgt → ASt → R) (cuts : List Int) (lo : Int) (hi : Int) (out : List Int) (i : Int) : run E jmp fin depth c5 (.loop c5 K16) (tL2 cuts lo hi out i) =
    SL2 (fun cuts lo hi out i => jmp (.loop c5 K16) (tL2 cuts lo hi out i)) cuts lo hi out i := by kernel_rfl
theorem se (jmp : Tgt → ASt → R) (x : (argTy ps).den) : run E jmp fin depth (bodyOf Try.f16) .ret (entryFrom 0 ps x) =
    Se (fun cuts lo hi v_28 => jmp (.code c3 K7) (tJ0 cuts lo hi v_28)) x.1 x.2.1 x.2.2.1 := by kernel_rfl
noncomputable def J0 (cuts : List Int) (lo : Int) (hi : Int) (v_28 : Bool) : R := lim E fin (.code c3 K7) (tJ0 cuts lo hi v_28)
noncomputable def L1 (hi : Int) (out : List Int) (n_10 : Int) : R := lim E fin (.loop c4 K11) (tL1 hi out n_10)
noncomputable def L2 (cuts : List Int) (lo : Int) (hi : Int) (out : List Int) (i : Int) : R := lim E fin (.loop c5 K16) (tL2 cuts lo hi out i)
theorem J0_eq (cuts : List Int) (lo : Int) (hi : Int) (v_28 : Bool) : J0 cuts lo hi v_28 = SJ0 L1 L2 cuts lo hi v_28 :=
  (lim_eq (.code c3 K7) (tJ0 cuts lo hi v_28)).trans (sJ0 (lim E fin) cuts lo hi v_28)
theorem L1_eq (hi : Int) (out : List Int) (n_10 : Int) : L1 hi out n_10 = SL1 L1 hi out n_10 :=
  (lim_eq (.loop c4 K11) (tL1 hi out n_10)).trans (sL1 (lim E fin) hi out n_10)
theorem L2_eq (cuts : List Int) (lo : Int) (hi : Int) (out : List Int) (i : Int) : L2 cuts lo hi out i = SL2 L2 cuts lo hi out i :=
  (lim_eq (.loop c5 K16) (tL2 cuts lo hi out i)).trans (sL2 (lim E fin) cuts lo hi out i)
end ref23_Representatives
noncomputable def ref23_Representatives (t : api_TypeV) (enums : List api_EnumV) (cuts : List Int) : ref23_Representatives.R :=
  ref23_Representatives.Se ref23_Representatives.J0 t enums cuts
noncomputable def ref23_Representatives.sig : Sig := ⟨ref23_Representatives.ps, ref23_Representatives.rs, fun x => ref23_Representatives x.1 x.2.1 x.2.2.1⟩
theorem ref23_Representatives.ok : CallOK Try.prog 16 ref23_Representatives.sig :=
  callOK_of_lim (E := ref23_Representatives.E) mixed tt_ok (ctxOk_cons (ctxOk_cons ctxOk_nil ref05_Insert.ok Try.func32 (by kernel_rfl) (by kernel_rfl)) ref09_Bounds.ok Try.func17 (by kernel_rfl) (by kernel_rfl)) Try.func16 (by kernel_rfl : Try.f16.body = some (bodyOf Try.f16)) Try.ntmps16 (of_decide_eq_true (by kernel_rfl)) (of_decide_eq_true (by kernel_rfl))
    fun x y h => ((lim_eq (.code (bodyOf Try.f16) .ret) (entryFrom 0 ref23_Representatives.ps x)).trans (ref23_Representatives.se (lim ref23_Representatives.E ref23_Representatives.fin) x)).trans h
theorem ref23_Representatives.val (x : (argTy ref23_Representatives.ps).den) : lim ref23_Representatives.E ref23_Representatives.fin (.code (bodyOf Try.f16) .ret) (entryFrom 0 ref23_Representatives.ps x) = ref23_Representatives.sig.run x :=
  (lim_eq (.code (bodyOf Try.f16) .ret) (entryFrom 0 ref23_Representatives.ps x)).trans (ref23_Representatives.se (lim ref23_Representatives.E ref23_Representatives.fin) x)
noncomputable def ref23_Representatives.ctxc (n : Nat) : List (Nat × Sig) := [(17, ref09_Bounds.sigc n), (32, ref05_Insert.sigc n)]
noncomputable def ref23_Representatives.sigc (n : Nat) : Sig := ⟨ref23_Representatives.ps, ref23_Representatives.rs, fun x => runs (withCtx ref23_Representatives.E (ref23_Representatives.ctxc n)) ref23_Representatives.fin n (.code (bodyOf Try.f16) .ret) (entryFrom 0 ref23_Representatives.ps x)⟩
theorem ref23_Representatives.sigc_le (n : Nat) : ∀ x y, (ref23_Representatives.sigc n).run x = some y → ref23_Representatives.sig.run x = some y :=
  fun x y h => (ref23_Representatives.val x).symm.trans (runs_lim (E := ref23_Representatives.E) (c := ref23_Representatives.ctxc n) (ctxLe_cons (ctxLe_cons ctxLe_nil (ref05_Insert.sigc_le n)) (ref09_Bounds.sigc_le n)) h)

/-! ### guerdon/guerdonlaw23.CellsRepresentatives -/
namespace law23_CellsRepresentatives
abbrev ps : List PM := [.pure api_Type, .pure (.sl api_Enum), .pure (.sl (.int .i64)), .pure (.int .i64)]
abbrev rs : List RM := [.pure .bool]
abbrev R : Type := Option (Bool × Unit)
noncomputable def E : Env := { tt := tt, ctx := [(9, law23_awake.sig), (8, law23_few.sig), (15, cells_Representatives.sig), (16, ref23_Representatives.sig), (12, same_Ints.sig), (17, ref09_Bounds.sig), (18, cells_Locate.sig)], nt := 94, ann := [(3, [(1, .keep), (2, .keep), (3, .keep), (4, .keep)]), (9, [(3, .keep), (9, .keep), (10, .keep)])] }
noncomputable def c0 : Code := sub [1, 1] (bodyOf Try.f5)
noncomputable def c1 : Code := sub [1, 1, 1, 1, 1, 1] (bodyOf Try.f5)
noncomputable def fin : ASt → R := Kret E Try.f5.results.toList ps rs
def tJ0 (enums : List api_EnumV) (cuts : List Int) (n_3 : Int) (t : api_TypeV) : ASt := ⟨[(4, .one (.optr 4 0 [])), (3, .one (.val (.int .i64) n_3)), (2, .one (.val (.sl (.int .i64)) cuts)), (1, .one (.val (.sl api_Enum) enums))], [(4, some ⟨.free, api_Type, [t]⟩)]⟩
def tJ1 (n_3 : Int) (l : List Int) (lo : Int) : ASt := ⟨[(10, .one (.val (.int .i64) lo)), (9, .one (.own 9)), (3, .one (.val (.int .i64) n_3))], [(9, some ⟨.free, .int .i64, l⟩)]⟩
noncomputable def SJ0 (kJ1 : Int → (List Int) → Int → R) (enums : List api_EnumV) (cuts : List Int) (n_3 : Int) (t : api_TypeV) : R :=
  Option.bind (cells_Representatives t enums cuts) fun x1 =>
  Option.bind (ref23_Representatives t enums cuts) fun x2 =>
  Option.bind (same_Ints x1.1 x2.1) fun x3 =>
  cond (!x3.1)
    (some (false, ()))
    (Option.bind (ref09_Bounds t enums) fun x4 =>
    cond (decide (n_3 < x4.1))
      (Option.bind law23_awake fun x5 =>
      some (x5.1, ()))
      (cond (decide (n_3 > x4.2.1))
        (Option.bind law23_awake fun x6 =>
        some (x6.1, ()))
        (kJ1 n_3 x1.1 x4.1)))
noncomputable def SJ1 (n_3 : Int) (l : List Int) (lo : Int) : R :=
  Option.bind (cells_Locate l n_3) fun x1 =>
  cond (decide (x1.1 ≥ 0))
    (cond (decide (x1.1 < (l.length : Int)))
      (cond (decide (0 ≤ 0) && decide (0 < (l.length : Int)))
        (cond ((l.getD 0 0) == lo)
          (cond (decide (0 ≤ x1.1) && decide (x1.1 < (l.length : Int)))
            (cond (decide ((l.getD x1.1.toNat 0) ≤ n_3))
              (cond ((IntKind.i64.wrap (x1.1 + 1)) == (l.length : Int))
                (Option.bind law23_awake fun x2 =>
                some (x2.1, ()))
                (cond (decide (0 ≤ IntKind.i64.wrap (x1.1 + 1)) && decide (IntKind.i64.wrap (x1.1 + 1) < (l.length : Int)))
                  (cond (decide (n_3 < (l.getD ((IntKind.i64.wrap (x1.1 + 1)).toNat) 0)))
                    (Option.bind law23_awake fun x3 =>
                    some (x3.1, ()))
                    (some (false, ())))
                  none))
              (some (false, ())))
            none)
          (some (false, ())))
        none)
      (some (false, ())))
    (some (false, ()))
noncomputable def Se (kJ0 : (List api_EnumV) → (List Int) → Int → api_TypeV → R) (t : api_TypeV) (enums : List api_EnumV) (cuts : List Int) (n_3 : Int) : R :=
  cond (decide ((cuts.length : Int) > 100))
    (Option.bind law23_awake fun x1 =>
    some (x1.1, ()))
    (Option.bind (law23_few [] (enums, [], [], [], [], false, ())) fun x2 =>
    cond (!x2.1)
      (Option.bind law23_awake fun x3 =>
      some (x3.1, ()))
      (kJ0 enums cuts n_3 t))
theorem sJ0 (jmp : Tgt → ASt → R) (enums : List api_EnumV) (cuts : List Int) (n_3 : Int) (t : api_TypeV) : run E jmp fin depth c0 .ret (tJ0 enums cuts n_3 t) =
    SJ0 (fun n_3 l lo => jmp (.code c1 .ret) (tJ1 n_3 l lo)) enums cuts n_3 t := by kernel_rfl
theorem sJ1 (jmp : Tgt → ASt → R) (n_3 : Int) (l : List Int) (lo : Int) : run E jmp fin depth c1 .ret (tJ1 n_3 l lo) =
    SJ1 n_3 l lo := by kernel_rfl
theorem se (jmp : Tgt → ASt → R) (x : (argTy ps).den) : run E jmp fin depth (bodyOf Try.f5) .ret (entryFrom 0 ps x) =
    Se (fun enums cuts n_3 t => jmp (.code c0 .ret) (tJ0 enums cuts n_3 t)) x.1 x.2.1 x.2.2.1 x.2.2.2.1 := by kernel_rfl
noncomputable def J0 (enums : List api_EnumV) (cuts : List Int) (n_3 : Int) (t : api_TypeV) : R := lim E fin (.code c0 .ret) (tJ0 enums cuts n_3 t)
noncomputable def J1 (n_3 : Int) (l : List Int) (lo : Int) : R := lim E fin (.code c1 .ret) (tJ1 n_3 l lo)
theorem J0_eq (enums : List api_EnumV) (cuts : List Int) (n_3 : Int) (t : api_TypeV) : J0 enums cuts n_3 t = SJ0 J1 enums cuts n_3 t :=
  (lim_eq (.code c0 .ret) (tJ0 enums cuts n_3 t)).trans (sJ0 (lim E fin) enums cuts n_3 t)
theorem J1_eq (n_3 : Int) (l : List Int) (lo : Int) : J1 n_3 l lo = SJ1 n_3 l lo :=
  (lim_eq (.code c1 .ret) (tJ1 n_3 l lo)).trans (sJ1 (lim E fin) n_3 l lo)
end law23_CellsRepresentatives
noncomputable def law23_CellsRepresentatives (t : api_TypeV) (enums : List api_EnumV) (cuts : List Int) (n_3 : Int) : law23_CellsRepresentatives.R :=
  law23_CellsRepresentatives.Se law23_CellsRepresentatives.J0 t enums cuts n_3
noncomputable def law23_CellsRepresentatives.sig : Sig := ⟨law23_CellsRepresentatives.ps, law23_CellsRepresentatives.rs, fun x => law23_CellsRepresentatives x.1 x.2.1 x.2.2.1 x.2.2.2.1⟩
theorem law23_CellsRepresentatives.ok : CallOK Try.prog 5 law23_CellsRepresentatives.sig :=
  callOK_of_lim (E := law23_CellsRepresentatives.E) mixed tt_ok (ctxOk_cons (ctxOk_cons (ctxOk_cons (ctxOk_cons (ctxOk_cons (ctxOk_cons (ctxOk_cons ctxOk_nil cells_Locate.ok Try.func18 (by kernel_rfl) (by kernel_rfl)) ref09_Bounds.ok Try.func17 (by kernel_rfl) (by kernel_rfl)) same_Ints.ok Try.func12 (by kernel_rfl) (by kernel_rfl)) ref23_Representatives.ok Try.func16 (by kernel_rfl) (by kernel_rfl)) cells_Representatives.ok Try.func15 (by kernel_rfl) (by kernel_rfl)) law23_few.ok Try.func8 (by kernel_rfl) (by kernel_rfl)) law23_awake.ok Try.func9 (by kernel_rfl) (by kernel_rfl)) Try.func5 (by kernel_rfl : Try.f5.body = some (bodyOf Try.f5)) Try.ntmps5 (of_decide_eq_true (by kernel_rfl)) (of_decide_eq_true (by kernel_rfl))
    fun x y h => ((lim_eq (.code (bodyOf Try.f5) .ret) (entryFrom 0 law23_CellsRepresentatives.ps x)).trans (law23_CellsRepresentatives.se (lim law23_CellsRepresentatives.E law23_CellsRepresentatives.fin) x)).trans h
theorem law23_CellsRepresentatives.val (x : (argTy law23_CellsRepresentatives.ps).den) : lim law23_CellsRepresentatives.E law23_CellsRepresentatives.fin (.code (bodyOf Try.f5) .ret) (entryFrom 0 law23_CellsRepresentatives.ps x) = law23_CellsRepresentatives.sig.run x :=
  (lim_eq (.code (bodyOf Try.f5) .ret) (entryFrom 0 law23_CellsRepresentatives.ps x)).trans (law23_CellsRepresentatives.se (lim law23_CellsRepresentatives.E law23_CellsRepresentatives.fin) x)
noncomputable def law23_CellsRepresentatives.ctxc (n : Nat) : List (Nat × Sig) := [(9, law23_awake.sigc n), (8, law23_few.sigc n), (15, cells_Representatives.sigc n), (16, ref23_Representatives.sigc n), (12, same_Ints.sigc n), (17, ref09_Bounds.sigc n), (18, cells_Locate.sigc n)]
noncomputable def law23_CellsRepresentatives.sigc (n : Nat) : Sig := ⟨law23_CellsRepresentatives.ps, law23_CellsRepresentatives.rs, fun x => runs (withCtx law23_CellsRepresentatives.E (law23_CellsRepresentatives.ctxc n)) law23_CellsRepresentatives.fin n (.code (bodyOf Try.f5) .ret) (entryFrom 0 law23_CellsRepresentatives.ps x)⟩
theorem law23_CellsRepresentatives.sigc_le (n : Nat) : ∀ x y, (law23_CellsRepresentatives.sigc n).run x = some y → law23_CellsRepresentatives.sig.run x = some y :=
  fun x y h => (law23_CellsRepresentatives.val x).symm.trans (runs_lim (E := law23_CellsRepresentatives.E) (c := law23_CellsRepresentatives.ctxc n) (ctxLe_cons (ctxLe_cons (ctxLe_cons (ctxLe_cons (ctxLe_cons (ctxLe_cons (ctxLe_cons ctxLe_nil (cells_Locate.sigc_le n)) (ref09_Bounds.sigc_le n)) (same_Ints.sigc_le n)) (ref23_Representatives.sigc_le n)) (cells_Representatives.sigc_le n)) (law23_few.sigc_le n)) (law23_awake.sigc_le n)) h)

/-! ### guerdon/guerdonref23.Locate -/
namespace ref23_Locate
abbrev ps : List PM := [.pure (.sl (.int .i64)), .pure (.int .i64)]
abbrev rs : List RM := [.pure (.int .i64)]
abbrev R : Type := Option (Int × Unit)
noncomputable def E : Env := { tt := tt, ctx := [], nt := 21, ann := [(1000003, [(0, .keep), (1, .keep), (5, .keep), (6, .keep)])] }
noncomputable def c0 : Code := sub [1, 1, 1] (bodyOf Try.f19)
noncomputable def c1 : Code := sub [1, 1, 0, 1, 0, 0] (bodyOf Try.f19)
noncomputable def K3 : Kont := .seq c0 .ret
noncomputable def K5 : Kont := .blk 0 K3
noncomputable def fin : ASt → R := Kret E Try.f19.results.toList ps rs
def tL0 (reps : List Int) (n_1 : Int) (at_5 : Int) (i : Int) : ASt := ⟨[(6, .one (.val (.int .i64) i)), (5, .one (.val (.int .i64) at_5)), (1, .one (.val (.int .i64) n_1)), (0, .one (.val (.sl (.int .i64)) reps))], []⟩
noncomputable def SL0 (kL0 : (List Int) → Int → Int → Int → R) (reps : List Int) (n_1 : Int) (at_5 : Int) (i : Int) : R :=
  cond (decide (i < (reps.length : Int)))
    (Option.bind (idx reps i) fun x1 =>
    cond (decide (x1 ≤ n_1))
      (kL0 reps n_1 i (IntKind.i64.wrap (i + 1)))
      (kL0 reps n_1 at_5 (IntKind.i64.wrap (i + 1))))
    (some (at_5, ()))
noncomputable def Se (kL0 : (List Int) → Int → Int → Int → R) (reps : List Int) (n_1 : Int) : R :=
  kL0 reps n_1 (-1) 0
theorem sL0 (jmp : Tgt → ASt → R) (reps : List Int) (n_1 : Int) (at_5 : Int) (i : Int) : run E jmp fin depth c1 (.loop c1 K5) (tL0 reps n_1 at_5 i) =
    SL0 (fun reps n_1 at_5 i => jmp (.loop c1 K5) (tL0 reps n_1 at_5 i)) reps n_1 at_5 i := by kernel_rfl
theorem se (jmp : Tgt → ASt → R) (x : (argTy ps).den) : run E jmp fin depth (bodyOf Try.f19) .ret (entryFrom 0 ps x) =
    Se (fun reps n_1 at_5 i => jmp (.loop c1 K5) (tL0 reps n_1 at_5 i)) x.1 x.2.1 := by kernel_rfl
noncomputable def L0 (reps : List Int) (n_1 : Int) (at_5 : Int) (i : Int) : R := lim E fin (.loop c1 K5) (tL0 reps n_1 at_5 i)
theorem L0_eq (reps : List Int) (n_1 : Int) (at_5 : Int) (i : Int) : L0 reps n_1 at_5 i = SL0 L0 reps n_1 at_5 i :=
  (lim_eq (.loop c1 K5) (tL0 reps n_1 at_5 i)).trans (sL0 (lim E fin) reps n_1 at_5 i)
end ref23_Locate
noncomputable def ref23_Locate (reps : List Int) (n_1 : Int) : ref23_Locate.R :=
  ref23_Locate.Se ref23_Locate.L0 reps n_1
noncomputable def ref23_Locate.sig : Sig := ⟨ref23_Locate.ps, ref23_Locate.rs, fun x => ref23_Locate x.1 x.2.1⟩
theorem ref23_Locate.ok : CallOK Try.prog 19 ref23_Locate.sig :=
  callOK_of_lim (E := ref23_Locate.E) mixed tt_ok ctxOk_nil Try.func19 (by kernel_rfl : Try.f19.body = some (bodyOf Try.f19)) Try.ntmps19 (of_decide_eq_true (by kernel_rfl)) (of_decide_eq_true (by kernel_rfl))
    fun x y h => ((lim_eq (.code (bodyOf Try.f19) .ret) (entryFrom 0 ref23_Locate.ps x)).trans (ref23_Locate.se (lim ref23_Locate.E ref23_Locate.fin) x)).trans h
theorem ref23_Locate.val (x : (argTy ref23_Locate.ps).den) : lim ref23_Locate.E ref23_Locate.fin (.code (bodyOf Try.f19) .ret) (entryFrom 0 ref23_Locate.ps x) = ref23_Locate.sig.run x :=
  (lim_eq (.code (bodyOf Try.f19) .ret) (entryFrom 0 ref23_Locate.ps x)).trans (ref23_Locate.se (lim ref23_Locate.E ref23_Locate.fin) x)
noncomputable def ref23_Locate.ctxc (n : Nat) : List (Nat × Sig) := []
noncomputable def ref23_Locate.sigc (n : Nat) : Sig := ⟨ref23_Locate.ps, ref23_Locate.rs, fun x => runs (withCtx ref23_Locate.E (ref23_Locate.ctxc n)) ref23_Locate.fin n (.code (bodyOf Try.f19) .ret) (entryFrom 0 ref23_Locate.ps x)⟩
theorem ref23_Locate.sigc_le (n : Nat) : ∀ x y, (ref23_Locate.sigc n).run x = some y → ref23_Locate.sig.run x = some y :=
  fun x y h => (ref23_Locate.val x).symm.trans (runs_lim (E := ref23_Locate.E) (c := ref23_Locate.ctxc n) ctxLe_nil h)

/-! ### guerdon/guerdonlaw23.CellsLocate -/
namespace law23_CellsLocate
abbrev ps : List PM := [.pure (.sl (.int .i64)), .pure (.int .i64)]
abbrev rs : List RM := [.pure .bool]
abbrev R : Type := Option (Bool × Unit)
noncomputable def E : Env := { tt := tt, ctx := [(9, law23_awake.sig), (18, cells_Locate.sig), (19, ref23_Locate.sig)], nt := 19, ann := [] }
noncomputable def fin : ASt → R := Kret E Try.f6.results.toList ps rs
noncomputable def Se (reps : List Int) (n_1 : Int) : R :=
  cond (decide ((reps.length : Int) > 200))
    (Option.bind law23_awake fun x1 =>
    some (x1.1, ()))
    (Option.bind (cells_Locate reps n_1) fun x2 =>
    Option.bind (ref23_Locate reps n_1) fun x3 =>
    cond (x2.1 == x3.1)
      (Option.bind law23_awake fun x4 =>
      some (x4.1, ()))
      (some (false, ())))
theorem se (jmp : Tgt → ASt → R) (x : (argTy ps).den) : run E jmp fin depth (bodyOf Try.f6) .ret (entryFrom 0 ps x) =
    Se x.1 x.2.1 := by kernel_rfl
end law23_CellsLocate
noncomputable def law23_CellsLocate (reps : List Int) (n_1 : Int) : law23_CellsLocate.R :=
  law23_CellsLocate.Se reps n_1
noncomputable def law23_CellsLocate.sig : Sig := ⟨law23_CellsLocate.ps, law23_CellsLocate.rs, fun x => law23_CellsLocate x.1 x.2.1⟩
theorem law23_CellsLocate.ok : CallOK Try.prog 6 law23_CellsLocate.sig :=
  callOK_of_lim (E := law23_CellsLocate.E) mixed tt_ok (ctxOk_cons (ctxOk_cons (ctxOk_cons ctxOk_nil ref23_Locate.ok Try.func19 (by kernel_rfl) (by kernel_rfl)) cells_Locate.ok Try.func18 (by kernel_rfl) (by kernel_rfl)) law23_awake.ok Try.func9 (by kernel_rfl) (by kernel_rfl)) Try.func6 (by kernel_rfl : Try.f6.body = some (bodyOf Try.f6)) Try.ntmps6 (of_decide_eq_true (by kernel_rfl)) (of_decide_eq_true (by kernel_rfl))
    fun x y h => ((lim_eq (.code (bodyOf Try.f6) .ret) (entryFrom 0 law23_CellsLocate.ps x)).trans (law23_CellsLocate.se (lim law23_CellsLocate.E law23_CellsLocate.fin) x)).trans h
theorem law23_CellsLocate.val (x : (argTy law23_CellsLocate.ps).den) : lim law23_CellsLocate.E law23_CellsLocate.fin (.code (bodyOf Try.f6) .ret) (entryFrom 0 law23_CellsLocate.ps x) = law23_CellsLocate.sig.run x :=
  (lim_eq (.code (bodyOf Try.f6) .ret) (entryFrom 0 law23_CellsLocate.ps x)).trans (law23_CellsLocate.se (lim law23_CellsLocate.E law23_CellsLocate.fin) x)
noncomputable def law23_CellsLocate.ctxc (n : Nat) : List (Nat × Sig) := [(9, law23_awake.sigc n), (18, cells_Locate.sigc n), (19, ref23_Locate.sigc n)]
noncomputable def law23_CellsLocate.sigc (n : Nat) : Sig := ⟨law23_CellsLocate.ps, law23_CellsLocate.rs, fun x => runs (withCtx law23_CellsLocate.E (law23_CellsLocate.ctxc n)) law23_CellsLocate.fin n (.code (bodyOf Try.f6) .ret) (entryFrom 0 law23_CellsLocate.ps x)⟩
theorem law23_CellsLocate.sigc_le (n : Nat) : ∀ x y, (law23_CellsLocate.sigc n).run x = some y → law23_CellsLocate.sig.run x = some y :=
  fun x y h => (law23_CellsLocate.val x).symm.trans (runs_lim (E := law23_CellsLocate.E) (c := law23_CellsLocate.ctxc n) (ctxLe_cons (ctxLe_cons (ctxLe_cons ctxLe_nil (ref23_Locate.sigc_le n)) (cells_Locate.sigc_le n)) (law23_awake.sigc_le n)) h)

/-! ### guerdon/guerdonref23.Count -/
namespace ref23_Count
abbrev ps : List PM := [.pure (.sl (.sl (.int .i64)))]
abbrev rs : List RM := [.pure (.int .i64)]
abbrev R : Type := Option (Int × Unit)
noncomputable def E : Env := { tt := tt, ctx := [], nt := 37, ann := [(1000003, [(0, .keep), (3, .keep), (4, .keep)]), (1000008, [(0, .keep), (3, .keep), (5, .keep)]), (10, [(0, .keep), (3, .keep), (5, .keep)])] }
noncomputable def c0 : Code := sub [1, 1, 1] (bodyOf Try.f21)
noncomputable def c1 : Code := sub [1, 1, 1, 1] (bodyOf Try.f21)
noncomputable def c2 : Code := sub [1, 1, 1, 0, 1, 0, 0] (bodyOf Try.f21)
noncomputable def c3 : Code := sub [1, 1, 0, 1, 0, 0] (bodyOf Try.f21)
noncomputable def c4 : Code := sub [1, 1, 1, 0, 1, 0, 0, 1] (bodyOf Try.f21)
noncomputable def K3 : Kont := .seq c0 .ret
noncomputable def K5 : Kont := .blk 0 K3
noncomputable def K13 : Kont := .seq c1 .ret
noncomputable def K15 : Kont := .blk 2 K13
noncomputable def K16 : Kont := .loop c2 K15
noncomputable def fin : ASt → R := Kret E Try.f21.results.toList ps rs
def tL0 (reps : List (List Int)) (n_3 : Int) (i : Int) : ASt := ⟨[(4, .one (.val (.int .i64) i)), (3, .one (.val (.int .i64) n_3)), (0, .one (.val (.sl (.sl (.int .i64))) reps))], []⟩
def tL1 (reps : List (List Int)) (n_3 : Int) (i : Int) : ASt := ⟨[(5, .one (.val (.int .i64) i)), (3, .one (.val (.int .i64) n_3)), (0, .one (.val (.sl (.sl (.int .i64))) reps))], []⟩
def tJ2 (reps : List (List Int)) (n_3 : Int) (i : Int) : ASt := ⟨[(5, .one (.val (.int .i64) i)), (3, .one (.val (.int .i64) n_3)), (0, .one (.val (.sl (.sl (.int .i64))) reps))], []⟩
noncomputable def SL0 (kL0 : (List (List Int)) → Int → Int → R) (kL1 : (List (List Int)) → Int → Int → R) (reps : List (List Int)) (n_3 : Int) (i : Int) : R :=
  cond (decide (i < (reps.length : Int)))
    (Option.bind (idx reps i) fun x1 =>
    cond ((x1.length : Int) == 0)
      (some (0, ()))
      (kL0 reps n_3 (IntKind.i64.wrap (i + 1))))
    (kL1 reps n_3 0)
noncomputable def SL1 (kJ2 : (List (List Int)) → Int → Int → R) (reps : List (List Int)) (n_3 : Int) (i : Int) : R :=
  cond (decide (i < (reps.length : Int)))
    (cond (decide (n_3 ≤ 4096))
      (kJ2 reps n_3 i)
      (some ((cond (decide (4097 < n_3)) 4097 n_3), ())))
    (some ((cond (decide (4097 < n_3)) 4097 n_3), ()))
noncomputable def SJ2 (kL1 : (List (List Int)) → Int → Int → R) (reps : List (List Int)) (n_3 : Int) (i : Int) : R :=
  Option.bind (idx reps i) fun x1 =>
  kL1 reps (IntKind.i64.wrap (n_3 * (x1.length : Int))) (IntKind.i64.wrap (i + 1))
noncomputable def Se (kL0 : (List (List Int)) → Int → Int → R) (reps : List (List Int)) : R :=
  kL0 reps 1 0
theorem sL0 (jmp : Tgt → ASt → R) (reps : List (List Int)) (n_3 : Int) (i : Int) : run E jmp fin depth c3 (.loop c3 K5) (tL0 reps n_3 i) =
    SL0 (fun reps n_3 i => jmp (.loop c3 K5) (tL0 reps n_3 i)) (fun reps n_3 i => jmp (.loop c2 K15) (tL1 reps n_3 i)) reps n_3 i := by kernel_rfl
theorem sL1 (jmp : Tgt → ASt → R) (reps : List (List Int)) (n_3 : Int) (i : Int) : run E jmp fin depth c2 (.loop c2 K15) (tL1 reps n_3 i) =
    SL1 (fun reps n_3 i => jmp (.code c4 K16) (tJ2 reps n_3 i)) reps n_3 i := by kernel_rfl
theorem sJ2 (jmp : Tgt → ASt → R) (reps : List (List Int)) (n_3 : Int) (i : Int) : run E jmp fin depth c4 K16 (tJ2 reps n_3 i) =
    SJ2 (fun reps n_3 i => jmp (.loop c2 K15) (tL1 reps n_3 i)) reps n_3 i := by kernel_rfl
theorem se (jmp : Tgt → ASt → R) (x : (argTy ps).den) : run E jmp fin depth (bodyOf Try.f21) .ret (entryFrom 0 ps x) =
    Se (fun reps n_3 i => jmp (.loop c3 K5) (tL0 reps n_3 i)) x.1 := by kernel_rfl
noncomputable def L0 (reps : List (List Int)) (n_3 : Int) (i : Int) : R := lim E fin (.loop c3 K5) (tL0 reps n_3 i)
noncomputable def L1 (reps : List (List Int)) (n_3 : Int) (i : Int) : R := lim E fin (.loop c2 K15) (tL1 reps n_3 i)
noncomputable def J2 (reps : List (List Int)) (n_3 : Int) (i : Int) : R := lim E fin (.code c4 K16) (tJ2 reps n_3 i)
theorem L0_eq (reps : List (List Int)) (n_3 : Int) (i : Int) : L0 reps n_3 i = SL0 L0 L1 reps n_3 i :=
  (lim_eq (.loop c3 K5) (tL0 reps n_3 i)).trans (sL0 (lim E fin) reps n_3 i)
theorem L1_eq (reps : List (List Int)) (n_3 : Int) (i : Int) : L1 reps n_3 i = SL1 J2 reps n_3 i :=
  (lim_eq (.loop c2 K15) (tL1 reps n_3 i)).trans (sL1 (lim E fin) reps n_3 i)
theorem J2_eq (reps : List (List Int)) (n_3 : Int) (i : Int) : J2 reps n_3 i = SJ2 L1 reps n_3 i :=
  (lim_eq (.code c4 K16) (tJ2 reps n_3 i)).trans (sJ2 (lim E fin) reps n_3 i)
end ref23_Count
noncomputable def ref23_Count (reps : List (List Int)) : ref23_Count.R :=
  ref23_Count.Se ref23_Count.L0 reps
noncomputable def ref23_Count.sig : Sig := ⟨ref23_Count.ps, ref23_Count.rs, fun x => ref23_Count x.1⟩
theorem ref23_Count.ok : CallOK Try.prog 21 ref23_Count.sig :=
  callOK_of_lim (E := ref23_Count.E) mixed tt_ok ctxOk_nil Try.func21 (by kernel_rfl : Try.f21.body = some (bodyOf Try.f21)) Try.ntmps21 (of_decide_eq_true (by kernel_rfl)) (of_decide_eq_true (by kernel_rfl))
    fun x y h => ((lim_eq (.code (bodyOf Try.f21) .ret) (entryFrom 0 ref23_Count.ps x)).trans (ref23_Count.se (lim ref23_Count.E ref23_Count.fin) x)).trans h
theorem ref23_Count.val (x : (argTy ref23_Count.ps).den) : lim ref23_Count.E ref23_Count.fin (.code (bodyOf Try.f21) .ret) (entryFrom 0 ref23_Count.ps x) = ref23_Count.sig.run x :=
  (lim_eq (.code (bodyOf Try.f21) .ret) (entryFrom 0 ref23_Count.ps x)).trans (ref23_Count.se (lim ref23_Count.E ref23_Count.fin) x)
noncomputable def ref23_Count.ctxc (n : Nat) : List (Nat × Sig) := []
noncomputable def ref23_Count.sigc (n : Nat) : Sig := ⟨ref23_Count.ps, ref23_Count.rs, fun x => runs (withCtx ref23_Count.E (ref23_Count.ctxc n)) ref23_Count.fin n (.code (bodyOf Try.f21) .ret) (entryFrom 0 ref23_Count.ps x)⟩
theorem ref23_Count.sigc_le (n : Nat) : ∀ x y, (ref23_Count.sigc n).run x = some y → ref23_Count.sig.run x = some y :=
  fun x y h => (ref23_Count.val x).symm.trans (runs_lim (E := ref23_Count.E) (c := ref23_Count.ctxc n) ctxLe_nil h)

/-! ### guerdon/guerdonlaw23.CellsCount -/
namespace law23_CellsCount
abbrev ps : List PM := [.pure (.sl (.sl (.int .i64)))]
abbrev rs : List RM := [.pure .bool]
abbrev R : Type := Option (Bool × Unit)
noncomputable def E : Env := { tt := tt, ctx := [(9, law23_awake.sig), (20, cells_Count.sig), (21, ref23_Count.sig)], nt := 29, ann := [(1000004, [(0, .keep), (3, .keep)])] }
noncomputable def c0 : Code := sub [1, 1, 1] (bodyOf Try.f7)
noncomputable def c1 : Code := sub [1, 1, 0, 1, 0, 0] (bodyOf Try.f7)
noncomputable def K5 : Kont := .seq c0 .ret
noncomputable def K7 : Kont := .blk 0 K5
noncomputable def fin : ASt → R := Kret E Try.f7.results.toList ps rs
def tL0 (reps : List (List Int)) (i : Int) : ASt := ⟨[(3, .one (.val (.int .i64) i)), (0, .one (.val (.sl (.sl (.int .i64))) reps))], []⟩
noncomputable def SL0 (kL0 : (List (List Int)) → Int → R) (reps : List (List Int)) (i : Int) : R :=
  cond (decide (i < (reps.length : Int)))
    (Option.bind (idx reps i) fun x1 =>
    cond (decide ((x1.length : Int) > 200))
      (Option.bind law23_awake fun x2 =>
      some (x2.1, ()))
      (kL0 reps (IntKind.i64.wrap (i + 1))))
    (Option.bind (cells_Count reps) fun x3 =>
    Option.bind (ref23_Count reps) fun x4 =>
    cond (x3.1 == x4.1)
      (Option.bind law23_awake fun x5 =>
      some (x5.1, ()))
      (some (false, ())))
noncomputable def Se (kL0 : (List (List Int)) → Int → R) (reps : List (List Int)) : R :=
  cond (decide ((reps.length : Int) > 20))
    (Option.bind law23_awake fun x1 =>
    some (x1.1, ()))
    (kL0 reps 0)
theorem sL0 (jmp : Tgt → ASt → R) (reps : List (List Int)) (i : Int) : run E jmp fin depth c1 (.loop c1 K7) (tL0 reps i) =
    SL0 (fun reps i => jmp (.loop c1 K7) (tL0 reps i)) reps i := by kernel_rfl
theorem se (jmp : Tgt → ASt → R) (x : (argTy ps).den) : run E jmp fin depth (bodyOf Try.f7) .ret (entryFrom 0 ps x) =
    Se (fun reps i => jmp (.loop c1 K7) (tL0 reps i)) x.1 := by kernel_rfl
noncomputable def L0 (reps : List (List Int)) (i : Int) : R := lim E fin (.loop c1 K7) (tL0 reps i)
theorem L0_eq (reps : List (List Int)) (i : Int) : L0 reps i = SL0 L0 reps i :=
  (lim_eq (.loop c1 K7) (tL0 reps i)).trans (sL0 (lim E fin) reps i)
end law23_CellsCount
noncomputable def law23_CellsCount (reps : List (List Int)) : law23_CellsCount.R :=
  law23_CellsCount.Se law23_CellsCount.L0 reps
noncomputable def law23_CellsCount.sig : Sig := ⟨law23_CellsCount.ps, law23_CellsCount.rs, fun x => law23_CellsCount x.1⟩
theorem law23_CellsCount.ok : CallOK Try.prog 7 law23_CellsCount.sig :=
  callOK_of_lim (E := law23_CellsCount.E) mixed tt_ok (ctxOk_cons (ctxOk_cons (ctxOk_cons ctxOk_nil ref23_Count.ok Try.func21 (by kernel_rfl) (by kernel_rfl)) cells_Count.ok Try.func20 (by kernel_rfl) (by kernel_rfl)) law23_awake.ok Try.func9 (by kernel_rfl) (by kernel_rfl)) Try.func7 (by kernel_rfl : Try.f7.body = some (bodyOf Try.f7)) Try.ntmps7 (of_decide_eq_true (by kernel_rfl)) (of_decide_eq_true (by kernel_rfl))
    fun x y h => ((lim_eq (.code (bodyOf Try.f7) .ret) (entryFrom 0 law23_CellsCount.ps x)).trans (law23_CellsCount.se (lim law23_CellsCount.E law23_CellsCount.fin) x)).trans h
theorem law23_CellsCount.val (x : (argTy law23_CellsCount.ps).den) : lim law23_CellsCount.E law23_CellsCount.fin (.code (bodyOf Try.f7) .ret) (entryFrom 0 law23_CellsCount.ps x) = law23_CellsCount.sig.run x :=
  (lim_eq (.code (bodyOf Try.f7) .ret) (entryFrom 0 law23_CellsCount.ps x)).trans (law23_CellsCount.se (lim law23_CellsCount.E law23_CellsCount.fin) x)
noncomputable def law23_CellsCount.ctxc (n : Nat) : List (Nat × Sig) := [(9, law23_awake.sigc n), (20, cells_Count.sigc n), (21, ref23_Count.sigc n)]
noncomputable def law23_CellsCount.sigc (n : Nat) : Sig := ⟨law23_CellsCount.ps, law23_CellsCount.rs, fun x => runs (withCtx law23_CellsCount.E (law23_CellsCount.ctxc n)) law23_CellsCount.fin n (.code (bodyOf Try.f7) .ret) (entryFrom 0 law23_CellsCount.ps x)⟩
theorem law23_CellsCount.sigc_le (n : Nat) : ∀ x y, (law23_CellsCount.sigc n).run x = some y → law23_CellsCount.sig.run x = some y :=
  fun x y h => (law23_CellsCount.val x).symm.trans (runs_lim (E := law23_CellsCount.E) (c := law23_CellsCount.ctxc n) (ctxLe_cons (ctxLe_cons (ctxLe_cons ctxLe_nil (ref23_Count.sigc_le n)) (cells_Count.sigc_le n)) (law23_awake.sigc_le n)) h)

end Go.Proofs.Ytmkkdjnojcmihaa
