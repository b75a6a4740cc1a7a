import Derived.Test.YtgnigfnonoicmaaCode3
set_option maxRecDepth 100000
set_option linter.unusedVariables false
namespace Go.Proofs.Ytgnigfnonoicmaa
open Go Go.Lift
namespace ref05_Contains
abbrev ps : List PM := [.pure api_Type, .pure (.int .i64)]
abbrev rs : List RM := [.pure .bool]
abbrev R : Type := Option (Bool × Unit)
noncomputable def E : Env := { tt := tt, ctx := [(65, ref05_Valid.sig)], nt := 19, ann := [] }
noncomputable def fin : ASt → R := Kret E Try.f43.results.toList ps rs
noncomputable def Se (r_0 : api_TypeV) (date : Int) : R :=
  Option.bind (ref05_Valid r_0) fun x1 =>
  cond x1.1
    (cond (decide (r_0.1 ≤ date))
      (some (decide (date < r_0.2.1), ()))
      (some (false, ())))
    (some (false, ()))
theorem se (jmp : Tgt → ASt → R) (x : (argTy ps).den) : run E jmp fin depth (bodyOf Try.f43) .ret (entryFrom 0 ps x) =
    Se x.1 x.2.1 := by kernel_rfl
end ref05_Contains
noncomputable def ref05_Contains (r_0 : api_TypeV) (date : Int) : ref05_Contains.R :=
  ref05_Contains.Se r_0 date
noncomputable def ref05_Contains.sig : Sig := ⟨ref05_Contains.ps, ref05_Contains.rs, fun x => ref05_Contains x.1 x.2.1⟩
theorem ref05_Contains.ok : CallOK Try.prog 43 ref05_Contains.sig :=
  callOK_of_lim (E := ref05_Contains.E) mixed tt_ok (ctxOk_cons ctxOk_nil ref05_Valid.ok Try.func65 (by kernel_rfl) (by kernel_rfl)) Try.func43 (by kernel_rfl : Try.f43.body = some (bodyOf Try.f43)) Try.ntmps43 (of_decide_eq_true (by kernel_rfl)) (of_decide_eq_true (by kernel_rfl))
    fun x y h => ((lim_eq (.code (bodyOf Try.f43) .ret) (entryFrom 0 ref05_Contains.ps x)).trans (ref05_Contains.se (lim ref05_Contains.E ref05_Contains.fin) x)).trans h
theorem ref05_Contains.val (x : (argTy ref05_Contains.ps).den) : lim ref05_Contains.E ref05_Contains.fin (.code (bodyOf Try.f43) .ret) (entryFrom 0 ref05_Contains.ps x) = ref05_Contains.sig.run x :=
  (lim_eq (.code (bodyOf Try.f43) .ret) (entryFrom 0 ref05_Contains.ps x)).trans (ref05_Contains.se (lim ref05_Contains.E ref05_Contains.fin) x)
noncomputable def ref05_Contains.ctxc (n : Nat) : List (Nat × Sig) := [(65, ref05_Valid.sigc n)]
noncomputable def ref05_Contains.sigc (n : Nat) : Sig := ⟨ref05_Contains.ps, ref05_Contains.rs, fun x => runs (withCtx ref05_Contains.E (ref05_Contains.ctxc n)) ref05_Contains.fin n (.code (bodyOf Try.f43) .ret) (entryFrom 0 ref05_Contains.ps x)⟩
theorem ref05_Contains.sigc_le (n : Nat) : ∀ x y, (ref05_Contains.sigc n).run x = some y → ref05_Contains.sig.run x = some y :=
  fun x y h => (ref05_Contains.val x).symm.trans (runs_lim (E := ref05_Contains.E) (c := ref05_Contains.ctxc n) (ctxLe_cons ctxLe_nil (ref05_Valid.sigc_le n)) h)
namespace ref12_without
abbrev ps : List PM := [.pure (.sl api_Type), .pure (.int .i64), .pure (.int .i64)]
abbrev rs : List RM := [.own api_Type]
abbrev R : Type := Option (List api_TypeV × Unit)
noncomputable def E : Env := { tt := tt, ctx := [], nt := 78, ann := [(1000003, [(0, .keep), (1, .keep), (2, .keep), (7, .own api_Type), (8, .keep)]), (6, [(0, .keep), (1, .keep), (2, .keep), (7, .own api_Type), (8, .keep), (35, .keep)]), (9, [(0, .keep), (1, .keep), (2, .keep), (7, .own api_Type), (8, .keep)])] }
noncomputable def c0 : Code := sub [1, 1, 1] (bodyOf Try.f44)
noncomputable def c1 : Code := sub [1, 1, 0, 1, 0, 0] (bodyOf Try.f44)
noncomputable def c2 : Code := sub [1, 1, 0, 1, 0, 0, 1, 1] (bodyOf Try.f44)
noncomputable def c3 : Code := sub [1, 1, 0, 1, 0, 0, 1, 0, 0, 1] (bodyOf Try.f44)
noncomputable def c4 : Code := sub [1, 1, 0, 1, 0, 0, 1, 0, 0, 0, 1] (bodyOf Try.f44)
noncomputable def c5 : Code := sub [1, 1, 0, 1, 0, 0, 1, 0, 0, 1, 1] (bodyOf Try.f44)
noncomputable def K3 : Kont := .seq c0 .ret
noncomputable def K5 : Kont := .blk 0 K3
noncomputable def K6 : Kont := .loop c1 K5
noncomputable def K9 : Kont := .seq c2 K6
noncomputable def K10 : Kont := .blk 1 K9
noncomputable def K11 : Kont := .seq c3 K10
noncomputable def fin : ASt → R := Kret E Try.f44.results.toList ps rs
def tL0 (l : List api_TypeV) (lo : Int) (hi : Int) (out : List api_TypeV) (i : Int) : ASt := ⟨[(8, .one (.val (.int .i64) i)), (7, .one (.own 7)), (2, .one (.val (.int .i64) hi)), (1, .one (.val (.int .i64) lo)), (0, .one (.val (.sl api_Type) l))], [(7, some ⟨.free, api_Type, out⟩)]⟩
def tJ1 (l : List api_TypeV) (lo : Int) (hi : Int) (out : List api_TypeV) (i : Int) (v_35 : Bool) : ASt := ⟨[(35, .one (.val .bool v_35)), (8, .one (.val (.int .i64) i)), (7, .one (.own 7)), (2, .one (.val (.int .i64) hi)), (1, .one (.val (.int .i64) lo)), (0, .one (.val (.sl api_Type) l))], [(7, some ⟨.free, api_Type, out⟩)]⟩
def tJ2 (l : List api_TypeV) (lo : Int) (hi : Int) (out : List api_TypeV) (i : Int) : ASt := ⟨[(8, .one (.val (.int .i64) i)), (7, .one (.own 7)), (2, .one (.val (.int .i64) hi)), (1, .one (.val (.int .i64) lo)), (0, .one (.val (.sl api_Type) l))], [(7, some ⟨.free, api_Type, out⟩)]⟩
noncomputable def SL0 (kJ1 : (List api_TypeV) → Int → Int → (List api_TypeV) → Int → Bool → R) (l : List api_TypeV) (lo : Int) (hi : Int) (out : List api_TypeV) (i : Int) : R :=
  cond (decide (i < (l.length : Int)))
    (cond (decide (lo ≥ hi))
      (kJ1 l lo hi out i true)
      (Option.bind (idx l i) fun x1 =>
      cond (decide (hi ≤ x1.1))
        (kJ1 l lo hi out i true)
        (Option.bind (idx l i) fun x2 =>
        kJ1 l lo hi out i (decide (x2.2.1 ≤ lo)))))
    (some (out, ()))
noncomputable def SJ1 (kL0 : (List api_TypeV) → Int → Int → (List api_TypeV) → Int → R) (kJ2 : (List api_TypeV) → Int → Int → (List api_TypeV) → Int → R) (l : List api_TypeV) (lo : Int) (hi : Int) (out : List api_TypeV) (i : Int) (v_35 : Bool) : R :=
  cond v_35
    (Option.bind (idx l i) fun x1 =>
    cond (decide ((out.length + 1) * 16 ≤ room) && decide (0 < Ty.nc (.pair (.int .i64) (.pair (.int .i64) .unit))))
      (kL0 l lo hi (out ++ [x1]) (IntKind.i64.wrap (i + 1)))
      none)
    (Option.bind (idx l i) fun x2 =>
    cond (decide (x2.1 < lo))
      (Option.bind (idx l i) fun x3 =>
      cond (decide ((out.length + 1) * 16 ≤ room) && decide (0 < Ty.nc (.pair (.int .i64) (.pair (.int .i64) .unit))))
        (kJ2 l lo hi (out ++ [(x3.1, lo, ())]) i)
        none)
      (kJ2 l lo hi out i))
noncomputable def SJ2 (kL0 : (List api_TypeV) → Int → Int → (List api_TypeV) → Int → R) (l : List api_TypeV) (lo : Int) (hi : Int) (out : List api_TypeV) (i : Int) : R :=
  Option.bind (idx l i) fun x1 =>
  cond (decide (hi < x1.2.1))
    (Option.bind (idx l i) fun x2 =>
    cond (decide ((out.length + 1) * 16 ≤ room) && decide (0 < Ty.nc (.pair (.int .i64) (.pair (.int .i64) .unit))))
      (kL0 l lo hi (out ++ [(hi, x2.2.1, ())]) (IntKind.i64.wrap (i + 1)))
      none)
    (kL0 l lo hi out (IntKind.i64.wrap (i + 1)))
noncomputable def Se (kL0 : (List api_TypeV) → Int → Int → (List api_TypeV) → Int → R) (l : List api_TypeV) (lo : Int) (hi : Int) : R :=
  kL0 l lo hi [] 0
theorem sL0 (jmp : Tgt → ASt → R) (l : List api_TypeV) (lo : Int) (hi : Int) (out : List api_TypeV) (i : Int) : run E jmp fin depth c1 (.loop c1 K5) (tL0 l lo hi out i) =
    SL0 (fun l lo hi out i v_35 => jmp (.code c4 K11) (tJ1 l lo hi out i v_35)) l lo hi out i := by kernel_rfl
theorem sJ1 (jmp : Tgt → ASt → R) (l : List api_TypeV) (lo : Int) (hi : Int) (out : List api_TypeV) (i : Int) (v_35 : Bool) : run E jmp fin depth c4 K11 (tJ1 l lo hi out i v_35) =
    SJ1 (fun l lo hi out i => jmp (.loop c1 K5) (tL0 l lo hi out i)) (fun l lo hi out i => jmp (.code c5 K10) (tJ2 l lo hi out i)) l lo hi out i v_35 := by kernel_rfl
theorem sJ2 (jmp : Tgt → ASt → R) (l : List api_TypeV) (lo : Int) (hi : Int) (out : List api_TypeV) (i : Int) : run E jmp fin depth c5 K10 (tJ2 l lo hi out i) =
    SJ2 (fun l lo hi out i => jmp (.loop c1 K5) (tL0 l lo hi out i)) l lo hi out i := by kernel_rfl
theorem se (jmp : Tgt → ASt → R) (x : (argTy ps).den) : run E jmp fin depth (bodyOf Try.f44) .ret (entryFrom 0 ps x) =
    Se (fun l lo hi out i => jmp (.loop c1 K5) (tL0 l lo hi out i)) x.1 x.2.1 x.2.2.1 := by kernel_rfl
noncomputable def L0 (l : List api_TypeV) (lo : Int) (hi : Int) (out : List api_TypeV) (i : Int) : R := lim E fin (.loop c1 K5) (tL0 l lo hi out i)
noncomputable def J1 (l : List api_TypeV) (lo : Int) (hi : Int) (out : List api_TypeV) (i : Int) (v_35 : Bool) : R := lim E fin (.code c4 K11) (tJ1 l lo hi out i v_35)
noncomputable def J2 (l : List api_TypeV) (lo : Int) (hi : Int) (out : List api_TypeV) (i : Int) : R := lim E fin (.code c5 K10) (tJ2 l lo hi out i)
theorem L0_eq (l : List api_TypeV) (lo : Int) (hi : Int) (out : List api_TypeV) (i : Int) : L0 l lo hi out i = SL0 J1 l lo hi out i :=
  (lim_eq (.loop c1 K5) (tL0 l lo hi out i)).trans (sL0 (lim E fin) l lo hi out i)
theorem J1_eq (l : List api_TypeV) (lo : Int) (hi : Int) (out : List api_TypeV) (i : Int) (v_35 : Bool) : J1 l lo hi out i v_35 = SJ1 L0 J2 l lo hi out i v_35 :=
  (lim_eq (.code c4 K11) (tJ1 l lo hi out i v_35)).trans (sJ1 (lim E fin) l lo hi out i v_35)
theorem J2_eq (l : List api_TypeV) (lo : Int) (hi : Int) (out : List api_TypeV) (i : Int) : J2 l lo hi out i = SJ2 L0 l lo hi out i :=
  (lim_eq (.code c5 K10) (tJ2 l lo hi out i)).trans (sJ2 (lim E fin) l lo hi out i)
end ref12_without
noncomputable def ref12_without (l : List api_TypeV) (lo : Int) (hi : Int) : ref12_without.R :=
  ref12_without.Se ref12_without.L0 l lo hi
noncomputable def ref12_without.sig : Sig := ⟨ref12_without.ps, ref12_without.rs, fun x => ref12_without x.1 x.2.1 x.2.2.1⟩
theorem ref12_without.ok : CallOK Try.prog 44 ref12_without.sig :=
  callOK_of_lim (E := ref12_without.E) mixed tt_ok ctxOk_nil Try.func44 (by kernel_rfl : Try.f44.body = some (bodyOf Try.f44)) Try.ntmps44 (of_decide_eq_true (by kernel_rfl)) (of_decide_eq_true (by kernel_rfl))
    fun x y h => ((lim_eq (.code (bodyOf Try.f44) .ret) (entryFrom 0 ref12_without.ps x)).trans (ref12_without.se (lim ref12_without.E ref12_without.fin) x)).trans h
theorem ref12_without.val (x : (argTy ref12_without.ps).den) : lim ref12_without.E ref12_without.fin (.code (bodyOf Try.f44) .ret) (entryFrom 0 ref12_without.ps x) = ref12_without.sig.run x :=
  (lim_eq (.code (bodyOf Try.f44) .ret) (entryFrom 0 ref12_without.ps x)).trans (ref12_without.se (lim ref12_without.E ref12_without.fin) x)
noncomputable def ref12_without.ctxc (n : Nat) : List (Nat × Sig) := []
noncomputable def ref12_without.sigc (n : Nat) : Sig := ⟨ref12_without.ps, ref12_without.rs, fun x => runs (withCtx ref12_without.E (ref12_without.ctxc n)) ref12_without.fin n (.code (bodyOf Try.f44) .ret) (entryFrom 0 ref12_without.ps x)⟩
theorem ref12_without.sigc_le (n : Nat) : ∀ x y, (ref12_without.sigc n).run x = some y → ref12_without.sig.run x = some y :=
  fun x y h => (ref12_without.val x).symm.trans (runs_lim (E := ref12_without.E) (c := ref12_without.ctxc n) ctxLe_nil h)
namespace ref12_UncoveredKeys
abbrev ps : List PM := [.pure api_Table, .pure (.int .i64), .pure (.int .i64), .pure (.int .i64)]
abbrev rs : List RM := [.own api_Type]
abbrev R : Type := Option (List api_TypeV × Unit)
noncomputable def E : Env := { tt := tt, ctx := [(43, ref05_Contains.sig), (44, ref12_without.sig)], nt := 48, ann := [(1000005, [(1, .keep), (4, .keep), (9, .keep), (10, .keep)])] }
noncomputable def c0 : Code := sub [1, 1, 1, 1] (bodyOf Try.f20)
noncomputable def c1 : Code := sub [1, 1, 1, 0, 1, 0, 0] (bodyOf Try.f20)
noncomputable def K6 : Kont := .seq c0 .ret
noncomputable def K8 : Kont := .blk 0 K6
noncomputable def fin : ASt → R := Kret E Try.f20.results.toList ps rs
def tL0 (date : Int) (t : api_TableV) (out : List api_TypeV) (i : Int) : ASt := ⟨[(10, .one (.val (.int .i64) i)), (9, .one (.own 9)), (4, .one (.optr 4 0 [])), (1, .one (.val (.int .i64) date))], [(9, some ⟨.free, api_Type, out⟩), (4, some ⟨.free, api_Table, [t]⟩)]⟩
noncomputable def SL0 (kL0 : Int → api_TableV → (List api_TypeV) → Int → R) (date : Int) (t : api_TableV) (out : List api_TypeV) (i : Int) : R :=
  cond (decide (i < (t.2.2.2.1.length : Int)))
    (Option.bind (idx t.2.2.2.1 i) fun x1 =>
    Option.bind (ref05_Contains x1.1 date) fun x2 =>
    cond x2.1
      (Option.bind (idx t.2.2.2.1 i) fun x3 =>
      Option.bind (idx t.2.2.2.1 i) fun x4 =>
      Option.bind (ref12_without out x3.2.1 x4.2.2.1) fun x5 =>
      kL0 date t x5.1 (IntKind.i64.wrap (i + 1)))
      (kL0 date t out (IntKind.i64.wrap (i + 1))))
    (some (out, ()))
noncomputable def Se (kL0 : Int → api_TableV → (List api_TypeV) → Int → R) (t : api_TableV) (date : Int) (lo : Int) (hi : Int) : R :=
  cond (decide (lo ≥ hi))
    (some ([], ()))
    (kL0 date t [(lo, hi, ())] 0)
theorem sL0 (jmp : Tgt → ASt → R) (date : Int) (t : api_TableV) (out : List api_TypeV) (i : Int) : run E jmp fin depth c1 (.loop c1 K8) (tL0 date t out i) =
    SL0 (fun date t out i => jmp (.loop c1 K8) (tL0 date t out i)) date t out i := by kernel_rfl
theorem se (jmp : Tgt → ASt → R) (x : (argTy ps).den) : run E jmp fin depth (bodyOf Try.f20) .ret (entryFrom 0 ps x) =
    Se (fun date t out i => jmp (.loop c1 K8) (tL0 date t out i)) x.1 x.2.1 x.2.2.1 x.2.2.2.1 := by kernel_rfl
noncomputable def L0 (date : Int) (t : api_TableV) (out : List api_TypeV) (i : Int) : R := lim E fin (.loop c1 K8) (tL0 date t out i)
theorem L0_eq (date : Int) (t : api_TableV) (out : List api_TypeV) (i : Int) : L0 date t out i = SL0 L0 date t out i :=
  (lim_eq (.loop c1 K8) (tL0 date t out i)).trans (sL0 (lim E fin) date t out i)
end ref12_UncoveredKeys
noncomputable def ref12_UncoveredKeys (t : api_TableV) (date : Int) (lo : Int) (hi : Int) : ref12_UncoveredKeys.R :=
  ref12_UncoveredKeys.Se ref12_UncoveredKeys.L0 t date lo hi
noncomputable def ref12_UncoveredKeys.sig : Sig := ⟨ref12_UncoveredKeys.ps, ref12_UncoveredKeys.rs, fun x => ref12_UncoveredKeys x.1 x.2.1 x.2.2.1 x.2.2.2.1⟩
theorem ref12_UncoveredKeys.ok : CallOK Try.prog 20 ref12_UncoveredKeys.sig :=
  callOK_of_lim (E := ref12_UncoveredKeys.E) mixed tt_ok (ctxOk_cons (ctxOk_cons ctxOk_nil ref12_without.ok Try.func44 (by kernel_rfl) (by kernel_rfl)) ref05_Contains.ok Try.func43 (by kernel_rfl) (by kernel_rfl)) Try.func20 (by kernel_rfl : Try.f20.body = some (bodyOf Try.f20)) Try.ntmps20 (of_decide_eq_true (by kernel_rfl)) (of_decide_eq_true (by kernel_rfl))
    fun x y h => ((lim_eq (.code (bodyOf Try.f20) .ret) (entryFrom 0 ref12_UncoveredKeys.ps x)).trans (ref12_UncoveredKeys.se (lim ref12_UncoveredKeys.E ref12_UncoveredKeys.fin) x)).trans h
theorem ref12_UncoveredKeys.val (x : (argTy ref12_UncoveredKeys.ps).den) : lim ref12_UncoveredKeys.E ref12_UncoveredKeys.fin (.code (bodyOf Try.f20) .ret) (entryFrom 0 ref12_UncoveredKeys.ps x) = ref12_UncoveredKeys.sig.run x :=
  (lim_eq (.code (bodyOf Try.f20) .ret) (entryFrom 0 ref12_UncoveredKeys.ps x)).trans (ref12_UncoveredKeys.se (lim ref12_UncoveredKeys.E ref12_UncoveredKeys.fin) x)
noncomputable def ref12_UncoveredKeys.ctxc (n : Nat) : List (Nat × Sig) := [(43, ref05_Contains.sigc n), (44, ref12_without.sigc n)]
noncomputable def ref12_UncoveredKeys.sigc (n : Nat) : Sig := ⟨ref12_UncoveredKeys.ps, ref12_UncoveredKeys.rs, fun x => runs (withCtx ref12_UncoveredKeys.E (ref12_UncoveredKeys.ctxc n)) ref12_UncoveredKeys.fin n (.code (bodyOf Try.f20) .ret) (entryFrom 0 ref12_UncoveredKeys.ps x)⟩
theorem ref12_UncoveredKeys.sigc_le (n : Nat) : ∀ x y, (ref12_UncoveredKeys.sigc n).run x = some y → ref12_UncoveredKeys.sig.run x = some y :=
  fun x y h => (ref12_UncoveredKeys.val x).symm.trans (runs_lim (E := ref12_UncoveredKeys.E) (c := ref12_UncoveredKeys.ctxc n) (ctxLe_cons (ctxLe_cons ctxLe_nil (ref12_without.sigc_le n)) (ref05_Contains.sigc_le n)) h)
namespace law12_TableUncovered
abbrev ps : List PM := [.pure api_Table, .pure (.int .i64), .pure (.int .i64), .pure (.int .i64)]
abbrev rs : List RM := [.pure .bool]
abbrev R : Type := Option (Bool × Unit)
noncomputable def E : Env := { tt := tt, ctx := [(10, law12_few.sig), (12, law12_awake.sig), (17, table_UncoveredKeys.sig), (18, table_Lookup.sig), (20, ref12_UncoveredKeys.sig), (19, same_KeyRanges.sig)], nt := 81, ann := [(1000005, [(1, .keep), (2, .keep), (3, .keep), (4, .keep), (9, .keep), (10, .keep)])] }
noncomputable def c0 : Code := sub [1, 1, 1, 1] (bodyOf Try.f4)
noncomputable def c1 : Code := sub [1, 1, 1, 0, 1, 0, 0] (bodyOf Try.f4)
noncomputable def K6 : Kont := .seq c0 .ret
noncomputable def K8 : Kont := .blk 0 K6
noncomputable def fin : ASt → R := Kret E Try.f4.results.toList ps rs
def tL0 (date : Int) (lo : Int) (hi : Int) (t : api_TableV) (l : List api_TypeV) (i : Int) : ASt := ⟨[(10, .one (.val (.int .i64) i)), (9, .one (.own 9)), (4, .one (.optr 4 0 [])), (3, .one (.val (.int .i64) hi)), (2, .one (.val (.int .i64) lo)), (1, .one (.val (.int .i64) date))], [(9, some ⟨.free, api_Type, l⟩), (4, some ⟨.free, api_Table, [t]⟩)]⟩
noncomputable def SL0 (kL0 : Int → Int → Int → api_TableV → (List api_TypeV) → Int → R) (date : Int) (lo : Int) (hi : Int) (t : api_TableV) (l : List api_TypeV) (i : Int) : R :=
  cond (decide (i < (l.length : Int)))
    (cond (decide (0 ≤ i) && decide (i < (l.length : Int)))
      (Option.bind (table_Lookup t date ((l.getD i.toNat (0, 0, ())).1)) fun x1 =>
      cond x1.2.1
        (some (false, ()))
        (cond (decide (0 ≤ i) && decide (i < (l.length : Int)))
          (cond (decide (0 ≤ i) && decide (i < (l.length : Int)))
            (cond (decide (((l.getD i.toNat (0, 0, ())).1) ≥ ((l.getD i.toNat (0, 0, ())).2.1)))
              (some (false, ()))
              (cond (decide (0 ≤ i) && decide (i < (l.length : Int)))
                (cond (decide (((l.getD i.toNat (0, 0, ())).1) < lo))
                  (some (false, ()))
                  (cond (decide (0 ≤ i) && decide (i < (l.length : Int)))
                    (cond (decide (((l.getD i.toNat (0, 0, ())).2.1) > hi))
                      (some (false, ()))
                      (kL0 date lo hi t l (IntKind.i64.wrap (i + 1))))
                    none))
                none))
            none)
          none))
      none)
    (Option.bind (ref12_UncoveredKeys t date lo hi) fun x2 =>
    Option.bind (same_KeyRanges l x2.1) fun x3 =>
    cond x3.1
      (Option.bind law12_awake fun x4 =>
      some (x4.1, ()))
      (some (false, ())))
noncomputable def Se (kL0 : Int → Int → Int → api_TableV → (List api_TypeV) → Int → R) (t : api_TableV) (date : Int) (lo : Int) (hi : Int) : R :=
  Option.bind (law12_few t 80) fun x1 =>
  cond (!x1.1)
    (Option.bind law12_awake fun x2 =>
    some (x2.1, ()))
    (Option.bind (table_UncoveredKeys t date lo hi) fun x3 =>
    kL0 date lo hi t x3.1 0)
theorem sL0 (jmp : Tgt → ASt → R) (date : Int) (lo : Int) (hi : Int) (t : api_TableV) (l : List api_TypeV) (i : Int) : run E jmp fin depth c1 (.loop c1 K8) (tL0 date lo hi t l i) =
    SL0 (fun date lo hi t l i => jmp (.loop c1 K8) (tL0 date lo hi t l i)) date lo hi t l i := by kernel_rfl
theorem se (jmp : Tgt → ASt → R) (x : (argTy ps).den) : run E jmp fin depth (bodyOf Try.f4) .ret (entryFrom 0 ps x) =
    Se (fun date lo hi t l i => jmp (.loop c1 K8) (tL0 date lo hi t l i)) x.1 x.2.1 x.2.2.1 x.2.2.2.1 := by kernel_rfl
noncomputable def L0 (date : Int) (lo : Int) (hi : Int) (t : api_TableV) (l : List api_TypeV) (i : Int) : R := lim E fin (.loop c1 K8) (tL0 date lo hi t l i)
theorem L0_eq (date : Int) (lo : Int) (hi : Int) (t : api_TableV) (l : List api_TypeV) (i : Int) : L0 date lo hi t l i = SL0 L0 date lo hi t l i :=
  (lim_eq (.loop c1 K8) (tL0 date lo hi t l i)).trans (sL0 (lim E fin) date lo hi t l i)
end law12_TableUncovered
noncomputable def law12_TableUncovered (t : api_TableV) (date : Int) (lo : Int) (hi : Int) : law12_TableUncovered.R :=
  law12_TableUncovered.Se law12_TableUncovered.L0 t date lo hi
noncomputable def law12_TableUncovered.sig : Sig := ⟨law12_TableUncovered.ps, law12_TableUncovered.rs, fun x => law12_TableUncovered x.1 x.2.1 x.2.2.1 x.2.2.2.1⟩
theorem law12_TableUncovered.ok : CallOK Try.prog 4 law12_TableUncovered.sig :=
  callOK_of_lim (E := law12_TableUncovered.E) mixed tt_ok (ctxOk_cons (ctxOk_cons (ctxOk_cons (ctxOk_cons (ctxOk_cons (ctxOk_cons ctxOk_nil same_KeyRanges.ok Try.func19 (by kernel_rfl) (by kernel_rfl)) ref12_UncoveredKeys.ok Try.func20 (by kernel_rfl) (by kernel_rfl)) table_Lookup.ok Try.func18 (by kernel_rfl) (by kernel_rfl)) table_UncoveredKeys.ok Try.func17 (by kernel_rfl) (by kernel_rfl)) law12_awake.ok Try.func12 (by kernel_rfl) (by kernel_rfl)) law12_few.ok Try.func10 (by kernel_rfl) (by kernel_rfl)) Try.func4 (by kernel_rfl : Try.f4.body = some (bodyOf Try.f4)) Try.ntmps4 (of_decide_eq_true (by kernel_rfl)) (of_decide_eq_true (by kernel_rfl))
    fun x y h => ((lim_eq (.code (bodyOf Try.f4) .ret) (entryFrom 0 law12_TableUncovered.ps x)).trans (law12_TableUncovered.se (lim law12_TableUncovered.E law12_TableUncovered.fin) x)).trans h
theorem law12_TableUncovered.val (x : (argTy law12_TableUncovered.ps).den) : lim law12_TableUncovered.E law12_TableUncovered.fin (.code (bodyOf Try.f4) .ret) (entryFrom 0 law12_TableUncovered.ps x) = law12_TableUncovered.sig.run x :=
  (lim_eq (.code (bodyOf Try.f4) .ret) (entryFrom 0 law12_TableUncovered.ps x)).trans (law12_TableUncovered.se (lim law12_TableUncovered.E law12_TableUncovered.fin) x)
noncomputable def law12_TableUncovered.ctxc (n : Nat) : List (Nat × Sig) := [(10, law12_few.sigc n), (12, law12_awake.sigc n), (17, table_UncoveredKeys.sigc n), (18, table_Lookup.sigc n), (20, ref12_UncoveredKeys.sigc n), (19, same_KeyRanges.sigc n)]
noncomputable def law12_TableUncovered.sigc (n : Nat) : Sig := ⟨law12_TableUncovered.ps, law12_TableUncovered.rs, fun x => runs (withCtx law12_TableUncovered.E (law12_TableUncovered.ctxc n)) law12_TableUncovered.fin n (.code (bodyOf Try.f4) .ret) (entryFrom 0 law12_TableUncovered.ps x)⟩
theorem law12_TableUncovered.sigc_le (n : Nat) : ∀ x y, (law12_TableUncovered.sigc n).run x = some y → law12_TableUncovered.sig.run x = some y :=
  fun x y h => (law12_TableUncovered.val x).symm.trans (runs_lim (E := law12_TableUncovered.E) (c := law12_TableUncovered.ctxc n) (ctxLe_cons (ctxLe_cons (ctxLe_cons (ctxLe_cons (ctxLe_cons (ctxLe_cons ctxLe_nil (same_KeyRanges.sigc_le n)) (ref12_UncoveredKeys.sigc_le n)) (table_Lookup.sigc_le n)) (table_UncoveredKeys.sigc_le n)) (law12_awake.sigc_le n)) (law12_few.sigc_le n)) h)
end Go.Proofs.Ytgnigfnonoicmaa
