/- The functions of the program as typed Lean functions, with the proof that they are what the code computes. -/
import Derived.Test.YtcekbjgogdkomaaCode3
set_option maxRecDepth 100000
set_option linter.unusedVariables false
namespace Go.Proofs.Ytcekbjgogdkomaa
open Go Go.Lift

/-! ### guerdon/guerdonref05.nonempty -/
namespace ref05_nonempty
abbrev ps : List PM := [.pure api_DateRange]
abbrev rs : List RM := [.pure .bool]
abbrev R : Type := Option (Bool × Unit)
noncomputable def E : Env := { tt := tt, ctx := [(25, ref05_Valid.sig)], nt := 12, ann := [] }
noncomputable def fin : ASt → R := Kret E Try.f33.results.toList ps rs
noncomputable def Se (r_0 : api_DateRangeV) : R :=
  Option.bind (ref05_Valid r_0) fun x1 =>
  cond x1.1
    (some (decide (r_0.1 < r_0.2.1), ()))
    (some (false, ()))
theorem se (jmp : Tgt → ASt → R) (x : (argTy ps).den) : run E jmp fin depth (bodyOf Try.f33) .ret (entryFrom 0 ps x) =
    Se x.1 := by kernel_rfl
end ref05_nonempty
noncomputable def ref05_nonempty (r_0 : api_DateRangeV) : ref05_nonempty.R :=
  ref05_nonempty.Se r_0
noncomputable def ref05_nonempty.sig : Sig := ⟨ref05_nonempty.ps, ref05_nonempty.rs, fun x => ref05_nonempty x.1⟩
theorem ref05_nonempty.ok : CallOK Try.prog 33 ref05_nonempty.sig :=
  callOK_of_lim (E := ref05_nonempty.E) mixed tt_ok (ctxOk_cons ctxOk_nil ref05_Valid.ok Try.func25 (by kernel_rfl) (by kernel_rfl)) Try.func33 (by kernel_rfl : Try.f33.body = some (bodyOf Try.f33)) Try.ntmps33 (of_decide_eq_true (by kernel_rfl)) (of_decide_eq_true (by kernel_rfl))
    fun x y h => ((lim_eq (.code (bodyOf Try.f33) .ret) (entryFrom 0 ref05_nonempty.ps x)).trans (ref05_nonempty.se (lim ref05_nonempty.E ref05_nonempty.fin) x)).trans h
theorem ref05_nonempty.val (x : (argTy ref05_nonempty.ps).den) : lim ref05_nonempty.E ref05_nonempty.fin (.code (bodyOf Try.f33) .ret) (entryFrom 0 ref05_nonempty.ps x) = ref05_nonempty.sig.run x :=
  (lim_eq (.code (bodyOf Try.f33) .ret) (entryFrom 0 ref05_nonempty.ps x)).trans (ref05_nonempty.se (lim ref05_nonempty.E ref05_nonempty.fin) x)
noncomputable def ref05_nonempty.ctxc (n : Nat) : List (Nat × Sig) := [(25, ref05_Valid.sigc n)]
noncomputable def ref05_nonempty.sigc (n : Nat) : Sig := ⟨ref05_nonempty.ps, ref05_nonempty.rs, fun x => runs (withCtx ref05_nonempty.E (ref05_nonempty.ctxc n)) ref05_nonempty.fin n (.code (bodyOf Try.f33) .ret) (entryFrom 0 ref05_nonempty.ps x)⟩
theorem ref05_nonempty.sigc_le (n : Nat) : ∀ x y, (ref05_nonempty.sigc n).run x = some y → ref05_nonempty.sig.run x = some y :=
  fun x y h => (ref05_nonempty.val x).symm.trans (runs_lim (E := ref05_nonempty.E) (c := ref05_nonempty.ctxc n) (ctxLe_cons ctxLe_nil (ref05_Valid.sigc_le n)) h)

/-! ### guerdon/guerdonref05.put -/
namespace ref05_put
abbrev ps : List PM := [.pure (.sl api_DateRange), .pure api_DateRange]
abbrev rs : List RM := [.own api_DateRange]
abbrev R : Type := Option (List api_DateRangeV × Unit)
noncomputable def E : Env := { tt := tt, ctx := [], nt := 80, ann := [(1000003, [(0, .keep), (3, .keep), (5, .own api_DateRange), (6, .keep)]), (1000011, [(0, .keep), (3, .keep), (5, .keep), (7, .keep)])] }
noncomputable def c0 : Code := sub [1, 1, 1] (bodyOf Try.f34)
noncomputable def c1 : Code := sub [1, 1, 1, 1, 1] (bodyOf Try.f34)
noncomputable def c2 : Code := sub [1, 1, 0, 1, 0, 0] (bodyOf Try.f34)
noncomputable def c3 : Code := sub [1, 1, 1, 1, 0, 1, 0, 0] (bodyOf Try.f34)
noncomputable def K3 : Kont := .seq c0 .ret
noncomputable def K5 : Kont := .blk 0 K3
noncomputable def K14 : Kont := .seq c1 .ret
noncomputable def K16 : Kont := .blk 2 K14
noncomputable def fin : ASt → R := Kret E Try.f34.results.toList ps rs
def tL0 (l : List api_DateRangeV) (r_3 : api_DateRangeV) (out : List api_DateRangeV) (i : Int) : ASt := ⟨[(6, .one (.val (.int .i64) i)), (5, .one (.own 5)), (3, .one (.optr 3 0 [])), (0, .one (.val (.sl api_DateRange) l))], [(5, some ⟨.free, api_DateRange, out⟩), (3, some ⟨.free, api_DateRange, [r_3]⟩)]⟩
def tL1 (l : List api_DateRangeV) (r_3 : api_DateRangeV) (out : List api_DateRangeV) (i : Int) : ASt := ⟨[(7, .one (.val (.int .i64) i)), (5, .one (.own 5)), (3, .one (.optr 3 0 [])), (0, .one (.val (.sl api_DateRange) l))], [(5, some ⟨.free, api_DateRange, out⟩), (3, some ⟨.free, api_DateRange, [r_3]⟩)]⟩
noncomputable def SL0 (kL0 : (List api_DateRangeV) → api_DateRangeV → (List api_DateRangeV) → Int → R) (kL1 : (List api_DateRangeV) → api_DateRangeV → (List api_DateRangeV) → Int → R) (l : List api_DateRangeV) (r_3 : api_DateRangeV) (out : List api_DateRangeV) (i : Int) : R :=
  cond (decide (i < (l.length : Int)))
    (Option.bind (idx l i) fun x1 =>
    cond (decide (x1.2.1 < r_3.1))
      (Option.bind (idx l i) fun x2 =>
      cond (decide ((out.length + 1) * 16 ≤ room) && decide (0 < Ty.nc (.pair (.int .i64) (.pair (.int .i64) .unit))))
        (kL0 l r_3 (out ++ [x2]) (IntKind.i64.wrap (i + 1)))
        none)
      (Option.bind (idx l i) fun x3 =>
      cond (decide (x3.1 ≤ r_3.2.1))
        (Option.bind (idx l i) fun x4 =>
        Option.bind (idx l i) fun x5 =>
        kL0 l ((cond (decide (x4.1 < r_3.1)) x4.1 r_3.1), (cond (decide (x5.2.1 > r_3.2.1)) x5.2.1 r_3.2.1), ()) out (IntKind.i64.wrap (i + 1)))
        (kL0 l r_3 out (IntKind.i64.wrap (i + 1)))))
    (cond (decide ((out.length + 1) * 16 ≤ room) && decide (0 < Ty.nc (.pair (.int .i64) (.pair (.int .i64) .unit))))
      (kL1 l r_3 (out ++ [r_3]) 0)
      none)
noncomputable def SL1 (kL1 : (List api_DateRangeV) → api_DateRangeV → (List api_DateRangeV) → Int → R) (l : List api_DateRangeV) (r_3 : api_DateRangeV) (out : List api_DateRangeV) (i : Int) : R :=
  cond (decide (i < (l.length : Int)))
    (Option.bind (idx l i) fun x1 =>
    cond (decide (x1.1 > r_3.2.1))
      (Option.bind (idx l i) fun x2 =>
      cond (decide ((out.length + 1) * 16 ≤ room) && decide (0 < Ty.nc (.pair (.int .i64) (.pair (.int .i64) .unit))))
        (kL1 l r_3 (out ++ [x2]) (IntKind.i64.wrap (i + 1)))
        none)
      (kL1 l r_3 out (IntKind.i64.wrap (i + 1))))
    (some (out, ()))
noncomputable def Se (kL0 : (List api_DateRangeV) → api_DateRangeV → (List api_DateRangeV) → Int → R) (l : List api_DateRangeV) (r_1 : api_DateRangeV) : R :=
  kL0 l r_1 [] 0
theorem sL0 (jmp : Tgt → ASt → R) (l : List api_DateRangeV) (r_3 : api_DateRangeV) (out : List api_DateRangeV) (i : Int) : run E jmp fin depth c2 (.loop c2 K5) (tL0 l r_3 out i) =
    SL0 (fun l r_3 out i => jmp (.loop c2 K5) (tL0 l r_3 out i)) (fun l r_3 out i => jmp (.loop c3 K16) (tL1 l r_3 out i)) l r_3 out i := by kernel_rfl
theorem sL1 (jmp : Tgt → ASt → R) (l : List api_DateRangeV) (r_3 : api_DateRangeV) (out : List api_DateRangeV) (i : Int) : run E jmp fin depth c3 (.loop c3 K16) (tL1 l r_3 out i) =
    SL1 (fun l r_3 out i => jmp (.loop c3 K16) (tL1 l r_3 out i)) l r_3 out i := by kernel_rfl
theorem se (jmp : Tgt → ASt → R) (x : (argTy ps).den) : run E jmp fin depth (bodyOf Try.f34) .ret (entryFrom 0 ps x) =
    Se (fun l r_3 out i => jmp (.loop c2 K5) (tL0 l r_3 out i)) x.1 x.2.1 := by kernel_rfl
noncomputable def L0 (l : List api_DateRangeV) (r_3 : api_DateRangeV) (out : List api_DateRangeV) (i : Int) : R := lim E fin (.loop c2 K5) (tL0 l r_3 out i)
noncomputable def L1 (l : List api_DateRangeV) (r_3 : api_DateRangeV) (out : List api_DateRangeV) (i : Int) : R := lim E fin (.loop c3 K16) (tL1 l r_3 out i)
theorem L0_eq (l : List api_DateRangeV) (r_3 : api_DateRangeV) (out : List api_DateRangeV) (i : Int) : L0 l r_3 out i = SL0 L0 L1 l r_3 out i :=
  (lim_eq (.loop c2 K5) (tL0 l r_3 out i)).trans (sL0 (lim E fin) l r_3 out i)
theorem L1_eq (l : List api_DateRangeV) (r_3 : api_DateRangeV) (out : List api_DateRangeV) (i : Int) : L1 l r_3 out i = SL1 L1 l r_3 out i :=
  (lim_eq (.loop c3 K16) (tL1 l r_3 out i)).trans (sL1 (lim E fin) l r_3 out i)
end ref05_put
noncomputable def ref05_put (l : List api_DateRangeV) (r_1 : api_DateRangeV) : ref05_put.R :=
  ref05_put.Se ref05_put.L0 l r_1
noncomputable def ref05_put.sig : Sig := ⟨ref05_put.ps, ref05_put.rs, fun x => ref05_put x.1 x.2.1⟩
theorem ref05_put.ok : CallOK Try.prog 34 ref05_put.sig :=
  callOK_of_lim (E := ref05_put.E) mixed tt_ok ctxOk_nil Try.func34 (by kernel_rfl : Try.f34.body = some (bodyOf Try.f34)) Try.ntmps34 (of_decide_eq_true (by kernel_rfl)) (of_decide_eq_true (by kernel_rfl))
    fun x y h => ((lim_eq (.code (bodyOf Try.f34) .ret) (entryFrom 0 ref05_put.ps x)).trans (ref05_put.se (lim ref05_put.E ref05_put.fin) x)).trans h
theorem ref05_put.val (x : (argTy ref05_put.ps).den) : lim ref05_put.E ref05_put.fin (.code (bodyOf Try.f34) .ret) (entryFrom 0 ref05_put.ps x) = ref05_put.sig.run x :=
  (lim_eq (.code (bodyOf Try.f34) .ret) (entryFrom 0 ref05_put.ps x)).trans (ref05_put.se (lim ref05_put.E ref05_put.fin) x)
noncomputable def ref05_put.ctxc (n : Nat) : List (Nat × Sig) := []
noncomputable def ref05_put.sigc (n : Nat) : Sig := ⟨ref05_put.ps, ref05_put.rs, fun x => runs (withCtx ref05_put.E (ref05_put.ctxc n)) ref05_put.fin n (.code (bodyOf Try.f34) .ret) (entryFrom 0 ref05_put.ps x)⟩
theorem ref05_put.sigc_le (n : Nat) : ∀ x y, (ref05_put.sigc n).run x = some y → ref05_put.sig.run x = some y :=
  fun x y h => (ref05_put.val x).symm.trans (runs_lim (E := ref05_put.E) (c := ref05_put.ctxc n) ctxLe_nil h)

/-! ### guerdon/guerdonref05.Union -/
namespace ref05_Union
abbrev ps : List PM := [.pure (.sl api_DateRange)]
abbrev rs : List RM := [.own api_DateRange]
abbrev R : Type := Option (List api_DateRangeV × Unit)
noncomputable def E : Env := { tt := tt, ctx := [(33, ref05_nonempty.sig), (34, ref05_put.sig)], nt := 23, ann := [(1000003, [(0, .keep), (3, .own api_DateRange), (4, .keep)])] }
noncomputable def c0 : Code := sub [1, 1, 1] (bodyOf Try.f13)
noncomputable def c1 : Code := sub [1, 1, 0, 1, 0, 0] (bodyOf Try.f13)
noncomputable def K3 : Kont := .seq c0 .ret
noncomputable def K5 : Kont := .blk 0 K3
noncomputable def fin : ASt → R := Kret E Try.f13.results.toList ps rs
def tL0 (l : List api_DateRangeV) (out : List api_DateRangeV) (i : Int) : ASt := ⟨[(4, .one (.val (.int .i64) i)), (3, .one (.own 3)), (0, .one (.val (.sl api_DateRange) l))], [(3, some ⟨.free, api_DateRange, out⟩)]⟩
noncomputable def SL0 (kL0 : (List api_DateRangeV) → (List api_DateRangeV) → Int → R) (l : List api_DateRangeV) (out : List api_DateRangeV) (i : Int) : R :=
  cond (decide (i < (l.length : Int)))
    (Option.bind (idx l i) fun x1 =>
    Option.bind (ref05_nonempty x1) fun x2 =>
    cond x2.1
      (Option.bind (idx l i) fun x3 =>
      Option.bind (ref05_put out x3) fun x4 =>
      kL0 l x4.1 (IntKind.i64.wrap (i + 1)))
      (kL0 l out (IntKind.i64.wrap (i + 1))))
    (some (out, ()))
noncomputable def Se (kL0 : (List api_DateRangeV) → (List api_DateRangeV) → Int → R) (l : List api_DateRangeV) : R :=
  kL0 l [] 0
theorem sL0 (jmp : Tgt → ASt → R) (l : List api_DateRangeV) (out : List api_DateRangeV) (i : Int) : run E jmp fin depth c1 (.loop c1 K5) (tL0 l out i) =
    SL0 (fun l out i => jmp (.loop c1 K5) (tL0 l out i)) l out i := by kernel_rfl
theorem se (jmp : Tgt → ASt → R) (x : (argTy ps).den) : run E jmp fin depth (bodyOf Try.f13) .ret (entryFrom 0 ps x) =
    Se (fun l out i => jmp (.loop c1 K5) (tL0 l out i)) x.1 := by kernel_rfl
noncomputable def L0 (l : List api_DateRangeV) (out : List api_DateRangeV) (i : Int) : R := lim E fin (.loop c1 K5) (tL0 l out i)
theorem L0_eq (l : List api_DateRangeV) (out : List api_DateRangeV) (i : Int) : L0 l out i = SL0 L0 l out i :=
  (lim_eq (.loop c1 K5) (tL0 l out i)).trans (sL0 (lim E fin) l out i)
end ref05_Union
noncomputable def ref05_Union (l : List api_DateRangeV) : ref05_Union.R :=
  ref05_Union.Se ref05_Union.L0 l
noncomputable def ref05_Union.sig : Sig := ⟨ref05_Union.ps, ref05_Union.rs, fun x => ref05_Union x.1⟩
theorem ref05_Union.ok : CallOK Try.prog 13 ref05_Union.sig :=
  callOK_of_lim (E := ref05_Union.E) mixed tt_ok (ctxOk_cons (ctxOk_cons ctxOk_nil ref05_put.ok Try.func34 (by kernel_rfl) (by kernel_rfl)) ref05_nonempty.ok Try.func33 (by kernel_rfl) (by kernel_rfl)) Try.func13 (by kernel_rfl : Try.f13.body = some (bodyOf Try.f13)) Try.ntmps13 (of_decide_eq_true (by kernel_rfl)) (of_decide_eq_true (by kernel_rfl))
    fun x y h => ((lim_eq (.code (bodyOf Try.f13) .ret) (entryFrom 0 ref05_Union.ps x)).trans (ref05_Union.se (lim ref05_Union.E ref05_Union.fin) x)).trans h
theorem ref05_Union.val (x : (argTy ref05_Union.ps).den) : lim ref05_Union.E ref05_Union.fin (.code (bodyOf Try.f13) .ret) (entryFrom 0 ref05_Union.ps x) = ref05_Union.sig.run x :=
  (lim_eq (.code (bodyOf Try.f13) .ret) (entryFrom 0 ref05_Union.ps x)).trans (ref05_Union.se (lim ref05_Union.E ref05_Union.fin) x)
noncomputable def ref05_Union.ctxc (n : Nat) : List (Nat × Sig) := [(33, ref05_nonempty.sigc n), (34, ref05_put.sigc n)]
noncomputable def ref05_Union.sigc (n : Nat) : Sig := ⟨ref05_Union.ps, ref05_Union.rs, fun x => runs (withCtx ref05_Union.E (ref05_Union.ctxc n)) ref05_Union.fin n (.code (bodyOf Try.f13) .ret) (entryFrom 0 ref05_Union.ps x)⟩
theorem ref05_Union.sigc_le (n : Nat) : ∀ x y, (ref05_Union.sigc n).run x = some y → ref05_Union.sig.run x = some y :=
  fun x y h => (ref05_Union.val x).symm.trans (runs_lim (E := ref05_Union.E) (c := ref05_Union.ctxc n) (ctxLe_cons (ctxLe_cons ctxLe_nil (ref05_put.sigc_le n)) (ref05_nonempty.sigc_le n)) h)

/-! ### guerdon/guerdonref05.Intersect -/
namespace ref05_Intersect
abbrev ps : List PM := [.pure api_DateRange, .pure api_DateRange]
abbrev rs : List RM := [.pure api_DateRange, .pure .bool]
abbrev R : Type := Option (api_DateRangeV × Bool × Unit)
noncomputable def E : Env := { tt := tt, ctx := [(25, ref05_Valid.sig)], nt := 34, ann := [(3, [(2, .keep), (3, .keep), (4, .keep)])] }
noncomputable def c0 : Code := sub [1, 1] (bodyOf Try.f23)
noncomputable def fin : ASt → R := Kret E Try.f23.results.toList ps rs
def tJ0 (a : api_DateRangeV) (b : api_DateRangeV) (v_4 : api_DateRangeV) : ASt := ⟨[(4, .one (.optr 4 0 [])), (3, .one (.optr 3 0 [])), (2, .one (.optr 2 0 []))], [(4, some ⟨.free, api_DateRange, [v_4]⟩), (3, some ⟨.free, api_DateRange, [b]⟩), (2, some ⟨.free, api_DateRange, [a]⟩)]⟩
noncomputable def SJ0 (a : api_DateRangeV) (b : api_DateRangeV) (v_4 : api_DateRangeV) : R :=
  cond (decide ((cond (decide (b.1 > a.1)) b.1 a.1) ≥ (cond (decide (b.2.1 < a.2.1)) b.2.1 a.2.1)))
    (some ((0, 0, ()), false, ()))
    (some (((cond (decide (b.1 > a.1)) b.1 a.1), (cond (decide (b.2.1 < a.2.1)) b.2.1 a.2.1), ()), true, ()))
noncomputable def Se (kJ0 : api_DateRangeV → api_DateRangeV → api_DateRangeV → R) (a : api_DateRangeV) (b : api_DateRangeV) : R :=
  Option.bind (ref05_Valid a) fun x1 =>
  cond (!x1.1)
    (some ((0, 0, ()), false, ()))
    (Option.bind (ref05_Valid b) fun x2 =>
    cond (!x2.1)
      (some ((0, 0, ()), false, ()))
      (kJ0 a b (0, 0, ())))
theorem sJ0 (jmp : Tgt → ASt → R) (a : api_DateRangeV) (b : api_DateRangeV) (v_4 : api_DateRangeV) : run E jmp fin depth c0 .ret (tJ0 a b v_4) =
    SJ0 a b v_4 := by kernel_rfl
theorem se (jmp : Tgt → ASt → R) (x : (argTy ps).den) : run E jmp fin depth (bodyOf Try.f23) .ret (entryFrom 0 ps x) =
    Se (fun a b v_4 => jmp (.code c0 .ret) (tJ0 a b v_4)) x.1 x.2.1 := by kernel_rfl
noncomputable def J0 (a : api_DateRangeV) (b : api_DateRangeV) (v_4 : api_DateRangeV) : R := lim E fin (.code c0 .ret) (tJ0 a b v_4)
theorem J0_eq (a : api_DateRangeV) (b : api_DateRangeV) (v_4 : api_DateRangeV) : J0 a b v_4 = SJ0 a b v_4 :=
  (lim_eq (.code c0 .ret) (tJ0 a b v_4)).trans (sJ0 (lim E fin) a b v_4)
end ref05_Intersect
noncomputable def ref05_Intersect (a : api_DateRangeV) (b : api_DateRangeV) : ref05_Intersect.R :=
  ref05_Intersect.Se ref05_Intersect.J0 a b
noncomputable def ref05_Intersect.sig : Sig := ⟨ref05_Intersect.ps, ref05_Intersect.rs, fun x => ref05_Intersect x.1 x.2.1⟩
theorem ref05_Intersect.ok : CallOK Try.prog 23 ref05_Intersect.sig :=
  callOK_of_lim (E := ref05_Intersect.E) mixed tt_ok (ctxOk_cons ctxOk_nil ref05_Valid.ok Try.func25 (by kernel_rfl) (by kernel_rfl)) Try.func23 (by kernel_rfl : Try.f23.body = some (bodyOf Try.f23)) Try.ntmps23 (of_decide_eq_true (by kernel_rfl)) (of_decide_eq_true (by kernel_rfl))
    fun x y h => ((lim_eq (.code (bodyOf Try.f23) .ret) (entryFrom 0 ref05_Intersect.ps x)).trans (ref05_Intersect.se (lim ref05_Intersect.E ref05_Intersect.fin) x)).trans h
theorem ref05_Intersect.val (x : (argTy ref05_Intersect.ps).den) : lim ref05_Intersect.E ref05_Intersect.fin (.code (bodyOf Try.f23) .ret) (entryFrom 0 ref05_Intersect.ps x) = ref05_Intersect.sig.run x :=
  (lim_eq (.code (bodyOf Try.f23) .ret) (entryFrom 0 ref05_Intersect.ps x)).trans (ref05_Intersect.se (lim ref05_Intersect.E ref05_Intersect.fin) x)
noncomputable def ref05_Intersect.ctxc (n : Nat) : List (Nat × Sig) := [(25, ref05_Valid.sigc n)]
noncomputable def ref05_Intersect.sigc (n : Nat) : Sig := ⟨ref05_Intersect.ps, ref05_Intersect.rs, fun x => runs (withCtx ref05_Intersect.E (ref05_Intersect.ctxc n)) ref05_Intersect.fin n (.code (bodyOf Try.f23) .ret) (entryFrom 0 ref05_Intersect.ps x)⟩
theorem ref05_Intersect.sigc_le (n : Nat) : ∀ x y, (ref05_Intersect.sigc n).run x = some y → ref05_Intersect.sig.run x = some y :=
  fun x y h => (ref05_Intersect.val x).symm.trans (runs_lim (E := ref05_Intersect.E) (c := ref05_Intersect.ctxc n) (ctxLe_cons ctxLe_nil (ref05_Valid.sigc_le n)) h)

/-! ### guerdon/guerdonref05.Subtract -/
namespace ref05_Subtract
abbrev ps : List PM := [.pure api_DateRange, .pure api_DateRange]
abbrev rs : List RM := [.own api_DateRange]
abbrev R : Type := Option (List api_DateRangeV × Unit)
noncomputable def E : Env := { tt := tt, ctx := [(33, ref05_nonempty.sig), (23, ref05_Intersect.sig)], nt := 48, ann := [(9, [(2, .keep), (5, .keep), (7, .own api_DateRange)])] }
noncomputable def c0 : Code := sub [1, 1, 1, 1, 1, 1] (bodyOf Try.f28)
noncomputable def fin : ASt → R := Kret E Try.f28.results.toList ps rs
def tJ0 (a : api_DateRangeV) (c_5 : api_DateRangeV) (out : List api_DateRangeV) : ASt := ⟨[(7, .one (.own 7)), (5, .one (.optr 5 0 [])), (2, .one (.optr 2 0 []))], [(7, some ⟨.free, api_DateRange, out⟩), (5, some ⟨.free, api_DateRange, [c_5]⟩), (2, some ⟨.free, api_DateRange, [a]⟩)]⟩
noncomputable def SJ0 (a : api_DateRangeV) (c_5 : api_DateRangeV) (out : List api_DateRangeV) : R :=
  cond (decide (c_5.2.1 < a.2.1))
    (cond (decide ((out.length + 1) * 16 ≤ room) && decide (0 < Ty.nc (.pair (.int .i64) (.pair (.int .i64) .unit))))
      (some ((out ++ [(c_5.2.1, a.2.1, ())]), ()))
      none)
    (some (out, ()))
noncomputable def Se (kJ0 : api_DateRangeV → api_DateRangeV → (List api_DateRangeV) → R) (a : api_DateRangeV) (b : api_DateRangeV) : R :=
  Option.bind (ref05_nonempty a) fun x1 =>
  cond (!x1.1)
    (some ([], ()))
    (Option.bind (ref05_Intersect a b) fun x2 =>
    cond (!x2.2.1)
      (some ([a], ()))
      (cond (decide (a.1 < x2.1.1))
        (kJ0 a x2.1 [(a.1, x2.1.1, ())])
        (kJ0 a x2.1 [])))
theorem sJ0 (jmp : Tgt → ASt → R) (a : api_DateRangeV) (c_5 : api_DateRangeV) (out : List api_DateRangeV) : run E jmp fin depth c0 .ret (tJ0 a c_5 out) =
    SJ0 a c_5 out := by kernel_rfl
theorem se (jmp : Tgt → ASt → R) (x : (argTy ps).den) : run E jmp fin depth (bodyOf Try.f28) .ret (entryFrom 0 ps x) =
    Se (fun a c_5 out => jmp (.code c0 .ret) (tJ0 a c_5 out)) x.1 x.2.1 := by kernel_rfl
noncomputable def J0 (a : api_DateRangeV) (c_5 : api_DateRangeV) (out : List api_DateRangeV) : R := lim E fin (.code c0 .ret) (tJ0 a c_5 out)
theorem J0_eq (a : api_DateRangeV) (c_5 : api_DateRangeV) (out : List api_DateRangeV) : J0 a c_5 out = SJ0 a c_5 out :=
  (lim_eq (.code c0 .ret) (tJ0 a c_5 out)).trans (sJ0 (lim E fin) a c_5 out)
end ref05_Subtract
noncomputable def ref05_Subtract (a : api_DateRangeV) (b : api_DateRangeV) : ref05_Subtract.R :=
  ref05_Subtract.Se ref05_Subtract.J0 a b
noncomputable def ref05_Subtract.sig : Sig := ⟨ref05_Subtract.ps, ref05_Subtract.rs, fun x => ref05_Subtract x.1 x.2.1⟩
theorem ref05_Subtract.ok : CallOK Try.prog 28 ref05_Subtract.sig :=
  callOK_of_lim (E := ref05_Subtract.E) mixed tt_ok (ctxOk_cons (ctxOk_cons ctxOk_nil ref05_Intersect.ok Try.func23 (by kernel_rfl) (by kernel_rfl)) ref05_nonempty.ok Try.func33 (by kernel_rfl) (by kernel_rfl)) Try.func28 (by kernel_rfl : Try.f28.body = some (bodyOf Try.f28)) Try.ntmps28 (of_decide_eq_true (by kernel_rfl)) (of_decide_eq_true (by kernel_rfl))
    fun x y h => ((lim_eq (.code (bodyOf Try.f28) .ret) (entryFrom 0 ref05_Subtract.ps x)).trans (ref05_Subtract.se (lim ref05_Subtract.E ref05_Subtract.fin) x)).trans h
theorem ref05_Subtract.val (x : (argTy ref05_Subtract.ps).den) : lim ref05_Subtract.E ref05_Subtract.fin (.code (bodyOf Try.f28) .ret) (entryFrom 0 ref05_Subtract.ps x) = ref05_Subtract.sig.run x :=
  (lim_eq (.code (bodyOf Try.f28) .ret) (entryFrom 0 ref05_Subtract.ps x)).trans (ref05_Subtract.se (lim ref05_Subtract.E ref05_Subtract.fin) x)
noncomputable def ref05_Subtract.ctxc (n : Nat) : List (Nat × Sig) := [(33, ref05_nonempty.sigc n), (23, ref05_Intersect.sigc n)]
noncomputable def ref05_Subtract.sigc (n : Nat) : Sig := ⟨ref05_Subtract.ps, ref05_Subtract.rs, fun x => runs (withCtx ref05_Subtract.E (ref05_Subtract.ctxc n)) ref05_Subtract.fin n (.code (bodyOf Try.f28) .ret) (entryFrom 0 ref05_Subtract.ps x)⟩
theorem ref05_Subtract.sigc_le (n : Nat) : ∀ x y, (ref05_Subtract.sigc n).run x = some y → ref05_Subtract.sig.run x = some y :=
  fun x y h => (ref05_Subtract.val x).symm.trans (runs_lim (E := ref05_Subtract.E) (c := ref05_Subtract.ctxc n) (ctxLe_cons (ctxLe_cons ctxLe_nil (ref05_Intersect.sigc_le n)) (ref05_nonempty.sigc_le n)) h)

/-! ### guerdon/guerdonref05.Gaps -/
namespace ref05_Gaps
abbrev ps : List PM := [.pure (.sl api_DateRange), .pure api_DateRange]
abbrev rs : List RM := [.own api_DateRange]
abbrev R : Type := Option (List api_DateRangeV × Unit)
noncomputable def E : Env := { tt := tt, ctx := [(33, ref05_nonempty.sig), (28, ref05_Subtract.sig)], nt := 39, ann := [(1000005, [(0, .keep), (5, .own api_DateRange), (6, .keep)]), (1000009, [(0, .keep), (5, .keep), (6, .keep), (7, .own api_DateRange), (8, .keep)])] }
noncomputable def c0 : Code := sub [1, 1, 1, 1] (bodyOf Try.f15)
noncomputable def c1 : Code := sub [1, 1, 1, 0, 1, 0, 0] (bodyOf Try.f15)
noncomputable def c2 : Code := sub [1, 1, 1, 0, 1, 0, 0, 1, 1] (bodyOf Try.f15)
noncomputable def c3 : Code := sub [1, 1, 1, 0, 1, 0, 0, 1, 0, 0, 1, 1] (bodyOf Try.f15)
noncomputable def c4 : Code := sub [1, 1, 1, 0, 1, 0, 0, 1, 0, 0, 1, 0, 1, 0, 0] (bodyOf Try.f15)
noncomputable def K6 : Kont := .seq c0 .ret
noncomputable def K8 : Kont := .blk 0 K6
noncomputable def K9 : Kont := .loop c1 K8
noncomputable def K12 : Kont := .seq c2 K9
noncomputable def K13 : Kont := .blk 1 K12
noncomputable def K15 : Kont := .seq c3 K13
noncomputable def K17 : Kont := .blk 2 K15
noncomputable def fin : ASt → R := Kret E Try.f15.results.toList ps rs
def tL0 (l : List api_DateRangeV) (out : List api_DateRangeV) (i : Int) : ASt := ⟨[(6, .one (.val (.int .i64) i)), (5, .one (.own 5)), (0, .one (.val (.sl api_DateRange) l))], [(5, some ⟨.free, api_DateRange, out⟩)]⟩
def tL1 (l : List api_DateRangeV) (out : List api_DateRangeV) (i : Int) (next : List api_DateRangeV) (k : Int) : ASt := ⟨[(8, .one (.val (.int .i64) k)), (7, .one (.own 7)), (6, .one (.val (.int .i64) i)), (5, .one (.own 5)), (0, .one (.val (.sl api_DateRange) l))], [(7, some ⟨.free, api_DateRange, next⟩), (5, some ⟨.free, api_DateRange, out⟩)]⟩
noncomputable def SL0 (kL1 : (List api_DateRangeV) → (List api_DateRangeV) → Int → (List api_DateRangeV) → Int → R) (l : List api_DateRangeV) (out : List api_DateRangeV) (i : Int) : R :=
  cond (decide (i < (l.length : Int)))
    (kL1 l out i [] 0)
    (some (out, ()))
noncomputable def SL1 (kL1 : (List api_DateRangeV) → (List api_DateRangeV) → Int → (List api_DateRangeV) → Int → R) (kL0 : (List api_DateRangeV) → (List api_DateRangeV) → Int → R) (l : List api_DateRangeV) (out : List api_DateRangeV) (i : Int) (next : List api_DateRangeV) (k : Int) : R :=
  cond (decide (k < (out.length : Int)))
    (cond (decide (0 ≤ k) && decide (k < (out.length : Int)))
      (Option.bind (idx l i) fun x1 =>
      Option.bind (ref05_Subtract (out.getD k.toNat (0, 0, ())) x1) fun x2 =>
      cond (decide ((next.length + x2.1.length) * 16 ≤ room) && decide (0 < Ty.nc (.pair (.int .i64) (.pair (.int .i64) .unit))))
        (kL1 l out i (next ++ x2.1) (IntKind.i64.wrap (k + 1)))
        none)
      none)
    (kL0 l next (IntKind.i64.wrap (i + 1)))
noncomputable def Se (kL0 : (List api_DateRangeV) → (List api_DateRangeV) → Int → R) (l : List api_DateRangeV) (within : api_DateRangeV) : R :=
  Option.bind (ref05_nonempty within) fun x1 =>
  cond (!x1.1)
    (some ([], ()))
    (kL0 l [within] 0)
theorem sL0 (jmp : Tgt → ASt → R) (l : List api_DateRangeV) (out : List api_DateRangeV) (i : Int) : run E jmp fin depth c1 (.loop c1 K8) (tL0 l out i) =
    SL0 (fun l out i next k => jmp (.loop c4 K17) (tL1 l out i next k)) l out i := by kernel_rfl
theorem sL1 (jmp : Tgt → ASt → R) (l : List api_DateRangeV) (out : List api_DateRangeV) (i : Int) (next : List api_DateRangeV) (k : Int) : run E jmp fin depth c4 (.loop c4 K17) (tL1 l out i next k) =
    SL1 (fun l out i next k => jmp (.loop c4 K17) (tL1 l out i next k)) (fun l out i => jmp (.loop c1 K8) (tL0 l out i)) l out i next k := by kernel_rfl
theorem se (jmp : Tgt → ASt → R) (x : (argTy ps).den) : run E jmp fin depth (bodyOf Try.f15) .ret (entryFrom 0 ps x) =
    Se (fun l out i => jmp (.loop c1 K8) (tL0 l out i)) x.1 x.2.1 := by kernel_rfl
noncomputable def L0 (l : List api_DateRangeV) (out : List api_DateRangeV) (i : Int) : R := lim E fin (.loop c1 K8) (tL0 l out i)
noncomputable def L1 (l : List api_DateRangeV) (out : List api_DateRangeV) (i : Int) (next : List api_DateRangeV) (k : Int) : R := lim E fin (.loop c4 K17) (tL1 l out i next k)
theorem L0_eq (l : List api_DateRangeV) (out : List api_DateRangeV) (i : Int) : L0 l out i = SL0 L1 l out i :=
  (lim_eq (.loop c1 K8) (tL0 l out i)).trans (sL0 (lim E fin) l out i)
theorem L1_eq (l : List api_DateRangeV) (out : List api_DateRangeV) (i : Int) (next : List api_DateRangeV) (k : Int) : L1 l out i next k = SL1 L1 L0 l out i next k :=
  (lim_eq (.loop c4 K17) (tL1 l out i next k)).trans (sL1 (lim E fin) l out i next k)
end ref05_Gaps
noncomputable def ref05_Gaps (l : List api_DateRangeV) (within : api_DateRangeV) : ref05_Gaps.R :=
  ref05_Gaps.Se ref05_Gaps.L0 l within
noncomputable def ref05_Gaps.sig : Sig := ⟨ref05_Gaps.ps, ref05_Gaps.rs, fun x => ref05_Gaps x.1 x.2.1⟩
theorem ref05_Gaps.ok : CallOK Try.prog 15 ref05_Gaps.sig :=
  callOK_of_lim (E := ref05_Gaps.E) mixed tt_ok (ctxOk_cons (ctxOk_cons ctxOk_nil ref05_Subtract.ok Try.func28 (by kernel_rfl) (by kernel_rfl)) ref05_nonempty.ok Try.func33 (by kernel_rfl) (by kernel_rfl)) Try.func15 (by kernel_rfl : Try.f15.body = some (bodyOf Try.f15)) Try.ntmps15 (of_decide_eq_true (by kernel_rfl)) (of_decide_eq_true (by kernel_rfl))
    fun x y h => ((lim_eq (.code (bodyOf Try.f15) .ret) (entryFrom 0 ref05_Gaps.ps x)).trans (ref05_Gaps.se (lim ref05_Gaps.E ref05_Gaps.fin) x)).trans h
theorem ref05_Gaps.val (x : (argTy ref05_Gaps.ps).den) : lim ref05_Gaps.E ref05_Gaps.fin (.code (bodyOf Try.f15) .ret) (entryFrom 0 ref05_Gaps.ps x) = ref05_Gaps.sig.run x :=
  (lim_eq (.code (bodyOf Try.f15) .ret) (entryFrom 0 ref05_Gaps.ps x)).trans (ref05_Gaps.se (lim ref05_Gaps.E ref05_Gaps.fin) x)
noncomputable def ref05_Gaps.ctxc (n : Nat) : List (Nat × Sig) := [(33, ref05_nonempty.sigc n), (28, ref05_Subtract.sigc n)]
noncomputable def ref05_Gaps.sigc (n : Nat) : Sig := ⟨ref05_Gaps.ps, ref05_Gaps.rs, fun x => runs (withCtx ref05_Gaps.E (ref05_Gaps.ctxc n)) ref05_Gaps.fin n (.code (bodyOf Try.f15) .ret) (entryFrom 0 ref05_Gaps.ps x)⟩
theorem ref05_Gaps.sigc_le (n : Nat) : ∀ x y, (ref05_Gaps.sigc n).run x = some y → ref05_Gaps.sig.run x = some y :=
  fun x y h => (ref05_Gaps.val x).symm.trans (runs_lim (E := ref05_Gaps.E) (c := ref05_Gaps.ctxc n) (ctxLe_cons (ctxLe_cons ctxLe_nil (ref05_Subtract.sigc_le n)) (ref05_nonempty.sigc_le n)) h)

/-! ### guerdon/guerdonref05.Insert -/
namespace ref05_Insert
abbrev ps : List PM := [.pure (.sl (.int .i64)), .pure (.int .i64)]
abbrev rs : List RM := [.own (.int .i64)]
abbrev R : Type := Option (List Int × Unit)
noncomputable def E : Env := { tt := tt, ctx := [], nt := 51, ann := [(1000003, [(0, .keep), (1, .keep), (5, .own (.int .i64)), (6, .keep)]), (1000009, [(0, .keep), (1, .keep), (5, .keep), (7, .keep)])] }
noncomputable def c0 : Code := sub [1, 1, 1] (bodyOf Try.f37)
noncomputable def c1 : Code := sub [1, 1, 1, 1, 1] (bodyOf Try.f37)
noncomputable def c2 : Code := sub [1, 1, 0, 1, 0, 0] (bodyOf Try.f37)
noncomputable def c3 : Code := sub [1, 1, 1, 1, 0, 1, 0, 0] (bodyOf Try.f37)
noncomputable def K3 : Kont := .seq c0 .ret
noncomputable def K5 : Kont := .blk 0 K3
noncomputable def K13 : Kont := .seq c1 .ret
noncomputable def K15 : Kont := .blk 2 K13
noncomputable def fin : ASt → R := Kret E Try.f37.results.toList ps rs
def tL0 (l : List Int) (n_1 : Int) (out : List Int) (i : Int) : ASt := ⟨[(6, .one (.val (.int .i64) i)), (5, .one (.own 5)), (1, .one (.val (.int .i64) n_1)), (0, .one (.val (.sl (.int .i64)) l))], [(5, some ⟨.free, .int .i64, out⟩)]⟩
def tL1 (l : List Int) (n_1 : Int) (out : List Int) (i : Int) : ASt := ⟨[(7, .one (.val (.int .i64) i)), (5, .one (.own 5)), (1, .one (.val (.int .i64) n_1)), (0, .one (.val (.sl (.int .i64)) l))], [(5, some ⟨.free, .int .i64, out⟩)]⟩
noncomputable def SL0 (kL0 : (List Int) → Int → (List Int) → Int → R) (kL1 : (List Int) → Int → (List Int) → Int → R) (l : List Int) (n_1 : Int) (out : List Int) (i : Int) : R :=
  cond (decide (i < (l.length : Int)))
    (Option.bind (idx l i) fun x1 =>
    cond (decide (x1 < n_1))
      (Option.bind (idx l i) fun x2 =>
      cond (decide ((out.length + 1) * 8 ≤ room) && decide (0 < Ty.nc (.int .i64)))
        (kL0 l n_1 (out ++ [x2]) (IntKind.i64.wrap (i + 1)))
        none)
      (kL0 l n_1 out (IntKind.i64.wrap (i + 1))))
    (cond (decide ((out.length + 1) * 8 ≤ room) && decide (0 < Ty.nc (.int .i64)))
      (kL1 l n_1 (out ++ [n_1]) 0)
      none)
noncomputable def SL1 (kL1 : (List Int) → Int → (List Int) → Int → R) (l : List Int) (n_1 : Int) (out : List Int) (i : Int) : R :=
  cond (decide (i < (l.length : Int)))
    (Option.bind (idx l i) fun x1 =>
    cond (decide (x1 > n_1))
      (Option.bind (idx l i) fun x2 =>
      cond (decide ((out.length + 1) * 8 ≤ room) && decide (0 < Ty.nc (.int .i64)))
        (kL1 l n_1 (out ++ [x2]) (IntKind.i64.wrap (i + 1)))
        none)
      (kL1 l n_1 out (IntKind.i64.wrap (i + 1))))
    (some (out, ()))
noncomputable def Se (kL0 : (List Int) → Int → (List Int) → Int → R) (l : List Int) (n_1 : Int) : R :=
  kL0 l n_1 [] 0
theorem sL0 (jmp : Tgt → ASt → R) (l : List Int) (n_1 : Int) (out : List Int) (i : Int) : run E jmp fin depth c2 (.loop c2 K5) (tL0 l n_1 out i) =
    SL0 (fun l n_1 out i => jmp (.loop c2 K5) (tL0 l n_1 out i)) (fun l n_1 out i => jmp (.loop c3 K15) (tL1 l n_1 out i)) l n_1 out i := by kernel_rfl
theorem sL1 (jmp : Tgt → ASt → R) (l : List Int) (n_1 : Int) (out : List Int) (i : Int) : run E jmp fin depth c3 (.loop c3 K15) (tL1 l n_1 out i) =
    SL1 (fun l n_1 out i => jmp (.loop c3 K15) (tL1 l n_1 out i)) l n_1 out i := by kernel_rfl
theorem se (jmp : Tgt → ASt → R) (x : (argTy ps).den) : run E jmp fin depth (bodyOf Try.f37) .ret (entryFrom 0 ps x) =
    Se (fun l n_1 out i => jmp (.loop c2 K5) (tL0 l n_1 out i)) x.1 x.2.1 := by kernel_rfl
noncomputable def L0 (l : List Int) (n_1 : Int) (out : List Int) (i : Int) : R := lim E fin (.loop c2 K5) (tL0 l n_1 out i)
noncomputable def L1 (l : List Int) (n_1 : Int) (out : List Int) (i : Int) : R := lim E fin (.loop c3 K15) (tL1 l n_1 out i)
theorem L0_eq (l : List Int) (n_1 : Int) (out : List Int) (i : Int) : L0 l n_1 out i = SL0 L0 L1 l n_1 out i :=
  (lim_eq (.loop c2 K5) (tL0 l n_1 out i)).trans (sL0 (lim E fin) l n_1 out i)
theorem L1_eq (l : List Int) (n_1 : Int) (out : List Int) (i : Int) : L1 l n_1 out i = SL1 L1 l n_1 out i :=
  (lim_eq (.loop c3 K15) (tL1 l n_1 out i)).trans (sL1 (lim E fin) l n_1 out i)
end ref05_Insert
noncomputable def ref05_Insert (l : List Int) (n_1 : Int) : ref05_Insert.R :=
  ref05_Insert.Se ref05_Insert.L0 l n_1
noncomputable def ref05_Insert.sig : Sig := ⟨ref05_Insert.ps, ref05_Insert.rs, fun x => ref05_Insert x.1 x.2.1⟩
theorem ref05_Insert.ok : CallOK Try.prog 37 ref05_Insert.sig :=
  callOK_of_lim (E := ref05_Insert.E) mixed tt_ok ctxOk_nil Try.func37 (by kernel_rfl : Try.f37.body = some (bodyOf Try.f37)) Try.ntmps37 (of_decide_eq_true (by kernel_rfl)) (of_decide_eq_true (by kernel_rfl))
    fun x y h => ((lim_eq (.code (bodyOf Try.f37) .ret) (entryFrom 0 ref05_Insert.ps x)).trans (ref05_Insert.se (lim ref05_Insert.E ref05_Insert.fin) x)).trans h
theorem ref05_Insert.val (x : (argTy ref05_Insert.ps).den) : lim ref05_Insert.E ref05_Insert.fin (.code (bodyOf Try.f37) .ret) (entryFrom 0 ref05_Insert.ps x) = ref05_Insert.sig.run x :=
  (lim_eq (.code (bodyOf Try.f37) .ret) (entryFrom 0 ref05_Insert.ps x)).trans (ref05_Insert.se (lim ref05_Insert.E ref05_Insert.fin) x)
noncomputable def ref05_Insert.ctxc (n : Nat) : List (Nat × Sig) := []
noncomputable def ref05_Insert.sigc (n : Nat) : Sig := ⟨ref05_Insert.ps, ref05_Insert.rs, fun x => runs (withCtx ref05_Insert.E (ref05_Insert.ctxc n)) ref05_Insert.fin n (.code (bodyOf Try.f37) .ret) (entryFrom 0 ref05_Insert.ps x)⟩
theorem ref05_Insert.sigc_le (n : Nat) : ∀ x y, (ref05_Insert.sigc n).run x = some y → ref05_Insert.sig.run x = some y :=
  fun x y h => (ref05_Insert.val x).symm.trans (runs_lim (E := ref05_Insert.E) (c := ref05_Insert.ctxc n) ctxLe_nil h)

/-! ### guerdon/guerdonref05.Boundaries -/
namespace ref05_Boundaries
abbrev ps : List PM := [.pure (.sl api_DateRange)]
abbrev rs : List RM := [.own (.int .i64)]
abbrev R : Type := Option (List Int × Unit)
noncomputable def E : Env := { tt := tt, ctx := [(33, ref05_nonempty.sig), (37, ref05_Insert.sig)], nt := 30, ann := [(1000003, [(0, .keep), (3, .own (.int .i64)), (4, .keep)])] }
noncomputable def c0 : Code := sub [1, 1, 1] (bodyOf Try.f18)
noncomputable def c1 : Code := sub [1, 1, 0, 1, 0, 0] (bodyOf Try.f18)
noncomputable def K3 : Kont := .seq c0 .ret
noncomputable def K5 : Kont := .blk 0 K3
noncomputable def fin : ASt → R := Kret E Try.f18.results.toList ps rs
def tL0 (l : List api_DateRangeV) (out : List Int) (i : Int) : ASt := ⟨[(4, .one (.val (.int .i64) i)), (3, .one (.own 3)), (0, .one (.val (.sl api_DateRange) l))], [(3, some ⟨.free, .int .i64, out⟩)]⟩
noncomputable def SL0 (kL0 : (List api_DateRangeV) → (List Int) → Int → R) (l : List api_DateRangeV) (out : List Int) (i : Int) : R :=
  cond (decide (i < (l.length : Int)))
    (Option.bind (idx l i) fun x1 =>
    Option.bind (ref05_nonempty x1) fun x2 =>
    cond x2.1
      (Option.bind (idx l i) fun x3 =>
      Option.bind (ref05_Insert out x3.1) fun x4 =>
      Option.bind (idx l i) fun x5 =>
      Option.bind (ref05_Insert x4.1 x5.2.1) fun x6 =>
      kL0 l x6.1 (IntKind.i64.wrap (i + 1)))
      (kL0 l out (IntKind.i64.wrap (i + 1))))
    (some (out, ()))
noncomputable def Se (kL0 : (List api_DateRangeV) → (List Int) → Int → R) (l : List api_DateRangeV) : R :=
  kL0 l [] 0
theorem sL0 (jmp : Tgt → ASt → R) (l : List api_DateRangeV) (out : List Int) (i : Int) : run E jmp fin depth c1 (.loop c1 K5) (tL0 l out i) =
    SL0 (fun l out i => jmp (.loop c1 K5) (tL0 l out i)) l out i := by kernel_rfl
theorem se (jmp : Tgt → ASt → R) (x : (argTy ps).den) : run E jmp fin depth (bodyOf Try.f18) .ret (entryFrom 0 ps x) =
    Se (fun l out i => jmp (.loop c1 K5) (tL0 l out i)) x.1 := by kernel_rfl
noncomputable def L0 (l : List api_DateRangeV) (out : List Int) (i : Int) : R := lim E fin (.loop c1 K5) (tL0 l out i)
theorem L0_eq (l : List api_DateRangeV) (out : List Int) (i : Int) : L0 l out i = SL0 L0 l out i :=
  (lim_eq (.loop c1 K5) (tL0 l out i)).trans (sL0 (lim E fin) l out i)
end ref05_Boundaries
noncomputable def ref05_Boundaries (l : List api_DateRangeV) : ref05_Boundaries.R :=
  ref05_Boundaries.Se ref05_Boundaries.L0 l
noncomputable def ref05_Boundaries.sig : Sig := ⟨ref05_Boundaries.ps, ref05_Boundaries.rs, fun x => ref05_Boundaries x.1⟩
theorem ref05_Boundaries.ok : CallOK Try.prog 18 ref05_Boundaries.sig :=
  callOK_of_lim (E := ref05_Boundaries.E) mixed tt_ok (ctxOk_cons (ctxOk_cons ctxOk_nil ref05_Insert.ok Try.func37 (by kernel_rfl) (by kernel_rfl)) ref05_nonempty.ok Try.func33 (by kernel_rfl) (by kernel_rfl)) Try.func18 (by kernel_rfl : Try.f18.body = some (bodyOf Try.f18)) Try.ntmps18 (of_decide_eq_true (by kernel_rfl)) (of_decide_eq_true (by kernel_rfl))
    fun x y h => ((lim_eq (.code (bodyOf Try.f18) .ret) (entryFrom 0 ref05_Boundaries.ps x)).trans (ref05_Boundaries.se (lim ref05_Boundaries.E ref05_Boundaries.fin) x)).trans h
theorem ref05_Boundaries.val (x : (argTy ref05_Boundaries.ps).den) : lim ref05_Boundaries.E ref05_Boundaries.fin (.code (bodyOf Try.f18) .ret) (entryFrom 0 ref05_Boundaries.ps x) = ref05_Boundaries.sig.run x :=
  (lim_eq (.code (bodyOf Try.f18) .ret) (entryFrom 0 ref05_Boundaries.ps x)).trans (ref05_Boundaries.se (lim ref05_Boundaries.E ref05_Boundaries.fin) x)
noncomputable def ref05_Boundaries.ctxc (n : Nat) : List (Nat × Sig) := [(33, ref05_nonempty.sigc n), (37, ref05_Insert.sigc n)]
noncomputable def ref05_Boundaries.sigc (n : Nat) : Sig := ⟨ref05_Boundaries.ps, ref05_Boundaries.rs, fun x => runs (withCtx ref05_Boundaries.E (ref05_Boundaries.ctxc n)) ref05_Boundaries.fin n (.code (bodyOf Try.f18) .ret) (entryFrom 0 ref05_Boundaries.ps x)⟩
theorem ref05_Boundaries.sigc_le (n : Nat) : ∀ x y, (ref05_Boundaries.sigc n).run x = some y → ref05_Boundaries.sig.run x = some y :=
  fun x y h => (ref05_Boundaries.val x).symm.trans (runs_lim (E := ref05_Boundaries.E) (c := ref05_Boundaries.ctxc n) (ctxLe_cons (ctxLe_cons ctxLe_nil (ref05_Insert.sigc_le n)) (ref05_nonempty.sigc_le n)) h)

/-! ### guerdon/guerdonlaw05.DaterangeLists -/
namespace law05_DaterangeLists
abbrev ps : List PM := [.pure (.sl api_DateRange), .pure api_DateRange]
abbrev rs : List RM := [.pure .bool]
abbrev R : Type := Option (Bool × Unit)
noncomputable def E : Env := { tt := tt, ctx := [(9, law05_few.sig), (10, law05_awake.sig), (12, daterange_Union.sig), (13, ref05_Union.sig), (11, same_DateRanges.sig), (14, daterange_Gaps.sig), (15, ref05_Gaps.sig), (17, daterange_Boundaries.sig), (18, ref05_Boundaries.sig), (16, same_Ints.sig)], nt := 33, ann := [] }
noncomputable def fin : ASt → R := Kret E Try.f3.results.toList ps rs
noncomputable def Se (l : List api_DateRangeV) (within : api_DateRangeV) : R :=
  Option.bind (law05_few l) fun x1 =>
  cond (!x1.1)
    (Option.bind law05_awake fun x2 =>
    some (x2.1, ()))
    (Option.bind (daterange_Union l) fun x3 =>
    Option.bind (ref05_Union l) fun x4 =>
    Option.bind (same_DateRanges x3.1 x4.1) fun x5 =>
    cond x5.1
      (Option.bind (daterange_Gaps l within) fun x6 =>
      Option.bind (ref05_Gaps l within) fun x7 =>
      Option.bind (same_DateRanges x6.1 x7.1) fun x8 =>
      cond x8.1
        (Option.bind (daterange_Boundaries l) fun x9 =>
        Option.bind (ref05_Boundaries l) fun x10 =>
        Option.bind (same_Ints x9.1 x10.1) fun x11 =>
        cond x11.1
          (Option.bind law05_awake fun x12 =>
          some (x12.1, ()))
          (some (false, ())))
        (some (false, ())))
      (some (false, ())))
theorem se (jmp : Tgt → ASt → R) (x : (argTy ps).den) : run E jmp fin depth (bodyOf Try.f3) .ret (entryFrom 0 ps x) =
    Se x.1 x.2.1 := by kernel_rfl
end law05_DaterangeLists
noncomputable def law05_DaterangeLists (l : List api_DateRangeV) (within : api_DateRangeV) : law05_DaterangeLists.R :=
  law05_DaterangeLists.Se l within
noncomputable def law05_DaterangeLists.sig : Sig := ⟨law05_DaterangeLists.ps, law05_DaterangeLists.rs, fun x => law05_DaterangeLists x.1 x.2.1⟩
theorem law05_DaterangeLists.ok : CallOK Try.prog 3 law05_DaterangeLists.sig :=
  callOK_of_lim (E := law05_DaterangeLists.E) mixed tt_ok (ctxOk_cons (ctxOk_cons (ctxOk_cons (ctxOk_cons (ctxOk_cons (ctxOk_cons (ctxOk_cons (ctxOk_cons (ctxOk_cons (ctxOk_cons ctxOk_nil same_Ints.ok Try.func16 (by kernel_rfl) (by kernel_rfl)) ref05_Boundaries.ok Try.func18 (by kernel_rfl) (by kernel_rfl)) daterange_Boundaries.ok Try.func17 (by kernel_rfl) (by kernel_rfl)) ref05_Gaps.ok Try.func15 (by kernel_rfl) (by kernel_rfl)) daterange_Gaps.ok Try.func14 (by kernel_rfl) (by kernel_rfl)) same_DateRanges.ok Try.func11 (by kernel_rfl) (by kernel_rfl)) ref05_Union.ok Try.func13 (by kernel_rfl) (by kernel_rfl)) daterange_Union.ok Try.func12 (by kernel_rfl) (by kernel_rfl)) law05_awake.ok Try.func10 (by kernel_rfl) (by kernel_rfl)) law05_few.ok Try.func9 (by kernel_rfl) (by kernel_rfl)) Try.func3 (by kernel_rfl : Try.f3.body = some (bodyOf Try.f3)) Try.ntmps3 (of_decide_eq_true (by kernel_rfl)) (of_decide_eq_true (by kernel_rfl))
    fun x y h => ((lim_eq (.code (bodyOf Try.f3) .ret) (entryFrom 0 law05_DaterangeLists.ps x)).trans (law05_DaterangeLists.se (lim law05_DaterangeLists.E law05_DaterangeLists.fin) x)).trans h
theorem law05_DaterangeLists.val (x : (argTy law05_DaterangeLists.ps).den) : lim law05_DaterangeLists.E law05_DaterangeLists.fin (.code (bodyOf Try.f3) .ret) (entryFrom 0 law05_DaterangeLists.ps x) = law05_DaterangeLists.sig.run x :=
  (lim_eq (.code (bodyOf Try.f3) .ret) (entryFrom 0 law05_DaterangeLists.ps x)).trans (law05_DaterangeLists.se (lim law05_DaterangeLists.E law05_DaterangeLists.fin) x)
noncomputable def law05_DaterangeLists.ctxc (n : Nat) : List (Nat × Sig) := [(9, law05_few.sigc n), (10, law05_awake.sigc n), (12, daterange_Union.sigc n), (13, ref05_Union.sigc n), (11, same_DateRanges.sigc n), (14, daterange_Gaps.sigc n), (15, ref05_Gaps.sigc n), (17, daterange_Boundaries.sigc n), (18, ref05_Boundaries.sigc n), (16, same_Ints.sigc n)]
noncomputable def law05_DaterangeLists.sigc (n : Nat) : Sig := ⟨law05_DaterangeLists.ps, law05_DaterangeLists.rs, fun x => runs (withCtx law05_DaterangeLists.E (law05_DaterangeLists.ctxc n)) law05_DaterangeLists.fin n (.code (bodyOf Try.f3) .ret) (entryFrom 0 law05_DaterangeLists.ps x)⟩
theorem law05_DaterangeLists.sigc_le (n : Nat) : ∀ x y, (law05_DaterangeLists.sigc n).run x = some y → law05_DaterangeLists.sig.run x = some y :=
  fun x y h => (law05_DaterangeLists.val x).symm.trans (runs_lim (E := law05_DaterangeLists.E) (c := law05_DaterangeLists.ctxc n) (ctxLe_cons (ctxLe_cons (ctxLe_cons (ctxLe_cons (ctxLe_cons (ctxLe_cons (ctxLe_cons (ctxLe_cons (ctxLe_cons (ctxLe_cons ctxLe_nil (same_Ints.sigc_le n)) (ref05_Boundaries.sigc_le n)) (daterange_Boundaries.sigc_le n)) (ref05_Gaps.sigc_le n)) (daterange_Gaps.sigc_le n)) (same_DateRanges.sigc_le n)) (ref05_Union.sigc_le n)) (daterange_Union.sigc_le n)) (law05_awake.sigc_le n)) (law05_few.sigc_le n)) h)

/-! ### guerdon/guerdonlaw05.DaterangeOrder -/
namespace law05_DaterangeOrder
abbrev ps : List PM := [.pure (.sl api_DateRange), .pure api_DateRange, .pure (.int .u8)]
abbrev rs : List RM := [.pure .bool]
abbrev R : Type := Option (Bool × Unit)
noncomputable def E : Env := { tt := tt, ctx := [(9, law05_few.sig), (10, law05_awake.sig), (12, daterange_Union.sig), (11, same_DateRanges.sig), (14, daterange_Gaps.sig), (17, daterange_Boundaries.sig), (16, same_Ints.sig)], nt := 60, ann := [(1000005, [(0, .keep), (2, .keep), (4, .keep), (7, .own api_DateRange), (8, .keep)])] }
noncomputable def c0 : Code := sub [1, 1, 1, 1] (bodyOf Try.f4)
noncomputable def c1 : Code := sub [1, 1, 1, 0, 1, 0, 0] (bodyOf Try.f4)
noncomputable def K6 : Kont := .seq c0 .ret
noncomputable def K8 : Kont := .blk 0 K6
noncomputable def fin : ASt → R := Kret E Try.f4.results.toList ps rs
def tL0 (l : List api_DateRangeV) (from_2 : Int) (within : api_DateRangeV) (m : List api_DateRangeV) (i : Int) : ASt := ⟨[(8, .one (.val (.int .i64) i)), (7, .one (.own 7)), (4, .one (.optr 4 0 [])), (2, .one (.val (.int .u8) from_2)), (0, .one (.val (.sl api_DateRange) l))], [(7, some ⟨.free, api_DateRange, m⟩), (4, some ⟨.free, api_DateRange, [within]⟩)]⟩
noncomputable def SL0 (kL0 : (List api_DateRangeV) → Int → api_DateRangeV → (List api_DateRangeV) → Int → R) (l : List api_DateRangeV) (from_2 : Int) (within : api_DateRangeV) (m : List api_DateRangeV) (i : Int) : R :=
  cond (decide (i < (l.length : Int)))
    (cond (decide ((l.length : Int) = 0))
      none
      (Option.bind (idx l (Int.tmod (IntKind.i64.wrap ((IntKind.i64.wrap ((IntKind.i64.wrap ((l.length : Int) - 1)) - i)) + (IntKind.i64.wrap from_2))) (l.length : Int))) fun x1 =>
      cond (decide ((m.length + 1) * 16 ≤ room) && decide (0 < Ty.nc (.pair (.int .i64) (.pair (.int .i64) .unit))))
        (kL0 l from_2 within (m ++ [x1]) (IntKind.i64.wrap (i + 1)))
        none))
    (Option.bind (daterange_Union l) fun x2 =>
    Option.bind (daterange_Union m) fun x3 =>
    Option.bind (same_DateRanges x2.1 x3.1) fun x4 =>
    cond x4.1
      (Option.bind (daterange_Gaps l within) fun x5 =>
      Option.bind (daterange_Gaps m within) fun x6 =>
      Option.bind (same_DateRanges x5.1 x6.1) fun x7 =>
      cond x7.1
        (Option.bind (daterange_Boundaries l) fun x8 =>
        Option.bind (daterange_Boundaries m) fun x9 =>
        Option.bind (same_Ints x8.1 x9.1) fun x10 =>
        cond x10.1
          (Option.bind law05_awake fun x11 =>
          some (x11.1, ()))
          (some (false, ())))
        (some (false, ())))
      (some (false, ())))
noncomputable def Se (kL0 : (List api_DateRangeV) → Int → api_DateRangeV → (List api_DateRangeV) → Int → R) (l : List api_DateRangeV) (within : api_DateRangeV) (from_2 : Int) : R :=
  Option.bind (law05_few l) fun x1 =>
  cond (!x1.1)
    (Option.bind law05_awake fun x2 =>
    some (x2.1, ()))
    (kL0 l from_2 within [] 0)
theorem sL0 (jmp : Tgt → ASt → R) (l : List api_DateRangeV) (from_2 : Int) (within : api_DateRangeV) (m : List api_DateRangeV) (i : Int) : run E jmp fin depth c1 (.loop c1 K8) (tL0 l from_2 within m i) =
    SL0 (fun l from_2 within m i => jmp (.loop c1 K8) (tL0 l from_2 within m i)) l from_2 within m i := by kernel_rfl
theorem se (jmp : Tgt → ASt → R) (x : (argTy ps).den) : run E jmp fin depth (bodyOf Try.f4) .ret (entryFrom 0 ps x) =
    Se (fun l from_2 within m i => jmp (.loop c1 K8) (tL0 l from_2 within m i)) x.1 x.2.1 x.2.2.1 := by kernel_rfl
noncomputable def L0 (l : List api_DateRangeV) (from_2 : Int) (within : api_DateRangeV) (m : List api_DateRangeV) (i : Int) : R := lim E fin (.loop c1 K8) (tL0 l from_2 within m i)
theorem L0_eq (l : List api_DateRangeV) (from_2 : Int) (within : api_DateRangeV) (m : List api_DateRangeV) (i : Int) : L0 l from_2 within m i = SL0 L0 l from_2 within m i :=
  (lim_eq (.loop c1 K8) (tL0 l from_2 within m i)).trans (sL0 (lim E fin) l from_2 within m i)
end law05_DaterangeOrder
noncomputable def law05_DaterangeOrder (l : List api_DateRangeV) (within : api_DateRangeV) (from_2 : Int) : law05_DaterangeOrder.R :=
  law05_DaterangeOrder.Se law05_DaterangeOrder.L0 l within from_2
noncomputable def law05_DaterangeOrder.sig : Sig := ⟨law05_DaterangeOrder.ps, law05_DaterangeOrder.rs, fun x => law05_DaterangeOrder x.1 x.2.1 x.2.2.1⟩
theorem law05_DaterangeOrder.ok : CallOK Try.prog 4 law05_DaterangeOrder.sig :=
  callOK_of_lim (E := law05_DaterangeOrder.E) mixed tt_ok (ctxOk_cons (ctxOk_cons (ctxOk_cons (ctxOk_cons (ctxOk_cons (ctxOk_cons (ctxOk_cons ctxOk_nil same_Ints.ok Try.func16 (by kernel_rfl) (by kernel_rfl)) daterange_Boundaries.ok Try.func17 (by kernel_rfl) (by kernel_rfl)) daterange_Gaps.ok Try.func14 (by kernel_rfl) (by kernel_rfl)) same_DateRanges.ok Try.func11 (by kernel_rfl) (by kernel_rfl)) daterange_Union.ok Try.func12 (by kernel_rfl) (by kernel_rfl)) law05_awake.ok Try.func10 (by kernel_rfl) (by kernel_rfl)) law05_few.ok Try.func9 (by kernel_rfl) (by kernel_rfl)) Try.func4 (by kernel_rfl : Try.f4.body = some (bodyOf Try.f4)) Try.ntmps4 (of_decide_eq_true (by kernel_rfl)) (of_decide_eq_true (by kernel_rfl))
    fun x y h => ((lim_eq (.code (bodyOf Try.f4) .ret) (entryFrom 0 law05_DaterangeOrder.ps x)).trans (law05_DaterangeOrder.se (lim law05_DaterangeOrder.E law05_DaterangeOrder.fin) x)).trans h
theorem law05_DaterangeOrder.val (x : (argTy law05_DaterangeOrder.ps).den) : lim law05_DaterangeOrder.E law05_DaterangeOrder.fin (.code (bodyOf Try.f4) .ret) (entryFrom 0 law05_DaterangeOrder.ps x) = law05_DaterangeOrder.sig.run x :=
  (lim_eq (.code (bodyOf Try.f4) .ret) (entryFrom 0 law05_DaterangeOrder.ps x)).trans (law05_DaterangeOrder.se (lim law05_DaterangeOrder.E law05_DaterangeOrder.fin) x)
noncomputable def law05_DaterangeOrder.ctxc (n : Nat) : List (Nat × Sig) := [(9, law05_few.sigc n), (10, law05_awake.sigc n), (12, daterange_Union.sigc n), (11, same_DateRanges.sigc n), (14, daterange_Gaps.sigc n), (17, daterange_Boundaries.sigc n), (16, same_Ints.sigc n)]
noncomputable def law05_DaterangeOrder.sigc (n : Nat) : Sig := ⟨law05_DaterangeOrder.ps, law05_DaterangeOrder.rs, fun x => runs (withCtx law05_DaterangeOrder.E (law05_DaterangeOrder.ctxc n)) law05_DaterangeOrder.fin n (.code (bodyOf Try.f4) .ret) (entryFrom 0 law05_DaterangeOrder.ps x)⟩
theorem law05_DaterangeOrder.sigc_le (n : Nat) : ∀ x y, (law05_DaterangeOrder.sigc n).run x = some y → law05_DaterangeOrder.sig.run x = some y :=
  fun x y h => (law05_DaterangeOrder.val x).symm.trans (runs_lim (E := law05_DaterangeOrder.E) (c := law05_DaterangeOrder.ctxc n) (ctxLe_cons (ctxLe_cons (ctxLe_cons (ctxLe_cons (ctxLe_cons (ctxLe_cons (ctxLe_cons ctxLe_nil (same_Ints.sigc_le n)) (daterange_Boundaries.sigc_le n)) (daterange_Gaps.sigc_le n)) (same_DateRanges.sigc_le n)) (daterange_Union.sigc_le n)) (law05_awake.sigc_le n)) (law05_few.sigc_le n)) h)

/-! ### guerdon/daterange.Contains -/
namespace daterange_Contains
abbrev ps : List PM := [.pure api_DateRange, .pure (.int .i64)]
abbrev rs : List RM := [.pure .bool]
abbrev R : Type := Option (Bool × Unit)
noncomputable def E : Env := { tt := tt, ctx := [(24, daterange_Valid.sig)], nt := 19, ann := [] }
noncomputable def fin : ASt → R := Kret E Try.f19.results.toList ps rs
noncomputable def Se (r_0 : api_DateRangeV) (date : Int) : R :=
  Option.bind (daterange_Valid r_0) fun x1 =>
  cond x1.1
    (cond (decide (r_0.1 ≤ date))
      (some (decide (date < r_0.2.1), ()))
      (some (false, ())))
    (some (false, ()))
theorem se (jmp : Tgt → ASt → R) (x : (argTy ps).den) : run E jmp fin depth (bodyOf Try.f19) .ret (entryFrom 0 ps x) =
    Se x.1 x.2.1 := by kernel_rfl
end daterange_Contains
noncomputable def daterange_Contains (r_0 : api_DateRangeV) (date : Int) : daterange_Contains.R :=
  daterange_Contains.Se r_0 date
noncomputable def daterange_Contains.sig : Sig := ⟨daterange_Contains.ps, daterange_Contains.rs, fun x => daterange_Contains x.1 x.2.1⟩
theorem daterange_Contains.ok : CallOK Try.prog 19 daterange_Contains.sig :=
  callOK_of_lim (E := daterange_Contains.E) mixed tt_ok (ctxOk_cons ctxOk_nil daterange_Valid.ok Try.func24 (by kernel_rfl) (by kernel_rfl)) Try.func19 (by kernel_rfl : Try.f19.body = some (bodyOf Try.f19)) Try.ntmps19 (of_decide_eq_true (by kernel_rfl)) (of_decide_eq_true (by kernel_rfl))
    fun x y h => ((lim_eq (.code (bodyOf Try.f19) .ret) (entryFrom 0 daterange_Contains.ps x)).trans (daterange_Contains.se (lim daterange_Contains.E daterange_Contains.fin) x)).trans h
theorem daterange_Contains.val (x : (argTy daterange_Contains.ps).den) : lim daterange_Contains.E daterange_Contains.fin (.code (bodyOf Try.f19) .ret) (entryFrom 0 daterange_Contains.ps x) = daterange_Contains.sig.run x :=
  (lim_eq (.code (bodyOf Try.f19) .ret) (entryFrom 0 daterange_Contains.ps x)).trans (daterange_Contains.se (lim daterange_Contains.E daterange_Contains.fin) x)
noncomputable def daterange_Contains.ctxc (n : Nat) : List (Nat × Sig) := [(24, daterange_Valid.sigc n)]
noncomputable def daterange_Contains.sigc (n : Nat) : Sig := ⟨daterange_Contains.ps, daterange_Contains.rs, fun x => runs (withCtx daterange_Contains.E (daterange_Contains.ctxc n)) daterange_Contains.fin n (.code (bodyOf Try.f19) .ret) (entryFrom 0 daterange_Contains.ps x)⟩
theorem daterange_Contains.sigc_le (n : Nat) : ∀ x y, (daterange_Contains.sigc n).run x = some y → daterange_Contains.sig.run x = some y :=
  fun x y h => (daterange_Contains.val x).symm.trans (runs_lim (E := daterange_Contains.E) (c := daterange_Contains.ctxc n) (ctxLe_cons ctxLe_nil (daterange_Valid.sigc_le n)) h)

/-! ### guerdon/guerdonlaw05.normal -/
namespace law05_normal
abbrev ps : List PM := [.pure (.sl api_DateRange)]
abbrev rs : List RM := [.pure .bool]
abbrev R : Type := Option (Bool × Unit)
noncomputable def E : Env := { tt := tt, ctx := [(25, ref05_Valid.sig)], nt := 47, ann := [(1000002, [(0, .keep), (3, .keep)])] }
noncomputable def c0 : Code := sub [1, 1] (bodyOf Try.f20)
noncomputable def c1 : Code := sub [1, 0, 1, 0, 0] (bodyOf Try.f20)
noncomputable def K2 : Kont := .seq c0 .ret
noncomputable def K4 : Kont := .blk 0 K2
noncomputable def fin : ASt → R := Kret E Try.f20.results.toList ps rs
def tL0 (l : List api_DateRangeV) (i : Int) : ASt := ⟨[(3, .one (.val (.int .i64) i)), (0, .one (.val (.sl api_DateRange) l))], []⟩
noncomputable def SL0 (kL0 : (List api_DateRangeV) → Int → R) (l : List api_DateRangeV) (i : Int) : R :=
  cond (decide (i < (l.length : Int)))
    (Option.bind (idx l i) fun x1 =>
    Option.bind (ref05_Valid x1) fun x2 =>
    cond (!x2.1)
      (some (false, ()))
      (Option.bind (idx l i) fun x3 =>
      Option.bind (idx l i) fun x4 =>
      cond (decide (x3.1 ≥ x4.2.1))
        (some (false, ()))
        (cond (decide (i > 0))
          (Option.bind (idx l (IntKind.i64.wrap (i - 1))) fun x5 =>
          Option.bind (idx l i) fun x6 =>
          cond (decide (x5.2.1 ≥ x6.1))
            (some (false, ()))
            (kL0 l (IntKind.i64.wrap (i + 1))))
          (kL0 l (IntKind.i64.wrap (i + 1))))))
    (some (true, ()))
noncomputable def Se (kL0 : (List api_DateRangeV) → Int → R) (l : List api_DateRangeV) : R :=
  kL0 l 0
theorem sL0 (jmp : Tgt → ASt → R) (l : List api_DateRangeV) (i : Int) : run E jmp fin depth c1 (.loop c1 K4) (tL0 l i) =
    SL0 (fun l i => jmp (.loop c1 K4) (tL0 l i)) l i := by kernel_rfl
theorem se (jmp : Tgt → ASt → R) (x : (argTy ps).den) : run E jmp fin depth (bodyOf Try.f20) .ret (entryFrom 0 ps x) =
    Se (fun l i => jmp (.loop c1 K4) (tL0 l i)) x.1 := by kernel_rfl
noncomputable def L0 (l : List api_DateRangeV) (i : Int) : R := lim E fin (.loop c1 K4) (tL0 l i)
theorem L0_eq (l : List api_DateRangeV) (i : Int) : L0 l i = SL0 L0 l i :=
  (lim_eq (.loop c1 K4) (tL0 l i)).trans (sL0 (lim E fin) l i)
end law05_normal
noncomputable def law05_normal (l : List api_DateRangeV) : law05_normal.R :=
  law05_normal.Se law05_normal.L0 l
noncomputable def law05_normal.sig : Sig := ⟨law05_normal.ps, law05_normal.rs, fun x => law05_normal x.1⟩
theorem law05_normal.ok : CallOK Try.prog 20 law05_normal.sig :=
  callOK_of_lim (E := law05_normal.E) mixed tt_ok (ctxOk_cons ctxOk_nil ref05_Valid.ok Try.func25 (by kernel_rfl) (by kernel_rfl)) Try.func20 (by kernel_rfl : Try.f20.body = some (bodyOf Try.f20)) Try.ntmps20 (of_decide_eq_true (by kernel_rfl)) (of_decide_eq_true (by kernel_rfl))
    fun x y h => ((lim_eq (.code (bodyOf Try.f20) .ret) (entryFrom 0 law05_normal.ps x)).trans (law05_normal.se (lim law05_normal.E law05_normal.fin) x)).trans h
theorem law05_normal.val (x : (argTy law05_normal.ps).den) : lim law05_normal.E law05_normal.fin (.code (bodyOf Try.f20) .ret) (entryFrom 0 law05_normal.ps x) = law05_normal.sig.run x :=
  (lim_eq (.code (bodyOf Try.f20) .ret) (entryFrom 0 law05_normal.ps x)).trans (law05_normal.se (lim law05_normal.E law05_normal.fin) x)
noncomputable def law05_normal.ctxc (n : Nat) : List (Nat × Sig) := [(25, ref05_Valid.sigc n)]
noncomputable def law05_normal.sigc (n : Nat) : Sig := ⟨law05_normal.ps, law05_normal.rs, fun x => runs (withCtx law05_normal.E (law05_normal.ctxc n)) law05_normal.fin n (.code (bodyOf Try.f20) .ret) (entryFrom 0 law05_normal.ps x)⟩
theorem law05_normal.sigc_le (n : Nat) : ∀ x y, (law05_normal.sigc n).run x = some y → law05_normal.sig.run x = some y :=
  fun x y h => (law05_normal.val x).symm.trans (runs_lim (E := law05_normal.E) (c := law05_normal.ctxc n) (ctxLe_cons ctxLe_nil (ref05_Valid.sigc_le n)) h)

/-! ### guerdon/guerdonlaw05.contains -/
namespace law05_contains
abbrev ps : List PM := [.pure (.sl api_DateRange), .pure (.int .i64)]
abbrev rs : List RM := [.pure .bool]
abbrev R : Type := Option (Bool × Unit)
noncomputable def E : Env := { tt := tt, ctx := [(19, daterange_Contains.sig)], nt := 18, ann := [(1000002, [(0, .keep), (1, .keep), (5, .keep)])] }
noncomputable def c0 : Code := sub [1, 1] (bodyOf Try.f21)
noncomputable def c1 : Code := sub [1, 0, 1, 0, 0] (bodyOf Try.f21)
noncomputable def K2 : Kont := .seq c0 .ret
noncomputable def K4 : Kont := .blk 0 K2
noncomputable def fin : ASt → R := Kret E Try.f21.results.toList ps rs
def tL0 (l : List api_DateRangeV) (date : Int) (i : Int) : ASt := ⟨[(5, .one (.val (.int .i64) i)), (1, .one (.val (.int .i64) date)), (0, .one (.val (.sl api_DateRange) l))], []⟩
noncomputable def SL0 (kL0 : (List api_DateRangeV) → Int → Int → R) (l : List api_DateRangeV) (date : Int) (i : Int) : R :=
  cond (decide (i < (l.length : Int)))
    (Option.bind (idx l i) fun x1 =>
    Option.bind (daterange_Contains x1 date) fun x2 =>
    cond x2.1
      (some (true, ()))
      (kL0 l date (IntKind.i64.wrap (i + 1))))
    (some (false, ()))
noncomputable def Se (kL0 : (List api_DateRangeV) → Int → Int → R) (l : List api_DateRangeV) (date : Int) : R :=
  kL0 l date 0
theorem sL0 (jmp : Tgt → ASt → R) (l : List api_DateRangeV) (date : Int) (i : Int) : run E jmp fin depth c1 (.loop c1 K4) (tL0 l date i) =
    SL0 (fun l date i => jmp (.loop c1 K4) (tL0 l date i)) l date i := by kernel_rfl
theorem se (jmp : Tgt → ASt → R) (x : (argTy ps).den) : run E jmp fin depth (bodyOf Try.f21) .ret (entryFrom 0 ps x) =
    Se (fun l date i => jmp (.loop c1 K4) (tL0 l date i)) x.1 x.2.1 := by kernel_rfl
noncomputable def L0 (l : List api_DateRangeV) (date : Int) (i : Int) : R := lim E fin (.loop c1 K4) (tL0 l date i)
theorem L0_eq (l : List api_DateRangeV) (date : Int) (i : Int) : L0 l date i = SL0 L0 l date i :=
  (lim_eq (.loop c1 K4) (tL0 l date i)).trans (sL0 (lim E fin) l date i)
end law05_contains
noncomputable def law05_contains (l : List api_DateRangeV) (date : Int) : law05_contains.R :=
  law05_contains.Se law05_contains.L0 l date
noncomputable def law05_contains.sig : Sig := ⟨law05_contains.ps, law05_contains.rs, fun x => law05_contains x.1 x.2.1⟩
theorem law05_contains.ok : CallOK Try.prog 21 law05_contains.sig :=
  callOK_of_lim (E := law05_contains.E) mixed tt_ok (ctxOk_cons ctxOk_nil daterange_Contains.ok Try.func19 (by kernel_rfl) (by kernel_rfl)) Try.func21 (by kernel_rfl : Try.f21.body = some (bodyOf Try.f21)) Try.ntmps21 (of_decide_eq_true (by kernel_rfl)) (of_decide_eq_true (by kernel_rfl))
    fun x y h => ((lim_eq (.code (bodyOf Try.f21) .ret) (entryFrom 0 law05_contains.ps x)).trans (law05_contains.se (lim law05_contains.E law05_contains.fin) x)).trans h
theorem law05_contains.val (x : (argTy law05_contains.ps).den) : lim law05_contains.E law05_contains.fin (.code (bodyOf Try.f21) .ret) (entryFrom 0 law05_contains.ps x) = law05_contains.sig.run x :=
  (lim_eq (.code (bodyOf Try.f21) .ret) (entryFrom 0 law05_contains.ps x)).trans (law05_contains.se (lim law05_contains.E law05_contains.fin) x)
noncomputable def law05_contains.ctxc (n : Nat) : List (Nat × Sig) := [(19, daterange_Contains.sigc n)]
noncomputable def law05_contains.sigc (n : Nat) : Sig := ⟨law05_contains.ps, law05_contains.rs, fun x => runs (withCtx law05_contains.E (law05_contains.ctxc n)) law05_contains.fin n (.code (bodyOf Try.f21) .ret) (entryFrom 0 law05_contains.ps x)⟩
theorem law05_contains.sigc_le (n : Nat) : ∀ x y, (law05_contains.sigc n).run x = some y → law05_contains.sig.run x = some y :=
  fun x y h => (law05_contains.val x).symm.trans (runs_lim (E := law05_contains.E) (c := law05_contains.ctxc n) (ctxLe_cons ctxLe_nil (daterange_Contains.sigc_le n)) h)

/-! ### guerdon/guerdonlaw05.DaterangePartition -/
namespace law05_DaterangePartition
abbrev ps : List PM := [.pure (.sl api_DateRange), .pure api_DateRange, .pure (.int .i64)]
abbrev rs : List RM := [.pure .bool]
abbrev R : Type := Option (Bool × Unit)
noncomputable def E : Env := { tt := tt, ctx := [(9, law05_few.sig), (10, law05_awake.sig), (14, daterange_Gaps.sig), (19, daterange_Contains.sig), (20, law05_normal.sig), (21, law05_contains.sig)], nt := 37, ann := [] }
noncomputable def fin : ASt → R := Kret E Try.f5.results.toList ps rs
noncomputable def Se (l : List api_DateRangeV) (within : api_DateRangeV) (date : Int) : R :=
  Option.bind (law05_few l) fun x1 =>
  cond (!x1.1)
    (Option.bind law05_awake fun x2 =>
    some (x2.1, ()))
    (Option.bind (daterange_Gaps l within) fun x3 =>
    Option.bind (daterange_Contains within date) fun x4 =>
    Option.bind (law05_normal x3.1) fun x5 =>
    cond x5.1
      (Option.bind (law05_contains x3.1 date) fun x6 =>
      cond x4.1
        (Option.bind (law05_contains l date) fun x7 =>
        cond (x6.1 == (!x7.1))
          (Option.bind law05_awake fun x8 =>
          some (x8.1, ()))
          (some (false, ())))
        (cond (x6.1 == false)
          (Option.bind law05_awake fun x9 =>
          some (x9.1, ()))
          (some (false, ()))))
      (some (false, ())))
theorem se (jmp : Tgt → ASt → R) (x : (argTy ps).den) : run E jmp fin depth (bodyOf Try.f5) .ret (entryFrom 0 ps x) =
    Se x.1 x.2.1 x.2.2.1 := by kernel_rfl
end law05_DaterangePartition
noncomputable def law05_DaterangePartition (l : List api_DateRangeV) (within : api_DateRangeV) (date : Int) : law05_DaterangePartition.R :=
  law05_DaterangePartition.Se l within date
noncomputable def law05_DaterangePartition.sig : Sig := ⟨law05_DaterangePartition.ps, law05_DaterangePartition.rs, fun x => law05_DaterangePartition x.1 x.2.1 x.2.2.1⟩
theorem law05_DaterangePartition.ok : CallOK Try.prog 5 law05_DaterangePartition.sig :=
  callOK_of_lim (E := law05_DaterangePartition.E) mixed tt_ok (ctxOk_cons (ctxOk_cons (ctxOk_cons (ctxOk_cons (ctxOk_cons (ctxOk_cons ctxOk_nil law05_contains.ok Try.func21 (by kernel_rfl) (by kernel_rfl)) law05_normal.ok Try.func20 (by kernel_rfl) (by kernel_rfl)) daterange_Contains.ok Try.func19 (by kernel_rfl) (by kernel_rfl)) daterange_Gaps.ok Try.func14 (by kernel_rfl) (by kernel_rfl)) law05_awake.ok Try.func10 (by kernel_rfl) (by kernel_rfl)) law05_few.ok Try.func9 (by kernel_rfl) (by kernel_rfl)) Try.func5 (by kernel_rfl : Try.f5.body = some (bodyOf Try.f5)) Try.ntmps5 (of_decide_eq_true (by kernel_rfl)) (of_decide_eq_true (by kernel_rfl))
    fun x y h => ((lim_eq (.code (bodyOf Try.f5) .ret) (entryFrom 0 law05_DaterangePartition.ps x)).trans (law05_DaterangePartition.se (lim law05_DaterangePartition.E law05_DaterangePartition.fin) x)).trans h
theorem law05_DaterangePartition.val (x : (argTy law05_DaterangePartition.ps).den) : lim law05_DaterangePartition.E law05_DaterangePartition.fin (.code (bodyOf Try.f5) .ret) (entryFrom 0 law05_DaterangePartition.ps x) = law05_DaterangePartition.sig.run x :=
  (lim_eq (.code (bodyOf Try.f5) .ret) (entryFrom 0 law05_DaterangePartition.ps x)).trans (law05_DaterangePartition.se (lim law05_DaterangePartition.E law05_DaterangePartition.fin) x)
noncomputable def law05_DaterangePartition.ctxc (n : Nat) : List (Nat × Sig) := [(9, law05_few.sigc n), (10, law05_awake.sigc n), (14, daterange_Gaps.sigc n), (19, daterange_Contains.sigc n), (20, law05_normal.sigc n), (21, law05_contains.sigc n)]
noncomputable def law05_DaterangePartition.sigc (n : Nat) : Sig := ⟨law05_DaterangePartition.ps, law05_DaterangePartition.rs, fun x => runs (withCtx law05_DaterangePartition.E (law05_DaterangePartition.ctxc n)) law05_DaterangePartition.fin n (.code (bodyOf Try.f5) .ret) (entryFrom 0 law05_DaterangePartition.ps x)⟩
theorem law05_DaterangePartition.sigc_le (n : Nat) : ∀ x y, (law05_DaterangePartition.sigc n).run x = some y → law05_DaterangePartition.sig.run x = some y :=
  fun x y h => (law05_DaterangePartition.val x).symm.trans (runs_lim (E := law05_DaterangePartition.E) (c := law05_DaterangePartition.ctxc n) (ctxLe_cons (ctxLe_cons (ctxLe_cons (ctxLe_cons (ctxLe_cons (ctxLe_cons ctxLe_nil (law05_contains.sigc_le n)) (law05_normal.sigc_le n)) (daterange_Contains.sigc_le n)) (daterange_Gaps.sigc_le n)) (law05_awake.sigc_le n)) (law05_few.sigc_le n)) h)

/-! ### guerdon/guerdonlaw05.DaterangeUnion -/
namespace law05_DaterangeUnion
abbrev ps : List PM := [.pure (.sl api_DateRange), .pure (.int .i64)]
abbrev rs : List RM := [.pure .bool]
abbrev R : Type := Option (Bool × Unit)
noncomputable def E : Env := { tt := tt, ctx := [(9, law05_few.sig), (10, law05_awake.sig), (12, daterange_Union.sig), (20, law05_normal.sig), (21, law05_contains.sig), (11, same_DateRanges.sig)], nt := 32, ann := [] }
noncomputable def fin : ASt → R := Kret E Try.f6.results.toList ps rs
noncomputable def Se (l : List api_DateRangeV) (date : Int) : R :=
  Option.bind (law05_few l) fun x1 =>
  cond (!x1.1)
    (Option.bind law05_awake fun x2 =>
    some (x2.1, ()))
    (Option.bind (daterange_Union l) fun x3 =>
    Option.bind (law05_normal x3.1) fun x4 =>
    cond x4.1
      (Option.bind (law05_contains x3.1 date) fun x5 =>
      Option.bind (law05_contains l date) fun x6 =>
      cond (x5.1 == x6.1)
        (Option.bind (daterange_Union x3.1) fun x7 =>
        Option.bind (same_DateRanges x7.1 x3.1) fun x8 =>
        cond x8.1
          (Option.bind law05_awake fun x9 =>
          some (x9.1, ()))
          (some (false, ())))
        (some (false, ())))
      (some (false, ())))
theorem se (jmp : Tgt → ASt → R) (x : (argTy ps).den) : run E jmp fin depth (bodyOf Try.f6) .ret (entryFrom 0 ps x) =
    Se x.1 x.2.1 := by kernel_rfl
end law05_DaterangeUnion
noncomputable def law05_DaterangeUnion (l : List api_DateRangeV) (date : Int) : law05_DaterangeUnion.R :=
  law05_DaterangeUnion.Se l date
noncomputable def law05_DaterangeUnion.sig : Sig := ⟨law05_DaterangeUnion.ps, law05_DaterangeUnion.rs, fun x => law05_DaterangeUnion x.1 x.2.1⟩
theorem law05_DaterangeUnion.ok : CallOK Try.prog 6 law05_DaterangeUnion.sig :=
  callOK_of_lim (E := law05_DaterangeUnion.E) mixed tt_ok (ctxOk_cons (ctxOk_cons (ctxOk_cons (ctxOk_cons (ctxOk_cons (ctxOk_cons ctxOk_nil same_DateRanges.ok Try.func11 (by kernel_rfl) (by kernel_rfl)) law05_contains.ok Try.func21 (by kernel_rfl) (by kernel_rfl)) law05_normal.ok Try.func20 (by kernel_rfl) (by kernel_rfl)) daterange_Union.ok Try.func12 (by kernel_rfl) (by kernel_rfl)) law05_awake.ok Try.func10 (by kernel_rfl) (by kernel_rfl)) law05_few.ok Try.func9 (by kernel_rfl) (by kernel_rfl)) Try.func6 (by kernel_rfl : Try.f6.body = some (bodyOf Try.f6)) Try.ntmps6 (of_decide_eq_true (by kernel_rfl)) (of_decide_eq_true (by kernel_rfl))
    fun x y h => ((lim_eq (.code (bodyOf Try.f6) .ret) (entryFrom 0 law05_DaterangeUnion.ps x)).trans (law05_DaterangeUnion.se (lim law05_DaterangeUnion.E law05_DaterangeUnion.fin) x)).trans h
theorem law05_DaterangeUnion.val (x : (argTy law05_DaterangeUnion.ps).den) : lim law05_DaterangeUnion.E law05_DaterangeUnion.fin (.code (bodyOf Try.f6) .ret) (entryFrom 0 law05_DaterangeUnion.ps x) = law05_DaterangeUnion.sig.run x :=
  (lim_eq (.code (bodyOf Try.f6) .ret) (entryFrom 0 law05_DaterangeUnion.ps x)).trans (law05_DaterangeUnion.se (lim law05_DaterangeUnion.E law05_DaterangeUnion.fin) x)
noncomputable def law05_DaterangeUnion.ctxc (n : Nat) : List (Nat × Sig) := [(9, law05_few.sigc n), (10, law05_awake.sigc n), (12, daterange_Union.sigc n), (20, law05_normal.sigc n), (21, law05_contains.sigc n), (11, same_DateRanges.sigc n)]
noncomputable def law05_DaterangeUnion.sigc (n : Nat) : Sig := ⟨law05_DaterangeUnion.ps, law05_DaterangeUnion.rs, fun x => runs (withCtx law05_DaterangeUnion.E (law05_DaterangeUnion.ctxc n)) law05_DaterangeUnion.fin n (.code (bodyOf Try.f6) .ret) (entryFrom 0 law05_DaterangeUnion.ps x)⟩
theorem law05_DaterangeUnion.sigc_le (n : Nat) : ∀ x y, (law05_DaterangeUnion.sigc n).run x = some y → law05_DaterangeUnion.sig.run x = some y :=
  fun x y h => (law05_DaterangeUnion.val x).symm.trans (runs_lim (E := law05_DaterangeUnion.E) (c := law05_DaterangeUnion.ctxc n) (ctxLe_cons (ctxLe_cons (ctxLe_cons (ctxLe_cons (ctxLe_cons (ctxLe_cons ctxLe_nil (same_DateRanges.sigc_le n)) (law05_contains.sigc_le n)) (law05_normal.sigc_le n)) (daterange_Union.sigc_le n)) (law05_awake.sigc_le n)) (law05_few.sigc_le n)) h)

/-! ### guerdon/guerdonref05.Contains -/
namespace ref05_Contains
abbrev ps : List PM := [.pure api_DateRange, .pure (.int .i64)]
abbrev rs : List RM := [.pure .bool]
abbrev R : Type := Option (Bool × Unit)
noncomputable def E : Env := { tt := tt, ctx := [(25, ref05_Valid.sig)], nt := 19, ann := [] }
noncomputable def fin : ASt → R := Kret E Try.f26.results.toList ps rs
noncomputable def Se (r_0 : api_DateRangeV) (date : Int) : R :=
  Option.bind (ref05_Valid r_0) fun x1 =>
  cond x1.1
    (cond (decide (r_0.1 ≤ date))
      (some (decide (date < r_0.2.1), ()))
      (some (false, ())))
    (some (false, ()))
theorem se (jmp : Tgt → ASt → R) (x : (argTy ps).den) : run E jmp fin depth (bodyOf Try.f26) .ret (entryFrom 0 ps x) =
    Se x.1 x.2.1 := by kernel_rfl
end ref05_Contains
noncomputable def ref05_Contains (r_0 : api_DateRangeV) (date : Int) : ref05_Contains.R :=
  ref05_Contains.Se r_0 date
noncomputable def ref05_Contains.sig : Sig := ⟨ref05_Contains.ps, ref05_Contains.rs, fun x => ref05_Contains x.1 x.2.1⟩
theorem ref05_Contains.ok : CallOK Try.prog 26 ref05_Contains.sig :=
  callOK_of_lim (E := ref05_Contains.E) mixed tt_ok (ctxOk_cons ctxOk_nil ref05_Valid.ok Try.func25 (by kernel_rfl) (by kernel_rfl)) Try.func26 (by kernel_rfl : Try.f26.body = some (bodyOf Try.f26)) Try.ntmps26 (of_decide_eq_true (by kernel_rfl)) (of_decide_eq_true (by kernel_rfl))
    fun x y h => ((lim_eq (.code (bodyOf Try.f26) .ret) (entryFrom 0 ref05_Contains.ps x)).trans (ref05_Contains.se (lim ref05_Contains.E ref05_Contains.fin) x)).trans h
theorem ref05_Contains.val (x : (argTy ref05_Contains.ps).den) : lim ref05_Contains.E ref05_Contains.fin (.code (bodyOf Try.f26) .ret) (entryFrom 0 ref05_Contains.ps x) = ref05_Contains.sig.run x :=
  (lim_eq (.code (bodyOf Try.f26) .ret) (entryFrom 0 ref05_Contains.ps x)).trans (ref05_Contains.se (lim ref05_Contains.E ref05_Contains.fin) x)
noncomputable def ref05_Contains.ctxc (n : Nat) : List (Nat × Sig) := [(25, ref05_Valid.sigc n)]
noncomputable def ref05_Contains.sigc (n : Nat) : Sig := ⟨ref05_Contains.ps, ref05_Contains.rs, fun x => runs (withCtx ref05_Contains.E (ref05_Contains.ctxc n)) ref05_Contains.fin n (.code (bodyOf Try.f26) .ret) (entryFrom 0 ref05_Contains.ps x)⟩
theorem ref05_Contains.sigc_le (n : Nat) : ∀ x y, (ref05_Contains.sigc n).run x = some y → ref05_Contains.sig.run x = some y :=
  fun x y h => (ref05_Contains.val x).symm.trans (runs_lim (E := ref05_Contains.E) (c := ref05_Contains.ctxc n) (ctxLe_cons ctxLe_nil (ref05_Valid.sigc_le n)) h)

/-! ### guerdon/daterange.Subtract -/
namespace daterange_Subtract
abbrev ps : List PM := [.pure api_DateRange, .pure api_DateRange]
abbrev rs : List RM := [.own api_DateRange]
abbrev R : Type := Option (List api_DateRangeV × Unit)
noncomputable def E : Env := { tt := tt, ctx := [(14, daterange_Gaps.sig)], nt := 9, ann := [] }
noncomputable def fin : ASt → R := Kret E Try.f27.results.toList ps rs
noncomputable def Se (a : api_DateRangeV) (b : api_DateRangeV) : R :=
  Option.bind (daterange_Gaps [b] a) fun x1 =>
  some (x1.1, ())
theorem se (jmp : Tgt → ASt → R) (x : (argTy ps).den) : run E jmp fin depth (bodyOf Try.f27) .ret (entryFrom 0 ps x) =
    Se x.1 x.2.1 := by kernel_rfl
end daterange_Subtract
noncomputable def daterange_Subtract (a : api_DateRangeV) (b : api_DateRangeV) : daterange_Subtract.R :=
  daterange_Subtract.Se a b
noncomputable def daterange_Subtract.sig : Sig := ⟨daterange_Subtract.ps, daterange_Subtract.rs, fun x => daterange_Subtract x.1 x.2.1⟩
theorem daterange_Subtract.ok : CallOK Try.prog 27 daterange_Subtract.sig :=
  callOK_of_lim (E := daterange_Subtract.E) mixed tt_ok (ctxOk_cons ctxOk_nil daterange_Gaps.ok Try.func14 (by kernel_rfl) (by kernel_rfl)) Try.func27 (by kernel_rfl : Try.f27.body = some (bodyOf Try.f27)) Try.ntmps27 (of_decide_eq_true (by kernel_rfl)) (of_decide_eq_true (by kernel_rfl))
    fun x y h => ((lim_eq (.code (bodyOf Try.f27) .ret) (entryFrom 0 daterange_Subtract.ps x)).trans (daterange_Subtract.se (lim daterange_Subtract.E daterange_Subtract.fin) x)).trans h
theorem daterange_Subtract.val (x : (argTy daterange_Subtract.ps).den) : lim daterange_Subtract.E daterange_Subtract.fin (.code (bodyOf Try.f27) .ret) (entryFrom 0 daterange_Subtract.ps x) = daterange_Subtract.sig.run x :=
  (lim_eq (.code (bodyOf Try.f27) .ret) (entryFrom 0 daterange_Subtract.ps x)).trans (daterange_Subtract.se (lim daterange_Subtract.E daterange_Subtract.fin) x)
noncomputable def daterange_Subtract.ctxc (n : Nat) : List (Nat × Sig) := [(14, daterange_Gaps.sigc n)]
noncomputable def daterange_Subtract.sigc (n : Nat) : Sig := ⟨daterange_Subtract.ps, daterange_Subtract.rs, fun x => runs (withCtx daterange_Subtract.E (daterange_Subtract.ctxc n)) daterange_Subtract.fin n (.code (bodyOf Try.f27) .ret) (entryFrom 0 daterange_Subtract.ps x)⟩
theorem daterange_Subtract.sigc_le (n : Nat) : ∀ x y, (daterange_Subtract.sigc n).run x = some y → daterange_Subtract.sig.run x = some y :=
  fun x y h => (daterange_Subtract.val x).symm.trans (runs_lim (E := daterange_Subtract.E) (c := daterange_Subtract.ctxc n) (ctxLe_cons ctxLe_nil (daterange_Gaps.sigc_le n)) h)

/-! ### guerdon/guerdonlaw05.DaterangePairs -/
namespace law05_DaterangePairs
abbrev ps : List PM := [.pure api_DateRange, .pure api_DateRange, .pure (.int .i64)]
abbrev rs : List RM := [.pure .bool]
abbrev R : Type := Option (Bool × Unit)
noncomputable def E : Env := { tt := tt, ctx := [(22, daterange_Intersect.sig), (23, ref05_Intersect.sig), (24, daterange_Valid.sig), (25, ref05_Valid.sig), (19, daterange_Contains.sig), (26, ref05_Contains.sig), (27, daterange_Subtract.sig), (28, ref05_Subtract.sig), (11, same_DateRanges.sig), (10, law05_awake.sig)], nt := 59, ann := [] }
noncomputable def fin : ASt → R := Kret E Try.f7.results.toList ps rs
noncomputable def Se (a : api_DateRangeV) (b : api_DateRangeV) (date : Int) : R :=
  Option.bind (daterange_Intersect a b) fun x1 =>
  Option.bind (ref05_Intersect a b) fun x2 =>
  Option.bind (daterange_Valid a) fun x3 =>
  Option.bind (ref05_Valid a) fun x4 =>
  cond (x3.1 == x4.1)
    (Option.bind (daterange_Contains a date) fun x5 =>
    Option.bind (ref05_Contains a date) fun x6 =>
    cond (x5.1 == x6.1)
      (cond (eqTy (.pair (.int .i64) (.pair (.int .i64) .unit)) x1.1 x2.1)
        (cond (x1.2.1 == x2.2.1)
          (Option.bind (daterange_Subtract a b) fun x7 =>
          Option.bind (ref05_Subtract a b) fun x8 =>
          Option.bind (same_DateRanges x7.1 x8.1) fun x9 =>
          cond x9.1
            (Option.bind law05_awake fun x10 =>
            some (x10.1, ()))
            (some (false, ())))
          (some (false, ())))
        (some (false, ())))
      (some (false, ())))
    (some (false, ()))
theorem se (jmp : Tgt → ASt → R) (x : (argTy ps).den) : run E jmp fin depth (bodyOf Try.f7) .ret (entryFrom 0 ps x) =
    Se x.1 x.2.1 x.2.2.1 := by kernel_rfl
end law05_DaterangePairs
noncomputable def law05_DaterangePairs (a : api_DateRangeV) (b : api_DateRangeV) (date : Int) : law05_DaterangePairs.R :=
  law05_DaterangePairs.Se a b date
noncomputable def law05_DaterangePairs.sig : Sig := ⟨law05_DaterangePairs.ps, law05_DaterangePairs.rs, fun x => law05_DaterangePairs x.1 x.2.1 x.2.2.1⟩
theorem law05_DaterangePairs.ok : CallOK Try.prog 7 law05_DaterangePairs.sig :=
  callOK_of_lim (E := law05_DaterangePairs.E) mixed tt_ok (ctxOk_cons (ctxOk_cons (ctxOk_cons (ctxOk_cons (ctxOk_cons (ctxOk_cons (ctxOk_cons (ctxOk_cons (ctxOk_cons (ctxOk_cons ctxOk_nil law05_awake.ok Try.func10 (by kernel_rfl) (by kernel_rfl)) same_DateRanges.ok Try.func11 (by kernel_rfl) (by kernel_rfl)) ref05_Subtract.ok Try.func28 (by kernel_rfl) (by kernel_rfl)) daterange_Subtract.ok Try.func27 (by kernel_rfl) (by kernel_rfl)) ref05_Contains.ok Try.func26 (by kernel_rfl) (by kernel_rfl)) daterange_Contains.ok Try.func19 (by kernel_rfl) (by kernel_rfl)) ref05_Valid.ok Try.func25 (by kernel_rfl) (by kernel_rfl)) daterange_Valid.ok Try.func24 (by kernel_rfl) (by kernel_rfl)) ref05_Intersect.ok Try.func23 (by kernel_rfl) (by kernel_rfl)) daterange_Intersect.ok Try.func22 (by kernel_rfl) (by kernel_rfl)) Try.func7 (by kernel_rfl : Try.f7.body = some (bodyOf Try.f7)) Try.ntmps7 (of_decide_eq_true (by kernel_rfl)) (of_decide_eq_true (by kernel_rfl))
    fun x y h => ((lim_eq (.code (bodyOf Try.f7) .ret) (entryFrom 0 law05_DaterangePairs.ps x)).trans (law05_DaterangePairs.se (lim law05_DaterangePairs.E law05_DaterangePairs.fin) x)).trans h
theorem law05_DaterangePairs.val (x : (argTy law05_DaterangePairs.ps).den) : lim law05_DaterangePairs.E law05_DaterangePairs.fin (.code (bodyOf Try.f7) .ret) (entryFrom 0 law05_DaterangePairs.ps x) = law05_DaterangePairs.sig.run x :=
  (lim_eq (.code (bodyOf Try.f7) .ret) (entryFrom 0 law05_DaterangePairs.ps x)).trans (law05_DaterangePairs.se (lim law05_DaterangePairs.E law05_DaterangePairs.fin) x)
noncomputable def law05_DaterangePairs.ctxc (n : Nat) : List (Nat × Sig) := [(22, daterange_Intersect.sigc n), (23, ref05_Intersect.sigc n), (24, daterange_Valid.sigc n), (25, ref05_Valid.sigc n), (19, daterange_Contains.sigc n), (26, ref05_Contains.sigc n), (27, daterange_Subtract.sigc n), (28, ref05_Subtract.sigc n), (11, same_DateRanges.sigc n), (10, law05_awake.sigc n)]
noncomputable def law05_DaterangePairs.sigc (n : Nat) : Sig := ⟨law05_DaterangePairs.ps, law05_DaterangePairs.rs, fun x => runs (withCtx law05_DaterangePairs.E (law05_DaterangePairs.ctxc n)) law05_DaterangePairs.fin n (.code (bodyOf Try.f7) .ret) (entryFrom 0 law05_DaterangePairs.ps x)⟩
theorem law05_DaterangePairs.sigc_le (n : Nat) : ∀ x y, (law05_DaterangePairs.sigc n).run x = some y → law05_DaterangePairs.sig.run x = some y :=
  fun x y h => (law05_DaterangePairs.val x).symm.trans (runs_lim (E := law05_DaterangePairs.E) (c := law05_DaterangePairs.ctxc n) (ctxLe_cons (ctxLe_cons (ctxLe_cons (ctxLe_cons (ctxLe_cons (ctxLe_cons (ctxLe_cons (ctxLe_cons (ctxLe_cons (ctxLe_cons ctxLe_nil (law05_awake.sigc_le n)) (same_DateRanges.sigc_le n)) (ref05_Subtract.sigc_le n)) (daterange_Subtract.sigc_le n)) (ref05_Contains.sigc_le n)) (daterange_Contains.sigc_le n)) (ref05_Valid.sigc_le n)) (daterange_Valid.sigc_le n)) (ref05_Intersect.sigc_le n)) (daterange_Intersect.sigc_le n)) h)

/-! ### guerdon/guerdonlaw05.DaterangeSplit -/
namespace law05_DaterangeSplit
abbrev ps : List PM := [.pure api_DateRange, .pure api_DateRange, .pure (.int .i64)]
abbrev rs : List RM := [.pure .bool]
abbrev R : Type := Option (Bool × Unit)
noncomputable def E : Env := { tt := tt, ctx := [(22, daterange_Intersect.sig), (27, daterange_Subtract.sig), (19, daterange_Contains.sig), (20, law05_normal.sig), (21, law05_contains.sig), (10, law05_awake.sig)], nt := 81, ann := [(5, [(2, .keep), (3, .keep), (4, .keep), (7, .keep), (8, .keep), (9, .keep), (10, .keep), (11, .keep), (12, .keep)])] }
noncomputable def c0 : Code := sub [1, 1, 1, 1, 1] (bodyOf Try.f8)
noncomputable def fin : ASt → R := Kret E Try.f8.results.toList ps rs
def tJ0 (date : Int) (a : api_DateRangeV) (b : api_DateRangeV) (c_7 : api_DateRangeV) (ok : Bool) (d : api_DateRangeV) (is : Bool) (l : List api_DateRangeV) (in_12 : Bool) : ASt := ⟨[(12, .one (.val .bool in_12)), (11, .one (.own 11)), (10, .one (.val .bool is)), (9, .one (.optr 9 0 [])), (8, .one (.val .bool ok)), (7, .one (.optr 7 0 [])), (4, .one (.optr 4 0 [])), (3, .one (.optr 3 0 [])), (2, .one (.val (.int .i64) date))], [(11, some ⟨.free, api_DateRange, l⟩), (9, some ⟨.free, api_DateRange, [d]⟩), (7, some ⟨.free, api_DateRange, [c_7]⟩), (4, some ⟨.free, api_DateRange, [b]⟩), (3, some ⟨.free, api_DateRange, [a]⟩)]⟩
noncomputable def SJ0 (date : Int) (a : api_DateRangeV) (b : api_DateRangeV) (c_7 : api_DateRangeV) (ok : Bool) (d : api_DateRangeV) (is : Bool) (l : List api_DateRangeV) (in_12 : Bool) : R :=
  cond (eqTy (.pair (.int .i64) (.pair (.int .i64) .unit)) c_7 d)
    (cond (ok == is)
      (Option.bind (law05_normal l) fun x1 =>
      cond x1.1
        (cond (decide ((l.length : Int) ≤ 2))
          (Option.bind (daterange_Contains a date) fun x2 =>
          cond x2.1
            (Option.bind (daterange_Contains b date) fun x3 =>
            cond (in_12 == x3.1)
              (Option.bind (law05_contains l date) fun x4 =>
              Option.bind (daterange_Contains a date) fun x5 =>
              cond x5.1
                (Option.bind (daterange_Contains b date) fun x6 =>
                cond (x4.1 == (!x6.1))
                  (Option.bind law05_awake fun x7 =>
                  some (x7.1, ()))
                  (some (false, ())))
                (cond (x4.1 == false)
                  (Option.bind law05_awake fun x8 =>
                  some (x8.1, ()))
                  (some (false, ()))))
              (some (false, ())))
            (cond (in_12 == false)
              (Option.bind (law05_contains l date) fun x9 =>
              Option.bind (daterange_Contains a date) fun x10 =>
              cond x10.1
                (Option.bind (daterange_Contains b date) fun x11 =>
                cond (x9.1 == (!x11.1))
                  (Option.bind law05_awake fun x12 =>
                  some (x12.1, ()))
                  (some (false, ())))
                (cond (x9.1 == false)
                  (Option.bind law05_awake fun x13 =>
                  some (x13.1, ()))
                  (some (false, ()))))
              (some (false, ()))))
          (some (false, ())))
        (some (false, ())))
      (some (false, ())))
    (some (false, ()))
noncomputable def Se (kJ0 : Int → api_DateRangeV → api_DateRangeV → api_DateRangeV → Bool → api_DateRangeV → Bool → (List api_DateRangeV) → Bool → R) (a : api_DateRangeV) (b : api_DateRangeV) (date : Int) : R :=
  Option.bind (daterange_Intersect a b) fun x1 =>
  Option.bind (daterange_Intersect b a) fun x2 =>
  Option.bind (daterange_Subtract a b) fun x3 =>
  cond x1.2.1
    (Option.bind (daterange_Contains x1.1 date) fun x4 =>
    kJ0 date a b x1.1 x1.2.1 x2.1 x2.2.1 x3.1 x4.1)
    (kJ0 date a b x1.1 x1.2.1 x2.1 x2.2.1 x3.1 false)
theorem sJ0 (jmp : Tgt → ASt → R) (date : Int) (a : api_DateRangeV) (b : api_DateRangeV) (c_7 : api_DateRangeV) (ok : Bool) (d : api_DateRangeV) (is : Bool) (l : List api_DateRangeV) (in_12 : Bool) : run E jmp fin depth c0 .ret (tJ0 date a b c_7 ok d is l in_12) =
    SJ0 date a b c_7 ok d is l in_12 := by kernel_rfl
theorem se (jmp : Tgt → ASt → R) (x : (argTy ps).den) : run E jmp fin depth (bodyOf Try.f8) .ret (entryFrom 0 ps x) =
    Se (fun date a b c_7 ok d is l in_12 => jmp (.code c0 .ret) (tJ0 date a b c_7 ok d is l in_12)) x.1 x.2.1 x.2.2.1 := by kernel_rfl
noncomputable def J0 (date : Int) (a : api_DateRangeV) (b : api_DateRangeV) (c_7 : api_DateRangeV) (ok : Bool) (d : api_DateRangeV) (is : Bool) (l : List api_DateRangeV) (in_12 : Bool) : R := lim E fin (.code c0 .ret) (tJ0 date a b c_7 ok d is l in_12)
theorem J0_eq (date : Int) (a : api_DateRangeV) (b : api_DateRangeV) (c_7 : api_DateRangeV) (ok : Bool) (d : api_DateRangeV) (is : Bool) (l : List api_DateRangeV) (in_12 : Bool) : J0 date a b c_7 ok d is l in_12 = SJ0 date a b c_7 ok d is l in_12 :=
  (lim_eq (.code c0 .ret) (tJ0 date a b c_7 ok d is l in_12)).trans (sJ0 (lim E fin) date a b c_7 ok d is l in_12)
end law05_DaterangeSplit
noncomputable def law05_DaterangeSplit (a : api_DateRangeV) (b : api_DateRangeV) (date : Int) : law05_DaterangeSplit.R :=
  law05_DaterangeSplit.Se law05_DaterangeSplit.J0 a b date
noncomputable def law05_DaterangeSplit.sig : Sig := ⟨law05_DaterangeSplit.ps, law05_DaterangeSplit.rs, fun x => law05_DaterangeSplit x.1 x.2.1 x.2.2.1⟩
theorem law05_DaterangeSplit.ok : CallOK Try.prog 8 law05_DaterangeSplit.sig :=
  callOK_of_lim (E := law05_DaterangeSplit.E) mixed tt_ok (ctxOk_cons (ctxOk_cons (ctxOk_cons (ctxOk_cons (ctxOk_cons (ctxOk_cons ctxOk_nil law05_awake.ok Try.func10 (by kernel_rfl) (by kernel_rfl)) law05_contains.ok Try.func21 (by kernel_rfl) (by kernel_rfl)) law05_normal.ok Try.func20 (by kernel_rfl) (by kernel_rfl)) daterange_Contains.ok Try.func19 (by kernel_rfl) (by kernel_rfl)) daterange_Subtract.ok Try.func27 (by kernel_rfl) (by kernel_rfl)) daterange_Intersect.ok Try.func22 (by kernel_rfl) (by kernel_rfl)) Try.func8 (by kernel_rfl : Try.f8.body = some (bodyOf Try.f8)) Try.ntmps8 (of_decide_eq_true (by kernel_rfl)) (of_decide_eq_true (by kernel_rfl))
    fun x y h => ((lim_eq (.code (bodyOf Try.f8) .ret) (entryFrom 0 law05_DaterangeSplit.ps x)).trans (law05_DaterangeSplit.se (lim law05_DaterangeSplit.E law05_DaterangeSplit.fin) x)).trans h
theorem law05_DaterangeSplit.val (x : (argTy law05_DaterangeSplit.ps).den) : lim law05_DaterangeSplit.E law05_DaterangeSplit.fin (.code (bodyOf Try.f8) .ret) (entryFrom 0 law05_DaterangeSplit.ps x) = law05_DaterangeSplit.sig.run x :=
  (lim_eq (.code (bodyOf Try.f8) .ret) (entryFrom 0 law05_DaterangeSplit.ps x)).trans (law05_DaterangeSplit.se (lim law05_DaterangeSplit.E law05_DaterangeSplit.fin) x)
noncomputable def law05_DaterangeSplit.ctxc (n : Nat) : List (Nat × Sig) := [(22, daterange_Intersect.sigc n), (27, daterange_Subtract.sigc n), (19, daterange_Contains.sigc n), (20, law05_normal.sigc n), (21, law05_contains.sigc n), (10, law05_awake.sigc n)]
noncomputable def law05_DaterangeSplit.sigc (n : Nat) : Sig := ⟨law05_DaterangeSplit.ps, law05_DaterangeSplit.rs, fun x => runs (withCtx law05_DaterangeSplit.E (law05_DaterangeSplit.ctxc n)) law05_DaterangeSplit.fin n (.code (bodyOf Try.f8) .ret) (entryFrom 0 law05_DaterangeSplit.ps x)⟩
theorem law05_DaterangeSplit.sigc_le (n : Nat) : ∀ x y, (law05_DaterangeSplit.sigc n).run x = some y → law05_DaterangeSplit.sig.run x = some y :=
  fun x y h => (law05_DaterangeSplit.val x).symm.trans (runs_lim (E := law05_DaterangeSplit.E) (c := law05_DaterangeSplit.ctxc n) (ctxLe_cons (ctxLe_cons (ctxLe_cons (ctxLe_cons (ctxLe_cons (ctxLe_cons ctxLe_nil (law05_awake.sigc_le n)) (law05_contains.sigc_le n)) (law05_normal.sigc_le n)) (daterange_Contains.sigc_le n)) (daterange_Subtract.sigc_le n)) (daterange_Intersect.sigc_le n)) h)

end Go.Proofs.Ytcekbjgogdkomaa
