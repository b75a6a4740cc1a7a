/- The functions of the program as typed Lean functions, with the proof that they are what the code computes. -/
import Derived.Test.YtmkkdjnojcmihaaCode3
set_option maxRecDepth 100000
set_option linter.unusedVariables false
namespace Go.Proofs.Ytmkkdjnojcmihaa
open Go Go.Lift

/-! ### guerdon/guerdonref10.meaning -/
namespace ref10_meaning
abbrev ps : List PM := [.pure (.int .i64)]
abbrev rs : List RM := [.pure .bool]
abbrev R : Type := Option (Bool × Unit)
noncomputable def E : Env := { tt := tt, ctx := [], nt := 35, ann := [(3, [(0, .keep)])] }
noncomputable def c0 : Code := sub [1, 1] (bodyOf Try.f52)
noncomputable def fin : ASt → R := Kret E Try.f52.results.toList ps rs
def tJ0 (op : Int) : ASt := ⟨[(0, .one (.val (.int .i64) op))], []⟩
noncomputable def SJ0 (op : Int) : R :=
  cond (op == 14)
    (some (true, ()))
    (cond (op == 15)
      (some (true, ()))
      (cond (op == 16)
        (some (true, ()))
        (cond (op == 33)
          (some (true, ()))
          (some ((op == 34), ())))))
noncomputable def Se (kJ0 : Int → R) (op : Int) : R :=
  cond (decide (op ≥ 1))
    (cond (decide (op ≤ 8))
      (some (true, ()))
      (cond (decide (op ≥ 36))
        (cond (decide (op ≤ 39))
          (some (true, ()))
          (kJ0 op))
        (kJ0 op)))
    (cond (decide (op ≥ 36))
      (cond (decide (op ≤ 39))
        (some (true, ()))
        (kJ0 op))
      (kJ0 op))
theorem sJ0 (jmp : Tgt → ASt → R) (op : Int) : run E jmp fin depth c0 .ret (tJ0 op) =
    SJ0 op := by kernel_rfl
theorem se (jmp : Tgt → ASt → R) (x : (argTy ps).den) : run E jmp fin depth (bodyOf Try.f52) .ret (entryFrom 0 ps x) =
    Se (fun op => jmp (.code c0 .ret) (tJ0 op)) x.1 := by kernel_rfl
noncomputable def J0 (op : Int) : R := lim E fin (.code c0 .ret) (tJ0 op)
theorem J0_eq (op : Int) : J0 op = SJ0 op :=
  (lim_eq (.code c0 .ret) (tJ0 op)).trans (sJ0 (lim E fin) op)
end ref10_meaning
noncomputable def ref10_meaning (op : Int) : ref10_meaning.R :=
  ref10_meaning.Se ref10_meaning.J0 op
noncomputable def ref10_meaning.sig : Sig := ⟨ref10_meaning.ps, ref10_meaning.rs, fun x => ref10_meaning x.1⟩
theorem ref10_meaning.ok : CallOK Try.prog 52 ref10_meaning.sig :=
  callOK_of_lim (E := ref10_meaning.E) mixed tt_ok ctxOk_nil Try.func52 (by kernel_rfl : Try.f52.body = some (bodyOf Try.f52)) Try.ntmps52 (of_decide_eq_true (by kernel_rfl)) (of_decide_eq_true (by kernel_rfl))
    fun x y h => ((lim_eq (.code (bodyOf Try.f52) .ret) (entryFrom 0 ref10_meaning.ps x)).trans (ref10_meaning.se (lim ref10_meaning.E ref10_meaning.fin) x)).trans h
theorem ref10_meaning.val (x : (argTy ref10_meaning.ps).den) : lim ref10_meaning.E ref10_meaning.fin (.code (bodyOf Try.f52) .ret) (entryFrom 0 ref10_meaning.ps x) = ref10_meaning.sig.run x :=
  (lim_eq (.code (bodyOf Try.f52) .ret) (entryFrom 0 ref10_meaning.ps x)).trans (ref10_meaning.se (lim ref10_meaning.E ref10_meaning.fin) x)
noncomputable def ref10_meaning.ctxc (n : Nat) : List (Nat × Sig) := []
noncomputable def ref10_meaning.sigc (n : Nat) : Sig := ⟨ref10_meaning.ps, ref10_meaning.rs, fun x => runs (withCtx ref10_meaning.E (ref10_meaning.ctxc n)) ref10_meaning.fin n (.code (bodyOf Try.f52) .ret) (entryFrom 0 ref10_meaning.ps x)⟩
theorem ref10_meaning.sigc_le (n : Nat) : ∀ x y, (ref10_meaning.sigc n).run x = some y → ref10_meaning.sig.run x = some y :=
  fun x y h => (ref10_meaning.val x).symm.trans (runs_lim (E := ref10_meaning.E) (c := ref10_meaning.ctxc n) ctxLe_nil h)

/-! ### guerdon/guerdonref10.kind -/
namespace ref10_kind
abbrev ps : List PM := [.pure (.int .i64)]
abbrev rs : List RM := [.pure api_Type]
abbrev R : Type := Option (api_TypeV × Unit)
noncomputable def E : Env := { tt := tt, ctx := [], nt := 5, ann := [] }
noncomputable def fin : ASt → R := Kret E Try.f79.results.toList ps rs
noncomputable def Se (k : Int) : R :=
  some ((k, 0, ()), ())
theorem se (jmp : Tgt → ASt → R) (x : (argTy ps).den) : run E jmp fin depth (bodyOf Try.f79) .ret (entryFrom 0 ps x) =
    Se x.1 := by kernel_rfl
end ref10_kind
noncomputable def ref10_kind (k : Int) : ref10_kind.R :=
  ref10_kind.Se k
noncomputable def ref10_kind.sig : Sig := ⟨ref10_kind.ps, ref10_kind.rs, fun x => ref10_kind x.1⟩
theorem ref10_kind.ok : CallOK Try.prog 79 ref10_kind.sig :=
  callOK_of_lim (E := ref10_kind.E) mixed tt_ok ctxOk_nil Try.func79 (by kernel_rfl : Try.f79.body = some (bodyOf Try.f79)) Try.ntmps79 (of_decide_eq_true (by kernel_rfl)) (of_decide_eq_true (by kernel_rfl))
    fun x y h => ((lim_eq (.code (bodyOf Try.f79) .ret) (entryFrom 0 ref10_kind.ps x)).trans (ref10_kind.se (lim ref10_kind.E ref10_kind.fin) x)).trans h
theorem ref10_kind.val (x : (argTy ref10_kind.ps).den) : lim ref10_kind.E ref10_kind.fin (.code (bodyOf Try.f79) .ret) (entryFrom 0 ref10_kind.ps x) = ref10_kind.sig.run x :=
  (lim_eq (.code (bodyOf Try.f79) .ret) (entryFrom 0 ref10_kind.ps x)).trans (ref10_kind.se (lim ref10_kind.E ref10_kind.fin) x)
noncomputable def ref10_kind.ctxc (n : Nat) : List (Nat × Sig) := []
noncomputable def ref10_kind.sigc (n : Nat) : Sig := ⟨ref10_kind.ps, ref10_kind.rs, fun x => runs (withCtx ref10_kind.E (ref10_kind.ctxc n)) ref10_kind.fin n (.code (bodyOf Try.f79) .ret) (entryFrom 0 ref10_kind.ps x)⟩
theorem ref10_kind.sigc_le (n : Nat) : ∀ x y, (ref10_kind.sigc n).run x = some y → ref10_kind.sig.run x = some y :=
  fun x y h => (ref10_kind.val x).symm.trans (runs_lim (E := ref10_kind.E) (c := ref10_kind.ctxc n) ctxLe_nil h)

/-! ### guerdon/guerdonref09.ValidType -/
namespace ref09_ValidType
abbrev ps : List PM := [.pure api_Type, .pure (.sl api_Enum)]
abbrev rs : List RM := [.pure .bool]
abbrev R : Type := Option (Bool × Unit)
noncomputable def E : Env := { tt := tt, ctx := [], nt := 31, ann := [] }
noncomputable def fin : ASt → R := Kret E Try.f35.results.toList ps rs
noncomputable def Se (t : api_TypeV) (enums : List api_EnumV) : R :=
  cond (t.1 == 6)
    (cond (decide (t.2.1 ≥ 0))
      (some (decide (t.2.1 < (enums.length : Int)), ()))
      (some (false, ())))
    (cond (decide (t.1 ≥ 1))
      (cond (decide (t.1 ≤ 5))
        (some ((t.2.1 == 0), ()))
        (some (false, ())))
      (some (false, ())))
theorem se (jmp : Tgt → ASt → R) (x : (argTy ps).den) : run E jmp fin depth (bodyOf Try.f35) .ret (entryFrom 0 ps x) =
    Se x.1 x.2.1 := by kernel_rfl
end ref09_ValidType
noncomputable def ref09_ValidType (t : api_TypeV) (enums : List api_EnumV) : ref09_ValidType.R :=
  ref09_ValidType.Se t enums
noncomputable def ref09_ValidType.sig : Sig := ⟨ref09_ValidType.ps, ref09_ValidType.rs, fun x => ref09_ValidType x.1 x.2.1⟩
theorem ref09_ValidType.ok : CallOK Try.prog 35 ref09_ValidType.sig :=
  callOK_of_lim (E := ref09_ValidType.E) mixed tt_ok ctxOk_nil Try.func35 (by kernel_rfl : Try.f35.body = some (bodyOf Try.f35)) Try.ntmps35 (of_decide_eq_true (by kernel_rfl)) (of_decide_eq_true (by kernel_rfl))
    fun x y h => ((lim_eq (.code (bodyOf Try.f35) .ret) (entryFrom 0 ref09_ValidType.ps x)).trans (ref09_ValidType.se (lim ref09_ValidType.E ref09_ValidType.fin) x)).trans h
theorem ref09_ValidType.val (x : (argTy ref09_ValidType.ps).den) : lim ref09_ValidType.E ref09_ValidType.fin (.code (bodyOf Try.f35) .ret) (entryFrom 0 ref09_ValidType.ps x) = ref09_ValidType.sig.run x :=
  (lim_eq (.code (bodyOf Try.f35) .ret) (entryFrom 0 ref09_ValidType.ps x)).trans (ref09_ValidType.se (lim ref09_ValidType.E ref09_ValidType.fin) x)
noncomputable def ref09_ValidType.ctxc (n : Nat) : List (Nat × Sig) := []
noncomputable def ref09_ValidType.sigc (n : Nat) : Sig := ⟨ref09_ValidType.ps, ref09_ValidType.rs, fun x => runs (withCtx ref09_ValidType.E (ref09_ValidType.ctxc n)) ref09_ValidType.fin n (.code (bodyOf Try.f35) .ret) (entryFrom 0 ref09_ValidType.ps x)⟩
theorem ref09_ValidType.sigc_le (n : Nat) : ∀ x y, (ref09_ValidType.sigc n).run x = some y → ref09_ValidType.sig.run x = some y :=
  fun x y h => (ref09_ValidType.val x).symm.trans (runs_lim (E := ref09_ValidType.E) (c := ref09_ValidType.ctxc n) ctxLe_nil h)

/-! ### guerdon/guerdonref09.Bounds -/
namespace ref09_Bounds
abbrev ps : List PM := [.pure api_Type, .pure (.sl api_Enum)]
abbrev rs : List RM := [.pure (.int .i64), .pure (.int .i64)]
abbrev R : Type := Option (Int × Int × Unit)
noncomputable def E : Env := { tt := tt, ctx := [(35, ref09_ValidType.sig)], nt := 30, ann := [] }
noncomputable def fin : ASt → R := Kret E Try.f17.results.toList ps rs
noncomputable def Se (t : api_TypeV) (enums : List api_EnumV) : R :=
  Option.bind (ref09_ValidType t enums) fun x1 =>
  cond (!x1.1)
    (some (0, (-1), ()))
    (cond (t.1 == 1)
      (some (0, 1, ()))
      (cond (t.1 == 2)
        (some ((-1000000000000), 1000000000000, ()))
        (cond (t.1 == 3)
          (some ((-1000000000000000), 1000000000000000, ()))
          (cond (t.1 == 4)
            (some ((-1000000000), 1000000000, ()))
            (cond (t.1 == 5)
              (some (0, 109572, ()))
              (Option.bind (idx enums t.2.1) fun x2 =>
              some (0, IntKind.i64.wrap ((x2.2.1.length : Int) - 1), ())))))))
theorem se (jmp : Tgt → ASt → R) (x : (argTy ps).den) : run E jmp fin depth (bodyOf Try.f17) .ret (entryFrom 0 ps x) =
    Se x.1 x.2.1 := by kernel_rfl
end ref09_Bounds
noncomputable def ref09_Bounds (t : api_TypeV) (enums : List api_EnumV) : ref09_Bounds.R :=
  ref09_Bounds.Se t enums
noncomputable def ref09_Bounds.sig : Sig := ⟨ref09_Bounds.ps, ref09_Bounds.rs, fun x => ref09_Bounds x.1 x.2.1⟩
theorem ref09_Bounds.ok : CallOK Try.prog 17 ref09_Bounds.sig :=
  callOK_of_lim (E := ref09_Bounds.E) mixed tt_ok (ctxOk_cons ctxOk_nil ref09_ValidType.ok Try.func35 (by kernel_rfl) (by kernel_rfl)) Try.func17 (by kernel_rfl : Try.f17.body = some (bodyOf Try.f17)) Try.ntmps17 (of_decide_eq_true (by kernel_rfl)) (of_decide_eq_true (by kernel_rfl))
    fun x y h => ((lim_eq (.code (bodyOf Try.f17) .ret) (entryFrom 0 ref09_Bounds.ps x)).trans (ref09_Bounds.se (lim ref09_Bounds.E ref09_Bounds.fin) x)).trans h
theorem ref09_Bounds.val (x : (argTy ref09_Bounds.ps).den) : lim ref09_Bounds.E ref09_Bounds.fin (.code (bodyOf Try.f17) .ret) (entryFrom 0 ref09_Bounds.ps x) = ref09_Bounds.sig.run x :=
  (lim_eq (.code (bodyOf Try.f17) .ret) (entryFrom 0 ref09_Bounds.ps x)).trans (ref09_Bounds.se (lim ref09_Bounds.E ref09_Bounds.fin) x)
noncomputable def ref09_Bounds.ctxc (n : Nat) : List (Nat × Sig) := [(35, ref09_ValidType.sigc n)]
noncomputable def ref09_Bounds.sigc (n : Nat) : Sig := ⟨ref09_Bounds.ps, ref09_Bounds.rs, fun x => runs (withCtx ref09_Bounds.E (ref09_Bounds.ctxc n)) ref09_Bounds.fin n (.code (bodyOf Try.f17) .ret) (entryFrom 0 ref09_Bounds.ps x)⟩
theorem ref09_Bounds.sigc_le (n : Nat) : ∀ x y, (ref09_Bounds.sigc n).run x = some y → ref09_Bounds.sig.run x = some y :=
  fun x y h => (ref09_Bounds.val x).symm.trans (runs_lim (E := ref09_Bounds.E) (c := ref09_Bounds.ctxc n) (ctxLe_cons ctxLe_nil (ref09_ValidType.sigc_le n)) h)

/-! ### guerdon/guerdonref10.ranged -/
namespace ref10_ranged
abbrev ps : List PM := [.pure api_Type, .pure api_Signature]
abbrev rs : List RM := [.pure .bool]
abbrev R : Type := Option (Bool × Unit)
noncomputable def E : Env := { tt := tt, ctx := [(79, ref10_kind.sig), (17, ref09_Bounds.sig)], nt := 62, ann := [(7, [(2, .keep), (3, .keep), (8, .keep), (9, .keep)]), (12, [(2, .keep), (8, .keep), (34, .keep)])] }
noncomputable def c0 : Code := sub [1, 1] (bodyOf Try.f53)
noncomputable def c1 : Code := sub [1, 0, 1, 0, 1] (bodyOf Try.f53)
noncomputable def c2 : Code := sub [1, 0, 1, 0, 1, 1, 1] (bodyOf Try.f53)
noncomputable def K2 : Kont := .seq c0 .ret
noncomputable def K4 : Kont := .blk 0 K2
noncomputable def fin : ASt → R := Kret E Try.f53.results.toList ps rs
def tJ0 (n_2 : api_TypeV) (s : api_SignatureV) (v_8 : Int) (v_9 : Bool) : ASt := ⟨[(9, .one (.val .bool v_9)), (8, .one (.val (.int .i64) v_8)), (3, .one (.optr 3 0 [])), (2, .one (.optr 2 0 []))], [(3, some ⟨.free, api_Signature, [s]⟩), (2, some ⟨.free, api_Type, [n_2]⟩)]⟩
def tJ1 (n_2 : api_TypeV) (v_8 : Int) (v_34 : Bool) : ASt := ⟨[(34, .one (.val .bool v_34)), (8, .one (.val (.int .i64) v_8)), (2, .one (.optr 2 0 []))], [(2, some ⟨.free, api_Type, [n_2]⟩)]⟩
noncomputable def SJ0 (kJ1 : api_TypeV → Int → Bool → R) (n_2 : api_TypeV) (s : api_SignatureV) (v_8 : Int) (v_9 : Bool) : R :=
  cond v_9
    (Option.bind (ref10_kind n_2.1) fun x1 =>
    Option.bind (ref09_Bounds x1.1 s.1) fun x2 =>
    cond (decide (n_2.2.1 ≥ x2.1))
      (some (decide (n_2.2.1 ≤ x2.2.1), ()))
      (some (false, ())))
    (cond (v_8 == 14)
      (kJ1 n_2 v_8 (v_8 == 14))
      (cond (v_8 == 15)
        (kJ1 n_2 v_8 (v_8 == 15))
        (kJ1 n_2 v_8 (v_8 == 16))))
noncomputable def SJ1 (n_2 : api_TypeV) (v_8 : Int) (v_34 : Bool) : R :=
  cond v_34
    (cond (decide (n_2.2.1 ≥ 0))
      (some (decide (n_2.2.1 ≤ 5), ()))
      (some (false, ())))
    (cond (v_8 == 34)
      (cond (decide (n_2.2.1 ≥ 0))
        (some (decide ((Int.tmod n_2.2.1 8) ≤ 5), ()))
        (some (false, ())))
      (cond (v_8 == 6)
        (some (decide (n_2.2.1 ≥ 0), ()))
        (some (true, ()))))
noncomputable def Se (kJ0 : api_TypeV → api_SignatureV → Int → Bool → R) (n_0 : api_TypeV) (s : api_SignatureV) : R :=
  cond (n_0.1 == 1)
    (kJ0 n_0 s n_0.1 (n_0.1 == 1))
    (cond (n_0.1 == 2)
      (kJ0 n_0 s n_0.1 (n_0.1 == 2))
      (cond (n_0.1 == 3)
        (kJ0 n_0 s n_0.1 (n_0.1 == 3))
        (cond (n_0.1 == 4)
          (kJ0 n_0 s n_0.1 (n_0.1 == 4))
          (kJ0 n_0 s n_0.1 (n_0.1 == 5)))))
theorem sJ0 (jmp : Tgt → ASt → R) (n_2 : api_TypeV) (s : api_SignatureV) (v_8 : Int) (v_9 : Bool) : run E jmp fin depth c1 K4 (tJ0 n_2 s v_8 v_9) =
    SJ0 (fun n_2 v_8 v_34 => jmp (.code c2 K4) (tJ1 n_2 v_8 v_34)) n_2 s v_8 v_9 := by kernel_rfl
theorem sJ1 (jmp : Tgt → ASt → R) (n_2 : api_TypeV) (v_8 : Int) (v_34 : Bool) : run E jmp fin depth c2 K4 (tJ1 n_2 v_8 v_34) =
    SJ1 n_2 v_8 v_34 := by kernel_rfl
theorem se (jmp : Tgt → ASt → R) (x : (argTy ps).den) : run E jmp fin depth (bodyOf Try.f53) .ret (entryFrom 0 ps x) =
    Se (fun n_2 s v_8 v_9 => jmp (.code c1 K4) (tJ0 n_2 s v_8 v_9)) x.1 x.2.1 := by kernel_rfl
noncomputable def J0 (n_2 : api_TypeV) (s : api_SignatureV) (v_8 : Int) (v_9 : Bool) : R := lim E fin (.code c1 K4) (tJ0 n_2 s v_8 v_9)
noncomputable def J1 (n_2 : api_TypeV) (v_8 : Int) (v_34 : Bool) : R := lim E fin (.code c2 K4) (tJ1 n_2 v_8 v_34)
theorem J0_eq (n_2 : api_TypeV) (s : api_SignatureV) (v_8 : Int) (v_9 : Bool) : J0 n_2 s v_8 v_9 = SJ0 J1 n_2 s v_8 v_9 :=
  (lim_eq (.code c1 K4) (tJ0 n_2 s v_8 v_9)).trans (sJ0 (lim E fin) n_2 s v_8 v_9)
theorem J1_eq (n_2 : api_TypeV) (v_8 : Int) (v_34 : Bool) : J1 n_2 v_8 v_34 = SJ1 n_2 v_8 v_34 :=
  (lim_eq (.code c2 K4) (tJ1 n_2 v_8 v_34)).trans (sJ1 (lim E fin) n_2 v_8 v_34)
end ref10_ranged
noncomputable def ref10_ranged (n_0 : api_TypeV) (s : api_SignatureV) : ref10_ranged.R :=
  ref10_ranged.Se ref10_ranged.J0 n_0 s
noncomputable def ref10_ranged.sig : Sig := ⟨ref10_ranged.ps, ref10_ranged.rs, fun x => ref10_ranged x.1 x.2.1⟩
theorem ref10_ranged.ok : CallOK Try.prog 53 ref10_ranged.sig :=
  callOK_of_lim (E := ref10_ranged.E) mixed tt_ok (ctxOk_cons (ctxOk_cons ctxOk_nil ref09_Bounds.ok Try.func17 (by kernel_rfl) (by kernel_rfl)) ref10_kind.ok Try.func79 (by kernel_rfl) (by kernel_rfl)) Try.func53 (by kernel_rfl : Try.f53.body = some (bodyOf Try.f53)) Try.ntmps53 (of_decide_eq_true (by kernel_rfl)) (of_decide_eq_true (by kernel_rfl))
    fun x y h => ((lim_eq (.code (bodyOf Try.f53) .ret) (entryFrom 0 ref10_ranged.ps x)).trans (ref10_ranged.se (lim ref10_ranged.E ref10_ranged.fin) x)).trans h
theorem ref10_ranged.val (x : (argTy ref10_ranged.ps).den) : lim ref10_ranged.E ref10_ranged.fin (.code (bodyOf Try.f53) .ret) (entryFrom 0 ref10_ranged.ps x) = ref10_ranged.sig.run x :=
  (lim_eq (.code (bodyOf Try.f53) .ret) (entryFrom 0 ref10_ranged.ps x)).trans (ref10_ranged.se (lim ref10_ranged.E ref10_ranged.fin) x)
noncomputable def ref10_ranged.ctxc (n : Nat) : List (Nat × Sig) := [(79, ref10_kind.sigc n), (17, ref09_Bounds.sigc n)]
noncomputable def ref10_ranged.sigc (n : Nat) : Sig := ⟨ref10_ranged.ps, ref10_ranged.rs, fun x => runs (withCtx ref10_ranged.E (ref10_ranged.ctxc n)) ref10_ranged.fin n (.code (bodyOf Try.f53) .ret) (entryFrom 0 ref10_ranged.ps x)⟩
theorem ref10_ranged.sigc_le (n : Nat) : ∀ x y, (ref10_ranged.sigc n).run x = some y → ref10_ranged.sig.run x = some y :=
  fun x y h => (ref10_ranged.val x).symm.trans (runs_lim (E := ref10_ranged.E) (c := ref10_ranged.ctxc n) (ctxLe_cons (ctxLe_cons ctxLe_nil (ref09_Bounds.sigc_le n)) (ref10_kind.sigc_le n)) h)

/-! ### guerdon/guerdonref10.found -/
namespace ref10_found
abbrev ps : List PM := [.pure api_Type, .pure api_Signature]
abbrev rs : List RM := [.pure .bool]
abbrev R : Type := Option (Bool × Unit)
noncomputable def E : Env := { tt := tt, ctx := [], nt := 103, ann := [(18, [(2, .keep), (3, .keep), (83, .keep)])] }
noncomputable def c0 : Code := sub [1, 1] (bodyOf Try.f54)
noncomputable def c1 : Code := sub [1, 0, 1, 0, 1, 1, 1, 1, 1, 1, 1, 1, 1, 1, 1, 1, 1] (bodyOf Try.f54)
noncomputable def K2 : Kont := .seq c0 .ret
noncomputable def K4 : Kont := .blk 0 K2
noncomputable def fin : ASt → R := Kret E Try.f54.results.toList ps rs
def tJ0 (n_2 : api_TypeV) (s : api_SignatureV) (v_83 : Bool) : ASt := ⟨[(83, .one (.val .bool v_83)), (3, .one (.optr 3 0 [])), (2, .one (.optr 2 0 []))], [(3, some ⟨.free, api_Signature, [s]⟩), (2, some ⟨.free, api_Type, [n_2]⟩)]⟩
noncomputable def SJ0 (n_2 : api_TypeV) (s : api_SignatureV) (v_83 : Bool) : R :=
  cond v_83
    (cond s.2.2.2.2.2.1
      (cond (decide (n_2.2.1 ≥ 0))
        (some (decide (n_2.2.1 < (s.2.2.2.2.1.length : Int)), ()))
        (some (false, ())))
      (some (false, ())))
    (some (true, ()))
noncomputable def Se (kJ0 : api_TypeV → api_SignatureV → Bool → R) (n_0 : api_TypeV) (s : api_SignatureV) : R :=
  cond (n_0.1 == 6)
    (cond (decide ((IntKind.i64.wrap (Int.tdiv n_0.2.1 16)) < (s.1.length : Int)))
      (Option.bind (idx s.1 (IntKind.i64.wrap (Int.tdiv n_0.2.1 16))) fun x1 =>
      some (decide ((Int.tmod n_0.2.1 16) < (x1.2.1.length : Int)), ()))
      (some (false, ())))
    (cond (n_0.1 == 7)
      (cond (decide (n_0.2.1 ≥ 0))
        (some (decide (n_0.2.1 < (s.2.2.1.length : Int)), ()))
        (some (false, ())))
      (cond (n_0.1 == 8)
        (cond (decide (n_0.2.1 ≥ 0))
          (some (decide (n_0.2.1 < (s.2.2.2.1.length : Int)), ()))
          (some (false, ())))
        (cond (n_0.1 == 33)
          (cond (decide (n_0.2.1 ≥ 0))
            (some (decide (n_0.2.1 < (s.2.1.length : Int)), ()))
            (some (false, ())))
          (cond (n_0.1 == 34)
            (some (decide ((IntKind.i64.wrap (Int.tdiv n_0.2.1 8)) < (s.2.1.length : Int)), ()))
            (cond (n_0.1 == 35)
              (some (s.2.2.2.2.2.1, ()))
              (cond (n_0.1 == 36)
                (kJ0 n_0 s (n_0.1 == 36))
                (cond (n_0.1 == 37)
                  (kJ0 n_0 s (n_0.1 == 37))
                  (cond (n_0.1 == 38)
                    (kJ0 n_0 s (n_0.1 == 38))
                    (kJ0 n_0 s (n_0.1 == 39))))))))))
theorem sJ0 (jmp : Tgt → ASt → R) (n_2 : api_TypeV) (s : api_SignatureV) (v_83 : Bool) : run E jmp fin depth c1 K4 (tJ0 n_2 s v_83) =
    SJ0 n_2 s v_83 := by kernel_rfl
theorem se (jmp : Tgt → ASt → R) (x : (argTy ps).den) : run E jmp fin depth (bodyOf Try.f54) .ret (entryFrom 0 ps x) =
    Se (fun n_2 s v_83 => jmp (.code c1 K4) (tJ0 n_2 s v_83)) x.1 x.2.1 := by kernel_rfl
noncomputable def J0 (n_2 : api_TypeV) (s : api_SignatureV) (v_83 : Bool) : R := lim E fin (.code c1 K4) (tJ0 n_2 s v_83)
theorem J0_eq (n_2 : api_TypeV) (s : api_SignatureV) (v_83 : Bool) : J0 n_2 s v_83 = SJ0 n_2 s v_83 :=
  (lim_eq (.code c1 K4) (tJ0 n_2 s v_83)).trans (sJ0 (lim E fin) n_2 s v_83)
end ref10_found
noncomputable def ref10_found (n_0 : api_TypeV) (s : api_SignatureV) : ref10_found.R :=
  ref10_found.Se ref10_found.J0 n_0 s
noncomputable def ref10_found.sig : Sig := ⟨ref10_found.ps, ref10_found.rs, fun x => ref10_found x.1 x.2.1⟩
theorem ref10_found.ok : CallOK Try.prog 54 ref10_found.sig :=
  callOK_of_lim (E := ref10_found.E) mixed tt_ok ctxOk_nil Try.func54 (by kernel_rfl : Try.f54.body = some (bodyOf Try.f54)) Try.ntmps54 (of_decide_eq_true (by kernel_rfl)) (of_decide_eq_true (by kernel_rfl))
    fun x y h => ((lim_eq (.code (bodyOf Try.f54) .ret) (entryFrom 0 ref10_found.ps x)).trans (ref10_found.se (lim ref10_found.E ref10_found.fin) x)).trans h
theorem ref10_found.val (x : (argTy ref10_found.ps).den) : lim ref10_found.E ref10_found.fin (.code (bodyOf Try.f54) .ret) (entryFrom 0 ref10_found.ps x) = ref10_found.sig.run x :=
  (lim_eq (.code (bodyOf Try.f54) .ret) (entryFrom 0 ref10_found.ps x)).trans (ref10_found.se (lim ref10_found.E ref10_found.fin) x)
noncomputable def ref10_found.ctxc (n : Nat) : List (Nat × Sig) := []
noncomputable def ref10_found.sigc (n : Nat) : Sig := ⟨ref10_found.ps, ref10_found.rs, fun x => runs (withCtx ref10_found.E (ref10_found.ctxc n)) ref10_found.fin n (.code (bodyOf Try.f54) .ret) (entryFrom 0 ref10_found.ps x)⟩
theorem ref10_found.sigc_le (n : Nat) : ∀ x y, (ref10_found.sigc n).run x = some y → ref10_found.sig.run x = some y :=
  fun x y h => (ref10_found.val x).symm.trans (runs_lim (E := ref10_found.E) (c := ref10_found.ctxc n) ctxLe_nil h)

/-! ### guerdon/guerdonref10.number -/
namespace ref10_number
abbrev ps : List PM := [.pure (.int .i64)]
abbrev rs : List RM := [.pure .bool]
abbrev R : Type := Option (Bool × Unit)
noncomputable def E : Env := { tt := tt, ctx := [], nt := 13, ann := [] }
noncomputable def fin : ASt → R := Kret E Try.f81.results.toList ps rs
noncomputable def Se (k : Int) : R :=
  cond (k == 2)
    (some (true, ()))
    (cond (k == 3)
      (some (true, ()))
      (some ((k == 4), ())))
theorem se (jmp : Tgt → ASt → R) (x : (argTy ps).den) : run E jmp fin depth (bodyOf Try.f81) .ret (entryFrom 0 ps x) =
    Se x.1 := by kernel_rfl
end ref10_number
noncomputable def ref10_number (k : Int) : ref10_number.R :=
  ref10_number.Se k
noncomputable def ref10_number.sig : Sig := ⟨ref10_number.ps, ref10_number.rs, fun x => ref10_number x.1⟩
theorem ref10_number.ok : CallOK Try.prog 81 ref10_number.sig :=
  callOK_of_lim (E := ref10_number.E) mixed tt_ok ctxOk_nil Try.func81 (by kernel_rfl : Try.f81.body = some (bodyOf Try.f81)) Try.ntmps81 (of_decide_eq_true (by kernel_rfl)) (of_decide_eq_true (by kernel_rfl))
    fun x y h => ((lim_eq (.code (bodyOf Try.f81) .ret) (entryFrom 0 ref10_number.ps x)).trans (ref10_number.se (lim ref10_number.E ref10_number.fin) x)).trans h
theorem ref10_number.val (x : (argTy ref10_number.ps).den) : lim ref10_number.E ref10_number.fin (.code (bodyOf Try.f81) .ret) (entryFrom 0 ref10_number.ps x) = ref10_number.sig.run x :=
  (lim_eq (.code (bodyOf Try.f81) .ret) (entryFrom 0 ref10_number.ps x)).trans (ref10_number.se (lim ref10_number.E ref10_number.fin) x)
noncomputable def ref10_number.ctxc (n : Nat) : List (Nat × Sig) := []
noncomputable def ref10_number.sigc (n : Nat) : Sig := ⟨ref10_number.ps, ref10_number.rs, fun x => runs (withCtx ref10_number.E (ref10_number.ctxc n)) ref10_number.fin n (.code (bodyOf Try.f81) .ret) (entryFrom 0 ref10_number.ps x)⟩
theorem ref10_number.sigc_le (n : Nat) : ∀ x y, (ref10_number.sigc n).run x = some y → ref10_number.sig.run x = some y :=
  fun x y h => (ref10_number.val x).symm.trans (runs_lim (E := ref10_number.E) (c := ref10_number.ctxc n) ctxLe_nil h)

/-! ### guerdon/guerdonref10.ordered -/
namespace ref10_ordered
abbrev ps : List PM := [.pure (.int .i64)]
abbrev rs : List RM := [.pure .bool]
abbrev R : Type := Option (Bool × Unit)
noncomputable def E : Env := { tt := tt, ctx := [(81, ref10_number.sig)], nt := 9, ann := [] }
noncomputable def fin : ASt → R := Kret E Try.f80.results.toList ps rs
noncomputable def Se (k : Int) : R :=
  Option.bind (ref10_number k) fun x1 =>
  cond x1.1
    (some (true, ()))
    (some ((k == 5), ()))
theorem se (jmp : Tgt → ASt → R) (x : (argTy ps).den) : run E jmp fin depth (bodyOf Try.f80) .ret (entryFrom 0 ps x) =
    Se x.1 := by kernel_rfl
end ref10_ordered
noncomputable def ref10_ordered (k : Int) : ref10_ordered.R :=
  ref10_ordered.Se k
noncomputable def ref10_ordered.sig : Sig := ⟨ref10_ordered.ps, ref10_ordered.rs, fun x => ref10_ordered x.1⟩
theorem ref10_ordered.ok : CallOK Try.prog 80 ref10_ordered.sig :=
  callOK_of_lim (E := ref10_ordered.E) mixed tt_ok (ctxOk_cons ctxOk_nil ref10_number.ok Try.func81 (by kernel_rfl) (by kernel_rfl)) Try.func80 (by kernel_rfl : Try.f80.body = some (bodyOf Try.f80)) Try.ntmps80 (of_decide_eq_true (by kernel_rfl)) (of_decide_eq_true (by kernel_rfl))
    fun x y h => ((lim_eq (.code (bodyOf Try.f80) .ret) (entryFrom 0 ref10_ordered.ps x)).trans (ref10_ordered.se (lim ref10_ordered.E ref10_ordered.fin) x)).trans h
theorem ref10_ordered.val (x : (argTy ref10_ordered.ps).den) : lim ref10_ordered.E ref10_ordered.fin (.code (bodyOf Try.f80) .ret) (entryFrom 0 ref10_ordered.ps x) = ref10_ordered.sig.run x :=
  (lim_eq (.code (bodyOf Try.f80) .ret) (entryFrom 0 ref10_ordered.ps x)).trans (ref10_ordered.se (lim ref10_ordered.E ref10_ordered.fin) x)
noncomputable def ref10_ordered.ctxc (n : Nat) : List (Nat × Sig) := [(81, ref10_number.sigc n)]
noncomputable def ref10_ordered.sigc (n : Nat) : Sig := ⟨ref10_ordered.ps, ref10_ordered.rs, fun x => runs (withCtx ref10_ordered.E (ref10_ordered.ctxc n)) ref10_ordered.fin n (.code (bodyOf Try.f80) .ret) (entryFrom 0 ref10_ordered.ps x)⟩
theorem ref10_ordered.sigc_le (n : Nat) : ∀ x y, (ref10_ordered.sigc n).run x = some y → ref10_ordered.sig.run x = some y :=
  fun x y h => (ref10_ordered.val x).symm.trans (runs_lim (E := ref10_ordered.E) (c := ref10_ordered.ctxc n) (ctxLe_cons ctxLe_nil (ref10_number.sigc_le n)) h)

/-! ### guerdon/guerdonref10.leaf -/
namespace ref10_leaf
abbrev ps : List PM := [.pure api_Type, .pure api_Signature]
abbrev rs : List RM := [.pure api_Type, .pure .bool]
abbrev R : Type := Option (api_TypeV × Bool × Unit)
noncomputable def E : Env := { tt := tt, ctx := [(79, ref10_kind.sig), (35, ref09_ValidType.sig), (80, ref10_ordered.sig)], nt := 91, ann := [(19, [(2, .keep), (3, .keep), (4, .keep), (6, .keep)]), (18, [(2, .keep), (3, .keep), (4, .keep), (6, .keep), (42, .keep)]), (25, [(4, .keep), (6, .keep), (7, .keep), (58, .keep), (72, .keep)])] }
noncomputable def c0 : Code := sub [1, 1, 1] (bodyOf Try.f55)
noncomputable def c1 : Code := sub [1, 1, 1, 1, 1] (bodyOf Try.f55)
noncomputable def c2 : Code := sub [1, 1, 0, 1, 0, 1, 1, 1, 1, 1, 1, 1, 1, 1, 1, 1] (bodyOf Try.f55)
noncomputable def c3 : Code := sub [1, 1, 1, 1, 0, 1, 0, 1, 1, 1] (bodyOf Try.f55)
noncomputable def K3 : Kont := .seq c0 .ret
noncomputable def K5 : Kont := .blk 0 K3
noncomputable def K16 : Kont := .seq c1 .ret
noncomputable def K18 : Kont := .blk 1 K16
noncomputable def fin : ASt → R := Kret E Try.f55.results.toList ps rs
def tJ0 (n_2 : api_TypeV) (s : api_SignatureV) (v_4 : api_TypeV) (t : api_TypeV) : ASt := ⟨[(6, .one (.optr 6 0 [])), (4, .one (.optr 4 0 [])), (3, .one (.optr 3 0 [])), (2, .one (.optr 2 0 []))], [(6, some ⟨.free, api_Type, [t]⟩), (4, some ⟨.free, api_Type, [v_4]⟩), (3, some ⟨.free, api_Signature, [s]⟩), (2, some ⟨.free, api_Type, [n_2]⟩)]⟩
def tJ1 (n_2 : api_TypeV) (s : api_SignatureV) (v_4 : api_TypeV) (t : api_TypeV) (v_42 : Bool) : ASt := ⟨[(42, .one (.val .bool v_42)), (6, .one (.optr 6 0 [])), (4, .one (.optr 4 0 [])), (3, .one (.optr 3 0 [])), (2, .one (.optr 2 0 []))], [(6, some ⟨.free, api_Type, [t]⟩), (4, some ⟨.free, api_Type, [v_4]⟩), (3, some ⟨.free, api_Signature, [s]⟩), (2, some ⟨.free, api_Type, [n_2]⟩)]⟩
def tJ2 (v_4 : api_TypeV) (t : api_TypeV) (ok : Bool) (v_58 : Int) (v_72 : Bool) : ASt := ⟨[(72, .one (.val .bool v_72)), (58, .one (.val (.int .i64) v_58)), (7, .one (.val .bool ok)), (6, .one (.optr 6 0 [])), (4, .one (.optr 4 0 []))], [(6, some ⟨.free, api_Type, [t]⟩), (4, some ⟨.free, api_Type, [v_4]⟩)]⟩
noncomputable def SJ0 (kJ2 : api_TypeV → api_TypeV → Bool → Int → Bool → R) (n_2 : api_TypeV) (s : api_SignatureV) (v_4 : api_TypeV) (t : api_TypeV) : R :=
  Option.bind (ref09_ValidType t s.1) fun x1 =>
  cond (n_2.1 == 36)
    (cond x1.1
      (cond (t.1 == 2)
        (some (t, true, ()))
        (some (t, (t.1 == 3), ())))
      (some (t, false, ())))
    (cond (n_2.1 == 37)
      (kJ2 v_4 t x1.1 n_2.1 (n_2.1 == 37))
      (kJ2 v_4 t x1.1 n_2.1 (n_2.1 == 38)))
noncomputable def SJ1 (kJ0 : api_TypeV → api_SignatureV → api_TypeV → api_TypeV → R) (n_2 : api_TypeV) (s : api_SignatureV) (v_4 : api_TypeV) (t : api_TypeV) (v_42 : Bool) : R :=
  cond v_42
    (Option.bind (idx s.2.2.2.2.1 n_2.2.1) fun x1 =>
    kJ0 n_2 s v_4 x1)
    (Option.bind (ref10_kind n_2.1) fun x2 =>
    kJ0 n_2 s v_4 x2.1)
noncomputable def SJ2 (v_4 : api_TypeV) (t : api_TypeV) (ok : Bool) (v_58 : Int) (v_72 : Bool) : R :=
  cond v_72
    (cond ok
      (some (t, (t.1 == 1), ()))
      (some (t, false, ())))
    (cond (v_58 == 39)
      (cond ok
        (Option.bind (ref10_ordered t.1) fun x1 =>
        some (t, x1.1, ()))
        (some (t, false, ())))
      (some (t, ok, ())))
noncomputable def Se (kJ0 : api_TypeV → api_SignatureV → api_TypeV → api_TypeV → R) (kJ1 : api_TypeV → api_SignatureV → api_TypeV → api_TypeV → Bool → R) (n_0 : api_TypeV) (s : api_SignatureV) : R :=
  cond (n_0.1 == 6)
    (kJ0 n_0 s (0, 0, ()) (6, IntKind.i64.wrap (Int.tdiv n_0.2.1 16), ()))
    (cond (n_0.1 == 7)
      (Option.bind (idx s.2.2.1 n_0.2.1) fun x1 =>
      kJ0 n_0 s (0, 0, ()) x1)
      (cond (n_0.1 == 8)
        (Option.bind (idx s.2.2.2.1 n_0.2.1) fun x2 =>
        kJ0 n_0 s (0, 0, ()) x2)
        (cond (n_0.1 == 9)
          (Option.bind (ref10_kind 5) fun x3 =>
          kJ0 n_0 s (0, 0, ()) x3.1)
          (cond (n_0.1 == 35)
            (Option.bind (ref10_kind 2) fun x4 =>
            kJ0 n_0 s (0, 0, ()) x4.1)
            (cond (n_0.1 == 36)
              (kJ1 n_0 s (0, 0, ()) (0, 0, ()) (n_0.1 == 36))
              (cond (n_0.1 == 37)
                (kJ1 n_0 s (0, 0, ()) (0, 0, ()) (n_0.1 == 37))
                (cond (n_0.1 == 38)
                  (kJ1 n_0 s (0, 0, ()) (0, 0, ()) (n_0.1 == 38))
                  (kJ1 n_0 s (0, 0, ()) (0, 0, ()) (n_0.1 == 39)))))))))
theorem sJ0 (jmp : Tgt → ASt → R) (n_2 : api_TypeV) (s : api_SignatureV) (v_4 : api_TypeV) (t : api_TypeV) : run E jmp fin depth c0 .ret (tJ0 n_2 s v_4 t) =
    SJ0 (fun v_4 t ok v_58 v_72 => jmp (.code c3 K18) (tJ2 v_4 t ok v_58 v_72)) n_2 s v_4 t := by kernel_rfl
theorem sJ1 (jmp : Tgt → ASt → R) (n_2 : api_TypeV) (s : api_SignatureV) (v_4 : api_TypeV) (t : api_TypeV) (v_42 : Bool) : run E jmp fin depth c2 K5 (tJ1 n_2 s v_4 t v_42) =
    SJ1 (fun n_2 s v_4 t => jmp (.code c0 .ret) (tJ0 n_2 s v_4 t)) n_2 s v_4 t v_42 := by kernel_rfl
theorem sJ2 (jmp : Tgt → ASt → R) (v_4 : api_TypeV) (t : api_TypeV) (ok : Bool) (v_58 : Int) (v_72 : Bool) : run E jmp fin depth c3 K18 (tJ2 v_4 t ok v_58 v_72) =
    SJ2 v_4 t ok v_58 v_72 := by kernel_rfl
theorem se (jmp : Tgt → ASt → R) (x : (argTy ps).den) : run E jmp fin depth (bodyOf Try.f55) .ret (entryFrom 0 ps x) =
    Se (fun n_2 s v_4 t => jmp (.code c0 .ret) (tJ0 n_2 s v_4 t)) (fun n_2 s v_4 t v_42 => jmp (.code c2 K5) (tJ1 n_2 s v_4 t v_42)) x.1 x.2.1 := by kernel_rfl
noncomputable def J0 (n_2 : api_TypeV) (s : api_SignatureV) (v_4 : api_TypeV) (t : api_TypeV) : R := lim E fin (.code c0 .ret) (tJ0 n_2 s v_4 t)
noncomputable def J1 (n_2 : api_TypeV) (s : api_SignatureV) (v_4 : api_TypeV) (t : api_TypeV) (v_42 : Bool) : R := lim E fin (.code c2 K5) (tJ1 n_2 s v_4 t v_42)
noncomputable def J2 (v_4 : api_TypeV) (t : api_TypeV) (ok : Bool) (v_58 : Int) (v_72 : Bool) : R := lim E fin (.code c3 K18) (tJ2 v_4 t ok v_58 v_72)
theorem J0_eq (n_2 : api_TypeV) (s : api_SignatureV) (v_4 : api_TypeV) (t : api_TypeV) : J0 n_2 s v_4 t = SJ0 J2 n_2 s v_4 t :=
  (lim_eq (.code c0 .ret) (tJ0 n_2 s v_4 t)).trans (sJ0 (lim E fin) n_2 s v_4 t)
theorem J1_eq (n_2 : api_TypeV) (s : api_SignatureV) (v_4 : api_TypeV) (t : api_TypeV) (v_42 : Bool) : J1 n_2 s v_4 t v_42 = SJ1 J0 n_2 s v_4 t v_42 :=
  (lim_eq (.code c2 K5) (tJ1 n_2 s v_4 t v_42)).trans (sJ1 (lim E fin) n_2 s v_4 t v_42)
theorem J2_eq (v_4 : api_TypeV) (t : api_TypeV) (ok : Bool) (v_58 : Int) (v_72 : Bool) : J2 v_4 t ok v_58 v_72 = SJ2 v_4 t ok v_58 v_72 :=
  (lim_eq (.code c3 K18) (tJ2 v_4 t ok v_58 v_72)).trans (sJ2 (lim E fin) v_4 t ok v_58 v_72)
end ref10_leaf
noncomputable def ref10_leaf (n_0 : api_TypeV) (s : api_SignatureV) : ref10_leaf.R :=
  ref10_leaf.Se ref10_leaf.J0 ref10_leaf.J1 n_0 s
noncomputable def ref10_leaf.sig : Sig := ⟨ref10_leaf.ps, ref10_leaf.rs, fun x => ref10_leaf x.1 x.2.1⟩
theorem ref10_leaf.ok : CallOK Try.prog 55 ref10_leaf.sig :=
  callOK_of_lim (E := ref10_leaf.E) mixed tt_ok (ctxOk_cons (ctxOk_cons (ctxOk_cons ctxOk_nil ref10_ordered.ok Try.func80 (by kernel_rfl) (by kernel_rfl)) ref09_ValidType.ok Try.func35 (by kernel_rfl) (by kernel_rfl)) ref10_kind.ok Try.func79 (by kernel_rfl) (by kernel_rfl)) Try.func55 (by kernel_rfl : Try.f55.body = some (bodyOf Try.f55)) Try.ntmps55 (of_decide_eq_true (by kernel_rfl)) (of_decide_eq_true (by kernel_rfl))
    fun x y h => ((lim_eq (.code (bodyOf Try.f55) .ret) (entryFrom 0 ref10_leaf.ps x)).trans (ref10_leaf.se (lim ref10_leaf.E ref10_leaf.fin) x)).trans h
theorem ref10_leaf.val (x : (argTy ref10_leaf.ps).den) : lim ref10_leaf.E ref10_leaf.fin (.code (bodyOf Try.f55) .ret) (entryFrom 0 ref10_leaf.ps x) = ref10_leaf.sig.run x :=
  (lim_eq (.code (bodyOf Try.f55) .ret) (entryFrom 0 ref10_leaf.ps x)).trans (ref10_leaf.se (lim ref10_leaf.E ref10_leaf.fin) x)
noncomputable def ref10_leaf.ctxc (n : Nat) : List (Nat × Sig) := [(79, ref10_kind.sigc n), (35, ref09_ValidType.sigc n), (80, ref10_ordered.sigc n)]
noncomputable def ref10_leaf.sigc (n : Nat) : Sig := ⟨ref10_leaf.ps, ref10_leaf.rs, fun x => runs (withCtx ref10_leaf.E (ref10_leaf.ctxc n)) ref10_leaf.fin n (.code (bodyOf Try.f55) .ret) (entryFrom 0 ref10_leaf.ps x)⟩
theorem ref10_leaf.sigc_le (n : Nat) : ∀ x y, (ref10_leaf.sigc n).run x = some y → ref10_leaf.sig.run x = some y :=
  fun x y h => (ref10_leaf.val x).symm.trans (runs_lim (E := ref10_leaf.E) (c := ref10_leaf.ctxc n) (ctxLe_cons (ctxLe_cons (ctxLe_cons ctxLe_nil (ref10_ordered.sigc_le n)) (ref09_ValidType.sigc_le n)) (ref10_kind.sigc_le n)) h)

/-! ### guerdon/guerdonref10.single -/
namespace ref10_single
abbrev ps : List PM := [.pure api_Type, .pure api_Type, .pure api_Signature]
abbrev rs : List RM := [.pure api_Type, .pure .bool]
abbrev R : Type := Option (api_TypeV × Bool × Unit)
noncomputable def E : Env := { tt := tt, ctx := [(81, ref10_number.sig), (79, ref10_kind.sig), (35, ref09_ValidType.sig)], nt := 82, ann := [(8, [(3, .keep), (4, .keep), (5, .keep), (6, .keep), (11, .keep), (24, .keep)])] }
noncomputable def c0 : Code := sub [1, 1] (bodyOf Try.f56)
noncomputable def c1 : Code := sub [1, 0, 1, 0, 1, 1, 1, 1, 1] (bodyOf Try.f56)
noncomputable def K2 : Kont := .seq c0 .ret
noncomputable def K4 : Kont := .blk 0 K2
noncomputable def fin : ASt → R := Kret E Try.f56.results.toList ps rs
def tJ0 (n_3 : api_TypeV) (a : api_TypeV) (s : api_SignatureV) (v_6 : api_TypeV) (v_11 : Int) (v_24 : Bool) : ASt := ⟨[(24, .one (.val .bool v_24)), (11, .one (.val (.int .i64) v_11)), (6, .one (.optr 6 0 [])), (5, .one (.optr 5 0 [])), (4, .one (.optr 4 0 [])), (3, .one (.optr 3 0 []))], [(6, some ⟨.free, api_Type, [v_6]⟩), (5, some ⟨.free, api_Signature, [s]⟩), (4, some ⟨.free, api_Type, [a]⟩), (3, some ⟨.free, api_Type, [n_3]⟩)]⟩
noncomputable def SJ0 (n_3 : api_TypeV) (a : api_TypeV) (s : api_SignatureV) (v_6 : api_TypeV) (v_11 : Int) (v_24 : Bool) : R :=
  cond v_24
    (Option.bind (ref10_kind 2) fun x1 =>
    some (x1.1, (a.1 == 5), ()))
    (cond (v_11 == 33)
      (Option.bind (idx s.2.1 n_3.2.1) fun x2 =>
      Option.bind (ref09_ValidType x2.2.1 s.1) fun x3 =>
      cond x3.1
        (Option.bind (ref09_ValidType x2.2.2.1 s.1) fun x4 =>
        cond x4.1
          (some (x2.2.2.1, eqTy (.pair (.int .i64) (.pair (.int .i64) .unit)) a x2.2.1, ()))
          (some (x2.2.2.1, false, ())))
        (some (x2.2.2.1, false, ())))
      (Option.bind (idx s.2.1 (IntKind.i64.wrap (Int.tdiv n_3.2.1 8))) fun x5 =>
      cond (a.1 == 3)
        (Option.bind (ref10_kind 3) fun x6 =>
        cond (eqTy (.pair (.int .i64) (.pair (.int .i64) .unit)) x5.2.1 x6.1)
          (Option.bind (ref10_kind 4) fun x7 =>
          some (a, eqTy (.pair (.int .i64) (.pair (.int .i64) .unit)) x5.2.2.1 x7.1, ()))
          (some (a, false, ())))
        (some (a, false, ()))))
noncomputable def Se (kJ0 : api_TypeV → api_TypeV → api_SignatureV → api_TypeV → Int → Bool → R) (n_0 : api_TypeV) (a : api_TypeV) (s : api_SignatureV) : R :=
  cond (n_0.1 == 10)
    (Option.bind (ref10_number a.1) fun x1 =>
    some (a, x1.1, ()))
    (cond (n_0.1 == 25)
      (some (a, (a.1 == 1), ()))
      (cond (n_0.1 == 31)
        (kJ0 n_0 a s (0, 0, ()) n_0.1 (n_0.1 == 31))
        (kJ0 n_0 a s (0, 0, ()) n_0.1 (n_0.1 == 32))))
theorem sJ0 (jmp : Tgt → ASt → R) (n_3 : api_TypeV) (a : api_TypeV) (s : api_SignatureV) (v_6 : api_TypeV) (v_11 : Int) (v_24 : Bool) : run E jmp fin depth c1 K4 (tJ0 n_3 a s v_6 v_11 v_24) =
    SJ0 n_3 a s v_6 v_11 v_24 := by kernel_rfl
theorem se (jmp : Tgt → ASt → R) (x : (argTy ps).den) : run E jmp fin depth (bodyOf Try.f56) .ret (entryFrom 0 ps x) =
    Se (fun n_3 a s v_6 v_11 v_24 => jmp (.code c1 K4) (tJ0 n_3 a s v_6 v_11 v_24)) x.1 x.2.1 x.2.2.1 := by kernel_rfl
noncomputable def J0 (n_3 : api_TypeV) (a : api_TypeV) (s : api_SignatureV) (v_6 : api_TypeV) (v_11 : Int) (v_24 : Bool) : R := lim E fin (.code c1 K4) (tJ0 n_3 a s v_6 v_11 v_24)
theorem J0_eq (n_3 : api_TypeV) (a : api_TypeV) (s : api_SignatureV) (v_6 : api_TypeV) (v_11 : Int) (v_24 : Bool) : J0 n_3 a s v_6 v_11 v_24 = SJ0 n_3 a s v_6 v_11 v_24 :=
  (lim_eq (.code c1 K4) (tJ0 n_3 a s v_6 v_11 v_24)).trans (sJ0 (lim E fin) n_3 a s v_6 v_11 v_24)
end ref10_single
noncomputable def ref10_single (n_0 : api_TypeV) (a : api_TypeV) (s : api_SignatureV) : ref10_single.R :=
  ref10_single.Se ref10_single.J0 n_0 a s
noncomputable def ref10_single.sig : Sig := ⟨ref10_single.ps, ref10_single.rs, fun x => ref10_single x.1 x.2.1 x.2.2.1⟩
theorem ref10_single.ok : CallOK Try.prog 56 ref10_single.sig :=
  callOK_of_lim (E := ref10_single.E) mixed tt_ok (ctxOk_cons (ctxOk_cons (ctxOk_cons ctxOk_nil ref09_ValidType.ok Try.func35 (by kernel_rfl) (by kernel_rfl)) ref10_kind.ok Try.func79 (by kernel_rfl) (by kernel_rfl)) ref10_number.ok Try.func81 (by kernel_rfl) (by kernel_rfl)) Try.func56 (by kernel_rfl : Try.f56.body = some (bodyOf Try.f56)) Try.ntmps56 (of_decide_eq_true (by kernel_rfl)) (of_decide_eq_true (by kernel_rfl))
    fun x y h => ((lim_eq (.code (bodyOf Try.f56) .ret) (entryFrom 0 ref10_single.ps x)).trans (ref10_single.se (lim ref10_single.E ref10_single.fin) x)).trans h
theorem ref10_single.val (x : (argTy ref10_single.ps).den) : lim ref10_single.E ref10_single.fin (.code (bodyOf Try.f56) .ret) (entryFrom 0 ref10_single.ps x) = ref10_single.sig.run x :=
  (lim_eq (.code (bodyOf Try.f56) .ret) (entryFrom 0 ref10_single.ps x)).trans (ref10_single.se (lim ref10_single.E ref10_single.fin) x)
noncomputable def ref10_single.ctxc (n : Nat) : List (Nat × Sig) := [(81, ref10_number.sigc n), (79, ref10_kind.sigc n), (35, ref09_ValidType.sigc n)]
noncomputable def ref10_single.sigc (n : Nat) : Sig := ⟨ref10_single.ps, ref10_single.rs, fun x => runs (withCtx ref10_single.E (ref10_single.ctxc n)) ref10_single.fin n (.code (bodyOf Try.f56) .ret) (entryFrom 0 ref10_single.ps x)⟩
theorem ref10_single.sigc_le (n : Nat) : ∀ x y, (ref10_single.sigc n).run x = some y → ref10_single.sig.run x = some y :=
  fun x y h => (ref10_single.val x).symm.trans (runs_lim (E := ref10_single.E) (c := ref10_single.ctxc n) (ctxLe_cons (ctxLe_cons (ctxLe_cons ctxLe_nil (ref09_ValidType.sigc_le n)) (ref10_kind.sigc_le n)) (ref10_number.sigc_le n)) h)

/-! ### guerdon/guerdonref10.scaled -/
namespace ref10_scaled
abbrev ps : List PM := [.pure (.int .i64), .pure (.int .i64), .pure (.int .i64)]
abbrev rs : List RM := [.pure api_Type, .pure .bool]
abbrev R : Type := Option (api_TypeV × Bool × Unit)
noncomputable def E : Env := { tt := tt, ctx := [(79, ref10_kind.sig)], nt := 56, ann := [(8, [(1, .keep), (2, .keep), (6, .keep)])] }
noncomputable def c0 : Code := sub [1, 1, 1] (bodyOf Try.f82)
noncomputable def fin : ASt → R := Kret E Try.f82.results.toList ps rs
def tJ0 (a : Int) (b : Int) (v_6 : api_TypeV) : ASt := ⟨[(6, .one (.optr 6 0 [])), (2, .one (.val (.int .i64) b)), (1, .one (.val (.int .i64) a))], [(6, some ⟨.free, api_Type, [v_6]⟩)]⟩
noncomputable def SJ0 (a : Int) (b : Int) (v_6 : api_TypeV) : R :=
  Option.bind (ref10_kind a) fun x1 =>
  cond (b == 2)
    (cond (a == 2)
      (some (x1.1, true, ()))
      (some (x1.1, (a == 3), ())))
    (some (x1.1, false, ()))
noncomputable def Se (kJ0 : Int → Int → api_TypeV → R) (op : Int) (a : Int) (b : Int) : R :=
  cond (op == 13)
    (Option.bind (ref10_kind a) fun x1 =>
    cond (b == 2)
      (cond (a == 2)
        (some (x1.1, true, ()))
        (some (x1.1, (a == 3), ())))
      (some (x1.1, false, ())))
    (cond (op == 14)
      (Option.bind (ref10_kind a) fun x2 =>
      cond (b == 4)
        (cond (a == 3)
          (some (x2.1, true, ()))
          (some (x2.1, (a == 4), ())))
        (some (x2.1, false, ())))
      (cond (a == 3)
        (cond (b == 3)
          (Option.bind (ref10_kind 4) fun x3 =>
          some (x3.1, true, ()))
          (kJ0 a b (0, 0, ())))
        (kJ0 a b (0, 0, ()))))
theorem sJ0 (jmp : Tgt → ASt → R) (a : Int) (b : Int) (v_6 : api_TypeV) : run E jmp fin depth c0 .ret (tJ0 a b v_6) =
    SJ0 a b v_6 := by kernel_rfl
theorem se (jmp : Tgt → ASt → R) (x : (argTy ps).den) : run E jmp fin depth (bodyOf Try.f82) .ret (entryFrom 0 ps x) =
    Se (fun a b v_6 => jmp (.code c0 .ret) (tJ0 a b v_6)) x.1 x.2.1 x.2.2.1 := by kernel_rfl
noncomputable def J0 (a : Int) (b : Int) (v_6 : api_TypeV) : R := lim E fin (.code c0 .ret) (tJ0 a b v_6)
theorem J0_eq (a : Int) (b : Int) (v_6 : api_TypeV) : J0 a b v_6 = SJ0 a b v_6 :=
  (lim_eq (.code c0 .ret) (tJ0 a b v_6)).trans (sJ0 (lim E fin) a b v_6)
end ref10_scaled
noncomputable def ref10_scaled (op : Int) (a : Int) (b : Int) : ref10_scaled.R :=
  ref10_scaled.Se ref10_scaled.J0 op a b
noncomputable def ref10_scaled.sig : Sig := ⟨ref10_scaled.ps, ref10_scaled.rs, fun x => ref10_scaled x.1 x.2.1 x.2.2.1⟩
theorem ref10_scaled.ok : CallOK Try.prog 82 ref10_scaled.sig :=
  callOK_of_lim (E := ref10_scaled.E) mixed tt_ok (ctxOk_cons ctxOk_nil ref10_kind.ok Try.func79 (by kernel_rfl) (by kernel_rfl)) Try.func82 (by kernel_rfl : Try.f82.body = some (bodyOf Try.f82)) Try.ntmps82 (of_decide_eq_true (by kernel_rfl)) (of_decide_eq_true (by kernel_rfl))
    fun x y h => ((lim_eq (.code (bodyOf Try.f82) .ret) (entryFrom 0 ref10_scaled.ps x)).trans (ref10_scaled.se (lim ref10_scaled.E ref10_scaled.fin) x)).trans h
theorem ref10_scaled.val (x : (argTy ref10_scaled.ps).den) : lim ref10_scaled.E ref10_scaled.fin (.code (bodyOf Try.f82) .ret) (entryFrom 0 ref10_scaled.ps x) = ref10_scaled.sig.run x :=
  (lim_eq (.code (bodyOf Try.f82) .ret) (entryFrom 0 ref10_scaled.ps x)).trans (ref10_scaled.se (lim ref10_scaled.E ref10_scaled.fin) x)
noncomputable def ref10_scaled.ctxc (n : Nat) : List (Nat × Sig) := [(79, ref10_kind.sigc n)]
noncomputable def ref10_scaled.sigc (n : Nat) : Sig := ⟨ref10_scaled.ps, ref10_scaled.rs, fun x => runs (withCtx ref10_scaled.E (ref10_scaled.ctxc n)) ref10_scaled.fin n (.code (bodyOf Try.f82) .ret) (entryFrom 0 ref10_scaled.ps x)⟩
theorem ref10_scaled.sigc_le (n : Nat) : ∀ x y, (ref10_scaled.sigc n).run x = some y → ref10_scaled.sig.run x = some y :=
  fun x y h => (ref10_scaled.val x).symm.trans (runs_lim (E := ref10_scaled.E) (c := ref10_scaled.ctxc n) (ctxLe_cons ctxLe_nil (ref10_kind.sigc_le n)) h)

/-! ### guerdon/guerdonref10.double -/
namespace ref10_double
abbrev ps : List PM := [.pure (.int .i64), .pure api_Type, .pure api_Type]
abbrev rs : List RM := [.pure api_Type, .pure .bool]
abbrev R : Type := Option (api_TypeV × Bool × Unit)
noncomputable def E : Env := { tt := tt, ctx := [(81, ref10_number.sig), (82, ref10_scaled.sig), (80, ref10_ordered.sig), (79, ref10_kind.sig)], nt := 108, ann := [(4, [(0, .keep), (4, .keep), (5, .keep), (6, .keep), (8, .keep), (9, .keep)]), (8, [(0, .keep), (4, .keep), (5, .keep), (6, .keep), (8, .keep), (21, .keep)]), (13, [(4, .keep), (5, .keep), (6, .keep), (8, .keep), (44, .keep)]), (16, [(4, .keep), (5, .keep), (6, .keep), (8, .keep), (56, .keep)]), (19, [(4, .keep), (5, .keep), (6, .keep), (8, .keep), (63, .keep)]), (22, [(4, .keep), (5, .keep), (6, .keep), (8, .keep), (75, .keep)]), (25, [(4, .keep), (5, .keep), (6, .keep), (87, .keep)])] }
noncomputable def c0 : Code := sub [1, 1] (bodyOf Try.f57)
noncomputable def c1 : Code := sub [1, 0, 1, 0, 1] (bodyOf Try.f57)
noncomputable def c2 : Code := sub [1, 0, 1, 0, 1, 1, 1] (bodyOf Try.f57)
noncomputable def c3 : Code := sub [1, 0, 1, 0, 1, 1, 1, 1, 1, 1, 1] (bodyOf Try.f57)
noncomputable def c4 : Code := sub [1, 0, 1, 0, 1, 1, 1, 1, 1, 1, 1, 1, 1] (bodyOf Try.f57)
noncomputable def c5 : Code := sub [1, 0, 1, 0, 1, 1, 1, 1, 1, 1, 1, 1, 1, 1, 1] (bodyOf Try.f57)
noncomputable def c6 : Code := sub [1, 0, 1, 0, 1, 1, 1, 1, 1, 1, 1, 1, 1, 1, 1, 1, 1] (bodyOf Try.f57)
noncomputable def c7 : Code := sub [1, 0, 1, 0, 1, 1, 1, 1, 1, 1, 1, 1, 1, 1, 1, 1, 1, 1, 1] (bodyOf Try.f57)
noncomputable def K2 : Kont := .seq c0 .ret
noncomputable def K4 : Kont := .blk 0 K2
noncomputable def fin : ASt → R := Kret E Try.f57.results.toList ps rs
def tJ0 (op : Int) (a : api_TypeV) (b : api_TypeV) (v_6 : api_TypeV) (v_8 : Int) (v_9 : Bool) : ASt := ⟨[(9, .one (.val .bool v_9)), (8, .one (.val (.int .i64) v_8)), (6, .one (.optr 6 0 [])), (5, .one (.optr 5 0 [])), (4, .one (.optr 4 0 [])), (0, .one (.val (.int .i64) op))], [(6, some ⟨.free, api_Type, [v_6]⟩), (5, some ⟨.free, api_Type, [b]⟩), (4, some ⟨.free, api_Type, [a]⟩)]⟩
def tJ1 (op : Int) (a : api_TypeV) (b : api_TypeV) (v_6 : api_TypeV) (v_8 : Int) (v_21 : Bool) : ASt := ⟨[(21, .one (.val .bool v_21)), (8, .one (.val (.int .i64) v_8)), (6, .one (.optr 6 0 [])), (5, .one (.optr 5 0 [])), (4, .one (.optr 4 0 [])), (0, .one (.val (.int .i64) op))], [(6, some ⟨.free, api_Type, [v_6]⟩), (5, some ⟨.free, api_Type, [b]⟩), (4, some ⟨.free, api_Type, [a]⟩)]⟩
def tJ2 (a : api_TypeV) (b : api_TypeV) (v_6 : api_TypeV) (v_8 : Int) (v_44 : Bool) : ASt := ⟨[(44, .one (.val .bool v_44)), (8, .one (.val (.int .i64) v_8)), (6, .one (.optr 6 0 [])), (5, .one (.optr 5 0 [])), (4, .one (.optr 4 0 []))], [(6, some ⟨.free, api_Type, [v_6]⟩), (5, some ⟨.free, api_Type, [b]⟩), (4, some ⟨.free, api_Type, [a]⟩)]⟩
def tJ3 (a : api_TypeV) (b : api_TypeV) (v_6 : api_TypeV) (v_8 : Int) (v_56 : Bool) : ASt := ⟨[(56, .one (.val .bool v_56)), (8, .one (.val (.int .i64) v_8)), (6, .one (.optr 6 0 [])), (5, .one (.optr 5 0 [])), (4, .one (.optr 4 0 []))], [(6, some ⟨.free, api_Type, [v_6]⟩), (5, some ⟨.free, api_Type, [b]⟩), (4, some ⟨.free, api_Type, [a]⟩)]⟩
def tJ4 (a : api_TypeV) (b : api_TypeV) (v_6 : api_TypeV) (v_8 : Int) (v_63 : Bool) : ASt := ⟨[(63, .one (.val .bool v_63)), (8, .one (.val (.int .i64) v_8)), (6, .one (.optr 6 0 [])), (5, .one (.optr 5 0 [])), (4, .one (.optr 4 0 []))], [(6, some ⟨.free, api_Type, [v_6]⟩), (5, some ⟨.free, api_Type, [b]⟩), (4, some ⟨.free, api_Type, [a]⟩)]⟩
def tJ5 (a : api_TypeV) (b : api_TypeV) (v_6 : api_TypeV) (v_8 : Int) (v_75 : Bool) : ASt := ⟨[(75, .one (.val .bool v_75)), (8, .one (.val (.int .i64) v_8)), (6, .one (.optr 6 0 [])), (5, .one (.optr 5 0 [])), (4, .one (.optr 4 0 []))], [(6, some ⟨.free, api_Type, [v_6]⟩), (5, some ⟨.free, api_Type, [b]⟩), (4, some ⟨.free, api_Type, [a]⟩)]⟩
def tJ6 (a : api_TypeV) (b : api_TypeV) (v_6 : api_TypeV) (v_87 : Bool) : ASt := ⟨[(87, .one (.val .bool v_87)), (6, .one (.optr 6 0 [])), (5, .one (.optr 5 0 [])), (4, .one (.optr 4 0 []))], [(6, some ⟨.free, api_Type, [v_6]⟩), (5, some ⟨.free, api_Type, [b]⟩), (4, some ⟨.free, api_Type, [a]⟩)]⟩
noncomputable def SJ0 (kJ1 : Int → api_TypeV → api_TypeV → api_TypeV → Int → Bool → R) (op : Int) (a : api_TypeV) (b : api_TypeV) (v_6 : api_TypeV) (v_8 : Int) (v_9 : Bool) : R :=
  cond v_9
    (cond (eqTy (.pair (.int .i64) (.pair (.int .i64) .unit)) a b)
      (Option.bind (ref10_number a.1) fun x1 =>
      some (a, x1.1, ()))
      (some (a, false, ())))
    (cond (v_8 == 13)
      (kJ1 op a b v_6 v_8 (v_8 == 13))
      (cond (v_8 == 14)
        (kJ1 op a b v_6 v_8 (v_8 == 14))
        (kJ1 op a b v_6 v_8 (v_8 == 15))))
noncomputable def SJ1 (kJ2 : api_TypeV → api_TypeV → api_TypeV → Int → Bool → R) (op : Int) (a : api_TypeV) (b : api_TypeV) (v_6 : api_TypeV) (v_8 : Int) (v_21 : Bool) : R :=
  cond v_21
    (Option.bind (ref10_scaled op a.1 b.1) fun x1 =>
    some (x1.1, x1.2.1, ()))
    (cond (v_8 == 16)
      (cond (a.1 == 3)
        (some (a, (b.1 == 3), ()))
        (some (a, false, ())))
      (cond (v_8 == 17)
        (kJ2 a b v_6 v_8 (v_8 == 17))
        (kJ2 a b v_6 v_8 (v_8 == 18))))
noncomputable def SJ2 (kJ3 : api_TypeV → api_TypeV → api_TypeV → Int → Bool → R) (a : api_TypeV) (b : api_TypeV) (v_6 : api_TypeV) (v_8 : Int) (v_44 : Bool) : R :=
  cond v_44
    (cond (eqTy (.pair (.int .i64) (.pair (.int .i64) .unit)) a b)
      (Option.bind (ref10_ordered a.1) fun x1 =>
      some (a, x1.1, ()))
      (some (a, false, ())))
    (cond (v_8 == 19)
      (kJ3 a b v_6 v_8 (v_8 == 19))
      (kJ3 a b v_6 v_8 (v_8 == 20)))
noncomputable def SJ3 (kJ4 : api_TypeV → api_TypeV → api_TypeV → Int → Bool → R) (a : api_TypeV) (b : api_TypeV) (v_6 : api_TypeV) (v_8 : Int) (v_56 : Bool) : R :=
  cond v_56
    (Option.bind (ref10_kind 1) fun x1 =>
    some (x1.1, eqTy (.pair (.int .i64) (.pair (.int .i64) .unit)) a b, ()))
    (cond (v_8 == 21)
      (kJ4 a b v_6 v_8 (v_8 == 21))
      (kJ4 a b v_6 v_8 (v_8 == 22)))
noncomputable def SJ4 (kJ5 : api_TypeV → api_TypeV → api_TypeV → Int → Bool → R) (a : api_TypeV) (b : api_TypeV) (v_6 : api_TypeV) (v_8 : Int) (v_63 : Bool) : R :=
  cond v_63
    (Option.bind (ref10_kind 1) fun x1 =>
    cond (eqTy (.pair (.int .i64) (.pair (.int .i64) .unit)) a b)
      (Option.bind (ref10_ordered a.1) fun x2 =>
      some (x1.1, x2.1, ()))
      (some (x1.1, false, ())))
    (cond (v_8 == 23)
      (kJ5 a b v_6 v_8 (v_8 == 23))
      (kJ5 a b v_6 v_8 (v_8 == 24)))
noncomputable def SJ5 (kJ6 : api_TypeV → api_TypeV → api_TypeV → Bool → R) (a : api_TypeV) (b : api_TypeV) (v_6 : api_TypeV) (v_8 : Int) (v_75 : Bool) : R :=
  cond v_75
    (cond (a.1 == 1)
      (some (a, (b.1 == 1), ()))
      (some (a, false, ())))
    (cond (v_8 == 27)
      (kJ6 a b v_6 (v_8 == 27))
      (kJ6 a b v_6 (v_8 == 28)))
noncomputable def SJ6 (a : api_TypeV) (b : api_TypeV) (v_6 : api_TypeV) (v_87 : Bool) : R :=
  cond v_87
    (cond (a.1 == 5)
      (some (a, (b.1 == 2), ()))
      (some (a, false, ())))
    (Option.bind (ref10_kind 2) fun x1 =>
    cond (a.1 == 5)
      (some (x1.1, (b.1 == 5), ()))
      (some (x1.1, false, ())))
noncomputable def Se (kJ0 : Int → api_TypeV → api_TypeV → api_TypeV → Int → Bool → R) (op : Int) (a : api_TypeV) (b : api_TypeV) : R :=
  cond (op == 11)
    (kJ0 op a b (0, 0, ()) op (op == 11))
    (kJ0 op a b (0, 0, ()) op (op == 12))
theorem sJ0 (jmp : Tgt → ASt → R) (op : Int) (a : api_TypeV) (b : api_TypeV) (v_6 : api_TypeV) (v_8 : Int) (v_9 : Bool) : run E jmp fin depth c1 K4 (tJ0 op a b v_6 v_8 v_9) =
    SJ0 (fun op a b v_6 v_8 v_21 => jmp (.code c2 K4) (tJ1 op a b v_6 v_8 v_21)) op a b v_6 v_8 v_9 := by kernel_rfl
theorem sJ1 (jmp : Tgt → ASt → R) (op : Int) (a : api_TypeV) (b : api_TypeV) (v_6 : api_TypeV) (v_8 : Int) (v_21 : Bool) : run E jmp fin depth c2 K4 (tJ1 op a b v_6 v_8 v_21) =
    SJ1 (fun a b v_6 v_8 v_44 => jmp (.code c3 K4) (tJ2 a b v_6 v_8 v_44)) op a b v_6 v_8 v_21 := by kernel_rfl
theorem sJ2 (jmp : Tgt → ASt → R) (a : api_TypeV) (b : api_TypeV) (v_6 : api_TypeV) (v_8 : Int) (v_44 : Bool) : run E jmp fin depth c3 K4 (tJ2 a b v_6 v_8 v_44) =
    SJ2 (fun a b v_6 v_8 v_56 => jmp (.code c4 K4) (tJ3 a b v_6 v_8 v_56)) a b v_6 v_8 v_44 := by kernel_rfl
theorem sJ3 (jmp : Tgt → ASt → R) (a : api_TypeV) (b : api_TypeV) (v_6 : api_TypeV) (v_8 : Int) (v_56 : Bool) : run E jmp fin depth c4 K4 (tJ3 a b v_6 v_8 v_56) =
    SJ3 (fun a b v_6 v_8 v_63 => jmp (.code c5 K4) (tJ4 a b v_6 v_8 v_63)) a b v_6 v_8 v_56 := by kernel_rfl
theorem sJ4 (jmp : Tgt → ASt → R) (a : api_TypeV) (b : api_TypeV) (v_6 : api_TypeV) (v_8 : Int) (v_63 : Bool) : run E jmp fin depth c5 K4 (tJ4 a b v_6 v_8 v_63) =
    SJ4 (fun a b v_6 v_8 v_75 => jmp (.code c6 K4) (tJ5 a b v_6 v_8 v_75)) a b v_6 v_8 v_63 := by kernel_rfl
theorem sJ5 (jmp : Tgt → ASt → R) (a : api_TypeV) (b : api_TypeV) (v_6 : api_TypeV) (v_8 : Int) (v_75 : Bool) : run E jmp fin depth c6 K4 (tJ5 a b v_6 v_8 v_75) =
    SJ5 (fun a b v_6 v_87 => jmp (.code c7 K4) (tJ6 a b v_6 v_87)) a b v_6 v_8 v_75 := by kernel_rfl
theorem sJ6 (jmp : Tgt → ASt → R) (a : api_TypeV) (b : api_TypeV) (v_6 : api_TypeV) (v_87 : Bool) : run E jmp fin depth c7 K4 (tJ6 a b v_6 v_87) =
    SJ6 a b v_6 v_87 := by kernel_rfl
theorem se (jmp : Tgt → ASt → R) (x : (argTy ps).den) : run E jmp fin depth (bodyOf Try.f57) .ret (entryFrom 0 ps x) =
    Se (fun op a b v_6 v_8 v_9 => jmp (.code c1 K4) (tJ0 op a b v_6 v_8 v_9)) x.1 x.2.1 x.2.2.1 := by kernel_rfl
noncomputable def J0 (op : Int) (a : api_TypeV) (b : api_TypeV) (v_6 : api_TypeV) (v_8 : Int) (v_9 : Bool) : R := lim E fin (.code c1 K4) (tJ0 op a b v_6 v_8 v_9)
noncomputable def J1 (op : Int) (a : api_TypeV) (b : api_TypeV) (v_6 : api_TypeV) (v_8 : Int) (v_21 : Bool) : R := lim E fin (.code c2 K4) (tJ1 op a b v_6 v_8 v_21)
noncomputable def J2 (a : api_TypeV) (b : api_TypeV) (v_6 : api_TypeV) (v_8 : Int) (v_44 : Bool) : R := lim E fin (.code c3 K4) (tJ2 a b v_6 v_8 v_44)
noncomputable def J3 (a : api_TypeV) (b : api_TypeV) (v_6 : api_TypeV) (v_8 : Int) (v_56 : Bool) : R := lim E fin (.code c4 K4) (tJ3 a b v_6 v_8 v_56)
noncomputable def J4 (a : api_TypeV) (b : api_TypeV) (v_6 : api_TypeV) (v_8 : Int) (v_63 : Bool) : R := lim E fin (.code c5 K4) (tJ4 a b v_6 v_8 v_63)
noncomputable def J5 (a : api_TypeV) (b : api_TypeV) (v_6 : api_TypeV) (v_8 : Int) (v_75 : Bool) : R := lim E fin (.code c6 K4) (tJ5 a b v_6 v_8 v_75)
noncomputable def J6 (a : api_TypeV) (b : api_TypeV) (v_6 : api_TypeV) (v_87 : Bool) : R := lim E fin (.code c7 K4) (tJ6 a b v_6 v_87)
theorem J0_eq (op : Int) (a : api_TypeV) (b : api_TypeV) (v_6 : api_TypeV) (v_8 : Int) (v_9 : Bool) : J0 op a b v_6 v_8 v_9 = SJ0 J1 op a b v_6 v_8 v_9 :=
  (lim_eq (.code c1 K4) (tJ0 op a b v_6 v_8 v_9)).trans (sJ0 (lim E fin) op a b v_6 v_8 v_9)
theorem J1_eq (op : Int) (a : api_TypeV) (b : api_TypeV) (v_6 : api_TypeV) (v_8 : Int) (v_21 : Bool) : J1 op a b v_6 v_8 v_21 = SJ1 J2 op a b v_6 v_8 v_21 :=
  (lim_eq (.code c2 K4) (tJ1 op a b v_6 v_8 v_21)).trans (sJ1 (lim E fin) op a b v_6 v_8 v_21)
theorem J2_eq (a : api_TypeV) (b : api_TypeV) (v_6 : api_TypeV) (v_8 : Int) (v_44 : Bool) : J2 a b v_6 v_8 v_44 = SJ2 J3 a b v_6 v_8 v_44 :=
  (lim_eq (.code c3 K4) (tJ2 a b v_6 v_8 v_44)).trans (sJ2 (lim E fin) a b v_6 v_8 v_44)
theorem J3_eq (a : api_TypeV) (b : api_TypeV) (v_6 : api_TypeV) (v_8 : Int) (v_56 : Bool) : J3 a b v_6 v_8 v_56 = SJ3 J4 a b v_6 v_8 v_56 :=
  (lim_eq (.code c4 K4) (tJ3 a b v_6 v_8 v_56)).trans (sJ3 (lim E fin) a b v_6 v_8 v_56)
theorem J4_eq (a : api_TypeV) (b : api_TypeV) (v_6 : api_TypeV) (v_8 : Int) (v_63 : Bool) : J4 a b v_6 v_8 v_63 = SJ4 J5 a b v_6 v_8 v_63 :=
  (lim_eq (.code c5 K4) (tJ4 a b v_6 v_8 v_63)).trans (sJ4 (lim E fin) a b v_6 v_8 v_63)
theorem J5_eq (a : api_TypeV) (b : api_TypeV) (v_6 : api_TypeV) (v_8 : Int) (v_75 : Bool) : J5 a b v_6 v_8 v_75 = SJ5 J6 a b v_6 v_8 v_75 :=
  (lim_eq (.code c6 K4) (tJ5 a b v_6 v_8 v_75)).trans (sJ5 (lim E fin) a b v_6 v_8 v_75)
theorem J6_eq (a : api_TypeV) (b : api_TypeV) (v_6 : api_TypeV) (v_87 : Bool) : J6 a b v_6 v_87 = SJ6 a b v_6 v_87 :=
  (lim_eq (.code c7 K4) (tJ6 a b v_6 v_87)).trans (sJ6 (lim E fin) a b v_6 v_87)
end ref10_double
noncomputable def ref10_double (op : Int) (a : api_TypeV) (b : api_TypeV) : ref10_double.R :=
  ref10_double.Se ref10_double.J0 op a b
noncomputable def ref10_double.sig : Sig := ⟨ref10_double.ps, ref10_double.rs, fun x => ref10_double x.1 x.2.1 x.2.2.1⟩
theorem ref10_double.ok : CallOK Try.prog 57 ref10_double.sig :=
  callOK_of_lim (E := ref10_double.E) mixed tt_ok (ctxOk_cons (ctxOk_cons (ctxOk_cons (ctxOk_cons ctxOk_nil ref10_kind.ok Try.func79 (by kernel_rfl) (by kernel_rfl)) ref10_ordered.ok Try.func80 (by kernel_rfl) (by kernel_rfl)) ref10_scaled.ok Try.func82 (by kernel_rfl) (by kernel_rfl)) ref10_number.ok Try.func81 (by kernel_rfl) (by kernel_rfl)) Try.func57 (by kernel_rfl : Try.f57.body = some (bodyOf Try.f57)) Try.ntmps57 (of_decide_eq_true (by kernel_rfl)) (of_decide_eq_true (by kernel_rfl))
    fun x y h => ((lim_eq (.code (bodyOf Try.f57) .ret) (entryFrom 0 ref10_double.ps x)).trans (ref10_double.se (lim ref10_double.E ref10_double.fin) x)).trans h
theorem ref10_double.val (x : (argTy ref10_double.ps).den) : lim ref10_double.E ref10_double.fin (.code (bodyOf Try.f57) .ret) (entryFrom 0 ref10_double.ps x) = ref10_double.sig.run x :=
  (lim_eq (.code (bodyOf Try.f57) .ret) (entryFrom 0 ref10_double.ps x)).trans (ref10_double.se (lim ref10_double.E ref10_double.fin) x)
noncomputable def ref10_double.ctxc (n : Nat) : List (Nat × Sig) := [(81, ref10_number.sigc n), (82, ref10_scaled.sigc n), (80, ref10_ordered.sigc n), (79, ref10_kind.sigc n)]
noncomputable def ref10_double.sigc (n : Nat) : Sig := ⟨ref10_double.ps, ref10_double.rs, fun x => runs (withCtx ref10_double.E (ref10_double.ctxc n)) ref10_double.fin n (.code (bodyOf Try.f57) .ret) (entryFrom 0 ref10_double.ps x)⟩
theorem ref10_double.sigc_le (n : Nat) : ∀ x y, (ref10_double.sigc n).run x = some y → ref10_double.sig.run x = some y :=
  fun x y h => (ref10_double.val x).symm.trans (runs_lim (E := ref10_double.E) (c := ref10_double.ctxc n) (ctxLe_cons (ctxLe_cons (ctxLe_cons (ctxLe_cons ctxLe_nil (ref10_kind.sigc_le n)) (ref10_ordered.sigc_le n)) (ref10_scaled.sigc_le n)) (ref10_number.sigc_le n)) h)

/-! ### guerdon/guerdonref10.Result -/
namespace ref10_Result
abbrev ps : List PM := [.pure api_Type, .pure (.sl api_Type), .pure api_Signature]
abbrev rs : List RM := [.pure api_Type, .pure (.int .i64)]
abbrev R : Type := Option (api_TypeV × Int × Unit)
noncomputable def E : Env := { tt := tt, ctx := [(52, ref10_meaning.sig), (53, ref10_ranged.sig), (54, ref10_found.sig), (55, ref10_leaf.sig), (56, ref10_single.sig), (57, ref10_double.sig)], nt := 87, ann := [(3, [(1, .keep), (3, .keep), (5, .keep), (6, .keep)]), (18, [(6, .keep), (8, .keep), (9, .keep)])] }
noncomputable def c0 : Code := sub [1, 1] (bodyOf Try.f42)
noncomputable def c1 : Code := sub [1, 1, 1, 1, 1, 1, 1] (bodyOf Try.f42)
noncomputable def fin : ASt → R := Kret E Try.f42.results.toList ps rs
def tJ0 (l : List api_TypeV) (n_3 : api_TypeV) (s : api_SignatureV) (v_6 : api_TypeV) : ASt := ⟨[(6, .one (.optr 6 0 [])), (5, .one (.optr 5 0 [])), (3, .one (.optr 3 0 [])), (1, .one (.val (.sl api_Type) l))], [(6, some ⟨.free, api_Type, [v_6]⟩), (5, some ⟨.free, api_Signature, [s]⟩), (3, some ⟨.free, api_Type, [n_3]⟩)]⟩
def tJ1 (v_6 : api_TypeV) (t : api_TypeV) (ok : Bool) : ASt := ⟨[(9, .one (.val .bool ok)), (8, .one (.optr 8 0 [])), (6, .one (.optr 6 0 []))], [(8, some ⟨.free, api_Type, [t]⟩), (6, some ⟨.free, api_Type, [v_6]⟩)]⟩
noncomputable def SJ0 (kJ1 : api_TypeV → api_TypeV → Bool → R) (l : List api_TypeV) (n_3 : api_TypeV) (s : api_SignatureV) (v_6 : api_TypeV) : R :=
  Option.bind (ref10_ranged n_3 s) fun x1 =>
  cond (!x1.1)
    (some ((0, 0, ()), 3, ()))
    (Option.bind (ref10_found n_3 s) fun x2 =>
    cond (!x2.1)
      (some ((0, 0, ()), 6, ()))
      (cond ((l.length : Int) == 0)
        (Option.bind (ref10_leaf n_3 s) fun x3 =>
        kJ1 v_6 x3.1 x3.2.1)
        (cond ((l.length : Int) == 1)
          (Option.bind (idx l 0) fun x4 =>
          Option.bind (ref10_single n_3 x4 s) fun x5 =>
          kJ1 v_6 x5.1 x5.2.1)
          (cond ((l.length : Int) == 2)
            (Option.bind (idx l 0) fun x6 =>
            Option.bind (idx l 1) fun x7 =>
            Option.bind (ref10_double n_3.1 x6 x7) fun x8 =>
            kJ1 v_6 x8.1 x8.2.1)
            (Option.bind (idx l 1) fun x9 =>
            Option.bind (idx l 0) fun x10 =>
            cond (x10.1 == 1)
              (Option.bind (idx l 1) fun x11 =>
              Option.bind (idx l 2) fun x12 =>
              kJ1 v_6 x9 (eqTy (.pair (.int .i64) (.pair (.int .i64) .unit)) x11 x12))
              (kJ1 v_6 x9 false))))))
noncomputable def SJ1 (v_6 : api_TypeV) (t : api_TypeV) (ok : Bool) : R :=
  cond (!ok)
    (some ((0, 0, ()), 8, ()))
    (some (t, 0, ()))
noncomputable def Se (kJ0 : (List api_TypeV) → api_TypeV → api_SignatureV → api_TypeV → R) (n_0 : api_TypeV) (l : List api_TypeV) (s : api_SignatureV) : R :=
  cond (n_0.2.1 != 0)
    (Option.bind (ref10_meaning n_0.1) fun x1 =>
    cond (!x1.1)
      (some ((0, 0, ()), 2, ()))
      (kJ0 l n_0 s (0, 0, ())))
    (kJ0 l n_0 s (0, 0, ()))
theorem sJ0 (jmp : Tgt → ASt → R) (l : List api_TypeV) (n_3 : api_TypeV) (s : api_SignatureV) (v_6 : api_TypeV) : run E jmp fin depth c0 .ret (tJ0 l n_3 s v_6) =
    SJ0 (fun v_6 t ok => jmp (.code c1 .ret) (tJ1 v_6 t ok)) l n_3 s v_6 := by kernel_rfl
theorem sJ1 (jmp : Tgt → ASt → R) (v_6 : api_TypeV) (t : api_TypeV) (ok : Bool) : run E jmp fin depth c1 .ret (tJ1 v_6 t ok) =
    SJ1 v_6 t ok := by kernel_rfl
theorem se (jmp : Tgt → ASt → R) (x : (argTy ps).den) : run E jmp fin depth (bodyOf Try.f42) .ret (entryFrom 0 ps x) =
    Se (fun l n_3 s v_6 => jmp (.code c0 .ret) (tJ0 l n_3 s v_6)) x.1 x.2.1 x.2.2.1 := by kernel_rfl
noncomputable def J0 (l : List api_TypeV) (n_3 : api_TypeV) (s : api_SignatureV) (v_6 : api_TypeV) : R := lim E fin (.code c0 .ret) (tJ0 l n_3 s v_6)
noncomputable def J1 (v_6 : api_TypeV) (t : api_TypeV) (ok : Bool) : R := lim E fin (.code c1 .ret) (tJ1 v_6 t ok)
theorem J0_eq (l : List api_TypeV) (n_3 : api_TypeV) (s : api_SignatureV) (v_6 : api_TypeV) : J0 l n_3 s v_6 = SJ0 J1 l n_3 s v_6 :=
  (lim_eq (.code c0 .ret) (tJ0 l n_3 s v_6)).trans (sJ0 (lim E fin) l n_3 s v_6)
theorem J1_eq (v_6 : api_TypeV) (t : api_TypeV) (ok : Bool) : J1 v_6 t ok = SJ1 v_6 t ok :=
  (lim_eq (.code c1 .ret) (tJ1 v_6 t ok)).trans (sJ1 (lim E fin) v_6 t ok)
end ref10_Result
noncomputable def ref10_Result (n_0 : api_TypeV) (l : List api_TypeV) (s : api_SignatureV) : ref10_Result.R :=
  ref10_Result.Se ref10_Result.J0 n_0 l s
noncomputable def ref10_Result.sig : Sig := ⟨ref10_Result.ps, ref10_Result.rs, fun x => ref10_Result x.1 x.2.1 x.2.2.1⟩
theorem ref10_Result.ok : CallOK Try.prog 42 ref10_Result.sig :=
  callOK_of_lim (E := ref10_Result.E) mixed tt_ok (ctxOk_cons (ctxOk_cons (ctxOk_cons (ctxOk_cons (ctxOk_cons (ctxOk_cons ctxOk_nil ref10_double.ok Try.func57 (by kernel_rfl) (by kernel_rfl)) ref10_single.ok Try.func56 (by kernel_rfl) (by kernel_rfl)) ref10_leaf.ok Try.func55 (by kernel_rfl) (by kernel_rfl)) ref10_found.ok Try.func54 (by kernel_rfl) (by kernel_rfl)) ref10_ranged.ok Try.func53 (by kernel_rfl) (by kernel_rfl)) ref10_meaning.ok Try.func52 (by kernel_rfl) (by kernel_rfl)) Try.func42 (by kernel_rfl : Try.f42.body = some (bodyOf Try.f42)) Try.ntmps42 (of_decide_eq_true (by kernel_rfl)) (of_decide_eq_true (by kernel_rfl))
    fun x y h => ((lim_eq (.code (bodyOf Try.f42) .ret) (entryFrom 0 ref10_Result.ps x)).trans (ref10_Result.se (lim ref10_Result.E ref10_Result.fin) x)).trans h
theorem ref10_Result.val (x : (argTy ref10_Result.ps).den) : lim ref10_Result.E ref10_Result.fin (.code (bodyOf Try.f42) .ret) (entryFrom 0 ref10_Result.ps x) = ref10_Result.sig.run x :=
  (lim_eq (.code (bodyOf Try.f42) .ret) (entryFrom 0 ref10_Result.ps x)).trans (ref10_Result.se (lim ref10_Result.E ref10_Result.fin) x)
noncomputable def ref10_Result.ctxc (n : Nat) : List (Nat × Sig) := [(52, ref10_meaning.sigc n), (53, ref10_ranged.sigc n), (54, ref10_found.sigc n), (55, ref10_leaf.sigc n), (56, ref10_single.sigc n), (57, ref10_double.sigc n)]
noncomputable def ref10_Result.sigc (n : Nat) : Sig := ⟨ref10_Result.ps, ref10_Result.rs, fun x => runs (withCtx ref10_Result.E (ref10_Result.ctxc n)) ref10_Result.fin n (.code (bodyOf Try.f42) .ret) (entryFrom 0 ref10_Result.ps x)⟩
theorem ref10_Result.sigc_le (n : Nat) : ∀ x y, (ref10_Result.sigc n).run x = some y → ref10_Result.sig.run x = some y :=
  fun x y h => (ref10_Result.val x).symm.trans (runs_lim (E := ref10_Result.E) (c := ref10_Result.ctxc n) (ctxLe_cons (ctxLe_cons (ctxLe_cons (ctxLe_cons (ctxLe_cons (ctxLe_cons ctxLe_nil (ref10_double.sigc_le n)) (ref10_single.sigc_le n)) (ref10_leaf.sigc_le n)) (ref10_found.sigc_le n)) (ref10_ranged.sigc_le n)) (ref10_meaning.sigc_le n)) h)

/-! ### guerdon/guerdonref10.TypeOf -/
namespace ref10_TypeOf
abbrev ps : List PM := [.pure (.sl api_Type), .pure api_Signature]
abbrev rs : List RM := [.pure api_Type, .pure (.int .i64), .pure (.int .i64)]
abbrev R : Type := Option (api_TypeV × Int × Int × Unit)
noncomputable def E : Env := { tt := tt, ctx := [(40, ref10_structure.sig), (41, ref10_Arity.sig), (42, ref10_Result.sig)], nt := 67, ann := [(1000006, [(0, .keep), (3, .keep), (4, .keep), (10, .own api_Type), (11, .keep)])] }
noncomputable def c0 : Code := sub [1, 1, 1, 1, 1] (bodyOf Try.f26)
noncomputable def c1 : Code := sub [1, 1, 1, 1, 0, 1, 0, 0] (bodyOf Try.f26)
noncomputable def K7 : Kont := .seq c0 .ret
noncomputable def K9 : Kont := .blk 0 K7
noncomputable def fin : ASt → R := Kret E Try.f26.results.toList ps rs
def tL0 (e : List api_TypeV) (s : api_SignatureV) (v_4 : api_TypeV) (stack : List api_TypeV) (i : Int) : ASt := ⟨[(11, .one (.val (.int .i64) i)), (10, .one (.own 10)), (4, .one (.optr 4 0 [])), (3, .one (.optr 3 0 [])), (0, .one (.val (.sl api_Type) e))], [(10, some ⟨.free, api_Type, stack⟩), (4, some ⟨.free, api_Type, [v_4]⟩), (3, some ⟨.free, api_Signature, [s]⟩)]⟩
noncomputable def SL0 (kL0 : (List api_TypeV) → api_SignatureV → api_TypeV → (List api_TypeV) → Int → R) (e : List api_TypeV) (s : api_SignatureV) (v_4 : api_TypeV) (stack : List api_TypeV) (i : Int) : R :=
  cond (decide (i < (e.length : Int)))
    (Option.bind (idx e i) fun x1 =>
    Option.bind (ref10_Arity x1.1) fun x2 =>
    Option.bind (idx e i) fun x3 =>
    cond (decide ((0 : Int) ≤ IntKind.i64.wrap ((stack.length : Int) - x2.1)) && (decide ((IntKind.i64.wrap ((stack.length : Int) - x2.1) : Int) ≤ (stack.length : Int)) && decide ((stack.length : Int) ≤ (stack.length : Int))))
      (Option.bind (ref10_Result x3 ((stack.drop ((IntKind.i64.wrap ((stack.length : Int) - x2.1)).toNat)).take (stack.length - (IntKind.i64.wrap ((stack.length : Int) - x2.1)).toNat)) s) fun x4 =>
      cond (x4.2.1 != 0)
        (some ((0, 0, ()), i, x4.2.1, ()))
        (cond (decide ((0 : Int) ≤ 0) && (decide ((0 : Int) ≤ IntKind.i64.wrap ((stack.length : Int) - x2.1)) && decide (IntKind.i64.wrap ((stack.length : Int) - x2.1) ≤ (stack.length : Int))))
          (cond (decide (((stack.take ((IntKind.i64.wrap ((stack.length : Int) - x2.1)).toNat)).length + 1) * 16 ≤ room) && decide (0 < Ty.nc (.pair (.int .i64) (.pair (.int .i64) .unit))))
            (kL0 e s v_4 ((stack.take ((IntKind.i64.wrap ((stack.length : Int) - x2.1)).toNat)) ++ [x4.1]) (IntKind.i64.wrap (i + 1)))
            none)
          none))
      none)
    (cond (decide (0 ≤ 0) && decide (0 < (stack.length : Int)))
      (some ((stack.getD 0 (0, 0, ())), 0, 0, ()))
      none)
noncomputable def Se (kL0 : (List api_TypeV) → api_SignatureV → api_TypeV → (List api_TypeV) → Int → R) (e : List api_TypeV) (s : api_SignatureV) : R :=
  Option.bind (ref10_structure e) fun x1 =>
  cond (x1.2.2.1 != 0)
    (some ((0, 0, ()), x1.2.1, x1.2.2.1, ()))
    (kL0 e s (0, 0, ()) [] 0)
theorem sL0 (jmp : Tgt → ASt → R) (e : List api_TypeV) (s : api_SignatureV) (v_4 : api_TypeV) (stack : List api_TypeV) (i : Int) : run E jmp fin depth c1 (.loop c1 K9) (tL0 e s v_4 stack i) =
    SL0 (fun e s v_4 stack i => jmp (.loop c1 K9) (tL0 e s v_4 stack i)) e s v_4 stack i := by kernel_rfl
theorem se (jmp : Tgt → ASt → R) (x : (argTy ps).den) : run E jmp fin depth (bodyOf Try.f26) .ret (entryFrom 0 ps x) =
    Se (fun e s v_4 stack i => jmp (.loop c1 K9) (tL0 e s v_4 stack i)) x.1 x.2.1 := by kernel_rfl
noncomputable def L0 (e : List api_TypeV) (s : api_SignatureV) (v_4 : api_TypeV) (stack : List api_TypeV) (i : Int) : R := lim E fin (.loop c1 K9) (tL0 e s v_4 stack i)
theorem L0_eq (e : List api_TypeV) (s : api_SignatureV) (v_4 : api_TypeV) (stack : List api_TypeV) (i : Int) : L0 e s v_4 stack i = SL0 L0 e s v_4 stack i :=
  (lim_eq (.loop c1 K9) (tL0 e s v_4 stack i)).trans (sL0 (lim E fin) e s v_4 stack i)
end ref10_TypeOf
noncomputable def ref10_TypeOf (e : List api_TypeV) (s : api_SignatureV) : ref10_TypeOf.R :=
  ref10_TypeOf.Se ref10_TypeOf.L0 e s
noncomputable def ref10_TypeOf.sig : Sig := ⟨ref10_TypeOf.ps, ref10_TypeOf.rs, fun x => ref10_TypeOf x.1 x.2.1⟩
theorem ref10_TypeOf.ok : CallOK Try.prog 26 ref10_TypeOf.sig :=
  callOK_of_lim (E := ref10_TypeOf.E) mixed tt_ok (ctxOk_cons (ctxOk_cons (ctxOk_cons ctxOk_nil ref10_Result.ok Try.func42 (by kernel_rfl) (by kernel_rfl)) ref10_Arity.ok Try.func41 (by kernel_rfl) (by kernel_rfl)) ref10_structure.ok Try.func40 (by kernel_rfl) (by kernel_rfl)) Try.func26 (by kernel_rfl : Try.f26.body = some (bodyOf Try.f26)) Try.ntmps26 (of_decide_eq_true (by kernel_rfl)) (of_decide_eq_true (by kernel_rfl))
    fun x y h => ((lim_eq (.code (bodyOf Try.f26) .ret) (entryFrom 0 ref10_TypeOf.ps x)).trans (ref10_TypeOf.se (lim ref10_TypeOf.E ref10_TypeOf.fin) x)).trans h
theorem ref10_TypeOf.val (x : (argTy ref10_TypeOf.ps).den) : lim ref10_TypeOf.E ref10_TypeOf.fin (.code (bodyOf Try.f26) .ret) (entryFrom 0 ref10_TypeOf.ps x) = ref10_TypeOf.sig.run x :=
  (lim_eq (.code (bodyOf Try.f26) .ret) (entryFrom 0 ref10_TypeOf.ps x)).trans (ref10_TypeOf.se (lim ref10_TypeOf.E ref10_TypeOf.fin) x)
noncomputable def ref10_TypeOf.ctxc (n : Nat) : List (Nat × Sig) := [(40, ref10_structure.sigc n), (41, ref10_Arity.sigc n), (42, ref10_Result.sigc n)]
noncomputable def ref10_TypeOf.sigc (n : Nat) : Sig := ⟨ref10_TypeOf.ps, ref10_TypeOf.rs, fun x => runs (withCtx ref10_TypeOf.E (ref10_TypeOf.ctxc n)) ref10_TypeOf.fin n (.code (bodyOf Try.f26) .ret) (entryFrom 0 ref10_TypeOf.ps x)⟩
theorem ref10_TypeOf.sigc_le (n : Nat) : ∀ x y, (ref10_TypeOf.sigc n).run x = some y → ref10_TypeOf.sig.run x = some y :=
  fun x y h => (ref10_TypeOf.val x).symm.trans (runs_lim (E := ref10_TypeOf.E) (c := ref10_TypeOf.ctxc n) (ctxLe_cons (ctxLe_cons (ctxLe_cons ctxLe_nil (ref10_Result.sigc_le n)) (ref10_Arity.sigc_le n)) (ref10_structure.sigc_le n)) h)

/-! ### guerdon/guerdonref23.comparison -/
namespace ref23_comparison
abbrev ps : List PM := [.pure (.int .i64)]
abbrev rs : List RM := [.pure .bool]
abbrev R : Type := Option (Bool × Unit)
noncomputable def E : Env := { tt := tt, ctx := [], nt := 9, ann := [] }
noncomputable def fin : ASt → R := Kret E Try.f27.results.toList ps rs
noncomputable def Se (op : Int) : R :=
  cond (decide (op ≥ 19))
    (some (decide (op ≤ 22), ()))
    (some (false, ()))
theorem se (jmp : Tgt → ASt → R) (x : (argTy ps).den) : run E jmp fin depth (bodyOf Try.f27) .ret (entryFrom 0 ps x) =
    Se x.1 := by kernel_rfl
end ref23_comparison
noncomputable def ref23_comparison (op : Int) : ref23_comparison.R :=
  ref23_comparison.Se op
noncomputable def ref23_comparison.sig : Sig := ⟨ref23_comparison.ps, ref23_comparison.rs, fun x => ref23_comparison x.1⟩
theorem ref23_comparison.ok : CallOK Try.prog 27 ref23_comparison.sig :=
  callOK_of_lim (E := ref23_comparison.E) mixed tt_ok ctxOk_nil Try.func27 (by kernel_rfl : Try.f27.body = some (bodyOf Try.f27)) Try.ntmps27 (of_decide_eq_true (by kernel_rfl)) (of_decide_eq_true (by kernel_rfl))
    fun x y h => ((lim_eq (.code (bodyOf Try.f27) .ret) (entryFrom 0 ref23_comparison.ps x)).trans (ref23_comparison.se (lim ref23_comparison.E ref23_comparison.fin) x)).trans h
theorem ref23_comparison.val (x : (argTy ref23_comparison.ps).den) : lim ref23_comparison.E ref23_comparison.fin (.code (bodyOf Try.f27) .ret) (entryFrom 0 ref23_comparison.ps x) = ref23_comparison.sig.run x :=
  (lim_eq (.code (bodyOf Try.f27) .ret) (entryFrom 0 ref23_comparison.ps x)).trans (ref23_comparison.se (lim ref23_comparison.E ref23_comparison.fin) x)
noncomputable def ref23_comparison.ctxc (n : Nat) : List (Nat × Sig) := []
noncomputable def ref23_comparison.sigc (n : Nat) : Sig := ⟨ref23_comparison.ps, ref23_comparison.rs, fun x => runs (withCtx ref23_comparison.E (ref23_comparison.ctxc n)) ref23_comparison.fin n (.code (bodyOf Try.f27) .ret) (entryFrom 0 ref23_comparison.ps x)⟩
theorem ref23_comparison.sigc_le (n : Nat) : ∀ x y, (ref23_comparison.sigc n).run x = some y → ref23_comparison.sig.run x = some y :=
  fun x y h => (ref23_comparison.val x).symm.trans (runs_lim (E := ref23_comparison.E) (c := ref23_comparison.ctxc n) ctxLe_nil h)

/-! ### guerdon/guerdonref10.Operands -/
namespace ref10_Operands
abbrev ps : List PM := [.pure (.sl api_Type), .pure (.int .i64)]
abbrev rs : List RM := [.own (.int .i64)]
abbrev R : Type := Option (List Int × Unit)
noncomputable def E : Env := { tt := tt, ctx := [(40, ref10_structure.sig), (41, ref10_Arity.sig)], nt := 56, ann := [(4, [(0, .keep), (1, .keep), (5, .keep)]), (1000008, [(5, .keep), (9, .keep), (10, .keep), (11, .keep)])] }
noncomputable def c0 : Code := sub [1, 1, 1, 1, 1, 1, 1] (bodyOf Try.f43)
noncomputable def c1 : Code := sub [1, 1, 1] (bodyOf Try.f43)
noncomputable def c2 : Code := sub [1, 1, 1, 1, 1, 1, 0, 1, 0, 0] (bodyOf Try.f43)
noncomputable def K9 : Kont := .seq c0 .ret
noncomputable def K11 : Kont := .blk 0 K9
noncomputable def fin : ASt → R := Kret E Try.f43.results.toList ps rs
def tJ0 (e : List api_TypeV) (at_1 : Int) (starts : List Int) : ASt := ⟨[(5, .one (.own 5)), (1, .one (.val (.int .i64) at_1)), (0, .one (.val (.sl api_Type) e))], [(5, some ⟨.free, .int .i64, starts⟩)]⟩
def tL1 (starts : List Int) (out : List Int) (k : Int) (i : Int) : ASt := ⟨[(11, .one (.val (.int .i64) i)), (10, .one (.val (.int .i64) k)), (9, .one (.own 9)), (5, .one (.own 5))], [(9, some ⟨.free, .int .i64, out⟩), (5, some ⟨.free, .int .i64, starts⟩)]⟩
noncomputable def SJ0 (kL1 : (List Int) → (List Int) → Int → Int → R) (e : List api_TypeV) (at_1 : Int) (starts : List Int) : R :=
  Option.bind (idx e at_1) fun x1 =>
  Option.bind (ref10_Arity x1.1) fun x2 =>
  cond (decide (0 ≤ (x2.1 : Int)) && (decide ((x2.1 : Int) ≤ x2.1) && (decide ((x2.1 : Int) * 8 ≤ room) && (decide ((x2.1 : Int) ≤ maxLen) && decide (0 < Ty.nc (.int .i64))))))
    (kL1 starts (List.replicate x2.1.toNat 0) (IntKind.i64.wrap (at_1 - 1)) (IntKind.i64.wrap (x2.1 - 1)))
    none
noncomputable def SL1 (kL1 : (List Int) → (List Int) → Int → Int → R) (starts : List Int) (out : List Int) (k : Int) (i : Int) : R :=
  cond (decide (i ≥ 0))
    (cond (decide (0 ≤ i) && decide (i < (out.length : Int)))
      (cond (decide (0 ≤ k) && decide (k < (starts.length : Int)))
        (kL1 starts (out.set i.toNat k) (IntKind.i64.wrap ((starts.getD k.toNat 0) - 1)) (IntKind.i64.wrap (i - 1)))
        none)
      none)
    (some (out, ()))
noncomputable def Se (kJ0 : (List api_TypeV) → Int → (List Int) → R) (e : List api_TypeV) (at_1 : Int) : R :=
  Option.bind (ref10_structure e) fun x1 =>
  cond (x1.2.2.1 != 0)
    (some ([], ()))
    (cond (decide (at_1 < 0))
      (some ([], ()))
      (cond (decide (at_1 ≥ (e.length : Int)))
        (some ([], ()))
        (kJ0 e at_1 x1.1)))
theorem sJ0 (jmp : Tgt → ASt → R) (e : List api_TypeV) (at_1 : Int) (starts : List Int) : run E jmp fin depth c1 .ret (tJ0 e at_1 starts) =
    SJ0 (fun starts out k i => jmp (.loop c2 K11) (tL1 starts out k i)) e at_1 starts := by kernel_rfl
theorem sL1 (jmp : Tgt → ASt → R) (starts : List Int) (out : List Int) (k : Int) (i : Int) : run E jmp fin depth c2 (.loop c2 K11) (tL1 starts out k i) =
    SL1 (fun starts out k i => jmp (.loop c2 K11) (tL1 starts out k i)) starts out k i := by kernel_rfl
theorem se (jmp : Tgt → ASt → R) (x : (argTy ps).den) : run E jmp fin depth (bodyOf Try.f43) .ret (entryFrom 0 ps x) =
    Se (fun e at_1 starts => jmp (.code c1 .ret) (tJ0 e at_1 starts)) x.1 x.2.1 := by kernel_rfl
noncomputable def J0 (e : List api_TypeV) (at_1 : Int) (starts : List Int) : R := lim E fin (.code c1 .ret) (tJ0 e at_1 starts)
noncomputable def L1 (starts : List Int) (out : List Int) (k : Int) (i : Int) : R := lim E fin (.loop c2 K11) (tL1 starts out k i)
theorem J0_eq (e : List api_TypeV) (at_1 : Int) (starts : List Int) : J0 e at_1 starts = SJ0 L1 e at_1 starts :=
  (lim_eq (.code c1 .ret) (tJ0 e at_1 starts)).trans (sJ0 (lim E fin) e at_1 starts)
theorem L1_eq (starts : List Int) (out : List Int) (k : Int) (i : Int) : L1 starts out k i = SL1 L1 starts out k i :=
  (lim_eq (.loop c2 K11) (tL1 starts out k i)).trans (sL1 (lim E fin) starts out k i)
end ref10_Operands
noncomputable def ref10_Operands (e : List api_TypeV) (at_1 : Int) : ref10_Operands.R :=
  ref10_Operands.Se ref10_Operands.J0 e at_1
noncomputable def ref10_Operands.sig : Sig := ⟨ref10_Operands.ps, ref10_Operands.rs, fun x => ref10_Operands x.1 x.2.1⟩
theorem ref10_Operands.ok : CallOK Try.prog 43 ref10_Operands.sig :=
  callOK_of_lim (E := ref10_Operands.E) mixed tt_ok (ctxOk_cons (ctxOk_cons ctxOk_nil ref10_Arity.ok Try.func41 (by kernel_rfl) (by kernel_rfl)) ref10_structure.ok Try.func40 (by kernel_rfl) (by kernel_rfl)) Try.func43 (by kernel_rfl : Try.f43.body = some (bodyOf Try.f43)) Try.ntmps43 (of_decide_eq_true (by kernel_rfl)) (of_decide_eq_true (by kernel_rfl))
    fun x y h => ((lim_eq (.code (bodyOf Try.f43) .ret) (entryFrom 0 ref10_Operands.ps x)).trans (ref10_Operands.se (lim ref10_Operands.E ref10_Operands.fin) x)).trans h
theorem ref10_Operands.val (x : (argTy ref10_Operands.ps).den) : lim ref10_Operands.E ref10_Operands.fin (.code (bodyOf Try.f43) .ret) (entryFrom 0 ref10_Operands.ps x) = ref10_Operands.sig.run x :=
  (lim_eq (.code (bodyOf Try.f43) .ret) (entryFrom 0 ref10_Operands.ps x)).trans (ref10_Operands.se (lim ref10_Operands.E ref10_Operands.fin) x)
noncomputable def ref10_Operands.ctxc (n : Nat) : List (Nat × Sig) := [(40, ref10_structure.sigc n), (41, ref10_Arity.sigc n)]
noncomputable def ref10_Operands.sigc (n : Nat) : Sig := ⟨ref10_Operands.ps, ref10_Operands.rs, fun x => runs (withCtx ref10_Operands.E (ref10_Operands.ctxc n)) ref10_Operands.fin n (.code (bodyOf Try.f43) .ret) (entryFrom 0 ref10_Operands.ps x)⟩
theorem ref10_Operands.sigc_le (n : Nat) : ∀ x y, (ref10_Operands.sigc n).run x = some y → ref10_Operands.sig.run x = some y :=
  fun x y h => (ref10_Operands.val x).symm.trans (runs_lim (E := ref10_Operands.E) (c := ref10_Operands.ctxc n) (ctxLe_cons (ctxLe_cons ctxLe_nil (ref10_Arity.sigc_le n)) (ref10_structure.sigc_le n)) h)

/-! ### guerdon/guerdonref23.literal -/
namespace ref23_literal
abbrev ps : List PM := [.pure (.int .i64)]
abbrev rs : List RM := [.pure .bool]
abbrev R : Type := Option (Bool × Unit)
noncomputable def E : Env := { tt := tt, ctx := [], nt := 9, ann := [] }
noncomputable def fin : ASt → R := Kret E Try.f29.results.toList ps rs
noncomputable def Se (op : Int) : R :=
  cond (decide (op ≥ 2))
    (some (decide (op ≤ 6), ()))
    (some (false, ()))
theorem se (jmp : Tgt → ASt → R) (x : (argTy ps).den) : run E jmp fin depth (bodyOf Try.f29) .ret (entryFrom 0 ps x) =
    Se x.1 := by kernel_rfl
end ref23_literal
noncomputable def ref23_literal (op : Int) : ref23_literal.R :=
  ref23_literal.Se op
noncomputable def ref23_literal.sig : Sig := ⟨ref23_literal.ps, ref23_literal.rs, fun x => ref23_literal x.1⟩
theorem ref23_literal.ok : CallOK Try.prog 29 ref23_literal.sig :=
  callOK_of_lim (E := ref23_literal.E) mixed tt_ok ctxOk_nil Try.func29 (by kernel_rfl : Try.f29.body = some (bodyOf Try.f29)) Try.ntmps29 (of_decide_eq_true (by kernel_rfl)) (of_decide_eq_true (by kernel_rfl))
    fun x y h => ((lim_eq (.code (bodyOf Try.f29) .ret) (entryFrom 0 ref23_literal.ps x)).trans (ref23_literal.se (lim ref23_literal.E ref23_literal.fin) x)).trans h
theorem ref23_literal.val (x : (argTy ref23_literal.ps).den) : lim ref23_literal.E ref23_literal.fin (.code (bodyOf Try.f29) .ret) (entryFrom 0 ref23_literal.ps x) = ref23_literal.sig.run x :=
  (lim_eq (.code (bodyOf Try.f29) .ret) (entryFrom 0 ref23_literal.ps x)).trans (ref23_literal.se (lim ref23_literal.E ref23_literal.fin) x)
noncomputable def ref23_literal.ctxc (n : Nat) : List (Nat × Sig) := []
noncomputable def ref23_literal.sigc (n : Nat) : Sig := ⟨ref23_literal.ps, ref23_literal.rs, fun x => runs (withCtx ref23_literal.E (ref23_literal.ctxc n)) ref23_literal.fin n (.code (bodyOf Try.f29) .ret) (entryFrom 0 ref23_literal.ps x)⟩
theorem ref23_literal.sigc_le (n : Nat) : ∀ x y, (ref23_literal.sigc n).run x = some y → ref23_literal.sig.run x = some y :=
  fun x y h => (ref23_literal.val x).symm.trans (runs_lim (E := ref23_literal.E) (c := ref23_literal.ctxc n) ctxLe_nil h)

/-! ### guerdon/guerdonref23.simple -/
namespace ref23_simple
abbrev ps : List PM := [.pure (.sl api_Type), .pure (.int .i64)]
abbrev rs : List RM := [.pure api_Type, .pure api_Type, .pure .bool]
abbrev R : Type := Option (api_TypeV × api_TypeV × Bool × Unit)
noncomputable def E : Env := { tt := tt, ctx := [(43, ref10_Operands.sig), (27, ref23_comparison.sig), (29, ref23_literal.sig)], nt := 61, ann := [(4, [(0, .keep), (4, .keep), (5, .keep), (7, .keep)]), (7, [(4, .keep), (5, .keep), (8, .keep), (9, .keep)])] }
noncomputable def c0 : Code := sub [1, 1, 1] (bodyOf Try.f28)
noncomputable def c1 : Code := sub [1, 1, 1, 1, 1] (bodyOf Try.f28)
noncomputable def fin : ASt → R := Kret E Try.f28.results.toList ps rs
def tJ0 (e : List api_TypeV) (v_4 : api_TypeV) (v_5 : api_TypeV) (k : List Int) : ASt := ⟨[(7, .one (.own 7)), (5, .one (.optr 5 0 [])), (4, .one (.optr 4 0 [])), (0, .one (.val (.sl api_Type) e))], [(7, some ⟨.free, .int .i64, k⟩), (5, some ⟨.free, api_Type, [v_5]⟩), (4, some ⟨.free, api_Type, [v_4]⟩)]⟩
def tJ1 (v_4 : api_TypeV) (v_5 : api_TypeV) (a : api_TypeV) (b : api_TypeV) : ASt := ⟨[(9, .one (.optr 9 0 [])), (8, .one (.optr 8 0 [])), (5, .one (.optr 5 0 [])), (4, .one (.optr 4 0 []))], [(9, some ⟨.free, api_Type, [b]⟩), (8, some ⟨.free, api_Type, [a]⟩), (5, some ⟨.free, api_Type, [v_5]⟩), (4, some ⟨.free, api_Type, [v_4]⟩)]⟩
noncomputable def SJ0 (kJ1 : api_TypeV → api_TypeV → api_TypeV → api_TypeV → R) (e : List api_TypeV) (v_4 : api_TypeV) (v_5 : api_TypeV) (k : List Int) : R :=
  cond (decide (0 ≤ 0) && decide (0 < (k.length : Int)))
    (Option.bind (idx e (k.getD 0 0)) fun x1 =>
    cond (decide (0 ≤ 1) && decide (1 < (k.length : Int)))
      (Option.bind (idx e (k.getD 1 0)) fun x2 =>
      cond (x1.1 == 7)
        (Option.bind (ref23_literal x2.1) fun x3 =>
        cond x3.1
          (some (x1, x2, true, ()))
          (kJ1 v_4 v_5 x1 x2))
        (kJ1 v_4 v_5 x1 x2))
      none)
    none
noncomputable def SJ1 (v_4 : api_TypeV) (v_5 : api_TypeV) (a : api_TypeV) (b : api_TypeV) : R :=
  cond (b.1 == 7)
    (Option.bind (ref23_literal a.1) fun x1 =>
    cond x1.1
      (some (b, a, true, ()))
      (some ((0, 0, ()), (0, 0, ()), false, ())))
    (some ((0, 0, ()), (0, 0, ()), false, ()))
noncomputable def Se (kJ0 : (List api_TypeV) → api_TypeV → api_TypeV → (List Int) → R) (e : List api_TypeV) (at_1 : Int) : R :=
  Option.bind (ref10_Operands e at_1) fun x1 =>
  Option.bind (idx e at_1) fun x2 =>
  Option.bind (ref23_comparison x2.1) fun x3 =>
  cond (!x3.1)
    (some ((0, 0, ()), (0, 0, ()), false, ()))
    (cond ((x1.1.length : Int) != 2)
      (some ((0, 0, ()), (0, 0, ()), false, ()))
      (kJ0 e (0, 0, ()) (0, 0, ()) x1.1))
theorem sJ0 (jmp : Tgt → ASt → R) (e : List api_TypeV) (v_4 : api_TypeV) (v_5 : api_TypeV) (k : List Int) : run E jmp fin depth c0 .ret (tJ0 e v_4 v_5 k) =
    SJ0 (fun v_4 v_5 a b => jmp (.code c1 .ret) (tJ1 v_4 v_5 a b)) e v_4 v_5 k := by kernel_rfl
theorem sJ1 (jmp : Tgt → ASt → R) (v_4 : api_TypeV) (v_5 : api_TypeV) (a : api_TypeV) (b : api_TypeV) : run E jmp fin depth c1 .ret (tJ1 v_4 v_5 a b) =
    SJ1 v_4 v_5 a b := by kernel_rfl
theorem se (jmp : Tgt → ASt → R) (x : (argTy ps).den) : run E jmp fin depth (bodyOf Try.f28) .ret (entryFrom 0 ps x) =
    Se (fun e v_4 v_5 k => jmp (.code c0 .ret) (tJ0 e v_4 v_5 k)) x.1 x.2.1 := by kernel_rfl
noncomputable def J0 (e : List api_TypeV) (v_4 : api_TypeV) (v_5 : api_TypeV) (k : List Int) : R := lim E fin (.code c0 .ret) (tJ0 e v_4 v_5 k)
noncomputable def J1 (v_4 : api_TypeV) (v_5 : api_TypeV) (a : api_TypeV) (b : api_TypeV) : R := lim E fin (.code c1 .ret) (tJ1 v_4 v_5 a b)
theorem J0_eq (e : List api_TypeV) (v_4 : api_TypeV) (v_5 : api_TypeV) (k : List Int) : J0 e v_4 v_5 k = SJ0 J1 e v_4 v_5 k :=
  (lim_eq (.code c0 .ret) (tJ0 e v_4 v_5 k)).trans (sJ0 (lim E fin) e v_4 v_5 k)
theorem J1_eq (v_4 : api_TypeV) (v_5 : api_TypeV) (a : api_TypeV) (b : api_TypeV) : J1 v_4 v_5 a b = SJ1 v_4 v_5 a b :=
  (lim_eq (.code c1 .ret) (tJ1 v_4 v_5 a b)).trans (sJ1 (lim E fin) v_4 v_5 a b)
end ref23_simple
noncomputable def ref23_simple (e : List api_TypeV) (at_1 : Int) : ref23_simple.R :=
  ref23_simple.Se ref23_simple.J0 e at_1
noncomputable def ref23_simple.sig : Sig := ⟨ref23_simple.ps, ref23_simple.rs, fun x => ref23_simple x.1 x.2.1⟩
theorem ref23_simple.ok : CallOK Try.prog 28 ref23_simple.sig :=
  callOK_of_lim (E := ref23_simple.E) mixed tt_ok (ctxOk_cons (ctxOk_cons (ctxOk_cons ctxOk_nil ref23_literal.ok Try.func29 (by kernel_rfl) (by kernel_rfl)) ref23_comparison.ok Try.func27 (by kernel_rfl) (by kernel_rfl)) ref10_Operands.ok Try.func43 (by kernel_rfl) (by kernel_rfl)) Try.func28 (by kernel_rfl : Try.f28.body = some (bodyOf Try.f28)) Try.ntmps28 (of_decide_eq_true (by kernel_rfl)) (of_decide_eq_true (by kernel_rfl))
    fun x y h => ((lim_eq (.code (bodyOf Try.f28) .ret) (entryFrom 0 ref23_simple.ps x)).trans (ref23_simple.se (lim ref23_simple.E ref23_simple.fin) x)).trans h
theorem ref23_simple.val (x : (argTy ref23_simple.ps).den) : lim ref23_simple.E ref23_simple.fin (.code (bodyOf Try.f28) .ret) (entryFrom 0 ref23_simple.ps x) = ref23_simple.sig.run x :=
  (lim_eq (.code (bodyOf Try.f28) .ret) (entryFrom 0 ref23_simple.ps x)).trans (ref23_simple.se (lim ref23_simple.E ref23_simple.fin) x)
noncomputable def ref23_simple.ctxc (n : Nat) : List (Nat × Sig) := [(43, ref10_Operands.sigc n), (27, ref23_comparison.sigc n), (29, ref23_literal.sigc n)]
noncomputable def ref23_simple.sigc (n : Nat) : Sig := ⟨ref23_simple.ps, ref23_simple.rs, fun x => runs (withCtx ref23_simple.E (ref23_simple.ctxc n)) ref23_simple.fin n (.code (bodyOf Try.f28) .ret) (entryFrom 0 ref23_simple.ps x)⟩
theorem ref23_simple.sigc_le (n : Nat) : ∀ x y, (ref23_simple.sigc n).run x = some y → ref23_simple.sig.run x = some y :=
  fun x y h => (ref23_simple.val x).symm.trans (runs_lim (E := ref23_simple.E) (c := ref23_simple.ctxc n) (ctxLe_cons (ctxLe_cons (ctxLe_cons ctxLe_nil (ref23_literal.sigc_le n)) (ref23_comparison.sigc_le n)) (ref10_Operands.sigc_le n)) h)

/-! ### guerdon/guerdonref23.IsFlat -/
namespace ref23_IsFlat
abbrev ps : List PM := [.pure (.sl api_Type), .pure api_Signature]
abbrev rs : List RM := [.pure .bool]
abbrev R : Type := Option (Bool × Unit)
noncomputable def E : Env := { tt := tt, ctx := [(26, ref10_TypeOf.sig), (27, ref23_comparison.sig), (28, ref23_simple.sig), (29, ref23_literal.sig)], nt := 72, ann := [(4, [(0, .keep)]), (1000005, [(0, .keep), (8, .keep)])] }
noncomputable def c0 : Code := sub [1, 1, 1, 1] (bodyOf Try.f11)
noncomputable def c1 : Code := sub [1, 1, 1] (bodyOf Try.f11)
noncomputable def c2 : Code := sub [1, 1, 1, 0, 1, 0, 0] (bodyOf Try.f11)
noncomputable def K6 : Kont := .seq c0 .ret
noncomputable def K8 : Kont := .blk 0 K6
noncomputable def fin : ASt → R := Kret E Try.f11.results.toList ps rs
def tJ0 (e : List api_TypeV) : ASt := ⟨[(0, .one (.val (.sl api_Type) e))], []⟩
def tL1 (e : List api_TypeV) (i : Int) : ASt := ⟨[(8, .one (.val (.int .i64) i)), (0, .one (.val (.sl api_Type) e))], []⟩
noncomputable def SJ0 (kL1 : (List api_TypeV) → Int → R) (e : List api_TypeV) : R :=
  kL1 e 0
noncomputable def SL1 (kL1 : (List api_TypeV) → Int → R) (e : List api_TypeV) (i : Int) : R :=
  cond (decide (i < (e.length : Int)))
    (Option.bind (idx e i) fun x1 =>
    Option.bind (ref23_comparison x1.1) fun x2 =>
    cond x2.1
      (Option.bind (ref23_simple e i) fun x3 =>
      cond (!x3.2.2.1)
        (some (false, ()))
        (kL1 e (IntKind.i64.wrap (i + 1))))
      (cond (x1.1 != 1)
        (cond (x1.1 != 23)
          (cond (x1.1 != 24)
            (cond (x1.1 != 25)
              (cond (x1.1 != 7)
                (Option.bind (ref23_literal x1.1) fun x4 =>
                cond (!x4.1)
                  (some (false, ()))
                  (kL1 e (IntKind.i64.wrap (i + 1))))
                (kL1 e (IntKind.i64.wrap (i + 1))))
              (kL1 e (IntKind.i64.wrap (i + 1))))
            (kL1 e (IntKind.i64.wrap (i + 1))))
          (kL1 e (IntKind.i64.wrap (i + 1))))
        (kL1 e (IntKind.i64.wrap (i + 1)))))
    (some (true, ()))
noncomputable def Se (kJ0 : (List api_TypeV) → R) (e : List api_TypeV) (s : api_SignatureV) : R :=
  Option.bind (ref10_TypeOf e s) fun x1 =>
  cond (x1.2.2.1 != 0)
    (some (false, ()))
    (cond (!eqTy (.pair (.int .i64) (.pair (.int .i64) .unit)) x1.1 (1, 0, ()))
      (some (false, ()))
      (kJ0 e))
theorem sJ0 (jmp : Tgt → ASt → R) (e : List api_TypeV) : run E jmp fin depth c1 .ret (tJ0 e) =
    SJ0 (fun e i => jmp (.loop c2 K8) (tL1 e i)) e := by kernel_rfl
theorem sL1 (jmp : Tgt → ASt → R) (e : List api_TypeV) (i : Int) : run E jmp fin depth c2 (.loop c2 K8) (tL1 e i) =
    SL1 (fun e i => jmp (.loop c2 K8) (tL1 e i)) e i := by kernel_rfl
theorem se (jmp : Tgt → ASt → R) (x : (argTy ps).den) : run E jmp fin depth (bodyOf Try.f11) .ret (entryFrom 0 ps x) =
    Se (fun e => jmp (.code c1 .ret) (tJ0 e)) x.1 x.2.1 := by kernel_rfl
noncomputable def J0 (e : List api_TypeV) : R := lim E fin (.code c1 .ret) (tJ0 e)
noncomputable def L1 (e : List api_TypeV) (i : Int) : R := lim E fin (.loop c2 K8) (tL1 e i)
theorem J0_eq (e : List api_TypeV) : J0 e = SJ0 L1 e :=
  (lim_eq (.code c1 .ret) (tJ0 e)).trans (sJ0 (lim E fin) e)
theorem L1_eq (e : List api_TypeV) (i : Int) : L1 e i = SL1 L1 e i :=
  (lim_eq (.loop c2 K8) (tL1 e i)).trans (sL1 (lim E fin) e i)
end ref23_IsFlat
noncomputable def ref23_IsFlat (e : List api_TypeV) (s : api_SignatureV) : ref23_IsFlat.R :=
  ref23_IsFlat.Se ref23_IsFlat.J0 e s
noncomputable def ref23_IsFlat.sig : Sig := ⟨ref23_IsFlat.ps, ref23_IsFlat.rs, fun x => ref23_IsFlat x.1 x.2.1⟩
theorem ref23_IsFlat.ok : CallOK Try.prog 11 ref23_IsFlat.sig :=
  callOK_of_lim (E := ref23_IsFlat.E) mixed tt_ok (ctxOk_cons (ctxOk_cons (ctxOk_cons (ctxOk_cons ctxOk_nil ref23_literal.ok Try.func29 (by kernel_rfl) (by kernel_rfl)) ref23_simple.ok Try.func28 (by kernel_rfl) (by kernel_rfl)) ref23_comparison.ok Try.func27 (by kernel_rfl) (by kernel_rfl)) ref10_TypeOf.ok Try.func26 (by kernel_rfl) (by kernel_rfl)) Try.func11 (by kernel_rfl : Try.f11.body = some (bodyOf Try.f11)) Try.ntmps11 (of_decide_eq_true (by kernel_rfl)) (of_decide_eq_true (by kernel_rfl))
    fun x y h => ((lim_eq (.code (bodyOf Try.f11) .ret) (entryFrom 0 ref23_IsFlat.ps x)).trans (ref23_IsFlat.se (lim ref23_IsFlat.E ref23_IsFlat.fin) x)).trans h
theorem ref23_IsFlat.val (x : (argTy ref23_IsFlat.ps).den) : lim ref23_IsFlat.E ref23_IsFlat.fin (.code (bodyOf Try.f11) .ret) (entryFrom 0 ref23_IsFlat.ps x) = ref23_IsFlat.sig.run x :=
  (lim_eq (.code (bodyOf Try.f11) .ret) (entryFrom 0 ref23_IsFlat.ps x)).trans (ref23_IsFlat.se (lim ref23_IsFlat.E ref23_IsFlat.fin) x)
noncomputable def ref23_IsFlat.ctxc (n : Nat) : List (Nat × Sig) := [(26, ref10_TypeOf.sigc n), (27, ref23_comparison.sigc n), (28, ref23_simple.sigc n), (29, ref23_literal.sigc n)]
noncomputable def ref23_IsFlat.sigc (n : Nat) : Sig := ⟨ref23_IsFlat.ps, ref23_IsFlat.rs, fun x => runs (withCtx ref23_IsFlat.E (ref23_IsFlat.ctxc n)) ref23_IsFlat.fin n (.code (bodyOf Try.f11) .ret) (entryFrom 0 ref23_IsFlat.ps x)⟩
theorem ref23_IsFlat.sigc_le (n : Nat) : ∀ x y, (ref23_IsFlat.sigc n).run x = some y → ref23_IsFlat.sig.run x = some y :=
  fun x y h => (ref23_IsFlat.val x).symm.trans (runs_lim (E := ref23_IsFlat.E) (c := ref23_IsFlat.ctxc n) (ctxLe_cons (ctxLe_cons (ctxLe_cons (ctxLe_cons ctxLe_nil (ref23_literal.sigc_le n)) (ref23_simple.sigc_le n)) (ref23_comparison.sigc_le n)) (ref10_TypeOf.sigc_le n)) h)

/-! ### guerdon/guerdonlaw23.CellsFlat -/
namespace law23_CellsFlat
abbrev ps : List PM := [.pure (.sl api_Type), .pure api_Signature]
abbrev rs : List RM := [.pure .bool]
abbrev R : Type := Option (Bool × Unit)
noncomputable def E : Env := { tt := tt, ctx := [(8, law23_few.sig), (9, law23_awake.sig), (10, cells_IsFlat.sig), (11, ref23_IsFlat.sig)], nt := 20, ann := [] }
noncomputable def fin : ASt → R := Kret E Try.f3.results.toList ps rs
noncomputable def Se (e : List api_TypeV) (s : api_SignatureV) : R :=
  Option.bind (law23_few e s) fun x1 =>
  cond (!x1.1)
    (Option.bind law23_awake fun x2 =>
    some (x2.1, ()))
    (Option.bind (cells_IsFlat e s) fun x3 =>
    Option.bind (ref23_IsFlat e s) fun x4 =>
    cond (x3.1 == x4.1)
      (Option.bind law23_awake fun x5 =>
      some (x5.1, ()))
      (some (false, ())))
theorem se (jmp : Tgt → ASt → R) (x : (argTy ps).den) : run E jmp fin depth (bodyOf Try.f3) .ret (entryFrom 0 ps x) =
    Se x.1 x.2.1 := by kernel_rfl
end law23_CellsFlat
noncomputable def law23_CellsFlat (e : List api_TypeV) (s : api_SignatureV) : law23_CellsFlat.R :=
  law23_CellsFlat.Se e s
noncomputable def law23_CellsFlat.sig : Sig := ⟨law23_CellsFlat.ps, law23_CellsFlat.rs, fun x => law23_CellsFlat x.1 x.2.1⟩
theorem law23_CellsFlat.ok : CallOK Try.prog 3 law23_CellsFlat.sig :=
  callOK_of_lim (E := law23_CellsFlat.E) mixed tt_ok (ctxOk_cons (ctxOk_cons (ctxOk_cons (ctxOk_cons ctxOk_nil ref23_IsFlat.ok Try.func11 (by kernel_rfl) (by kernel_rfl)) cells_IsFlat.ok Try.func10 (by kernel_rfl) (by kernel_rfl)) law23_awake.ok Try.func9 (by kernel_rfl) (by kernel_rfl)) law23_few.ok Try.func8 (by kernel_rfl) (by kernel_rfl)) Try.func3 (by kernel_rfl : Try.f3.body = some (bodyOf Try.f3)) Try.ntmps3 (of_decide_eq_true (by kernel_rfl)) (of_decide_eq_true (by kernel_rfl))
    fun x y h => ((lim_eq (.code (bodyOf Try.f3) .ret) (entryFrom 0 law23_CellsFlat.ps x)).trans (law23_CellsFlat.se (lim law23_CellsFlat.E law23_CellsFlat.fin) x)).trans h
theorem law23_CellsFlat.val (x : (argTy law23_CellsFlat.ps).den) : lim law23_CellsFlat.E law23_CellsFlat.fin (.code (bodyOf Try.f3) .ret) (entryFrom 0 law23_CellsFlat.ps x) = law23_CellsFlat.sig.run x :=
  (lim_eq (.code (bodyOf Try.f3) .ret) (entryFrom 0 law23_CellsFlat.ps x)).trans (law23_CellsFlat.se (lim law23_CellsFlat.E law23_CellsFlat.fin) x)
noncomputable def law23_CellsFlat.ctxc (n : Nat) : List (Nat × Sig) := [(8, law23_few.sigc n), (9, law23_awake.sigc n), (10, cells_IsFlat.sigc n), (11, ref23_IsFlat.sigc n)]
noncomputable def law23_CellsFlat.sigc (n : Nat) : Sig := ⟨law23_CellsFlat.ps, law23_CellsFlat.rs, fun x => runs (withCtx law23_CellsFlat.E (law23_CellsFlat.ctxc n)) law23_CellsFlat.fin n (.code (bodyOf Try.f3) .ret) (entryFrom 0 law23_CellsFlat.ps x)⟩
theorem law23_CellsFlat.sigc_le (n : Nat) : ∀ x y, (law23_CellsFlat.sigc n).run x = some y → law23_CellsFlat.sig.run x = some y :=
  fun x y h => (law23_CellsFlat.val x).symm.trans (runs_lim (E := law23_CellsFlat.E) (c := law23_CellsFlat.ctxc n) (ctxLe_cons (ctxLe_cons (ctxLe_cons (ctxLe_cons ctxLe_nil (ref23_IsFlat.sigc_le n)) (cells_IsFlat.sigc_le n)) (law23_awake.sigc_le n)) (law23_few.sigc_le n)) h)

/-! ### guerdon/guerdonref05.Insert -/
namespace ref05_Insert
abbrev ps : List PM := [.pure (.sl (.int .i64)), .pure (.int .i64)]
abbrev rs : List RM := [.own (.int .i64)]
abbrev R : Type := Option (List Int × Unit)
noncomputable def E : Env := { tt := tt, ctx := [], nt := 51, ann := [(1000003, [(0, .keep), (1, .keep), (5, .own (.int .i64)), (6, .keep)]), (1000009, [(0, .keep), (1, .keep), (5, .keep), (7, .keep)])] }
noncomputable def c0 : Code := sub [1, 1, 1] (bodyOf Try.f32)
noncomputable def c1 : Code := sub [1, 1, 1, 1, 1] (bodyOf Try.f32)
noncomputable def c2 : Code := sub [1, 1, 0, 1, 0, 0] (bodyOf Try.f32)
noncomputable def c3 : Code := sub [1, 1, 1, 1, 0, 1, 0, 0] (bodyOf Try.f32)
noncomputable def K3 : Kont := .seq c0 .ret
noncomputable def K5 : Kont := .blk 0 K3
noncomputable def K13 : Kont := .seq c1 .ret
noncomputable def K15 : Kont := .blk 2 K13
noncomputable def fin : ASt → R := Kret E Try.f32.results.toList ps rs
def tL0 (l : List Int) (n_1 : Int) (out : List Int) (i : Int) : ASt := ⟨[(6, .one (.val (.int .i64) i)), (5, .one (.own 5)), (1, .one (.val (.int .i64) n_1)), (0, .one (.val (.sl (.int .i64)) l))], [(5, some ⟨.free, .int .i64, out⟩)]⟩
def tL1 (l : List Int) (n_1 : Int) (out : List Int) (i : Int) : ASt := ⟨[(7, .one (.val (.int .i64) i)), (5, .one (.own 5)), (1, .one (.val (.int .i64) n_1)), (0, .one (.val (.sl (.int .i64)) l))], [(5, some ⟨.free, .int .i64, out⟩)]⟩
noncomputable def SL0 (kL0 : (List Int) → Int → (List Int) → Int → R) (kL1 : (List Int) → Int → (List Int) → Int → R) (l : List Int) (n_1 : Int) (out : List Int) (i : Int) : R :=
  cond (decide (i < (l.length : Int)))
    (Option.bind (idx l i) fun x1 =>
    cond (decide (x1 < n_1))
      (Option.bind (idx l i) fun x2 =>
      cond (decide ((out.length + 1) * 8 ≤ room) && decide (0 < Ty.nc (.int .i64)))
        (kL0 l n_1 (out ++ [x2]) (IntKind.i64.wrap (i + 1)))
        none)
      (kL0 l n_1 out (IntKind.i64.wrap (i + 1))))
    (cond (decide ((out.length + 1) * 8 ≤ room) && decide (0 < Ty.nc (.int .i64)))
      (kL1 l n_1 (out ++ [n_1]) 0)
      none)
noncomputable def SL1 (kL1 : (List Int) → Int → (List Int) → Int → R) (l : List Int) (n_1 : Int) (out : List Int) (i : Int) : R :=
  cond (decide (i < (l.length : Int)))
    (Option.bind (idx l i) fun x1 =>
    cond (decide (x1 > n_1))
      (Option.bind (idx l i) fun x2 =>
      cond (decide ((out.length + 1) * 8 ≤ room) && decide (0 < Ty.nc (.int .i64)))
        (kL1 l n_1 (out ++ [x2]) (IntKind.i64.wrap (i + 1)))
        none)
      (kL1 l n_1 out (IntKind.i64.wrap (i + 1))))
    (some (out, ()))
noncomputable def Se (kL0 : (List Int) → Int → (List Int) → Int → R) (l : List Int) (n_1 : Int) : R :=
  kL0 l n_1 [] 0
theorem sL0 (jmp : Tgt → ASt → R) (l : List Int) (n_1 : Int) (out : List Int) (i : Int) : run E jmp fin depth c2 (.loop c2 K5) (tL0 l n_1 out i) =
    SL0 (fun l n_1 out i => jmp (.loop c2 K5) (tL0 l n_1 out i)) (fun l n_1 out i => jmp (.loop c3 K15) (tL1 l n_1 out i)) l n_1 out i := by kernel_rfl
theorem sL1 (jmp : Tgt → ASt → R) (l : List Int) (n_1 : Int) (out : List Int) (i : Int) : run E jmp fin depth c3 (.loop c3 K15) (tL1 l n_1 out i) =
    SL1 (fun l n_1 out i => jmp (.loop c3 K15) (tL1 l n_1 out i)) l n_1 out i := by kernel_rfl
theorem se (jmp : Tgt → ASt → R) (x : (argTy ps).den) : run E jmp fin depth (bodyOf Try.f32) .ret (entryFrom 0 ps x) =
    Se (fun l n_1 out i => jmp (.loop c2 K5) (tL0 l n_1 out i)) x.1 x.2.1 := by kernel_rfl
noncomputable def L0 (l : List Int) (n_1 : Int) (out : List Int) (i : Int) : R := lim E fin (.loop c2 K5) (tL0 l n_1 out i)
noncomputable def L1 (l : List Int) (n_1 : Int) (out : List Int) (i : Int) : R := lim E fin (.loop c3 K15) (tL1 l n_1 out i)
theorem L0_eq (l : List Int) (n_1 : Int) (out : List Int) (i : Int) : L0 l n_1 out i = SL0 L0 L1 l n_1 out i :=
  (lim_eq (.loop c2 K5) (tL0 l n_1 out i)).trans (sL0 (lim E fin) l n_1 out i)
theorem L1_eq (l : List Int) (n_1 : Int) (out : List Int) (i : Int) : L1 l n_1 out i = SL1 L1 l n_1 out i :=
  (lim_eq (.loop c3 K15) (tL1 l n_1 out i)).trans (sL1 (lim E fin) l n_1 out i)
end ref05_Insert
noncomputable def ref05_Insert (l : List Int) (n_1 : Int) : ref05_Insert.R :=
  ref05_Insert.Se ref05_Insert.L0 l n_1
noncomputable def ref05_Insert.sig : Sig := ⟨ref05_Insert.ps, ref05_Insert.rs, fun x => ref05_Insert x.1 x.2.1⟩
theorem ref05_Insert.ok : CallOK Try.prog 32 ref05_Insert.sig :=
  callOK_of_lim (E := ref05_Insert.E) mixed tt_ok ctxOk_nil Try.func32 (by kernel_rfl : Try.f32.body = some (bodyOf Try.f32)) Try.ntmps32 (of_decide_eq_true (by kernel_rfl)) (of_decide_eq_true (by kernel_rfl))
    fun x y h => ((lim_eq (.code (bodyOf Try.f32) .ret) (entryFrom 0 ref05_Insert.ps x)).trans (ref05_Insert.se (lim ref05_Insert.E ref05_Insert.fin) x)).trans h
theorem ref05_Insert.val (x : (argTy ref05_Insert.ps).den) : lim ref05_Insert.E ref05_Insert.fin (.code (bodyOf Try.f32) .ret) (entryFrom 0 ref05_Insert.ps x) = ref05_Insert.sig.run x :=
  (lim_eq (.code (bodyOf Try.f32) .ret) (entryFrom 0 ref05_Insert.ps x)).trans (ref05_Insert.se (lim ref05_Insert.E ref05_Insert.fin) x)
noncomputable def ref05_Insert.ctxc (n : Nat) : List (Nat × Sig) := []
noncomputable def ref05_Insert.sigc (n : Nat) : Sig := ⟨ref05_Insert.ps, ref05_Insert.rs, fun x => runs (withCtx ref05_Insert.E (ref05_Insert.ctxc n)) ref05_Insert.fin n (.code (bodyOf Try.f32) .ret) (entryFrom 0 ref05_Insert.ps x)⟩
theorem ref05_Insert.sigc_le (n : Nat) : ∀ x y, (ref05_Insert.sigc n).run x = some y → ref05_Insert.sig.run x = some y :=
  fun x y h => (ref05_Insert.val x).symm.trans (runs_lim (E := ref05_Insert.E) (c := ref05_Insert.ctxc n) ctxLe_nil h)

/-! ### guerdon/guerdonref23.CutPoints -/
namespace ref23_CutPoints
abbrev ps : List PM := [.pure (.sl (.sl api_Type)), .pure (.int .i64)]
abbrev rs : List RM := [.own (.int .i64)]
abbrev R : Type := Option (List Int × Unit)
noncomputable def E : Env := { tt := tt, ctx := [(28, ref23_simple.sig), (32, ref05_Insert.sig)], nt := 65, ann := [(1000003, [(0, .keep), (1, .keep), (5, .own (.int .i64)), (6, .keep)]), (1000006, [(0, .keep), (1, .keep), (5, .own (.int .i64)), (6, .keep), (7, .keep)]), (10, [(0, .keep), (1, .keep), (5, .own (.int .i64)), (6, .keep), (7, .keep), (9, .keep)])] }
noncomputable def c0 : Code := sub [1, 1, 1] (bodyOf Try.f14)
noncomputable def c1 : Code := sub [1, 1, 0, 1, 0, 0] (bodyOf Try.f14)
noncomputable def c2 : Code := sub [1, 1, 0, 1, 0, 0, 1, 1] (bodyOf Try.f14)
noncomputable def c3 : Code := sub [1, 1, 0, 1, 0, 0, 1, 0, 0, 1, 0, 0] (bodyOf Try.f14)
noncomputable def c4 : Code := sub [1, 1, 0, 1, 0, 0, 1, 0, 0, 1, 0, 0, 1, 1] (bodyOf Try.f14)
noncomputable def c5 : Code := sub [1, 1, 0, 1, 0, 0, 1, 0, 0, 1, 0, 0, 1, 0, 0, 1, 1] (bodyOf Try.f14)
noncomputable def K3 : Kont := .seq c0 .ret
noncomputable def K5 : Kont := .blk 0 K3
noncomputable def K6 : Kont := .loop c1 K5
noncomputable def K9 : Kont := .seq c2 K6
noncomputable def K10 : Kont := .blk 1 K9
noncomputable def K12 : Kont := .blk 2 K10
noncomputable def K13 : Kont := .loop c3 K12
noncomputable def K17 : Kont := .seq c4 K13
noncomputable def K18 : Kont := .blk 3 K17
noncomputable def fin : ASt → R := Kret E Try.f14.results.toList ps rs
def tL0 (guards : List (List api_TypeV)) (input : Int) (out : List Int) (g_6 : Int) : ASt := ⟨[(6, .one (.val (.int .i64) g_6)), (5, .one (.own 5)), (1, .one (.val (.int .i64) input)), (0, .one (.val (.sl (.sl api_Type)) guards))], [(5, some ⟨.free, .int .i64, out⟩)]⟩
def tL1 (guards : List (List api_TypeV)) (input : Int) (out : List Int) (g_6 : Int) (i : Int) : ASt := ⟨[(7, .one (.val (.int .i64) i)), (6, .one (.val (.int .i64) g_6)), (5, .one (.own 5)), (1, .one (.val (.int .i64) input)), (0, .one (.val (.sl (.sl api_Type)) guards))], [(5, some ⟨.free, .int .i64, out⟩)]⟩
def tJ2 (guards : List (List api_TypeV)) (input : Int) (out : List Int) (g_6 : Int) (i : Int) (b : api_TypeV) : ASt := ⟨[(9, .one (.optr 9 0 [])), (7, .one (.val (.int .i64) i)), (6, .one (.val (.int .i64) g_6)), (5, .one (.own 5)), (1, .one (.val (.int .i64) input)), (0, .one (.val (.sl (.sl api_Type)) guards))], [(9, some ⟨.free, api_Type, [b]⟩), (5, some ⟨.free, .int .i64, out⟩)]⟩
noncomputable def SL0 (kL1 : (List (List api_TypeV)) → Int → (List Int) → Int → Int → R) (guards : List (List api_TypeV)) (input : Int) (out : List Int) (g_6 : Int) : R :=
  cond (decide (g_6 < (guards.length : Int)))
    (kL1 guards input out g_6 0)
    (some (out, ()))
noncomputable def SL1 (kL1 : (List (List api_TypeV)) → Int → (List Int) → Int → Int → R) (kJ2 : (List (List api_TypeV)) → Int → (List Int) → Int → Int → api_TypeV → R) (kL0 : (List (List api_TypeV)) → Int → (List Int) → Int → R) (guards : List (List api_TypeV)) (input : Int) (out : List Int) (g_6 : Int) (i : Int) : R :=
  Option.bind (idx guards g_6) fun x1 =>
  cond (decide (i < (x1.length : Int)))
    (Option.bind (idx guards g_6) fun x2 =>
    Option.bind (ref23_simple x2 i) fun x3 =>
    cond (!x3.2.2.1)
      (kL1 guards input out g_6 (IntKind.i64.wrap (i + 1)))
      (cond (x3.1.2.1 != input)
        (kL1 guards input out g_6 (IntKind.i64.wrap (i + 1)))
        (cond (x3.2.1.1 == 6)
          (kL1 guards input out g_6 (IntKind.i64.wrap (i + 1)))
          (kJ2 guards input out g_6 i x3.2.1))))
    (kL0 guards input out (IntKind.i64.wrap (g_6 + 1)))
noncomputable def SJ2 (kL1 : (List (List api_TypeV)) → Int → (List Int) → Int → Int → R) (guards : List (List api_TypeV)) (input : Int) (out : List Int) (g_6 : Int) (i : Int) (b : api_TypeV) : R :=
  Option.bind (ref05_Insert out b.2.1) fun x1 =>
  cond (decide ((IntKind.i64.wrap (b.2.1 + 1)) > b.2.1))
    (Option.bind (ref05_Insert x1.1 (IntKind.i64.wrap (b.2.1 + 1))) fun x2 =>
    kL1 guards input x2.1 g_6 (IntKind.i64.wrap (i + 1)))
    (kL1 guards input x1.1 g_6 (IntKind.i64.wrap (i + 1)))
noncomputable def Se (kL0 : (List (List api_TypeV)) → Int → (List Int) → Int → R) (guards : List (List api_TypeV)) (input : Int) : R :=
  kL0 guards input [] 0
theorem sL0 (jmp : Tgt → ASt → R) (guards : List (List api_TypeV)) (input : Int) (out : List Int) (g_6 : Int) : run E jmp fin depth c1 (.loop c1 K5) (tL0 guards input out g_6) =
    SL0 (fun guards input out g_6 i => jmp (.loop c3 K12) (tL1 guards input out g_6 i)) guards input out g_6 := by kernel_rfl
theorem sL1 (jmp : Tgt → ASt → R) (guards : List (List api_TypeV)) (input : Int) (out : List Int) (g_6 : Int) (i : Int) : run E jmp fin depth c3 (.loop c3 K12) (tL1 guards input out g_6 i) =
    SL1 (fun guards input out g_6 i => jmp (.loop c3 K12) (tL1 guards input out g_6 i)) (fun guards input out g_6 i b => jmp (.code c5 K18) (tJ2 guards input out g_6 i b)) (fun guards input out g_6 => jmp (.loop c1 K5) (tL0 guards input out g_6)) guards input out g_6 i := by kernel_rfl
theorem sJ2 (jmp : Tgt → ASt → R) (guards : List (List api_TypeV)) (input : Int) (out : List Int) (g_6 : Int) (i : Int) (b : api_TypeV) : run E jmp fin depth c5 K18 (tJ2 guards input out g_6 i b) =
    SJ2 (fun guards input out g_6 i => jmp (.loop c3 K12) (tL1 guards input out g_6 i)) guards input out g_6 i b := by kernel_rfl
theorem se (jmp : Tgt → ASt → R) (x : (argTy ps).den) : run E jmp fin depth (bodyOf Try.f14) .ret (entryFrom 0 ps x) =
    Se (fun guards input out g_6 => jmp (.loop c1 K5) (tL0 guards input out g_6)) x.1 x.2.1 := by kernel_rfl
noncomputable def L0 (guards : List (List api_TypeV)) (input : Int) (out : List Int) (g_6 : Int) : R := lim E fin (.loop c1 K5) (tL0 guards input out g_6)
noncomputable def L1 (guards : List (List api_TypeV)) (input : Int) (out : List Int) (g_6 : Int) (i : Int) : R := lim E fin (.loop c3 K12) (tL1 guards input out g_6 i)
noncomputable def J2 (guards : List (List api_TypeV)) (input : Int) (out : List Int) (g_6 : Int) (i : Int) (b : api_TypeV) : R := lim E fin (.code c5 K18) (tJ2 guards input out g_6 i b)
theorem L0_eq (guards : List (List api_TypeV)) (input : Int) (out : List Int) (g_6 : Int) : L0 guards input out g_6 = SL0 L1 guards input out g_6 :=
  (lim_eq (.loop c1 K5) (tL0 guards input out g_6)).trans (sL0 (lim E fin) guards input out g_6)
theorem L1_eq (guards : List (List api_TypeV)) (input : Int) (out : List Int) (g_6 : Int) (i : Int) : L1 guards input out g_6 i = SL1 L1 J2 L0 guards input out g_6 i :=
  (lim_eq (.loop c3 K12) (tL1 guards input out g_6 i)).trans (sL1 (lim E fin) guards input out g_6 i)
theorem J2_eq (guards : List (List api_TypeV)) (input : Int) (out : List Int) (g_6 : Int) (i : Int) (b : api_TypeV) : J2 guards input out g_6 i b = SJ2 L1 guards input out g_6 i b :=
  (lim_eq (.code c5 K18) (tJ2 guards input out g_6 i b)).trans (sJ2 (lim E fin) guards input out g_6 i b)
end ref23_CutPoints
noncomputable def ref23_CutPoints (guards : List (List api_TypeV)) (input : Int) : ref23_CutPoints.R :=
  ref23_CutPoints.Se ref23_CutPoints.L0 guards input
noncomputable def ref23_CutPoints.sig : Sig := ⟨ref23_CutPoints.ps, ref23_CutPoints.rs, fun x => ref23_CutPoints x.1 x.2.1⟩
theorem ref23_CutPoints.ok : CallOK Try.prog 14 ref23_CutPoints.sig :=
  callOK_of_lim (E := ref23_CutPoints.E) mixed tt_ok (ctxOk_cons (ctxOk_cons ctxOk_nil ref05_Insert.ok Try.func32 (by kernel_rfl) (by kernel_rfl)) ref23_simple.ok Try.func28 (by kernel_rfl) (by kernel_rfl)) Try.func14 (by kernel_rfl : Try.f14.body = some (bodyOf Try.f14)) Try.ntmps14 (of_decide_eq_true (by kernel_rfl)) (of_decide_eq_true (by kernel_rfl))
    fun x y h => ((lim_eq (.code (bodyOf Try.f14) .ret) (entryFrom 0 ref23_CutPoints.ps x)).trans (ref23_CutPoints.se (lim ref23_CutPoints.E ref23_CutPoints.fin) x)).trans h
theorem ref23_CutPoints.val (x : (argTy ref23_CutPoints.ps).den) : lim ref23_CutPoints.E ref23_CutPoints.fin (.code (bodyOf Try.f14) .ret) (entryFrom 0 ref23_CutPoints.ps x) = ref23_CutPoints.sig.run x :=
  (lim_eq (.code (bodyOf Try.f14) .ret) (entryFrom 0 ref23_CutPoints.ps x)).trans (ref23_CutPoints.se (lim ref23_CutPoints.E ref23_CutPoints.fin) x)
noncomputable def ref23_CutPoints.ctxc (n : Nat) : List (Nat × Sig) := [(28, ref23_simple.sigc n), (32, ref05_Insert.sigc n)]
noncomputable def ref23_CutPoints.sigc (n : Nat) : Sig := ⟨ref23_CutPoints.ps, ref23_CutPoints.rs, fun x => runs (withCtx ref23_CutPoints.E (ref23_CutPoints.ctxc n)) ref23_CutPoints.fin n (.code (bodyOf Try.f14) .ret) (entryFrom 0 ref23_CutPoints.ps x)⟩
theorem ref23_CutPoints.sigc_le (n : Nat) : ∀ x y, (ref23_CutPoints.sigc n).run x = some y → ref23_CutPoints.sig.run x = some y :=
  fun x y h => (ref23_CutPoints.val x).symm.trans (runs_lim (E := ref23_CutPoints.E) (c := ref23_CutPoints.ctxc n) (ctxLe_cons (ctxLe_cons ctxLe_nil (ref05_Insert.sigc_le n)) (ref23_simple.sigc_le n)) h)

/-! ### guerdon/guerdonlaw23.CellsCuts -/
namespace law23_CellsCuts
abbrev ps : List PM := [.pure (.sl (.sl api_Type)), .pure (.int .i64)]
abbrev rs : List RM := [.pure .bool]
abbrev R : Type := Option (Bool × Unit)
noncomputable def E : Env := { tt := tt, ctx := [(9, law23_awake.sig), (13, cells_CutPoints.sig), (14, ref23_CutPoints.sig), (12, same_Ints.sig)], nt := 33, ann := [(1000004, [(0, .keep), (1, .keep), (5, .keep)])] }
noncomputable def c0 : Code := sub [1, 1, 1] (bodyOf Try.f4)
noncomputable def c1 : Code := sub [1, 1, 0, 1, 0, 0] (bodyOf Try.f4)
noncomputable def K5 : Kont := .seq c0 .ret
noncomputable def K7 : Kont := .blk 0 K5
noncomputable def fin : ASt → R := Kret E Try.f4.results.toList ps rs
def tL0 (guards : List (List api_TypeV)) (input : Int) (i : Int) : ASt := ⟨[(5, .one (.val (.int .i64) i)), (1, .one (.val (.int .i64) input)), (0, .one (.val (.sl (.sl api_Type)) guards))], []⟩
noncomputable def SL0 (kL0 : (List (List api_TypeV)) → Int → Int → R) (guards : List (List api_TypeV)) (input : Int) (i : Int) : R :=
  cond (decide (i < (guards.length : Int)))
    (Option.bind (idx guards i) fun x1 =>
    cond (decide ((x1.length : Int) > 60))
      (Option.bind law23_awake fun x2 =>
      some (x2.1, ()))
      (kL0 guards input (IntKind.i64.wrap (i + 1))))
    (Option.bind (cells_CutPoints guards input) fun x3 =>
    Option.bind (ref23_CutPoints guards input) fun x4 =>
    Option.bind (same_Ints x3.1 x4.1) fun x5 =>
    cond x5.1
      (Option.bind law23_awake fun x6 =>
      some (x6.1, ()))
      (some (false, ())))
noncomputable def Se (kL0 : (List (List api_TypeV)) → Int → Int → R) (guards : List (List api_TypeV)) (input : Int) : R :=
  cond (decide ((guards.length : Int) > 20))
    (Option.bind law23_awake fun x1 =>
    some (x1.1, ()))
    (kL0 guards input 0)
theorem sL0 (jmp : Tgt → ASt → R) (guards : List (List api_TypeV)) (input : Int) (i : Int) : run E jmp fin depth c1 (.loop c1 K7) (tL0 guards input i) =
    SL0 (fun guards input i => jmp (.loop c1 K7) (tL0 guards input i)) guards input i := by kernel_rfl
theorem se (jmp : Tgt → ASt → R) (x : (argTy ps).den) : run E jmp fin depth (bodyOf Try.f4) .ret (entryFrom 0 ps x) =
    Se (fun guards input i => jmp (.loop c1 K7) (tL0 guards input i)) x.1 x.2.1 := by kernel_rfl
noncomputable def L0 (guards : List (List api_TypeV)) (input : Int) (i : Int) : R := lim E fin (.loop c1 K7) (tL0 guards input i)
theorem L0_eq (guards : List (List api_TypeV)) (input : Int) (i : Int) : L0 guards input i = SL0 L0 guards input i :=
  (lim_eq (.loop c1 K7) (tL0 guards input i)).trans (sL0 (lim E fin) guards input i)
end law23_CellsCuts
noncomputable def law23_CellsCuts (guards : List (List api_TypeV)) (input : Int) : law23_CellsCuts.R :=
  law23_CellsCuts.Se law23_CellsCuts.L0 guards input
noncomputable def law23_CellsCuts.sig : Sig := ⟨law23_CellsCuts.ps, law23_CellsCuts.rs, fun x => law23_CellsCuts x.1 x.2.1⟩
theorem law23_CellsCuts.ok : CallOK Try.prog 4 law23_CellsCuts.sig :=
  callOK_of_lim (E := law23_CellsCuts.E) mixed tt_ok (ctxOk_cons (ctxOk_cons (ctxOk_cons (ctxOk_cons ctxOk_nil same_Ints.ok Try.func12 (by kernel_rfl) (by kernel_rfl)) ref23_CutPoints.ok Try.func14 (by kernel_rfl) (by kernel_rfl)) cells_CutPoints.ok Try.func13 (by kernel_rfl) (by kernel_rfl)) law23_awake.ok Try.func9 (by kernel_rfl) (by kernel_rfl)) Try.func4 (by kernel_rfl : Try.f4.body = some (bodyOf Try.f4)) Try.ntmps4 (of_decide_eq_true (by kernel_rfl)) (of_decide_eq_true (by kernel_rfl))
    fun x y h => ((lim_eq (.code (bodyOf Try.f4) .ret) (entryFrom 0 law23_CellsCuts.ps x)).trans (law23_CellsCuts.se (lim law23_CellsCuts.E law23_CellsCuts.fin) x)).trans h
theorem law23_CellsCuts.val (x : (argTy law23_CellsCuts.ps).den) : lim law23_CellsCuts.E law23_CellsCuts.fin (.code (bodyOf Try.f4) .ret) (entryFrom 0 law23_CellsCuts.ps x) = law23_CellsCuts.sig.run x :=
  (lim_eq (.code (bodyOf Try.f4) .ret) (entryFrom 0 law23_CellsCuts.ps x)).trans (law23_CellsCuts.se (lim law23_CellsCuts.E law23_CellsCuts.fin) x)
noncomputable def law23_CellsCuts.ctxc (n : Nat) : List (Nat × Sig) := [(9, law23_awake.sigc n), (13, cells_CutPoints.sigc n), (14, ref23_CutPoints.sigc n), (12, same_Ints.sigc n)]
noncomputable def law23_CellsCuts.sigc (n : Nat) : Sig := ⟨law23_CellsCuts.ps, law23_CellsCuts.rs, fun x => runs (withCtx law23_CellsCuts.E (law23_CellsCuts.ctxc n)) law23_CellsCuts.fin n (.code (bodyOf Try.f4) .ret) (entryFrom 0 law23_CellsCuts.ps x)⟩
theorem law23_CellsCuts.sigc_le (n : Nat) : ∀ x y, (law23_CellsCuts.sigc n).run x = some y → law23_CellsCuts.sig.run x = some y :=
  fun x y h => (law23_CellsCuts.val x).symm.trans (runs_lim (E := law23_CellsCuts.E) (c := law23_CellsCuts.ctxc n) (ctxLe_cons (ctxLe_cons (ctxLe_cons (ctxLe_cons ctxLe_nil (same_Ints.sigc_le n)) (ref23_CutPoints.sigc_le n)) (cells_CutPoints.sigc_le n)) (law23_awake.sigc_le n)) h)

end Go.Proofs.Ytmkkdjnojcmihaa
