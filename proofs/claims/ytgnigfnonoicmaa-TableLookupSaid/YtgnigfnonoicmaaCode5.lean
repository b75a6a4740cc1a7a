import Derived.Test.YtgnigfnonoicmaaCode4
set_option maxRecDepth 100000
set_option linter.unusedVariables false
namespace Go.Proofs.Ytgnigfnonoicmaa
open Go Go.Lift
namespace slices_heapSortOrdered_int
abbrev ps : List PM := [.own (.int .i64), .pure (.int .i64), .pure (.int .i64)]
abbrev rs : List RM := []
abbrev R : Type := Option (List Int × Unit)
noncomputable def E : Env := { tt := tt, ctx := [(107, slices_siftDownOrdered_int.sig)], nt := 56, ann := [(1000004, [(0, .keep), (6, .keep), (7, .keep), (8, .keep), (9, .keep)]), (1000008, [(0, .keep), (6, .keep), (7, .keep), (10, .keep)])] }
noncomputable def c0 : Code := sub [1, 1, 1, 1] (bodyOf Try.f98)
noncomputable def c1 : Code := sub [1, 1, 1, 0, 1, 0, 0] (bodyOf Try.f98)
noncomputable def c2 : Code := sub [1, 1, 1, 1, 1, 0, 0] (bodyOf Try.f98)
noncomputable def K4 : Kont := .seq c0 .ret
noncomputable def K6 : Kont := .blk 0 K4
noncomputable def K13 : Kont := .blk 2 .ret
noncomputable def fin : ASt → R := Kret E Try.f98.results.toList ps rs
def tL0 (first : Int) (lo : Int) (hi : Int) (i : Int) (data_P : List Int) : ASt := ⟨[(9, .one (.val (.int .i64) i)), (8, .one (.val (.int .i64) hi)), (7, .one (.val (.int .i64) lo)), (6, .one (.val (.int .i64) first)), (0, .one (.own 10000))], [(10000, some ⟨.fixed, .int .i64, data_P⟩)]⟩
def tL1 (first : Int) (lo : Int) (i : Int) (data_P : List Int) : ASt := ⟨[(10, .one (.val (.int .i64) i)), (7, .one (.val (.int .i64) lo)), (6, .one (.val (.int .i64) first)), (0, .one (.own 10000))], [(10000, some ⟨.fixed, .int .i64, data_P⟩)]⟩
noncomputable def SL0 (kL0 : Int → Int → Int → Int → (List Int) → R) (kL1 : Int → Int → Int → (List Int) → R) (first : Int) (lo : Int) (hi : Int) (i : Int) (data_P : List Int) : R :=
  cond (decide (i ≥ 0))
    (Option.bind (slices_siftDownOrdered_int data_P i hi first) fun x1 =>
    kL0 first lo hi (IntKind.i64.wrap (i - 1)) x1.1)
    (kL1 first lo (IntKind.i64.wrap (hi - 1)) data_P)
noncomputable def SL1 (kL1 : Int → Int → Int → (List Int) → R) (first : Int) (lo : Int) (i : Int) (data_P : List Int) : R :=
  cond (decide (i ≥ 0))
    (cond (decide (0 ≤ IntKind.i64.wrap (first + i)) && decide (IntKind.i64.wrap (first + i) < (data_P.length : Int)))
      (cond (decide (0 ≤ first) && decide (first < (data_P.length : Int)))
        (cond (decide (0 ≤ first) && decide (first < (data_P.length : Int)))
          (cond (decide (0 ≤ IntKind.i64.wrap (first + i)) && decide (IntKind.i64.wrap (first + i) < ((data_P.set first.toNat (data_P.getD ((IntKind.i64.wrap (first + i)).toNat) 0)).length : Int)))
            (Option.bind (slices_siftDownOrdered_int ((data_P.set first.toNat (data_P.getD ((IntKind.i64.wrap (first + i)).toNat) 0)).set ((IntKind.i64.wrap (first + i)).toNat) (data_P.getD first.toNat 0)) lo i first) fun x1 =>
            kL1 first lo (IntKind.i64.wrap (i - 1)) x1.1)
            none)
          none)
        none)
      none)
    (some (data_P, ()))
noncomputable def Se (kL0 : Int → Int → Int → Int → (List Int) → R) (data : List Int) (a : Int) (b : Int) : R :=
  kL0 a 0 (IntKind.i64.wrap (b - a)) (IntKind.i64.wrap (Int.tdiv (IntKind.i64.wrap ((IntKind.i64.wrap (b - a)) - 1)) 2)) data
theorem sL0 (jmp : Tgt → ASt → R) (first : Int) (lo : Int) (hi : Int) (i : Int) (data_P : List Int) : run E jmp fin depth c1 (.loop c1 K6) (tL0 first lo hi i data_P) =
    SL0 (fun first lo hi i data_P => jmp (.loop c1 K6) (tL0 first lo hi i data_P)) (fun first lo i data_P => jmp (.loop c2 K13) (tL1 first lo i data_P)) first lo hi i data_P := by kernel_rfl
theorem sL1 (jmp : Tgt → ASt → R) (first : Int) (lo : Int) (i : Int) (data_P : List Int) : run E jmp fin depth c2 (.loop c2 K13) (tL1 first lo i data_P) =
    SL1 (fun first lo i data_P => jmp (.loop c2 K13) (tL1 first lo i data_P)) first lo i data_P := by kernel_rfl
theorem se (jmp : Tgt → ASt → R) (x : (argTy ps).den) : run E jmp fin depth (bodyOf Try.f98) .ret (entryFrom 0 ps x) =
    Se (fun first lo hi i data_P => jmp (.loop c1 K6) (tL0 first lo hi i data_P)) x.1 x.2.1 x.2.2.1 := by kernel_rfl
noncomputable def L0 (first : Int) (lo : Int) (hi : Int) (i : Int) (data_P : List Int) : R := lim E fin (.loop c1 K6) (tL0 first lo hi i data_P)
noncomputable def L1 (first : Int) (lo : Int) (i : Int) (data_P : List Int) : R := lim E fin (.loop c2 K13) (tL1 first lo i data_P)
theorem L0_eq (first : Int) (lo : Int) (hi : Int) (i : Int) (data_P : List Int) : L0 first lo hi i data_P = SL0 L0 L1 first lo hi i data_P :=
  (lim_eq (.loop c1 K6) (tL0 first lo hi i data_P)).trans (sL0 (lim E fin) first lo hi i data_P)
theorem L1_eq (first : Int) (lo : Int) (i : Int) (data_P : List Int) : L1 first lo i data_P = SL1 L1 first lo i data_P :=
  (lim_eq (.loop c2 K13) (tL1 first lo i data_P)).trans (sL1 (lim E fin) first lo i data_P)
end slices_heapSortOrdered_int
noncomputable def slices_heapSortOrdered_int (data : List Int) (a : Int) (b : Int) : slices_heapSortOrdered_int.R :=
  slices_heapSortOrdered_int.Se slices_heapSortOrdered_int.L0 data a b
noncomputable def slices_heapSortOrdered_int.sig : Sig := ⟨slices_heapSortOrdered_int.ps, slices_heapSortOrdered_int.rs, fun x => slices_heapSortOrdered_int x.1 x.2.1 x.2.2.1⟩
theorem slices_heapSortOrdered_int.ok : CallOK Try.prog 98 slices_heapSortOrdered_int.sig :=
  callOK_of_lim (E := slices_heapSortOrdered_int.E) mixed tt_ok (ctxOk_cons ctxOk_nil slices_siftDownOrdered_int.ok Try.func107 (by kernel_rfl) (by kernel_rfl)) Try.func98 (by kernel_rfl : Try.f98.body = some (bodyOf Try.f98)) Try.ntmps98 (of_decide_eq_true (by kernel_rfl)) (of_decide_eq_true (by kernel_rfl))
    fun x y h => ((lim_eq (.code (bodyOf Try.f98) .ret) (entryFrom 0 slices_heapSortOrdered_int.ps x)).trans (slices_heapSortOrdered_int.se (lim slices_heapSortOrdered_int.E slices_heapSortOrdered_int.fin) x)).trans h
theorem slices_heapSortOrdered_int.val (x : (argTy slices_heapSortOrdered_int.ps).den) : lim slices_heapSortOrdered_int.E slices_heapSortOrdered_int.fin (.code (bodyOf Try.f98) .ret) (entryFrom 0 slices_heapSortOrdered_int.ps x) = slices_heapSortOrdered_int.sig.run x :=
  (lim_eq (.code (bodyOf Try.f98) .ret) (entryFrom 0 slices_heapSortOrdered_int.ps x)).trans (slices_heapSortOrdered_int.se (lim slices_heapSortOrdered_int.E slices_heapSortOrdered_int.fin) x)
noncomputable def slices_heapSortOrdered_int.ctxc (n : Nat) : List (Nat × Sig) := [(107, slices_siftDownOrdered_int.sigc n)]
noncomputable def slices_heapSortOrdered_int.sigc (n : Nat) : Sig := ⟨slices_heapSortOrdered_int.ps, slices_heapSortOrdered_int.rs, fun x => runs (withCtx slices_heapSortOrdered_int.E (slices_heapSortOrdered_int.ctxc n)) slices_heapSortOrdered_int.fin n (.code (bodyOf Try.f98) .ret) (entryFrom 0 slices_heapSortOrdered_int.ps x)⟩
theorem slices_heapSortOrdered_int.sigc_le (n : Nat) : ∀ x y, (slices_heapSortOrdered_int.sigc n).run x = some y → slices_heapSortOrdered_int.sig.run x = some y :=
  fun x y h => (slices_heapSortOrdered_int.val x).symm.trans (runs_lim (E := slices_heapSortOrdered_int.E) (c := slices_heapSortOrdered_int.ctxc n) (ctxLe_cons ctxLe_nil (slices_siftDownOrdered_int.sigc_le n)) h)
namespace slices_breakPatternsOrdered_int
abbrev ps : List PM := [.own (.int .i64), .pure (.int .i64), .pure (.int .i64)]
abbrev rs : List RM := []
abbrev R : Type := Option (List Int × Unit)
noncomputable def E : Env := { tt := tt, ctx := [(93, slices_nextPowerOfTwo.sig), (94, slices_xorshift_Next.sig)], nt := 65, ann := [(1000005, [(0, .keep), (1, .keep), (6, .keep), (7, .keep), (8, .keep), (9, .keep)]), (10, [(0, .keep), (1, .keep), (6, .keep), (7, .keep), (8, .keep), (9, .keep), (10, .keep)])] }
noncomputable def c0 : Code := sub [1, 1, 0, 1, 1, 1, 0, 0] (bodyOf Try.f99)
noncomputable def c1 : Code := sub [1, 1, 0, 1, 1, 1, 0, 0, 1, 1] (bodyOf Try.f99)
noncomputable def c2 : Code := sub [1, 1, 0, 1, 1, 1, 0, 0, 1, 0, 0, 1, 1] (bodyOf Try.f99)
noncomputable def K6 : Kont := .blk 0 .ret
noncomputable def K7 : Kont := .loop c0 K6
noncomputable def K10 : Kont := .seq c1 K7
noncomputable def K11 : Kont := .blk 1 K10
noncomputable def fin : ASt → R := Kret E Try.f99.results.toList ps rs
def tL0 (a : Int) (length_6 : Int) (random : Int) (modulus : Int) (idx_9 : Int) (data_P : List Int) : ASt := ⟨[(9, .one (.val (.int .i64) idx_9)), (8, .one (.val (.int .u64) modulus)), (7, .one (.optr 7 0 [])), (6, .one (.val (.int .i64) length_6)), (1, .one (.val (.int .i64) a)), (0, .one (.own 10000))], [(7, some ⟨.free, .int .u64, [random]⟩), (10000, some ⟨.fixed, .int .i64, data_P⟩)]⟩
def tJ1 (a : Int) (length_6 : Int) (random : Int) (modulus : Int) (idx_9 : Int) (other : Int) (data_P : List Int) : ASt := ⟨[(10, .one (.val (.int .i64) other)), (9, .one (.val (.int .i64) idx_9)), (8, .one (.val (.int .u64) modulus)), (7, .one (.optr 7 0 [])), (6, .one (.val (.int .i64) length_6)), (1, .one (.val (.int .i64) a)), (0, .one (.own 10000))], [(7, some ⟨.free, .int .u64, [random]⟩), (10000, some ⟨.fixed, .int .i64, data_P⟩)]⟩
noncomputable def SL0 (kJ1 : Int → Int → Int → Int → Int → Int → (List Int) → R) (a : Int) (length_6 : Int) (random : Int) (modulus : Int) (idx_9 : Int) (data_P : List Int) : R :=
  cond (decide (idx_9 ≤ (IntKind.i64.wrap ((IntKind.i64.wrap (a + (IntKind.i64.wrap ((IntKind.i64.wrap (Int.tdiv length_6 4)) * 2)))) + 1))))
    (Option.bind (slices_xorshift_Next random) fun x1 =>
    cond (decide ((IntKind.i64.wrap (IntKind.u64.wrap (BitVec.ofInt IntKind.u64.bits x1.1 &&& BitVec.ofInt IntKind.u64.bits (IntKind.u64.wrap (modulus - 1))).toNat)) ≥ length_6))
      (kJ1 a length_6 x1.2.1 modulus idx_9 (IntKind.i64.wrap ((IntKind.i64.wrap (IntKind.u64.wrap (BitVec.ofInt IntKind.u64.bits x1.1 &&& BitVec.ofInt IntKind.u64.bits (IntKind.u64.wrap (modulus - 1))).toNat)) - length_6)) data_P)
      (kJ1 a length_6 x1.2.1 modulus idx_9 (IntKind.i64.wrap (IntKind.u64.wrap (BitVec.ofInt IntKind.u64.bits x1.1 &&& BitVec.ofInt IntKind.u64.bits (IntKind.u64.wrap (modulus - 1))).toNat)) data_P))
    (some (data_P, ()))
noncomputable def SJ1 (kL0 : Int → Int → Int → Int → Int → (List Int) → R) (a : Int) (length_6 : Int) (random : Int) (modulus : Int) (idx_9 : Int) (other : Int) (data_P : List Int) : R :=
  cond (decide (0 ≤ IntKind.i64.wrap (a + other)) && decide (IntKind.i64.wrap (a + other) < (data_P.length : Int)))
    (cond (decide (0 ≤ idx_9) && decide (idx_9 < (data_P.length : Int)))
      (cond (decide (0 ≤ idx_9) && decide (idx_9 < (data_P.length : Int)))
        (cond (decide (0 ≤ IntKind.i64.wrap (a + other)) && decide (IntKind.i64.wrap (a + other) < ((data_P.set idx_9.toNat (data_P.getD ((IntKind.i64.wrap (a + other)).toNat) 0)).length : Int)))
          (kL0 a length_6 random modulus (IntKind.i64.wrap (idx_9 + 1)) ((data_P.set idx_9.toNat (data_P.getD ((IntKind.i64.wrap (a + other)).toNat) 0)).set ((IntKind.i64.wrap (a + other)).toNat) (data_P.getD idx_9.toNat 0)))
          none)
        none)
      none)
    none
noncomputable def Se (kL0 : Int → Int → Int → Int → Int → (List Int) → R) (data : List Int) (a : Int) (b : Int) : R :=
  cond (decide ((IntKind.i64.wrap (b - a)) ≥ 8))
    (Option.bind (slices_nextPowerOfTwo (IntKind.i64.wrap (b - a))) fun x1 =>
    kL0 a (IntKind.i64.wrap (b - a)) (IntKind.u64.wrap (IntKind.i64.wrap (b - a))) x1.1 (IntKind.i64.wrap ((IntKind.i64.wrap (a + (IntKind.i64.wrap ((IntKind.i64.wrap (Int.tdiv (IntKind.i64.wrap (b - a)) 4)) * 2)))) - 1)) data)
    (some (data, ()))
theorem sL0 (jmp : Tgt → ASt → R) (a : Int) (length_6 : Int) (random : Int) (modulus : Int) (idx_9 : Int) (data_P : List Int) : run E jmp fin depth c0 (.loop c0 K6) (tL0 a length_6 random modulus idx_9 data_P) =
    SL0 (fun a length_6 random modulus idx_9 other data_P => jmp (.code c2 K11) (tJ1 a length_6 random modulus idx_9 other data_P)) a length_6 random modulus idx_9 data_P := by kernel_rfl
theorem sJ1 (jmp : Tgt → ASt → R) (a : Int) (length_6 : Int) (random : Int) (modulus : Int) (idx_9 : Int) (other : Int) (data_P : List Int) : run E jmp fin depth c2 K11 (tJ1 a length_6 random modulus idx_9 other data_P) =
    SJ1 (fun a length_6 random modulus idx_9 data_P => jmp (.loop c0 K6) (tL0 a length_6 random modulus idx_9 data_P)) a length_6 random modulus idx_9 other data_P := by kernel_rfl
theorem se (jmp : Tgt → ASt → R) (x : (argTy ps).den) : run E jmp fin depth (bodyOf Try.f99) .ret (entryFrom 0 ps x) =
    Se (fun a length_6 random modulus idx_9 data_P => jmp (.loop c0 K6) (tL0 a length_6 random modulus idx_9 data_P)) x.1 x.2.1 x.2.2.1 := by kernel_rfl
noncomputable def L0 (a : Int) (length_6 : Int) (random : Int) (modulus : Int) (idx_9 : Int) (data_P : List Int) : R := lim E fin (.loop c0 K6) (tL0 a length_6 random modulus idx_9 data_P)
noncomputable def J1 (a : Int) (length_6 : Int) (random : Int) (modulus : Int) (idx_9 : Int) (other : Int) (data_P : List Int) : R := lim E fin (.code c2 K11) (tJ1 a length_6 random modulus idx_9 other data_P)
theorem L0_eq (a : Int) (length_6 : Int) (random : Int) (modulus : Int) (idx_9 : Int) (data_P : List Int) : L0 a length_6 random modulus idx_9 data_P = SL0 J1 a length_6 random modulus idx_9 data_P :=
  (lim_eq (.loop c0 K6) (tL0 a length_6 random modulus idx_9 data_P)).trans (sL0 (lim E fin) a length_6 random modulus idx_9 data_P)
theorem J1_eq (a : Int) (length_6 : Int) (random : Int) (modulus : Int) (idx_9 : Int) (other : Int) (data_P : List Int) : J1 a length_6 random modulus idx_9 other data_P = SJ1 L0 a length_6 random modulus idx_9 other data_P :=
  (lim_eq (.code c2 K11) (tJ1 a length_6 random modulus idx_9 other data_P)).trans (sJ1 (lim E fin) a length_6 random modulus idx_9 other data_P)
end slices_breakPatternsOrdered_int
noncomputable def slices_breakPatternsOrdered_int (data : List Int) (a : Int) (b : Int) : slices_breakPatternsOrdered_int.R :=
  slices_breakPatternsOrdered_int.Se slices_breakPatternsOrdered_int.L0 data a b
noncomputable def slices_breakPatternsOrdered_int.sig : Sig := ⟨slices_breakPatternsOrdered_int.ps, slices_breakPatternsOrdered_int.rs, fun x => slices_breakPatternsOrdered_int x.1 x.2.1 x.2.2.1⟩
theorem slices_breakPatternsOrdered_int.ok : CallOK Try.prog 99 slices_breakPatternsOrdered_int.sig :=
  callOK_of_lim (E := slices_breakPatternsOrdered_int.E) mixed tt_ok (ctxOk_cons (ctxOk_cons ctxOk_nil slices_xorshift_Next.ok Try.func94 (by kernel_rfl) (by kernel_rfl)) slices_nextPowerOfTwo.ok Try.func93 (by kernel_rfl) (by kernel_rfl)) Try.func99 (by kernel_rfl : Try.f99.body = some (bodyOf Try.f99)) Try.ntmps99 (of_decide_eq_true (by kernel_rfl)) (of_decide_eq_true (by kernel_rfl))
    fun x y h => ((lim_eq (.code (bodyOf Try.f99) .ret) (entryFrom 0 slices_breakPatternsOrdered_int.ps x)).trans (slices_breakPatternsOrdered_int.se (lim slices_breakPatternsOrdered_int.E slices_breakPatternsOrdered_int.fin) x)).trans h
theorem slices_breakPatternsOrdered_int.val (x : (argTy slices_breakPatternsOrdered_int.ps).den) : lim slices_breakPatternsOrdered_int.E slices_breakPatternsOrdered_int.fin (.code (bodyOf Try.f99) .ret) (entryFrom 0 slices_breakPatternsOrdered_int.ps x) = slices_breakPatternsOrdered_int.sig.run x :=
  (lim_eq (.code (bodyOf Try.f99) .ret) (entryFrom 0 slices_breakPatternsOrdered_int.ps x)).trans (slices_breakPatternsOrdered_int.se (lim slices_breakPatternsOrdered_int.E slices_breakPatternsOrdered_int.fin) x)
noncomputable def slices_breakPatternsOrdered_int.ctxc (n : Nat) : List (Nat × Sig) := [(93, slices_nextPowerOfTwo.sigc n), (94, slices_xorshift_Next.sigc n)]
noncomputable def slices_breakPatternsOrdered_int.sigc (n : Nat) : Sig := ⟨slices_breakPatternsOrdered_int.ps, slices_breakPatternsOrdered_int.rs, fun x => runs (withCtx slices_breakPatternsOrdered_int.E (slices_breakPatternsOrdered_int.ctxc n)) slices_breakPatternsOrdered_int.fin n (.code (bodyOf Try.f99) .ret) (entryFrom 0 slices_breakPatternsOrdered_int.ps x)⟩
theorem slices_breakPatternsOrdered_int.sigc_le (n : Nat) : ∀ x y, (slices_breakPatternsOrdered_int.sigc n).run x = some y → slices_breakPatternsOrdered_int.sig.run x = some y :=
  fun x y h => (slices_breakPatternsOrdered_int.val x).symm.trans (runs_lim (E := slices_breakPatternsOrdered_int.E) (c := slices_breakPatternsOrdered_int.ctxc n) (ctxLe_cons (ctxLe_cons ctxLe_nil (slices_xorshift_Next.sigc_le n)) (slices_nextPowerOfTwo.sigc_le n)) h)
namespace slices_order2Ordered_int
abbrev ps : List PM := [.pure (.sl (.int .i64)), .pure (.int .i64), .pure (.int .i64), .ptr (.int .i64)]
abbrev rs : List RM := [.pure (.int .i64), .pure (.int .i64)]
abbrev R : Type := Option (Int × Int × Int × Unit)
noncomputable def E : Env := { tt := tt, ctx := [(103, cmp_Less_int.sig)], nt := 28, ann := [] }
noncomputable def fin : ASt → R := Kret E Try.f110.results.toList ps rs
noncomputable def Se (data : List Int) (a : Int) (b : Int) (swaps : Int) : R :=
  Option.bind (idx data b) fun x1 =>
  Option.bind (idx data a) fun x2 =>
  Option.bind (cmp_Less_int x1 x2) fun x3 =>
  cond x3.1
    (some (b, a, IntKind.i64.wrap (swaps + 1), ()))
    (some (a, b, swaps, ()))
theorem se (jmp : Tgt → ASt → R) (x : (argTy ps).den) : run E jmp fin depth (bodyOf Try.f110) .ret (entryFrom 0 ps x) =
    Se x.1 x.2.1 x.2.2.1 x.2.2.2.1 := by kernel_rfl
end slices_order2Ordered_int
noncomputable def slices_order2Ordered_int (data : List Int) (a : Int) (b : Int) (swaps : Int) : slices_order2Ordered_int.R :=
  slices_order2Ordered_int.Se data a b swaps
noncomputable def slices_order2Ordered_int.sig : Sig := ⟨slices_order2Ordered_int.ps, slices_order2Ordered_int.rs, fun x => slices_order2Ordered_int x.1 x.2.1 x.2.2.1 x.2.2.2.1⟩
theorem slices_order2Ordered_int.ok : CallOK Try.prog 110 slices_order2Ordered_int.sig :=
  callOK_of_lim (E := slices_order2Ordered_int.E) mixed tt_ok (ctxOk_cons ctxOk_nil cmp_Less_int.ok Try.func103 (by kernel_rfl) (by kernel_rfl)) Try.func110 (by kernel_rfl : Try.f110.body = some (bodyOf Try.f110)) Try.ntmps110 (of_decide_eq_true (by kernel_rfl)) (of_decide_eq_true (by kernel_rfl))
    fun x y h => ((lim_eq (.code (bodyOf Try.f110) .ret) (entryFrom 0 slices_order2Ordered_int.ps x)).trans (slices_order2Ordered_int.se (lim slices_order2Ordered_int.E slices_order2Ordered_int.fin) x)).trans h
theorem slices_order2Ordered_int.val (x : (argTy slices_order2Ordered_int.ps).den) : lim slices_order2Ordered_int.E slices_order2Ordered_int.fin (.code (bodyOf Try.f110) .ret) (entryFrom 0 slices_order2Ordered_int.ps x) = slices_order2Ordered_int.sig.run x :=
  (lim_eq (.code (bodyOf Try.f110) .ret) (entryFrom 0 slices_order2Ordered_int.ps x)).trans (slices_order2Ordered_int.se (lim slices_order2Ordered_int.E slices_order2Ordered_int.fin) x)
noncomputable def slices_order2Ordered_int.ctxc (n : Nat) : List (Nat × Sig) := [(103, cmp_Less_int.sigc n)]
noncomputable def slices_order2Ordered_int.sigc (n : Nat) : Sig := ⟨slices_order2Ordered_int.ps, slices_order2Ordered_int.rs, fun x => runs (withCtx slices_order2Ordered_int.E (slices_order2Ordered_int.ctxc n)) slices_order2Ordered_int.fin n (.code (bodyOf Try.f110) .ret) (entryFrom 0 slices_order2Ordered_int.ps x)⟩
theorem slices_order2Ordered_int.sigc_le (n : Nat) : ∀ x y, (slices_order2Ordered_int.sigc n).run x = some y → slices_order2Ordered_int.sig.run x = some y :=
  fun x y h => (slices_order2Ordered_int.val x).symm.trans (runs_lim (E := slices_order2Ordered_int.E) (c := slices_order2Ordered_int.ctxc n) (ctxLe_cons ctxLe_nil (cmp_Less_int.sigc_le n)) h)
namespace slices_medianOrdered_int
abbrev ps : List PM := [.pure (.sl (.int .i64)), .pure (.int .i64), .pure (.int .i64), .pure (.int .i64), .ptr (.int .i64)]
abbrev rs : List RM := [.pure (.int .i64)]
abbrev R : Type := Option (Int × Int × Unit)
noncomputable def E : Env := { tt := tt, ctx := [(110, slices_order2Ordered_int.sig)], nt := 36, ann := [] }
noncomputable def fin : ASt → R := Kret E Try.f109.results.toList ps rs
noncomputable def Se (data : List Int) (a : Int) (b : Int) (c_3 : Int) (swaps : Int) : R :=
  Option.bind (slices_order2Ordered_int data a b swaps) fun x1 =>
  Option.bind (slices_order2Ordered_int data x1.2.1 c_3 x1.2.2.1) fun x2 =>
  Option.bind (slices_order2Ordered_int data x1.1 x2.1 x2.2.2.1) fun x3 =>
  some (x3.2.1, x3.2.2.1, ())
theorem se (jmp : Tgt → ASt → R) (x : (argTy ps).den) : run E jmp fin depth (bodyOf Try.f109) .ret (entryFrom 0 ps x) =
    Se x.1 x.2.1 x.2.2.1 x.2.2.2.1 x.2.2.2.2.1 := by kernel_rfl
end slices_medianOrdered_int
noncomputable def slices_medianOrdered_int (data : List Int) (a : Int) (b : Int) (c_3 : Int) (swaps : Int) : slices_medianOrdered_int.R :=
  slices_medianOrdered_int.Se data a b c_3 swaps
noncomputable def slices_medianOrdered_int.sig : Sig := ⟨slices_medianOrdered_int.ps, slices_medianOrdered_int.rs, fun x => slices_medianOrdered_int x.1 x.2.1 x.2.2.1 x.2.2.2.1 x.2.2.2.2.1⟩
theorem slices_medianOrdered_int.ok : CallOK Try.prog 109 slices_medianOrdered_int.sig :=
  callOK_of_lim (E := slices_medianOrdered_int.E) mixed tt_ok (ctxOk_cons ctxOk_nil slices_order2Ordered_int.ok Try.func110 (by kernel_rfl) (by kernel_rfl)) Try.func109 (by kernel_rfl : Try.f109.body = some (bodyOf Try.f109)) Try.ntmps109 (of_decide_eq_true (by kernel_rfl)) (of_decide_eq_true (by kernel_rfl))
    fun x y h => ((lim_eq (.code (bodyOf Try.f109) .ret) (entryFrom 0 slices_medianOrdered_int.ps x)).trans (slices_medianOrdered_int.se (lim slices_medianOrdered_int.E slices_medianOrdered_int.fin) x)).trans h
theorem slices_medianOrdered_int.val (x : (argTy slices_medianOrdered_int.ps).den) : lim slices_medianOrdered_int.E slices_medianOrdered_int.fin (.code (bodyOf Try.f109) .ret) (entryFrom 0 slices_medianOrdered_int.ps x) = slices_medianOrdered_int.sig.run x :=
  (lim_eq (.code (bodyOf Try.f109) .ret) (entryFrom 0 slices_medianOrdered_int.ps x)).trans (slices_medianOrdered_int.se (lim slices_medianOrdered_int.E slices_medianOrdered_int.fin) x)
noncomputable def slices_medianOrdered_int.ctxc (n : Nat) : List (Nat × Sig) := [(110, slices_order2Ordered_int.sigc n)]
noncomputable def slices_medianOrdered_int.sigc (n : Nat) : Sig := ⟨slices_medianOrdered_int.ps, slices_medianOrdered_int.rs, fun x => runs (withCtx slices_medianOrdered_int.E (slices_medianOrdered_int.ctxc n)) slices_medianOrdered_int.fin n (.code (bodyOf Try.f109) .ret) (entryFrom 0 slices_medianOrdered_int.ps x)⟩
theorem slices_medianOrdered_int.sigc_le (n : Nat) : ∀ x y, (slices_medianOrdered_int.sigc n).run x = some y → slices_medianOrdered_int.sig.run x = some y :=
  fun x y h => (slices_medianOrdered_int.val x).symm.trans (runs_lim (E := slices_medianOrdered_int.E) (c := slices_medianOrdered_int.ctxc n) (ctxLe_cons ctxLe_nil (slices_order2Ordered_int.sigc_le n)) h)
namespace slices_medianAdjacentOrdered_int
abbrev ps : List PM := [.pure (.sl (.int .i64)), .pure (.int .i64), .ptr (.int .i64)]
abbrev rs : List RM := [.pure (.int .i64)]
abbrev R : Type := Option (Int × Int × Unit)
noncomputable def E : Env := { tt := tt, ctx := [(109, slices_medianOrdered_int.sig)], nt := 15, ann := [] }
noncomputable def fin : ASt → R := Kret E Try.f108.results.toList ps rs
noncomputable def Se (data : List Int) (a : Int) (swaps : Int) : R :=
  Option.bind (slices_medianOrdered_int data (IntKind.i64.wrap (a - 1)) a (IntKind.i64.wrap (a + 1)) swaps) fun x1 =>
  some (x1.1, x1.2.1, ())
theorem se (jmp : Tgt → ASt → R) (x : (argTy ps).den) : run E jmp fin depth (bodyOf Try.f108) .ret (entryFrom 0 ps x) =
    Se x.1 x.2.1 x.2.2.1 := by kernel_rfl
end slices_medianAdjacentOrdered_int
noncomputable def slices_medianAdjacentOrdered_int (data : List Int) (a : Int) (swaps : Int) : slices_medianAdjacentOrdered_int.R :=
  slices_medianAdjacentOrdered_int.Se data a swaps
noncomputable def slices_medianAdjacentOrdered_int.sig : Sig := ⟨slices_medianAdjacentOrdered_int.ps, slices_medianAdjacentOrdered_int.rs, fun x => slices_medianAdjacentOrdered_int x.1 x.2.1 x.2.2.1⟩
theorem slices_medianAdjacentOrdered_int.ok : CallOK Try.prog 108 slices_medianAdjacentOrdered_int.sig :=
  callOK_of_lim (E := slices_medianAdjacentOrdered_int.E) mixed tt_ok (ctxOk_cons ctxOk_nil slices_medianOrdered_int.ok Try.func109 (by kernel_rfl) (by kernel_rfl)) Try.func108 (by kernel_rfl : Try.f108.body = some (bodyOf Try.f108)) Try.ntmps108 (of_decide_eq_true (by kernel_rfl)) (of_decide_eq_true (by kernel_rfl))
    fun x y h => ((lim_eq (.code (bodyOf Try.f108) .ret) (entryFrom 0 slices_medianAdjacentOrdered_int.ps x)).trans (slices_medianAdjacentOrdered_int.se (lim slices_medianAdjacentOrdered_int.E slices_medianAdjacentOrdered_int.fin) x)).trans h
theorem slices_medianAdjacentOrdered_int.val (x : (argTy slices_medianAdjacentOrdered_int.ps).den) : lim slices_medianAdjacentOrdered_int.E slices_medianAdjacentOrdered_int.fin (.code (bodyOf Try.f108) .ret) (entryFrom 0 slices_medianAdjacentOrdered_int.ps x) = slices_medianAdjacentOrdered_int.sig.run x :=
  (lim_eq (.code (bodyOf Try.f108) .ret) (entryFrom 0 slices_medianAdjacentOrdered_int.ps x)).trans (slices_medianAdjacentOrdered_int.se (lim slices_medianAdjacentOrdered_int.E slices_medianAdjacentOrdered_int.fin) x)
noncomputable def slices_medianAdjacentOrdered_int.ctxc (n : Nat) : List (Nat × Sig) := [(109, slices_medianOrdered_int.sigc n)]
noncomputable def slices_medianAdjacentOrdered_int.sigc (n : Nat) : Sig := ⟨slices_medianAdjacentOrdered_int.ps, slices_medianAdjacentOrdered_int.rs, fun x => runs (withCtx slices_medianAdjacentOrdered_int.E (slices_medianAdjacentOrdered_int.ctxc n)) slices_medianAdjacentOrdered_int.fin n (.code (bodyOf Try.f108) .ret) (entryFrom 0 slices_medianAdjacentOrdered_int.ps x)⟩
theorem slices_medianAdjacentOrdered_int.sigc_le (n : Nat) : ∀ x y, (slices_medianAdjacentOrdered_int.sigc n).run x = some y → slices_medianAdjacentOrdered_int.sig.run x = some y :=
  fun x y h => (slices_medianAdjacentOrdered_int.val x).symm.trans (runs_lim (E := slices_medianAdjacentOrdered_int.E) (c := slices_medianAdjacentOrdered_int.ctxc n) (ctxLe_cons ctxLe_nil (slices_medianOrdered_int.sigc_le n)) h)
namespace slices_choosePivotOrdered_int
abbrev ps : List PM := [.pure (.sl (.int .i64)), .pure (.int .i64), .pure (.int .i64)]
abbrev rs : List RM := [.pure (.int .i64), .pure (.int .i64)]
abbrev R : Type := Option (Int × Int × Unit)
noncomputable def E : Env := { tt := tt, ctx := [(108, slices_medianAdjacentOrdered_int.sig), (109, slices_medianOrdered_int.sig)], nt := 57, ann := [(12, [(9, .keep), (11, .keep)])] }
noncomputable def c0 : Code := sub [1, 1, 1, 1, 1, 1, 1] (bodyOf Try.f100)
noncomputable def fin : ASt → R := Kret E Try.f100.results.toList ps rs
def tJ0 (swaps : Int) (j : Int) : ASt := ⟨[(11, .one (.val (.int .i64) j)), (9, .one (.optr 9 0 []))], [(9, some ⟨.free, .int .i64, [swaps]⟩)]⟩
noncomputable def SJ0 (swaps : Int) (j : Int) : R :=
  cond (swaps == 0)
    (some (j, 1, ()))
    (cond (swaps == 12)
      (some (j, 2, ()))
      (some (j, 0, ())))
noncomputable def Se (kJ0 : Int → Int → R) (data : List Int) (a : Int) (b : Int) : R :=
  cond (decide ((IntKind.i64.wrap (b - a)) ≥ 8))
    (cond (decide ((IntKind.i64.wrap (b - a)) ≥ 50))
      (Option.bind (slices_medianAdjacentOrdered_int data (IntKind.i64.wrap (a + (IntKind.i64.wrap ((IntKind.i64.wrap (Int.tdiv (IntKind.i64.wrap (b - a)) 4)) * 1)))) 0) fun x1 =>
      Option.bind (slices_medianAdjacentOrdered_int data (IntKind.i64.wrap (a + (IntKind.i64.wrap ((IntKind.i64.wrap (Int.tdiv (IntKind.i64.wrap (b - a)) 4)) * 2)))) x1.2.1) fun x2 =>
      Option.bind (slices_medianAdjacentOrdered_int data (IntKind.i64.wrap (a + (IntKind.i64.wrap ((IntKind.i64.wrap (Int.tdiv (IntKind.i64.wrap (b - a)) 4)) * 3)))) x2.2.1) fun x3 =>
      Option.bind (slices_medianOrdered_int data x1.1 x2.1 x3.1 x3.2.1) fun x4 =>
      kJ0 x4.2.1 x4.1)
      (Option.bind (slices_medianOrdered_int data (IntKind.i64.wrap (a + (IntKind.i64.wrap ((IntKind.i64.wrap (Int.tdiv (IntKind.i64.wrap (b - a)) 4)) * 1)))) (IntKind.i64.wrap (a + (IntKind.i64.wrap ((IntKind.i64.wrap (Int.tdiv (IntKind.i64.wrap (b - a)) 4)) * 2)))) (IntKind.i64.wrap (a + (IntKind.i64.wrap ((IntKind.i64.wrap (Int.tdiv (IntKind.i64.wrap (b - a)) 4)) * 3)))) 0) fun x5 =>
      kJ0 x5.2.1 x5.1))
    (kJ0 0 (IntKind.i64.wrap (a + (IntKind.i64.wrap ((IntKind.i64.wrap (Int.tdiv (IntKind.i64.wrap (b - a)) 4)) * 2)))))
theorem sJ0 (jmp : Tgt → ASt → R) (swaps : Int) (j : Int) : run E jmp fin depth c0 .ret (tJ0 swaps j) =
    SJ0 swaps j := by kernel_rfl
theorem se (jmp : Tgt → ASt → R) (x : (argTy ps).den) : run E jmp fin depth (bodyOf Try.f100) .ret (entryFrom 0 ps x) =
    Se (fun swaps j => jmp (.code c0 .ret) (tJ0 swaps j)) x.1 x.2.1 x.2.2.1 := by kernel_rfl
noncomputable def J0 (swaps : Int) (j : Int) : R := lim E fin (.code c0 .ret) (tJ0 swaps j)
theorem J0_eq (swaps : Int) (j : Int) : J0 swaps j = SJ0 swaps j :=
  (lim_eq (.code c0 .ret) (tJ0 swaps j)).trans (sJ0 (lim E fin) swaps j)
end slices_choosePivotOrdered_int
noncomputable def slices_choosePivotOrdered_int (data : List Int) (a : Int) (b : Int) : slices_choosePivotOrdered_int.R :=
  slices_choosePivotOrdered_int.Se slices_choosePivotOrdered_int.J0 data a b
noncomputable def slices_choosePivotOrdered_int.sig : Sig := ⟨slices_choosePivotOrdered_int.ps, slices_choosePivotOrdered_int.rs, fun x => slices_choosePivotOrdered_int x.1 x.2.1 x.2.2.1⟩
theorem slices_choosePivotOrdered_int.ok : CallOK Try.prog 100 slices_choosePivotOrdered_int.sig :=
  callOK_of_lim (E := slices_choosePivotOrdered_int.E) mixed tt_ok (ctxOk_cons (ctxOk_cons ctxOk_nil slices_medianOrdered_int.ok Try.func109 (by kernel_rfl) (by kernel_rfl)) slices_medianAdjacentOrdered_int.ok Try.func108 (by kernel_rfl) (by kernel_rfl)) Try.func100 (by kernel_rfl : Try.f100.body = some (bodyOf Try.f100)) Try.ntmps100 (of_decide_eq_true (by kernel_rfl)) (of_decide_eq_true (by kernel_rfl))
    fun x y h => ((lim_eq (.code (bodyOf Try.f100) .ret) (entryFrom 0 slices_choosePivotOrdered_int.ps x)).trans (slices_choosePivotOrdered_int.se (lim slices_choosePivotOrdered_int.E slices_choosePivotOrdered_int.fin) x)).trans h
theorem slices_choosePivotOrdered_int.val (x : (argTy slices_choosePivotOrdered_int.ps).den) : lim slices_choosePivotOrdered_int.E slices_choosePivotOrdered_int.fin (.code (bodyOf Try.f100) .ret) (entryFrom 0 slices_choosePivotOrdered_int.ps x) = slices_choosePivotOrdered_int.sig.run x :=
  (lim_eq (.code (bodyOf Try.f100) .ret) (entryFrom 0 slices_choosePivotOrdered_int.ps x)).trans (slices_choosePivotOrdered_int.se (lim slices_choosePivotOrdered_int.E slices_choosePivotOrdered_int.fin) x)
noncomputable def slices_choosePivotOrdered_int.ctxc (n : Nat) : List (Nat × Sig) := [(108, slices_medianAdjacentOrdered_int.sigc n), (109, slices_medianOrdered_int.sigc n)]
noncomputable def slices_choosePivotOrdered_int.sigc (n : Nat) : Sig := ⟨slices_choosePivotOrdered_int.ps, slices_choosePivotOrdered_int.rs, fun x => runs (withCtx slices_choosePivotOrdered_int.E (slices_choosePivotOrdered_int.ctxc n)) slices_choosePivotOrdered_int.fin n (.code (bodyOf Try.f100) .ret) (entryFrom 0 slices_choosePivotOrdered_int.ps x)⟩
theorem slices_choosePivotOrdered_int.sigc_le (n : Nat) : ∀ x y, (slices_choosePivotOrdered_int.sigc n).run x = some y → slices_choosePivotOrdered_int.sig.run x = some y :=
  fun x y h => (slices_choosePivotOrdered_int.val x).symm.trans (runs_lim (E := slices_choosePivotOrdered_int.E) (c := slices_choosePivotOrdered_int.ctxc n) (ctxLe_cons (ctxLe_cons ctxLe_nil (slices_medianOrdered_int.sigc_le n)) (slices_medianAdjacentOrdered_int.sigc_le n)) h)
namespace slices_reverseRangeOrdered_int
abbrev ps : List PM := [.own (.int .i64), .pure (.int .i64), .pure (.int .i64)]
abbrev rs : List RM := []
abbrev R : Type := Option (List Int × Unit)
noncomputable def E : Env := { tt := tt, ctx := [], nt := 32, ann := [(1000002, [(0, .keep), (6, .keep), (7, .keep)])] }
noncomputable def c0 : Code := sub [1, 1, 0, 0] (bodyOf Try.f101)
noncomputable def K3 : Kont := .blk 0 .ret
noncomputable def fin : ASt → R := Kret E Try.f101.results.toList ps rs
def tL0 (i : Int) (j : Int) (data_P : List Int) : ASt := ⟨[(7, .one (.val (.int .i64) j)), (6, .one (.val (.int .i64) i)), (0, .one (.own 10000))], [(10000, some ⟨.fixed, .int .i64, data_P⟩)]⟩
noncomputable def SL0 (kL0 : Int → Int → (List Int) → R) (i : Int) (j : Int) (data_P : List Int) : R :=
  cond (decide (i < j))
    (cond (decide (0 ≤ j) && decide (j < (data_P.length : Int)))
      (cond (decide (0 ≤ i) && decide (i < (data_P.length : Int)))
        (cond (decide (0 ≤ i) && decide (i < (data_P.length : Int)))
          (cond (decide (0 ≤ j) && decide (j < ((data_P.set i.toNat (data_P.getD j.toNat 0)).length : Int)))
            (kL0 (IntKind.i64.wrap (i + 1)) (IntKind.i64.wrap (j - 1)) ((data_P.set i.toNat (data_P.getD j.toNat 0)).set j.toNat (data_P.getD i.toNat 0)))
            none)
          none)
        none)
      none)
    (some (data_P, ()))
noncomputable def Se (kL0 : Int → Int → (List Int) → R) (data : List Int) (a : Int) (b : Int) : R :=
  kL0 a (IntKind.i64.wrap (b - 1)) data
theorem sL0 (jmp : Tgt → ASt → R) (i : Int) (j : Int) (data_P : List Int) : run E jmp fin depth c0 (.loop c0 K3) (tL0 i j data_P) =
    SL0 (fun i j data_P => jmp (.loop c0 K3) (tL0 i j data_P)) i j data_P := by kernel_rfl
theorem se (jmp : Tgt → ASt → R) (x : (argTy ps).den) : run E jmp fin depth (bodyOf Try.f101) .ret (entryFrom 0 ps x) =
    Se (fun i j data_P => jmp (.loop c0 K3) (tL0 i j data_P)) x.1 x.2.1 x.2.2.1 := by kernel_rfl
noncomputable def L0 (i : Int) (j : Int) (data_P : List Int) : R := lim E fin (.loop c0 K3) (tL0 i j data_P)
theorem L0_eq (i : Int) (j : Int) (data_P : List Int) : L0 i j data_P = SL0 L0 i j data_P :=
  (lim_eq (.loop c0 K3) (tL0 i j data_P)).trans (sL0 (lim E fin) i j data_P)
end slices_reverseRangeOrdered_int
noncomputable def slices_reverseRangeOrdered_int (data : List Int) (a : Int) (b : Int) : slices_reverseRangeOrdered_int.R :=
  slices_reverseRangeOrdered_int.Se slices_reverseRangeOrdered_int.L0 data a b
noncomputable def slices_reverseRangeOrdered_int.sig : Sig := ⟨slices_reverseRangeOrdered_int.ps, slices_reverseRangeOrdered_int.rs, fun x => slices_reverseRangeOrdered_int x.1 x.2.1 x.2.2.1⟩
theorem slices_reverseRangeOrdered_int.ok : CallOK Try.prog 101 slices_reverseRangeOrdered_int.sig :=
  callOK_of_lim (E := slices_reverseRangeOrdered_int.E) mixed tt_ok ctxOk_nil Try.func101 (by kernel_rfl : Try.f101.body = some (bodyOf Try.f101)) Try.ntmps101 (of_decide_eq_true (by kernel_rfl)) (of_decide_eq_true (by kernel_rfl))
    fun x y h => ((lim_eq (.code (bodyOf Try.f101) .ret) (entryFrom 0 slices_reverseRangeOrdered_int.ps x)).trans (slices_reverseRangeOrdered_int.se (lim slices_reverseRangeOrdered_int.E slices_reverseRangeOrdered_int.fin) x)).trans h
theorem slices_reverseRangeOrdered_int.val (x : (argTy slices_reverseRangeOrdered_int.ps).den) : lim slices_reverseRangeOrdered_int.E slices_reverseRangeOrdered_int.fin (.code (bodyOf Try.f101) .ret) (entryFrom 0 slices_reverseRangeOrdered_int.ps x) = slices_reverseRangeOrdered_int.sig.run x :=
  (lim_eq (.code (bodyOf Try.f101) .ret) (entryFrom 0 slices_reverseRangeOrdered_int.ps x)).trans (slices_reverseRangeOrdered_int.se (lim slices_reverseRangeOrdered_int.E slices_reverseRangeOrdered_int.fin) x)
noncomputable def slices_reverseRangeOrdered_int.ctxc (n : Nat) : List (Nat × Sig) := []
noncomputable def slices_reverseRangeOrdered_int.sigc (n : Nat) : Sig := ⟨slices_reverseRangeOrdered_int.ps, slices_reverseRangeOrdered_int.rs, fun x => runs (withCtx slices_reverseRangeOrdered_int.E (slices_reverseRangeOrdered_int.ctxc n)) slices_reverseRangeOrdered_int.fin n (.code (bodyOf Try.f101) .ret) (entryFrom 0 slices_reverseRangeOrdered_int.ps x)⟩
theorem slices_reverseRangeOrdered_int.sigc_le (n : Nat) : ∀ x y, (slices_reverseRangeOrdered_int.sigc n).run x = some y → slices_reverseRangeOrdered_int.sig.run x = some y :=
  fun x y h => (slices_reverseRangeOrdered_int.val x).symm.trans (runs_lim (E := slices_reverseRangeOrdered_int.E) (c := slices_reverseRangeOrdered_int.ctxc n) ctxLe_nil h)
namespace slices_partialInsertionSortOrdered_int
abbrev ps : List PM := [.own (.int .i64), .pure (.int .i64), .pure (.int .i64)]
abbrev rs : List RM := [.pure .bool]
abbrev R : Type := Option (Bool × List Int × Unit)
noncomputable def E : Env := { tt := tt, ctx := [(103, cmp_Less_int.sig)], nt := 133, ann := [(1000003, [(0, .keep), (1, .keep), (2, .keep), (7, .keep), (8, .keep)]), (7, [(0, .keep), (1, .keep), (2, .keep), (7, .keep), (8, .keep)]), (1000005, [(0, .keep), (1, .keep), (2, .keep), (7, .keep), (8, .keep)]), (18, [(0, .keep), (1, .keep), (2, .keep), (7, .keep), (8, .keep)]), (1000014, [(0, .keep), (1, .keep), (2, .keep), (7, .keep), (8, .keep), (9, .keep)]), (1000020, [(0, .keep), (1, .keep), (2, .keep), (7, .keep), (8, .keep), (10, .keep)])] }
noncomputable def c0 : Code := sub [1, 1, 1] (bodyOf Try.f102)
noncomputable def c1 : Code := sub [1, 1, 0, 1, 0, 0] (bodyOf Try.f102)
noncomputable def c2 : Code := sub [1, 1, 0, 1, 0, 0, 1, 1] (bodyOf Try.f102)
noncomputable def c3 : Code := sub [1, 1, 0, 1, 0, 0, 1, 0, 0, 1] (bodyOf Try.f102)
noncomputable def c4 : Code := sub [1, 1, 0, 1, 0, 0, 1, 0, 0, 1, 1, 1, 1, 1] (bodyOf Try.f102)
noncomputable def c5 : Code := sub [1, 1, 0, 1, 0, 0, 1, 0, 0, 0, 0, 0] (bodyOf Try.f102)
noncomputable def c6 : Code := sub [1, 1, 0, 1, 0, 0, 1, 0, 0, 1, 1, 1, 1, 0, 1, 0, 1, 0, 0] (bodyOf Try.f102)
noncomputable def c7 : Code := sub [1, 1, 0, 1, 0, 0, 1, 0, 0, 1, 1, 1, 1, 1, 1, 0, 1, 0, 0] (bodyOf Try.f102)
noncomputable def K3 : Kont := .seq c0 .ret
noncomputable def K5 : Kont := .blk 0 K3
noncomputable def K6 : Kont := .loop c1 K5
noncomputable def K9 : Kont := .seq c2 K6
noncomputable def K10 : Kont := .blk 1 K9
noncomputable def K11 : Kont := .seq c3 K10
noncomputable def K12 : Kont := .blk 2 K11
noncomputable def K25 : Kont := .seq c4 K10
noncomputable def K28 : Kont := .blk 4 K25
noncomputable def K32 : Kont := .blk 6 K10
noncomputable def fin : ASt → R := Kret E Try.f102.results.toList ps rs
def tL0 (a : Int) (b : Int) (i : Int) (j : Int) (data_P : List Int) : ASt := ⟨[(8, .one (.val (.int .i64) j)), (7, .one (.val (.int .i64) i)), (2, .one (.val (.int .i64) b)), (1, .one (.val (.int .i64) a)), (0, .one (.own 10000))], [(10000, some ⟨.fixed, .int .i64, data_P⟩)]⟩
def tJ1 (a : Int) (b : Int) (i : Int) (j : Int) (data_P : List Int) : ASt := ⟨[(8, .one (.val (.int .i64) j)), (7, .one (.val (.int .i64) i)), (2, .one (.val (.int .i64) b)), (1, .one (.val (.int .i64) a)), (0, .one (.own 10000))], [(10000, some ⟨.fixed, .int .i64, data_P⟩)]⟩
def tL2 (a : Int) (b : Int) (i : Int) (j : Int) (data_P : List Int) : ASt := ⟨[(8, .one (.val (.int .i64) j)), (7, .one (.val (.int .i64) i)), (2, .one (.val (.int .i64) b)), (1, .one (.val (.int .i64) a)), (0, .one (.own 10000))], [(10000, some ⟨.fixed, .int .i64, data_P⟩)]⟩
def tJ3 (a : Int) (b : Int) (i : Int) (j : Int) (data_P : List Int) : ASt := ⟨[(8, .one (.val (.int .i64) j)), (7, .one (.val (.int .i64) i)), (2, .one (.val (.int .i64) b)), (1, .one (.val (.int .i64) a)), (0, .one (.own 10000))], [(10000, some ⟨.fixed, .int .i64, data_P⟩)]⟩
def tL4 (a : Int) (b : Int) (i : Int) (j : Int) (j_9 : Int) (data_P : List Int) : ASt := ⟨[(9, .one (.val (.int .i64) j_9)), (8, .one (.val (.int .i64) j)), (7, .one (.val (.int .i64) i)), (2, .one (.val (.int .i64) b)), (1, .one (.val (.int .i64) a)), (0, .one (.own 10000))], [(10000, some ⟨.fixed, .int .i64, data_P⟩)]⟩
def tL5 (a : Int) (b : Int) (i : Int) (j : Int) (j_10 : Int) (data_P : List Int) : ASt := ⟨[(10, .one (.val (.int .i64) j_10)), (8, .one (.val (.int .i64) j)), (7, .one (.val (.int .i64) i)), (2, .one (.val (.int .i64) b)), (1, .one (.val (.int .i64) a)), (0, .one (.own 10000))], [(10000, some ⟨.fixed, .int .i64, data_P⟩)]⟩
noncomputable def SL0 (kL2 : Int → Int → Int → Int → (List Int) → R) (a : Int) (b : Int) (i : Int) (j : Int) (data_P : List Int) : R :=
  cond (decide (j < 5))
    (kL2 a b i j data_P)
    (some (false, data_P, ()))
noncomputable def SJ1 (kL4 : Int → Int → Int → Int → Int → (List Int) → R) (kJ3 : Int → Int → Int → Int → (List Int) → R) (a : Int) (b : Int) (i : Int) (j : Int) (data_P : List Int) : R :=
  cond (i == b)
    (some (true, data_P, ()))
    (cond (decide ((IntKind.i64.wrap (b - a)) < 50))
      (some (false, data_P, ()))
      (cond (decide (0 ≤ IntKind.i64.wrap (i - 1)) && decide (IntKind.i64.wrap (i - 1) < (data_P.length : Int)))
        (cond (decide (0 ≤ i) && decide (i < (data_P.length : Int)))
          (cond (decide (0 ≤ i) && decide (i < (data_P.length : Int)))
            (cond (decide (0 ≤ IntKind.i64.wrap (i - 1)) && decide (IntKind.i64.wrap (i - 1) < ((data_P.set i.toNat (data_P.getD ((IntKind.i64.wrap (i - 1)).toNat) 0)).length : Int)))
              (cond (decide ((IntKind.i64.wrap (i - a)) ≥ 2))
                (kL4 a b i j (IntKind.i64.wrap (i - 1)) ((data_P.set i.toNat (data_P.getD ((IntKind.i64.wrap (i - 1)).toNat) 0)).set ((IntKind.i64.wrap (i - 1)).toNat) (data_P.getD i.toNat 0)))
                (kJ3 a b i j ((data_P.set i.toNat (data_P.getD ((IntKind.i64.wrap (i - 1)).toNat) 0)).set ((IntKind.i64.wrap (i - 1)).toNat) (data_P.getD i.toNat 0))))
              none)
            none)
          none)
        none))
noncomputable def SL2 (kL2 : Int → Int → Int → Int → (List Int) → R) (kJ1 : Int → Int → Int → Int → (List Int) → R) (a : Int) (b : Int) (i : Int) (j : Int) (data_P : List Int) : R :=
  cond (decide (i < b))
    (cond (decide (0 ≤ i) && decide (i < (data_P.length : Int)))
      (cond (decide (0 ≤ IntKind.i64.wrap (i - 1)) && decide (IntKind.i64.wrap (i - 1) < (data_P.length : Int)))
        (Option.bind (cmp_Less_int (data_P.getD i.toNat 0) (data_P.getD ((IntKind.i64.wrap (i - 1)).toNat) 0)) fun x1 =>
        cond (!x1.1)
          (kL2 a b (IntKind.i64.wrap (i + 1)) j data_P)
          (kJ1 a b i j data_P))
        none)
      none)
    (kJ1 a b i j data_P)
noncomputable def SJ3 (kL5 : Int → Int → Int → Int → Int → (List Int) → R) (kL0 : Int → Int → Int → Int → (List Int) → R) (a : Int) (b : Int) (i : Int) (j : Int) (data_P : List Int) : R :=
  cond (decide ((IntKind.i64.wrap (b - i)) ≥ 2))
    (kL5 a b i j (IntKind.i64.wrap (i + 1)) data_P)
    (kL0 a b i (IntKind.i64.wrap (j + 1)) data_P)
noncomputable def SL4 (kJ3 : Int → Int → Int → Int → (List Int) → R) (kL4 : Int → Int → Int → Int → Int → (List Int) → R) (a : Int) (b : Int) (i : Int) (j : Int) (j_9 : Int) (data_P : List Int) : R :=
  cond (decide (j_9 ≥ 1))
    (cond (decide (0 ≤ j_9) && decide (j_9 < (data_P.length : Int)))
      (cond (decide (0 ≤ IntKind.i64.wrap (j_9 - 1)) && decide (IntKind.i64.wrap (j_9 - 1) < (data_P.length : Int)))
        (Option.bind (cmp_Less_int (data_P.getD j_9.toNat 0) (data_P.getD ((IntKind.i64.wrap (j_9 - 1)).toNat) 0)) fun x1 =>
        cond (!x1.1)
          (kJ3 a b i j data_P)
          (cond (decide (0 ≤ IntKind.i64.wrap (j_9 - 1)) && decide (IntKind.i64.wrap (j_9 - 1) < (data_P.length : Int)))
            (cond (decide (0 ≤ j_9) && decide (j_9 < (data_P.length : Int)))
              (cond (decide (0 ≤ j_9) && decide (j_9 < (data_P.length : Int)))
                (cond (decide (0 ≤ IntKind.i64.wrap (j_9 - 1)) && decide (IntKind.i64.wrap (j_9 - 1) < ((data_P.set j_9.toNat (data_P.getD ((IntKind.i64.wrap (j_9 - 1)).toNat) 0)).length : Int)))
                  (kL4 a b i j (IntKind.i64.wrap (j_9 - 1)) ((data_P.set j_9.toNat (data_P.getD ((IntKind.i64.wrap (j_9 - 1)).toNat) 0)).set ((IntKind.i64.wrap (j_9 - 1)).toNat) (data_P.getD j_9.toNat 0)))
                  none)
                none)
              none)
            none))
        none)
      none)
    (kJ3 a b i j data_P)
noncomputable def SL5 (kL0 : Int → Int → Int → Int → (List Int) → R) (kL5 : Int → Int → Int → Int → Int → (List Int) → R) (a : Int) (b : Int) (i : Int) (j : Int) (j_10 : Int) (data_P : List Int) : R :=
  cond (decide (j_10 < b))
    (cond (decide (0 ≤ j_10) && decide (j_10 < (data_P.length : Int)))
      (cond (decide (0 ≤ IntKind.i64.wrap (j_10 - 1)) && decide (IntKind.i64.wrap (j_10 - 1) < (data_P.length : Int)))
        (Option.bind (cmp_Less_int (data_P.getD j_10.toNat 0) (data_P.getD ((IntKind.i64.wrap (j_10 - 1)).toNat) 0)) fun x1 =>
        cond (!x1.1)
          (kL0 a b i (IntKind.i64.wrap (j + 1)) data_P)
          (cond (decide (0 ≤ IntKind.i64.wrap (j_10 - 1)) && decide (IntKind.i64.wrap (j_10 - 1) < (data_P.length : Int)))
            (cond (decide (0 ≤ j_10) && decide (j_10 < (data_P.length : Int)))
              (cond (decide (0 ≤ j_10) && decide (j_10 < (data_P.length : Int)))
                (cond (decide (0 ≤ IntKind.i64.wrap (j_10 - 1)) && decide (IntKind.i64.wrap (j_10 - 1) < ((data_P.set j_10.toNat (data_P.getD ((IntKind.i64.wrap (j_10 - 1)).toNat) 0)).length : Int)))
                  (kL5 a b i j (IntKind.i64.wrap (j_10 + 1)) ((data_P.set j_10.toNat (data_P.getD ((IntKind.i64.wrap (j_10 - 1)).toNat) 0)).set ((IntKind.i64.wrap (j_10 - 1)).toNat) (data_P.getD j_10.toNat 0)))
                  none)
                none)
              none)
            none))
        none)
      none)
    (kL0 a b i (IntKind.i64.wrap (j + 1)) data_P)
noncomputable def Se (kL0 : Int → Int → Int → Int → (List Int) → R) (data : List Int) (a : Int) (b : Int) : R :=
  kL0 a b (IntKind.i64.wrap (a + 1)) 0 data
theorem sL0 (jmp : Tgt → ASt → R) (a : Int) (b : Int) (i : Int) (j : Int) (data_P : List Int) : run E jmp fin depth c1 (.loop c1 K5) (tL0 a b i j data_P) =
    SL0 (fun a b i j data_P => jmp (.loop c5 K12) (tL2 a b i j data_P)) a b i j data_P := by kernel_rfl
theorem sJ1 (jmp : Tgt → ASt → R) (a : Int) (b : Int) (i : Int) (j : Int) (data_P : List Int) : run E jmp fin depth c3 K10 (tJ1 a b i j data_P) =
    SJ1 (fun a b i j j_9 data_P => jmp (.loop c6 K28) (tL4 a b i j j_9 data_P)) (fun a b i j data_P => jmp (.code c4 K10) (tJ3 a b i j data_P)) a b i j data_P := by kernel_rfl
theorem sL2 (jmp : Tgt → ASt → R) (a : Int) (b : Int) (i : Int) (j : Int) (data_P : List Int) : run E jmp fin depth c5 (.loop c5 K12) (tL2 a b i j data_P) =
    SL2 (fun a b i j data_P => jmp (.loop c5 K12) (tL2 a b i j data_P)) (fun a b i j data_P => jmp (.code c3 K10) (tJ1 a b i j data_P)) a b i j data_P := by kernel_rfl
theorem sJ3 (jmp : Tgt → ASt → R) (a : Int) (b : Int) (i : Int) (j : Int) (data_P : List Int) : run E jmp fin depth c4 K10 (tJ3 a b i j data_P) =
    SJ3 (fun a b i j j_10 data_P => jmp (.loop c7 K32) (tL5 a b i j j_10 data_P)) (fun a b i j data_P => jmp (.loop c1 K5) (tL0 a b i j data_P)) a b i j data_P := by kernel_rfl
theorem sL4 (jmp : Tgt → ASt → R) (a : Int) (b : Int) (i : Int) (j : Int) (j_9 : Int) (data_P : List Int) : run E jmp fin depth c6 (.loop c6 K28) (tL4 a b i j j_9 data_P) =
    SL4 (fun a b i j data_P => jmp (.code c4 K10) (tJ3 a b i j data_P)) (fun a b i j j_9 data_P => jmp (.loop c6 K28) (tL4 a b i j j_9 data_P)) a b i j j_9 data_P := by kernel_rfl
theorem sL5 (jmp : Tgt → ASt → R) (a : Int) (b : Int) (i : Int) (j : Int) (j_10 : Int) (data_P : List Int) : run E jmp fin depth c7 (.loop c7 K32) (tL5 a b i j j_10 data_P) =
    SL5 (fun a b i j data_P => jmp (.loop c1 K5) (tL0 a b i j data_P)) (fun a b i j j_10 data_P => jmp (.loop c7 K32) (tL5 a b i j j_10 data_P)) a b i j j_10 data_P := by kernel_rfl
theorem se (jmp : Tgt → ASt → R) (x : (argTy ps).den) : run E jmp fin depth (bodyOf Try.f102) .ret (entryFrom 0 ps x) =
    Se (fun a b i j data_P => jmp (.loop c1 K5) (tL0 a b i j data_P)) x.1 x.2.1 x.2.2.1 := by kernel_rfl
noncomputable def L0 (a : Int) (b : Int) (i : Int) (j : Int) (data_P : List Int) : R := lim E fin (.loop c1 K5) (tL0 a b i j data_P)
noncomputable def J1 (a : Int) (b : Int) (i : Int) (j : Int) (data_P : List Int) : R := lim E fin (.code c3 K10) (tJ1 a b i j data_P)
noncomputable def L2 (a : Int) (b : Int) (i : Int) (j : Int) (data_P : List Int) : R := lim E fin (.loop c5 K12) (tL2 a b i j data_P)
noncomputable def J3 (a : Int) (b : Int) (i : Int) (j : Int) (data_P : List Int) : R := lim E fin (.code c4 K10) (tJ3 a b i j data_P)
noncomputable def L4 (a : Int) (b : Int) (i : Int) (j : Int) (j_9 : Int) (data_P : List Int) : R := lim E fin (.loop c6 K28) (tL4 a b i j j_9 data_P)
noncomputable def L5 (a : Int) (b : Int) (i : Int) (j : Int) (j_10 : Int) (data_P : List Int) : R := lim E fin (.loop c7 K32) (tL5 a b i j j_10 data_P)
theorem L0_eq (a : Int) (b : Int) (i : Int) (j : Int) (data_P : List Int) : L0 a b i j data_P = SL0 L2 a b i j data_P :=
  (lim_eq (.loop c1 K5) (tL0 a b i j data_P)).trans (sL0 (lim E fin) a b i j data_P)
theorem J1_eq (a : Int) (b : Int) (i : Int) (j : Int) (data_P : List Int) : J1 a b i j data_P = SJ1 L4 J3 a b i j data_P :=
  (lim_eq (.code c3 K10) (tJ1 a b i j data_P)).trans (sJ1 (lim E fin) a b i j data_P)
theorem L2_eq (a : Int) (b : Int) (i : Int) (j : Int) (data_P : List Int) : L2 a b i j data_P = SL2 L2 J1 a b i j data_P :=
  (lim_eq (.loop c5 K12) (tL2 a b i j data_P)).trans (sL2 (lim E fin) a b i j data_P)
theorem J3_eq (a : Int) (b : Int) (i : Int) (j : Int) (data_P : List Int) : J3 a b i j data_P = SJ3 L5 L0 a b i j data_P :=
  (lim_eq (.code c4 K10) (tJ3 a b i j data_P)).trans (sJ3 (lim E fin) a b i j data_P)
theorem L4_eq (a : Int) (b : Int) (i : Int) (j : Int) (j_9 : Int) (data_P : List Int) : L4 a b i j j_9 data_P = SL4 J3 L4 a b i j j_9 data_P :=
  (lim_eq (.loop c6 K28) (tL4 a b i j j_9 data_P)).trans (sL4 (lim E fin) a b i j j_9 data_P)
theorem L5_eq (a : Int) (b : Int) (i : Int) (j : Int) (j_10 : Int) (data_P : List Int) : L5 a b i j j_10 data_P = SL5 L0 L5 a b i j j_10 data_P :=
  (lim_eq (.loop c7 K32) (tL5 a b i j j_10 data_P)).trans (sL5 (lim E fin) a b i j j_10 data_P)
end slices_partialInsertionSortOrdered_int
noncomputable def slices_partialInsertionSortOrdered_int (data : List Int) (a : Int) (b : Int) : slices_partialInsertionSortOrdered_int.R :=
  slices_partialInsertionSortOrdered_int.Se slices_partialInsertionSortOrdered_int.L0 data a b
noncomputable def slices_partialInsertionSortOrdered_int.sig : Sig := ⟨slices_partialInsertionSortOrdered_int.ps, slices_partialInsertionSortOrdered_int.rs, fun x => slices_partialInsertionSortOrdered_int x.1 x.2.1 x.2.2.1⟩
theorem slices_partialInsertionSortOrdered_int.ok : CallOK Try.prog 102 slices_partialInsertionSortOrdered_int.sig :=
  callOK_of_lim (E := slices_partialInsertionSortOrdered_int.E) mixed tt_ok (ctxOk_cons ctxOk_nil cmp_Less_int.ok Try.func103 (by kernel_rfl) (by kernel_rfl)) Try.func102 (by kernel_rfl : Try.f102.body = some (bodyOf Try.f102)) Try.ntmps102 (of_decide_eq_true (by kernel_rfl)) (of_decide_eq_true (by kernel_rfl))
    fun x y h => ((lim_eq (.code (bodyOf Try.f102) .ret) (entryFrom 0 slices_partialInsertionSortOrdered_int.ps x)).trans (slices_partialInsertionSortOrdered_int.se (lim slices_partialInsertionSortOrdered_int.E slices_partialInsertionSortOrdered_int.fin) x)).trans h
theorem slices_partialInsertionSortOrdered_int.val (x : (argTy slices_partialInsertionSortOrdered_int.ps).den) : lim slices_partialInsertionSortOrdered_int.E slices_partialInsertionSortOrdered_int.fin (.code (bodyOf Try.f102) .ret) (entryFrom 0 slices_partialInsertionSortOrdered_int.ps x) = slices_partialInsertionSortOrdered_int.sig.run x :=
  (lim_eq (.code (bodyOf Try.f102) .ret) (entryFrom 0 slices_partialInsertionSortOrdered_int.ps x)).trans (slices_partialInsertionSortOrdered_int.se (lim slices_partialInsertionSortOrdered_int.E slices_partialInsertionSortOrdered_int.fin) x)
noncomputable def slices_partialInsertionSortOrdered_int.ctxc (n : Nat) : List (Nat × Sig) := [(103, cmp_Less_int.sigc n)]
noncomputable def slices_partialInsertionSortOrdered_int.sigc (n : Nat) : Sig := ⟨slices_partialInsertionSortOrdered_int.ps, slices_partialInsertionSortOrdered_int.rs, fun x => runs (withCtx slices_partialInsertionSortOrdered_int.E (slices_partialInsertionSortOrdered_int.ctxc n)) slices_partialInsertionSortOrdered_int.fin n (.code (bodyOf Try.f102) .ret) (entryFrom 0 slices_partialInsertionSortOrdered_int.ps x)⟩
theorem slices_partialInsertionSortOrdered_int.sigc_le (n : Nat) : ∀ x y, (slices_partialInsertionSortOrdered_int.sigc n).run x = some y → slices_partialInsertionSortOrdered_int.sig.run x = some y :=
  fun x y h => (slices_partialInsertionSortOrdered_int.val x).symm.trans (runs_lim (E := slices_partialInsertionSortOrdered_int.E) (c := slices_partialInsertionSortOrdered_int.ctxc n) (ctxLe_cons ctxLe_nil (cmp_Less_int.sigc_le n)) h)
namespace slices_partitionEqualOrdered_int
abbrev ps : List PM := [.own (.int .i64), .pure (.int .i64), .pure (.int .i64), .pure (.int .i64)]
abbrev rs : List RM := [.pure (.int .i64)]
abbrev R : Type := Option (Int × List Int × Unit)
noncomputable def E : Env := { tt := tt, ctx := [(103, cmp_Less_int.sig)], nt := 84, ann := [(1000003, [(0, .keep), (1, .keep), (9, .keep), (10, .keep)]), (5, [(0, .keep), (1, .keep), (9, .keep), (10, .keep)]), (1000003, [(0, .keep), (1, .keep), (9, .keep), (10, .keep)]), (7, [(0, .keep), (1, .keep), (9, .keep), (10, .keep)]), (1000005, [(0, .keep), (1, .keep), (9, .keep), (10, .keep)])] }
noncomputable def c0 : Code := sub [1, 1, 1, 1] (bodyOf Try.f104)
noncomputable def c1 : Code := sub [1, 1, 1, 0, 0, 0] (bodyOf Try.f104)
noncomputable def c2 : Code := sub [1, 1, 1, 0, 0, 0, 0, 1] (bodyOf Try.f104)
noncomputable def c3 : Code := sub [1, 1, 1, 0, 0, 0, 0, 1, 1] (bodyOf Try.f104)
noncomputable def c4 : Code := sub [1, 1, 1, 0, 0, 0, 0, 0, 0, 0] (bodyOf Try.f104)
noncomputable def c5 : Code := sub [1, 1, 1, 0, 0, 0, 0, 1, 0, 0, 0] (bodyOf Try.f104)
noncomputable def K4 : Kont := .seq c0 .ret
noncomputable def K5 : Kont := .blk 0 K4
noncomputable def K6 : Kont := .loop c1 K5
noncomputable def K7 : Kont := .blk 1 K6
noncomputable def K8 : Kont := .seq c2 K7
noncomputable def K9 : Kont := .blk 2 K8
noncomputable def K14 : Kont := .seq c3 K7
noncomputable def K15 : Kont := .blk 4 K14
noncomputable def fin : ASt → R := Kret E Try.f104.results.toList ps rs
def tL0 (a : Int) (i : Int) (j : Int) (data_P : List Int) : ASt := ⟨[(10, .one (.val (.int .i64) j)), (9, .one (.val (.int .i64) i)), (1, .one (.val (.int .i64) a)), (0, .one (.own 10000))], [(10000, some ⟨.fixed, .int .i64, data_P⟩)]⟩
def tJ1 (a : Int) (i : Int) (j : Int) (data_P : List Int) : ASt := ⟨[(10, .one (.val (.int .i64) j)), (9, .one (.val (.int .i64) i)), (1, .one (.val (.int .i64) a)), (0, .one (.own 10000))], [(10000, some ⟨.fixed, .int .i64, data_P⟩)]⟩
def tL2 (a : Int) (i : Int) (j : Int) (data_P : List Int) : ASt := ⟨[(10, .one (.val (.int .i64) j)), (9, .one (.val (.int .i64) i)), (1, .one (.val (.int .i64) a)), (0, .one (.own 10000))], [(10000, some ⟨.fixed, .int .i64, data_P⟩)]⟩
def tJ3 (a : Int) (i : Int) (j : Int) (data_P : List Int) : ASt := ⟨[(10, .one (.val (.int .i64) j)), (9, .one (.val (.int .i64) i)), (1, .one (.val (.int .i64) a)), (0, .one (.own 10000))], [(10000, some ⟨.fixed, .int .i64, data_P⟩)]⟩
def tL4 (a : Int) (i : Int) (j : Int) (data_P : List Int) : ASt := ⟨[(10, .one (.val (.int .i64) j)), (9, .one (.val (.int .i64) i)), (1, .one (.val (.int .i64) a)), (0, .one (.own 10000))], [(10000, some ⟨.fixed, .int .i64, data_P⟩)]⟩
noncomputable def SL0 (kL2 : Int → Int → Int → (List Int) → R) (a : Int) (i : Int) (j : Int) (data_P : List Int) : R :=
  kL2 a i j data_P
noncomputable def SJ1 (kL4 : Int → Int → Int → (List Int) → R) (a : Int) (i : Int) (j : Int) (data_P : List Int) : R :=
  kL4 a i j data_P
noncomputable def SL2 (kL2 : Int → Int → Int → (List Int) → R) (kJ1 : Int → Int → Int → (List Int) → R) (a : Int) (i : Int) (j : Int) (data_P : List Int) : R :=
  cond (decide (i ≤ j))
    (cond (decide (0 ≤ a) && decide (a < (data_P.length : Int)))
      (cond (decide (0 ≤ i) && decide (i < (data_P.length : Int)))
        (Option.bind (cmp_Less_int (data_P.getD a.toNat 0) (data_P.getD i.toNat 0)) fun x1 =>
        cond (!x1.1)
          (kL2 a (IntKind.i64.wrap (i + 1)) j data_P)
          (kJ1 a i j data_P))
        none)
      none)
    (kJ1 a i j data_P)
noncomputable def SJ3 (kL0 : Int → Int → Int → (List Int) → R) (a : Int) (i : Int) (j : Int) (data_P : List Int) : R :=
  cond (decide (i > j))
    (some (i, data_P, ()))
    (cond (decide (0 ≤ j) && decide (j < (data_P.length : Int)))
      (cond (decide (0 ≤ i) && decide (i < (data_P.length : Int)))
        (cond (decide (0 ≤ i) && decide (i < (data_P.length : Int)))
          (cond (decide (0 ≤ j) && decide (j < ((data_P.set i.toNat (data_P.getD j.toNat 0)).length : Int)))
            (kL0 a (IntKind.i64.wrap (i + 1)) (IntKind.i64.wrap (j - 1)) ((data_P.set i.toNat (data_P.getD j.toNat 0)).set j.toNat (data_P.getD i.toNat 0)))
            none)
          none)
        none)
      none)
noncomputable def SL4 (kL4 : Int → Int → Int → (List Int) → R) (kJ3 : Int → Int → Int → (List Int) → R) (a : Int) (i : Int) (j : Int) (data_P : List Int) : R :=
  cond (decide (i ≤ j))
    (cond (decide (0 ≤ a) && decide (a < (data_P.length : Int)))
      (cond (decide (0 ≤ j) && decide (j < (data_P.length : Int)))
        (Option.bind (cmp_Less_int (data_P.getD a.toNat 0) (data_P.getD j.toNat 0)) fun x1 =>
        cond x1.1
          (kL4 a i (IntKind.i64.wrap (j - 1)) data_P)
          (kJ3 a i j data_P))
        none)
      none)
    (kJ3 a i j data_P)
noncomputable def Se (kL0 : Int → Int → Int → (List Int) → R) (data : List Int) (a : Int) (b : Int) (pivot : Int) : R :=
  cond (decide (0 ≤ pivot) && decide (pivot < (data.length : Int)))
    (cond (decide (0 ≤ a) && decide (a < (data.length : Int)))
      (cond (decide (0 ≤ a) && decide (a < (data.length : Int)))
        (cond (decide (0 ≤ pivot) && decide (pivot < ((data.set a.toNat (data.getD pivot.toNat 0)).length : Int)))
          (kL0 a (IntKind.i64.wrap (a + 1)) (IntKind.i64.wrap (b - 1)) ((data.set a.toNat (data.getD pivot.toNat 0)).set pivot.toNat (data.getD a.toNat 0)))
          none)
        none)
      none)
    none
theorem sL0 (jmp : Tgt → ASt → R) (a : Int) (i : Int) (j : Int) (data_P : List Int) : run E jmp fin depth c1 (.loop c1 K5) (tL0 a i j data_P) =
    SL0 (fun a i j data_P => jmp (.loop c4 K9) (tL2 a i j data_P)) a i j data_P := by kernel_rfl
theorem sJ1 (jmp : Tgt → ASt → R) (a : Int) (i : Int) (j : Int) (data_P : List Int) : run E jmp fin depth c2 K7 (tJ1 a i j data_P) =
    SJ1 (fun a i j data_P => jmp (.loop c5 K15) (tL4 a i j data_P)) a i j data_P := by kernel_rfl
theorem sL2 (jmp : Tgt → ASt → R) (a : Int) (i : Int) (j : Int) (data_P : List Int) : run E jmp fin depth c4 (.loop c4 K9) (tL2 a i j data_P) =
    SL2 (fun a i j data_P => jmp (.loop c4 K9) (tL2 a i j data_P)) (fun a i j data_P => jmp (.code c2 K7) (tJ1 a i j data_P)) a i j data_P := by kernel_rfl
theorem sJ3 (jmp : Tgt → ASt → R) (a : Int) (i : Int) (j : Int) (data_P : List Int) : run E jmp fin depth c3 K7 (tJ3 a i j data_P) =
    SJ3 (fun a i j data_P => jmp (.loop c1 K5) (tL0 a i j data_P)) a i j data_P := by kernel_rfl
theorem sL4 (jmp : Tgt → ASt → R) (a : Int) (i : Int) (j : Int) (data_P : List Int) : run E jmp fin depth c5 (.loop c5 K15) (tL4 a i j data_P) =
    SL4 (fun a i j data_P => jmp (.loop c5 K15) (tL4 a i j data_P)) (fun a i j data_P => jmp (.code c3 K7) (tJ3 a i j data_P)) a i j data_P := by kernel_rfl
theorem se (jmp : Tgt → ASt → R) (x : (argTy ps).den) : run E jmp fin depth (bodyOf Try.f104) .ret (entryFrom 0 ps x) =
    Se (fun a i j data_P => jmp (.loop c1 K5) (tL0 a i j data_P)) x.1 x.2.1 x.2.2.1 x.2.2.2.1 := by kernel_rfl
noncomputable def L0 (a : Int) (i : Int) (j : Int) (data_P : List Int) : R := lim E fin (.loop c1 K5) (tL0 a i j data_P)
noncomputable def J1 (a : Int) (i : Int) (j : Int) (data_P : List Int) : R := lim E fin (.code c2 K7) (tJ1 a i j data_P)
noncomputable def L2 (a : Int) (i : Int) (j : Int) (data_P : List Int) : R := lim E fin (.loop c4 K9) (tL2 a i j data_P)
noncomputable def J3 (a : Int) (i : Int) (j : Int) (data_P : List Int) : R := lim E fin (.code c3 K7) (tJ3 a i j data_P)
noncomputable def L4 (a : Int) (i : Int) (j : Int) (data_P : List Int) : R := lim E fin (.loop c5 K15) (tL4 a i j data_P)
theorem L0_eq (a : Int) (i : Int) (j : Int) (data_P : List Int) : L0 a i j data_P = SL0 L2 a i j data_P :=
  (lim_eq (.loop c1 K5) (tL0 a i j data_P)).trans (sL0 (lim E fin) a i j data_P)
theorem J1_eq (a : Int) (i : Int) (j : Int) (data_P : List Int) : J1 a i j data_P = SJ1 L4 a i j data_P :=
  (lim_eq (.code c2 K7) (tJ1 a i j data_P)).trans (sJ1 (lim E fin) a i j data_P)
theorem L2_eq (a : Int) (i : Int) (j : Int) (data_P : List Int) : L2 a i j data_P = SL2 L2 J1 a i j data_P :=
  (lim_eq (.loop c4 K9) (tL2 a i j data_P)).trans (sL2 (lim E fin) a i j data_P)
theorem J3_eq (a : Int) (i : Int) (j : Int) (data_P : List Int) : J3 a i j data_P = SJ3 L0 a i j data_P :=
  (lim_eq (.code c3 K7) (tJ3 a i j data_P)).trans (sJ3 (lim E fin) a i j data_P)
theorem L4_eq (a : Int) (i : Int) (j : Int) (data_P : List Int) : L4 a i j data_P = SL4 L4 J3 a i j data_P :=
  (lim_eq (.loop c5 K15) (tL4 a i j data_P)).trans (sL4 (lim E fin) a i j data_P)
end slices_partitionEqualOrdered_int
noncomputable def slices_partitionEqualOrdered_int (data : List Int) (a : Int) (b : Int) (pivot : Int) : slices_partitionEqualOrdered_int.R :=
  slices_partitionEqualOrdered_int.Se slices_partitionEqualOrdered_int.L0 data a b pivot
noncomputable def slices_partitionEqualOrdered_int.sig : Sig := ⟨slices_partitionEqualOrdered_int.ps, slices_partitionEqualOrdered_int.rs, fun x => slices_partitionEqualOrdered_int x.1 x.2.1 x.2.2.1 x.2.2.2.1⟩
theorem slices_partitionEqualOrdered_int.ok : CallOK Try.prog 104 slices_partitionEqualOrdered_int.sig :=
  callOK_of_lim (E := slices_partitionEqualOrdered_int.E) mixed tt_ok (ctxOk_cons ctxOk_nil cmp_Less_int.ok Try.func103 (by kernel_rfl) (by kernel_rfl)) Try.func104 (by kernel_rfl : Try.f104.body = some (bodyOf Try.f104)) Try.ntmps104 (of_decide_eq_true (by kernel_rfl)) (of_decide_eq_true (by kernel_rfl))
    fun x y h => ((lim_eq (.code (bodyOf Try.f104) .ret) (entryFrom 0 slices_partitionEqualOrdered_int.ps x)).trans (slices_partitionEqualOrdered_int.se (lim slices_partitionEqualOrdered_int.E slices_partitionEqualOrdered_int.fin) x)).trans h
theorem slices_partitionEqualOrdered_int.val (x : (argTy slices_partitionEqualOrdered_int.ps).den) : lim slices_partitionEqualOrdered_int.E slices_partitionEqualOrdered_int.fin (.code (bodyOf Try.f104) .ret) (entryFrom 0 slices_partitionEqualOrdered_int.ps x) = slices_partitionEqualOrdered_int.sig.run x :=
  (lim_eq (.code (bodyOf Try.f104) .ret) (entryFrom 0 slices_partitionEqualOrdered_int.ps x)).trans (slices_partitionEqualOrdered_int.se (lim slices_partitionEqualOrdered_int.E slices_partitionEqualOrdered_int.fin) x)
noncomputable def slices_partitionEqualOrdered_int.ctxc (n : Nat) : List (Nat × Sig) := [(103, cmp_Less_int.sigc n)]
noncomputable def slices_partitionEqualOrdered_int.sigc (n : Nat) : Sig := ⟨slices_partitionEqualOrdered_int.ps, slices_partitionEqualOrdered_int.rs, fun x => runs (withCtx slices_partitionEqualOrdered_int.E (slices_partitionEqualOrdered_int.ctxc n)) slices_partitionEqualOrdered_int.fin n (.code (bodyOf Try.f104) .ret) (entryFrom 0 slices_partitionEqualOrdered_int.ps x)⟩
theorem slices_partitionEqualOrdered_int.sigc_le (n : Nat) : ∀ x y, (slices_partitionEqualOrdered_int.sigc n).run x = some y → slices_partitionEqualOrdered_int.sig.run x = some y :=
  fun x y h => (slices_partitionEqualOrdered_int.val x).symm.trans (runs_lim (E := slices_partitionEqualOrdered_int.E) (c := slices_partitionEqualOrdered_int.ctxc n) (ctxLe_cons ctxLe_nil (cmp_Less_int.sigc_le n)) h)
namespace slices_partitionOrdered_int
abbrev ps : List PM := [.own (.int .i64), .pure (.int .i64), .pure (.int .i64), .pure (.int .i64)]
abbrev rs : List RM := [.pure (.int .i64), .pure .bool]
abbrev R : Type := Option (Int × Bool × List Int × Unit)
noncomputable def E : Env := { tt := tt, ctx := [(103, cmp_Less_int.sig)], nt := 168, ann := [(5, [(0, .keep), (1, .keep), (10, .keep), (11, .keep)]), (1000003, [(0, .keep), (1, .keep), (10, .keep), (11, .keep)]), (7, [(0, .keep), (1, .keep), (10, .keep), (11, .keep)]), (1000005, [(0, .keep), (1, .keep), (10, .keep), (11, .keep)]), (1000013, [(0, .keep), (1, .keep), (10, .keep), (11, .keep)]), (15, [(0, .keep), (1, .keep), (10, .keep), (11, .keep)]), (1000013, [(0, .keep), (1, .keep), (10, .keep), (11, .keep)]), (17, [(0, .keep), (1, .keep), (10, .keep), (11, .keep)]), (1000015, [(0, .keep), (1, .keep), (10, .keep), (11, .keep)])] }
noncomputable def c0 : Code := sub [1, 1, 1, 1] (bodyOf Try.f105)
noncomputable def c1 : Code := sub [1, 1, 1, 1, 1] (bodyOf Try.f105)
noncomputable def c2 : Code := sub [1, 1, 1, 1, 1, 1, 1, 1, 1, 1] (bodyOf Try.f105)
noncomputable def c3 : Code := sub [1, 1, 1, 1, 1, 1, 1, 1, 1, 0, 0, 0] (bodyOf Try.f105)
noncomputable def c4 : Code := sub [1, 1, 1, 1, 1, 1, 1, 1, 1, 0, 0, 0, 0, 1] (bodyOf Try.f105)
noncomputable def c5 : Code := sub [1, 1, 1, 1, 1, 1, 1, 1, 1, 0, 0, 0, 0, 1, 1] (bodyOf Try.f105)
noncomputable def c6 : Code := sub [1, 1, 1, 0, 0, 0] (bodyOf Try.f105)
noncomputable def c7 : Code := sub [1, 1, 1, 1, 0, 0, 0] (bodyOf Try.f105)
noncomputable def c8 : Code := sub [1, 1, 1, 1, 1, 1, 1, 1, 1, 0, 0, 0, 0, 0, 0, 0] (bodyOf Try.f105)
noncomputable def c9 : Code := sub [1, 1, 1, 1, 1, 1, 1, 1, 1, 0, 0, 0, 0, 1, 0, 0, 0] (bodyOf Try.f105)
noncomputable def K4 : Kont := .seq c0 .ret
noncomputable def K5 : Kont := .blk 0 K4
noncomputable def K10 : Kont := .seq c1 .ret
noncomputable def K11 : Kont := .blk 2 K10
noncomputable def K23 : Kont := .seq c2 .ret
noncomputable def K24 : Kont := .blk 4 K23
noncomputable def K25 : Kont := .loop c3 K24
noncomputable def K26 : Kont := .blk 5 K25
noncomputable def K27 : Kont := .seq c4 K26
noncomputable def K28 : Kont := .blk 6 K27
noncomputable def K33 : Kont := .seq c5 K26
noncomputable def K34 : Kont := .blk 8 K33
noncomputable def fin : ASt → R := Kret E Try.f105.results.toList ps rs
def tJ0 (a : Int) (i : Int) (j : Int) (data_P : List Int) : ASt := ⟨[(11, .one (.val (.int .i64) j)), (10, .one (.val (.int .i64) i)), (1, .one (.val (.int .i64) a)), (0, .one (.own 10000))], [(10000, some ⟨.fixed, .int .i64, data_P⟩)]⟩
def tL1 (a : Int) (i : Int) (j : Int) (data_P : List Int) : ASt := ⟨[(11, .one (.val (.int .i64) j)), (10, .one (.val (.int .i64) i)), (1, .one (.val (.int .i64) a)), (0, .one (.own 10000))], [(10000, some ⟨.fixed, .int .i64, data_P⟩)]⟩
def tJ2 (a : Int) (i : Int) (j : Int) (data_P : List Int) : ASt := ⟨[(11, .one (.val (.int .i64) j)), (10, .one (.val (.int .i64) i)), (1, .one (.val (.int .i64) a)), (0, .one (.own 10000))], [(10000, some ⟨.fixed, .int .i64, data_P⟩)]⟩
def tL3 (a : Int) (i : Int) (j : Int) (data_P : List Int) : ASt := ⟨[(11, .one (.val (.int .i64) j)), (10, .one (.val (.int .i64) i)), (1, .one (.val (.int .i64) a)), (0, .one (.own 10000))], [(10000, some ⟨.fixed, .int .i64, data_P⟩)]⟩
def tL4 (a : Int) (i : Int) (j : Int) (data_P : List Int) : ASt := ⟨[(11, .one (.val (.int .i64) j)), (10, .one (.val (.int .i64) i)), (1, .one (.val (.int .i64) a)), (0, .one (.own 10000))], [(10000, some ⟨.fixed, .int .i64, data_P⟩)]⟩
def tJ5 (a : Int) (i : Int) (j : Int) (data_P : List Int) : ASt := ⟨[(11, .one (.val (.int .i64) j)), (10, .one (.val (.int .i64) i)), (1, .one (.val (.int .i64) a)), (0, .one (.own 10000))], [(10000, some ⟨.fixed, .int .i64, data_P⟩)]⟩
def tL6 (a : Int) (i : Int) (j : Int) (data_P : List Int) : ASt := ⟨[(11, .one (.val (.int .i64) j)), (10, .one (.val (.int .i64) i)), (1, .one (.val (.int .i64) a)), (0, .one (.own 10000))], [(10000, some ⟨.fixed, .int .i64, data_P⟩)]⟩
def tJ7 (a : Int) (i : Int) (j : Int) (data_P : List Int) : ASt := ⟨[(11, .one (.val (.int .i64) j)), (10, .one (.val (.int .i64) i)), (1, .one (.val (.int .i64) a)), (0, .one (.own 10000))], [(10000, some ⟨.fixed, .int .i64, data_P⟩)]⟩
def tL8 (a : Int) (i : Int) (j : Int) (data_P : List Int) : ASt := ⟨[(11, .one (.val (.int .i64) j)), (10, .one (.val (.int .i64) i)), (1, .one (.val (.int .i64) a)), (0, .one (.own 10000))], [(10000, some ⟨.fixed, .int .i64, data_P⟩)]⟩
noncomputable def SJ0 (kL3 : Int → Int → Int → (List Int) → R) (a : Int) (i : Int) (j : Int) (data_P : List Int) : R :=
  kL3 a i j data_P
noncomputable def SL1 (kL1 : Int → Int → Int → (List Int) → R) (kJ0 : Int → Int → Int → (List Int) → R) (a : Int) (i : Int) (j : Int) (data_P : List Int) : R :=
  cond (decide (i ≤ j))
    (cond (decide (0 ≤ i) && decide (i < (data_P.length : Int)))
      (cond (decide (0 ≤ a) && decide (a < (data_P.length : Int)))
        (Option.bind (cmp_Less_int (data_P.getD i.toNat 0) (data_P.getD a.toNat 0)) fun x1 =>
        cond x1.1
          (kL1 a (IntKind.i64.wrap (i + 1)) j data_P)
          (kJ0 a i j data_P))
        none)
      none)
    (kJ0 a i j data_P)
noncomputable def SJ2 (kL4 : Int → Int → Int → (List Int) → R) (a : Int) (i : Int) (j : Int) (data_P : List Int) : R :=
  cond (decide (i > j))
    (cond (decide (0 ≤ a) && decide (a < (data_P.length : Int)))
      (cond (decide (0 ≤ j) && decide (j < (data_P.length : Int)))
        (cond (decide (0 ≤ j) && decide (j < (data_P.length : Int)))
          (cond (decide (0 ≤ a) && decide (a < ((data_P.set j.toNat (data_P.getD a.toNat 0)).length : Int)))
            (some (j, true, ((data_P.set j.toNat (data_P.getD a.toNat 0)).set a.toNat (data_P.getD j.toNat 0)), ()))
            none)
          none)
        none)
      none)
    (cond (decide (0 ≤ j) && decide (j < (data_P.length : Int)))
      (cond (decide (0 ≤ i) && decide (i < (data_P.length : Int)))
        (cond (decide (0 ≤ i) && decide (i < (data_P.length : Int)))
          (cond (decide (0 ≤ j) && decide (j < ((data_P.set i.toNat (data_P.getD j.toNat 0)).length : Int)))
            (kL4 a (IntKind.i64.wrap (i + 1)) (IntKind.i64.wrap (j - 1)) ((data_P.set i.toNat (data_P.getD j.toNat 0)).set j.toNat (data_P.getD i.toNat 0)))
            none)
          none)
        none)
      none)
noncomputable def SL3 (kL3 : Int → Int → Int → (List Int) → R) (kJ2 : Int → Int → Int → (List Int) → R) (a : Int) (i : Int) (j : Int) (data_P : List Int) : R :=
  cond (decide (i ≤ j))
    (cond (decide (0 ≤ j) && decide (j < (data_P.length : Int)))
      (cond (decide (0 ≤ a) && decide (a < (data_P.length : Int)))
        (Option.bind (cmp_Less_int (data_P.getD j.toNat 0) (data_P.getD a.toNat 0)) fun x1 =>
        cond (!x1.1)
          (kL3 a i (IntKind.i64.wrap (j - 1)) data_P)
          (kJ2 a i j data_P))
        none)
      none)
    (kJ2 a i j data_P)
noncomputable def SL4 (kL6 : Int → Int → Int → (List Int) → R) (a : Int) (i : Int) (j : Int) (data_P : List Int) : R :=
  kL6 a i j data_P
noncomputable def SJ5 (kL8 : Int → Int → Int → (List Int) → R) (a : Int) (i : Int) (j : Int) (data_P : List Int) : R :=
  kL8 a i j data_P
noncomputable def SL6 (kL6 : Int → Int → Int → (List Int) → R) (kJ5 : Int → Int → Int → (List Int) → R) (a : Int) (i : Int) (j : Int) (data_P : List Int) : R :=
  cond (decide (i ≤ j))
    (cond (decide (0 ≤ i) && decide (i < (data_P.length : Int)))
      (cond (decide (0 ≤ a) && decide (a < (data_P.length : Int)))
        (Option.bind (cmp_Less_int (data_P.getD i.toNat 0) (data_P.getD a.toNat 0)) fun x1 =>
        cond x1.1
          (kL6 a (IntKind.i64.wrap (i + 1)) j data_P)
          (kJ5 a i j data_P))
        none)
      none)
    (kJ5 a i j data_P)
noncomputable def SJ7 (kL4 : Int → Int → Int → (List Int) → R) (a : Int) (i : Int) (j : Int) (data_P : List Int) : R :=
  cond (decide (i > j))
    (cond (decide (0 ≤ a) && decide (a < (data_P.length : Int)))
      (cond (decide (0 ≤ j) && decide (j < (data_P.length : Int)))
        (cond (decide (0 ≤ j) && decide (j < (data_P.length : Int)))
          (cond (decide (0 ≤ a) && decide (a < ((data_P.set j.toNat (data_P.getD a.toNat 0)).length : Int)))
            (some (j, false, ((data_P.set j.toNat (data_P.getD a.toNat 0)).set a.toNat (data_P.getD j.toNat 0)), ()))
            none)
          none)
        none)
      none)
    (cond (decide (0 ≤ j) && decide (j < (data_P.length : Int)))
      (cond (decide (0 ≤ i) && decide (i < (data_P.length : Int)))
        (cond (decide (0 ≤ i) && decide (i < (data_P.length : Int)))
          (cond (decide (0 ≤ j) && decide (j < ((data_P.set i.toNat (data_P.getD j.toNat 0)).length : Int)))
            (kL4 a (IntKind.i64.wrap (i + 1)) (IntKind.i64.wrap (j - 1)) ((data_P.set i.toNat (data_P.getD j.toNat 0)).set j.toNat (data_P.getD i.toNat 0)))
            none)
          none)
        none)
      none)
noncomputable def SL8 (kL8 : Int → Int → Int → (List Int) → R) (kJ7 : Int → Int → Int → (List Int) → R) (a : Int) (i : Int) (j : Int) (data_P : List Int) : R :=
  cond (decide (i ≤ j))
    (cond (decide (0 ≤ j) && decide (j < (data_P.length : Int)))
      (cond (decide (0 ≤ a) && decide (a < (data_P.length : Int)))
        (Option.bind (cmp_Less_int (data_P.getD j.toNat 0) (data_P.getD a.toNat 0)) fun x1 =>
        cond (!x1.1)
          (kL8 a i (IntKind.i64.wrap (j - 1)) data_P)
          (kJ7 a i j data_P))
        none)
      none)
    (kJ7 a i j data_P)
noncomputable def Se (kL1 : Int → Int → Int → (List Int) → R) (data : List Int) (a : Int) (b : Int) (pivot : Int) : R :=
  cond (decide (0 ≤ pivot) && decide (pivot < (data.length : Int)))
    (cond (decide (0 ≤ a) && decide (a < (data.length : Int)))
      (cond (decide (0 ≤ a) && decide (a < (data.length : Int)))
        (cond (decide (0 ≤ pivot) && decide (pivot < ((data.set a.toNat (data.getD pivot.toNat 0)).length : Int)))
          (kL1 a (IntKind.i64.wrap (a + 1)) (IntKind.i64.wrap (b - 1)) ((data.set a.toNat (data.getD pivot.toNat 0)).set pivot.toNat (data.getD a.toNat 0)))
          none)
        none)
      none)
    none
theorem sJ0 (jmp : Tgt → ASt → R) (a : Int) (i : Int) (j : Int) (data_P : List Int) : run E jmp fin depth c0 .ret (tJ0 a i j data_P) =
    SJ0 (fun a i j data_P => jmp (.loop c7 K11) (tL3 a i j data_P)) a i j data_P := by kernel_rfl
theorem sL1 (jmp : Tgt → ASt → R) (a : Int) (i : Int) (j : Int) (data_P : List Int) : run E jmp fin depth c6 (.loop c6 K5) (tL1 a i j data_P) =
    SL1 (fun a i j data_P => jmp (.loop c6 K5) (tL1 a i j data_P)) (fun a i j data_P => jmp (.code c0 .ret) (tJ0 a i j data_P)) a i j data_P := by kernel_rfl
theorem sJ2 (jmp : Tgt → ASt → R) (a : Int) (i : Int) (j : Int) (data_P : List Int) : run E jmp fin depth c1 .ret (tJ2 a i j data_P) =
    SJ2 (fun a i j data_P => jmp (.loop c3 K24) (tL4 a i j data_P)) a i j data_P := by kernel_rfl
theorem sL3 (jmp : Tgt → ASt → R) (a : Int) (i : Int) (j : Int) (data_P : List Int) : run E jmp fin depth c7 (.loop c7 K11) (tL3 a i j data_P) =
    SL3 (fun a i j data_P => jmp (.loop c7 K11) (tL3 a i j data_P)) (fun a i j data_P => jmp (.code c1 .ret) (tJ2 a i j data_P)) a i j data_P := by kernel_rfl
theorem sL4 (jmp : Tgt → ASt → R) (a : Int) (i : Int) (j : Int) (data_P : List Int) : run E jmp fin depth c3 (.loop c3 K24) (tL4 a i j data_P) =
    SL4 (fun a i j data_P => jmp (.loop c8 K28) (tL6 a i j data_P)) a i j data_P := by kernel_rfl
theorem sJ5 (jmp : Tgt → ASt → R) (a : Int) (i : Int) (j : Int) (data_P : List Int) : run E jmp fin depth c4 K26 (tJ5 a i j data_P) =
    SJ5 (fun a i j data_P => jmp (.loop c9 K34) (tL8 a i j data_P)) a i j data_P := by kernel_rfl
theorem sL6 (jmp : Tgt → ASt → R) (a : Int) (i : Int) (j : Int) (data_P : List Int) : run E jmp fin depth c8 (.loop c8 K28) (tL6 a i j data_P) =
    SL6 (fun a i j data_P => jmp (.loop c8 K28) (tL6 a i j data_P)) (fun a i j data_P => jmp (.code c4 K26) (tJ5 a i j data_P)) a i j data_P := by kernel_rfl
theorem sJ7 (jmp : Tgt → ASt → R) (a : Int) (i : Int) (j : Int) (data_P : List Int) : run E jmp fin depth c5 K26 (tJ7 a i j data_P) =
    SJ7 (fun a i j data_P => jmp (.loop c3 K24) (tL4 a i j data_P)) a i j data_P := by kernel_rfl
theorem sL8 (jmp : Tgt → ASt → R) (a : Int) (i : Int) (j : Int) (data_P : List Int) : run E jmp fin depth c9 (.loop c9 K34) (tL8 a i j data_P) =
    SL8 (fun a i j data_P => jmp (.loop c9 K34) (tL8 a i j data_P)) (fun a i j data_P => jmp (.code c5 K26) (tJ7 a i j data_P)) a i j data_P := by kernel_rfl
theorem se (jmp : Tgt → ASt → R) (x : (argTy ps).den) : run E jmp fin depth (bodyOf Try.f105) .ret (entryFrom 0 ps x) =
    Se (fun a i j data_P => jmp (.loop c6 K5) (tL1 a i j data_P)) x.1 x.2.1 x.2.2.1 x.2.2.2.1 := by kernel_rfl
noncomputable def J0 (a : Int) (i : Int) (j : Int) (data_P : List Int) : R := lim E fin (.code c0 .ret) (tJ0 a i j data_P)
noncomputable def L1 (a : Int) (i : Int) (j : Int) (data_P : List Int) : R := lim E fin (.loop c6 K5) (tL1 a i j data_P)
noncomputable def J2 (a : Int) (i : Int) (j : Int) (data_P : List Int) : R := lim E fin (.code c1 .ret) (tJ2 a i j data_P)
noncomputable def L3 (a : Int) (i : Int) (j : Int) (data_P : List Int) : R := lim E fin (.loop c7 K11) (tL3 a i j data_P)
noncomputable def L4 (a : Int) (i : Int) (j : Int) (data_P : List Int) : R := lim E fin (.loop c3 K24) (tL4 a i j data_P)
noncomputable def J5 (a : Int) (i : Int) (j : Int) (data_P : List Int) : R := lim E fin (.code c4 K26) (tJ5 a i j data_P)
noncomputable def L6 (a : Int) (i : Int) (j : Int) (data_P : List Int) : R := lim E fin (.loop c8 K28) (tL6 a i j data_P)
noncomputable def J7 (a : Int) (i : Int) (j : Int) (data_P : List Int) : R := lim E fin (.code c5 K26) (tJ7 a i j data_P)
noncomputable def L8 (a : Int) (i : Int) (j : Int) (data_P : List Int) : R := lim E fin (.loop c9 K34) (tL8 a i j data_P)
theorem J0_eq (a : Int) (i : Int) (j : Int) (data_P : List Int) : J0 a i j data_P = SJ0 L3 a i j data_P :=
  (lim_eq (.code c0 .ret) (tJ0 a i j data_P)).trans (sJ0 (lim E fin) a i j data_P)
theorem L1_eq (a : Int) (i : Int) (j : Int) (data_P : List Int) : L1 a i j data_P = SL1 L1 J0 a i j data_P :=
  (lim_eq (.loop c6 K5) (tL1 a i j data_P)).trans (sL1 (lim E fin) a i j data_P)
theorem J2_eq (a : Int) (i : Int) (j : Int) (data_P : List Int) : J2 a i j data_P = SJ2 L4 a i j data_P :=
  (lim_eq (.code c1 .ret) (tJ2 a i j data_P)).trans (sJ2 (lim E fin) a i j data_P)
theorem L3_eq (a : Int) (i : Int) (j : Int) (data_P : List Int) : L3 a i j data_P = SL3 L3 J2 a i j data_P :=
  (lim_eq (.loop c7 K11) (tL3 a i j data_P)).trans (sL3 (lim E fin) a i j data_P)
theorem L4_eq (a : Int) (i : Int) (j : Int) (data_P : List Int) : L4 a i j data_P = SL4 L6 a i j data_P :=
  (lim_eq (.loop c3 K24) (tL4 a i j data_P)).trans (sL4 (lim E fin) a i j data_P)
theorem J5_eq (a : Int) (i : Int) (j : Int) (data_P : List Int) : J5 a i j data_P = SJ5 L8 a i j data_P :=
  (lim_eq (.code c4 K26) (tJ5 a i j data_P)).trans (sJ5 (lim E fin) a i j data_P)
theorem L6_eq (a : Int) (i : Int) (j : Int) (data_P : List Int) : L6 a i j data_P = SL6 L6 J5 a i j data_P :=
  (lim_eq (.loop c8 K28) (tL6 a i j data_P)).trans (sL6 (lim E fin) a i j data_P)
theorem J7_eq (a : Int) (i : Int) (j : Int) (data_P : List Int) : J7 a i j data_P = SJ7 L4 a i j data_P :=
  (lim_eq (.code c5 K26) (tJ7 a i j data_P)).trans (sJ7 (lim E fin) a i j data_P)
theorem L8_eq (a : Int) (i : Int) (j : Int) (data_P : List Int) : L8 a i j data_P = SL8 L8 J7 a i j data_P :=
  (lim_eq (.loop c9 K34) (tL8 a i j data_P)).trans (sL8 (lim E fin) a i j data_P)
end slices_partitionOrdered_int
noncomputable def slices_partitionOrdered_int (data : List Int) (a : Int) (b : Int) (pivot : Int) : slices_partitionOrdered_int.R :=
  slices_partitionOrdered_int.Se slices_partitionOrdered_int.L1 data a b pivot
noncomputable def slices_partitionOrdered_int.sig : Sig := ⟨slices_partitionOrdered_int.ps, slices_partitionOrdered_int.rs, fun x => slices_partitionOrdered_int x.1 x.2.1 x.2.2.1 x.2.2.2.1⟩
theorem slices_partitionOrdered_int.ok : CallOK Try.prog 105 slices_partitionOrdered_int.sig :=
  callOK_of_lim (E := slices_partitionOrdered_int.E) mixed tt_ok (ctxOk_cons ctxOk_nil cmp_Less_int.ok Try.func103 (by kernel_rfl) (by kernel_rfl)) Try.func105 (by kernel_rfl : Try.f105.body = some (bodyOf Try.f105)) Try.ntmps105 (of_decide_eq_true (by kernel_rfl)) (of_decide_eq_true (by kernel_rfl))
    fun x y h => ((lim_eq (.code (bodyOf Try.f105) .ret) (entryFrom 0 slices_partitionOrdered_int.ps x)).trans (slices_partitionOrdered_int.se (lim slices_partitionOrdered_int.E slices_partitionOrdered_int.fin) x)).trans h
theorem slices_partitionOrdered_int.val (x : (argTy slices_partitionOrdered_int.ps).den) : lim slices_partitionOrdered_int.E slices_partitionOrdered_int.fin (.code (bodyOf Try.f105) .ret) (entryFrom 0 slices_partitionOrdered_int.ps x) = slices_partitionOrdered_int.sig.run x :=
  (lim_eq (.code (bodyOf Try.f105) .ret) (entryFrom 0 slices_partitionOrdered_int.ps x)).trans (slices_partitionOrdered_int.se (lim slices_partitionOrdered_int.E slices_partitionOrdered_int.fin) x)
noncomputable def slices_partitionOrdered_int.ctxc (n : Nat) : List (Nat × Sig) := [(103, cmp_Less_int.sigc n)]
noncomputable def slices_partitionOrdered_int.sigc (n : Nat) : Sig := ⟨slices_partitionOrdered_int.ps, slices_partitionOrdered_int.rs, fun x => runs (withCtx slices_partitionOrdered_int.E (slices_partitionOrdered_int.ctxc n)) slices_partitionOrdered_int.fin n (.code (bodyOf Try.f105) .ret) (entryFrom 0 slices_partitionOrdered_int.ps x)⟩
theorem slices_partitionOrdered_int.sigc_le (n : Nat) : ∀ x y, (slices_partitionOrdered_int.sigc n).run x = some y → slices_partitionOrdered_int.sig.run x = some y :=
  fun x y h => (slices_partitionOrdered_int.val x).symm.trans (runs_lim (E := slices_partitionOrdered_int.E) (c := slices_partitionOrdered_int.ctxc n) (ctxLe_cons ctxLe_nil (cmp_Less_int.sigc_le n)) h)
namespace slices_pdqsortOrdered_int
abbrev ps : List PM := [.own (.int .i64), .pure (.int .i64), .pure (.int .i64), .pure (.int .i64)]
abbrev rs : List RM := []
abbrev R : Type := Option (List Int × Unit)
noncomputable def E0 : Env := { tt := tt, ctx := [], nt := 134, ann := [(1000002, [(0, .keep), (1, .keep), (2, .keep), (3, .keep), (8, .keep), (9, .keep)]), (10, [(0, .keep), (1, .keep), (2, .keep), (3, .keep), (8, .keep), (9, .keep), (10, .keep)]), (15, [(0, .keep), (1, .keep), (2, .keep), (3, .keep), (8, .keep), (9, .keep), (10, .keep), (11, .keep), (12, .keep)]), (17, [(0, .keep), (1, .keep), (2, .keep), (3, .keep), (8, .keep), (9, .keep), (10, .keep), (11, .keep)]), (18, [(0, .keep), (1, .keep), (2, .keep), (3, .keep), (8, .keep), (9, .keep), (10, .keep), (11, .keep), (87, .keep)])] }
noncomputable def ctx0 : List (Nat × Sig) := [(97, slices_insertionSortOrdered_int.sig), (98, slices_heapSortOrdered_int.sig), (99, slices_breakPatternsOrdered_int.sig), (100, slices_choosePivotOrdered_int.sig), (101, slices_reverseRangeOrdered_int.sig), (102, slices_partialInsertionSortOrdered_int.sig), (103, cmp_Less_int.sig), (104, slices_partitionEqualOrdered_int.sig), (105, slices_partitionOrdered_int.sig)]
noncomputable def E (self : (List Int) → Int → Int → Int → R) : Env := withCtx E0 ((91, ⟨ps, rs, fun x => self x.1 x.2.1 x.2.2.1 x.2.2.2.1⟩) :: ctx0)
noncomputable def c0 : Code := sub [1, 1, 0, 0] (bodyOf Try.f91)
noncomputable def c1 : Code := sub [1, 1, 0, 0, 0, 1, 1, 1, 1, 1, 1, 1, 1] (bodyOf Try.f91)
noncomputable def c2 : Code := sub [1, 1, 0, 0, 0, 1, 1, 1, 1] (bodyOf Try.f91)
noncomputable def c3 : Code := sub [1, 1, 0, 0, 0, 1, 1, 1, 1, 1, 1] (bodyOf Try.f91)
noncomputable def c4 : Code := sub [1, 1, 0, 0, 0, 1, 1, 1, 1, 1, 1, 1] (bodyOf Try.f91)
noncomputable def c5 : Code := sub [1, 1, 0, 0, 0, 1, 1, 1, 1, 1, 1, 1, 0, 1] (bodyOf Try.f91)
noncomputable def K3 : Kont := .blk 0 .ret
noncomputable def K4 : Kont := .loop c0 K3
noncomputable def K5 : Kont := .blk 1 K4
noncomputable def K24 : Kont := .seq c1 K5
noncomputable def fin : ASt → R := Kret E0 Try.f91.results.toList ps rs
def tL0 (a : Int) (b : Int) (limit : Int) (wasBalanced : Bool) (wasPartitioned : Bool) (data_P : List Int) : ASt := ⟨[(9, .one (.val .bool wasPartitioned)), (8, .one (.val .bool wasBalanced)), (3, .one (.val (.int .i64) limit)), (2, .one (.val (.int .i64) b)), (1, .one (.val (.int .i64) a)), (0, .one (.own 10000))], [(10000, some ⟨.fixed, .int .i64, data_P⟩)]⟩
def tJ1 (a : Int) (b : Int) (limit : Int) (wasBalanced : Bool) (wasPartitioned : Bool) (length_10 : Int) (data_P : List Int) : ASt := ⟨[(10, .one (.val (.int .i64) length_10)), (9, .one (.val .bool wasPartitioned)), (8, .one (.val .bool wasBalanced)), (3, .one (.val (.int .i64) limit)), (2, .one (.val (.int .i64) b)), (1, .one (.val (.int .i64) a)), (0, .one (.own 10000))], [(10000, some ⟨.fixed, .int .i64, data_P⟩)]⟩
def tJ2 (a : Int) (b : Int) (limit : Int) (wasBalanced : Bool) (wasPartitioned : Bool) (length_10 : Int) (pivot : Int) (hint : Int) (data_P : List Int) : ASt := ⟨[(12, .one (.val (.int .i64) hint)), (11, .one (.val (.int .i64) pivot)), (10, .one (.val (.int .i64) length_10)), (9, .one (.val .bool wasPartitioned)), (8, .one (.val .bool wasBalanced)), (3, .one (.val (.int .i64) limit)), (2, .one (.val (.int .i64) b)), (1, .one (.val (.int .i64) a)), (0, .one (.own 10000))], [(10000, some ⟨.fixed, .int .i64, data_P⟩)]⟩
def tJ3 (a : Int) (b : Int) (limit : Int) (wasBalanced : Bool) (wasPartitioned : Bool) (length_10 : Int) (pivot : Int) (data_P : List Int) : ASt := ⟨[(11, .one (.val (.int .i64) pivot)), (10, .one (.val (.int .i64) length_10)), (9, .one (.val .bool wasPartitioned)), (8, .one (.val .bool wasBalanced)), (3, .one (.val (.int .i64) limit)), (2, .one (.val (.int .i64) b)), (1, .one (.val (.int .i64) a)), (0, .one (.own 10000))], [(10000, some ⟨.fixed, .int .i64, data_P⟩)]⟩
def tJ4 (a : Int) (b : Int) (limit : Int) (wasBalanced : Bool) (wasPartitioned : Bool) (length_10 : Int) (pivot : Int) (v_87 : Bool) (data_P : List Int) : ASt := ⟨[(87, .one (.val .bool v_87)), (11, .one (.val (.int .i64) pivot)), (10, .one (.val (.int .i64) length_10)), (9, .one (.val .bool wasPartitioned)), (8, .one (.val .bool wasBalanced)), (3, .one (.val (.int .i64) limit)), (2, .one (.val (.int .i64) b)), (1, .one (.val (.int .i64) a)), (0, .one (.own 10000))], [(10000, some ⟨.fixed, .int .i64, data_P⟩)]⟩
noncomputable def SL0 (self : (List Int) → Int → Int → Int → R) (kJ1 : Int → Int → Int → Bool → Bool → Int → (List Int) → R) (a : Int) (b : Int) (limit : Int) (wasBalanced : Bool) (wasPartitioned : Bool) (data_P : List Int) : R :=
  cond (decide ((IntKind.i64.wrap (b - a)) ≤ 12))
    (Option.bind (slices_insertionSortOrdered_int data_P a b) fun x1 =>
    some (x1.1, ()))
    (cond (limit == 0)
      (Option.bind (slices_heapSortOrdered_int data_P a b) fun x2 =>
      some (x2.1, ()))
      (cond (!wasBalanced)
        (Option.bind (slices_breakPatternsOrdered_int data_P a b) fun x3 =>
        kJ1 a b (IntKind.i64.wrap (limit - 1)) wasBalanced wasPartitioned (IntKind.i64.wrap (b - a)) x3.1)
        (kJ1 a b limit wasBalanced wasPartitioned (IntKind.i64.wrap (b - a)) data_P)))
noncomputable def SJ1 (self : (List Int) → Int → Int → Int → R) (kJ2 : Int → Int → Int → Bool → Bool → Int → Int → Int → (List Int) → R) (a : Int) (b : Int) (limit : Int) (wasBalanced : Bool) (wasPartitioned : Bool) (length_10 : Int) (data_P : List Int) : R :=
  Option.bind (slices_choosePivotOrdered_int data_P a b) fun x1 =>
  cond (x1.2.1 == 2)
    (Option.bind (slices_reverseRangeOrdered_int data_P a b) fun x2 =>
    kJ2 a b limit wasBalanced wasPartitioned length_10 (IntKind.i64.wrap ((IntKind.i64.wrap (b - 1)) - (IntKind.i64.wrap (x1.1 - a)))) 1 x2.1)
    (kJ2 a b limit wasBalanced wasPartitioned length_10 x1.1 x1.2.1 data_P)
noncomputable def SJ2 (self : (List Int) → Int → Int → Int → R) (kJ3 : Int → Int → Int → Bool → Bool → Int → Int → (List Int) → R) (a : Int) (b : Int) (limit : Int) (wasBalanced : Bool) (wasPartitioned : Bool) (length_10 : Int) (pivot : Int) (hint : Int) (data_P : List Int) : R :=
  cond wasBalanced
    (cond wasPartitioned
      (cond (hint == 1)
        (Option.bind (slices_partialInsertionSortOrdered_int data_P a b) fun x1 =>
        cond x1.1
          (some (x1.2.1, ()))
          (kJ3 a b limit wasBalanced wasPartitioned length_10 pivot x1.2.1))
        (kJ3 a b limit wasBalanced wasPartitioned length_10 pivot data_P))
      (kJ3 a b limit wasBalanced wasPartitioned length_10 pivot data_P))
    (kJ3 a b limit wasBalanced wasPartitioned length_10 pivot data_P)
noncomputable def SJ3 (self : (List Int) → Int → Int → Int → R) (kJ4 : Int → Int → Int → Bool → Bool → Int → Int → Bool → (List Int) → R) (a : Int) (b : Int) (limit : Int) (wasBalanced : Bool) (wasPartitioned : Bool) (length_10 : Int) (pivot : Int) (data_P : List Int) : R :=
  cond (decide (a > 0))
    (cond (decide (0 ≤ IntKind.i64.wrap (a - 1)) && decide (IntKind.i64.wrap (a - 1) < (data_P.length : Int)))
      (cond (decide (0 ≤ pivot) && decide (pivot < (data_P.length : Int)))
        (Option.bind (cmp_Less_int (data_P.getD ((IntKind.i64.wrap (a - 1)).toNat) 0) (data_P.getD pivot.toNat 0)) fun x1 =>
        kJ4 a b limit wasBalanced wasPartitioned length_10 pivot (!x1.1) data_P)
        none)
      none)
    (kJ4 a b limit wasBalanced wasPartitioned length_10 pivot false data_P)
noncomputable def SJ4 (self : (List Int) → Int → Int → Int → R) (kL0 : Int → Int → Int → Bool → Bool → (List Int) → R) (a : Int) (b : Int) (limit : Int) (wasBalanced : Bool) (wasPartitioned : Bool) (length_10 : Int) (pivot : Int) (v_87 : Bool) (data_P : List Int) : R :=
  cond v_87
    (Option.bind (slices_partitionEqualOrdered_int data_P a b pivot) fun x1 =>
    kL0 x1.1 b limit wasBalanced wasPartitioned x1.2.1)
    (Option.bind (slices_partitionOrdered_int data_P a b pivot) fun x2 =>
    cond (decide ((IntKind.i64.wrap (x2.1 - a)) < (IntKind.i64.wrap (b - x2.1))))
      (Option.bind (self x2.2.2.1 a x2.1 limit) fun x3 =>
      kL0 (IntKind.i64.wrap (x2.1 + 1)) b limit (decide ((IntKind.i64.wrap (x2.1 - a)) ≥ (IntKind.i64.wrap (Int.tdiv length_10 8)))) x2.2.1 x3.1)
      (Option.bind (self x2.2.2.1 (IntKind.i64.wrap (x2.1 + 1)) b limit) fun x4 =>
      kL0 a x2.1 limit (decide ((IntKind.i64.wrap (b - x2.1)) ≥ (IntKind.i64.wrap (Int.tdiv length_10 8)))) x2.2.1 x4.1))
noncomputable def Se (self : (List Int) → Int → Int → Int → R) (kL0 : Int → Int → Int → Bool → Bool → (List Int) → R) (data : List Int) (a : Int) (b : Int) (limit : Int) : R :=
  kL0 a b limit true true data
theorem sL0 (self : (List Int) → Int → Int → Int → R) (jmp : Tgt → ASt → R) (a : Int) (b : Int) (limit : Int) (wasBalanced : Bool) (wasPartitioned : Bool) (data_P : List Int) : run (E self) jmp fin depth c0 (.loop c0 K3) (tL0 a b limit wasBalanced wasPartitioned data_P) =
    SL0 self (fun a b limit wasBalanced wasPartitioned length_10 data_P => jmp (.code c2 K5) (tJ1 a b limit wasBalanced wasPartitioned length_10 data_P)) a b limit wasBalanced wasPartitioned data_P := by kernel_rfl
theorem sJ1 (self : (List Int) → Int → Int → Int → R) (jmp : Tgt → ASt → R) (a : Int) (b : Int) (limit : Int) (wasBalanced : Bool) (wasPartitioned : Bool) (length_10 : Int) (data_P : List Int) : run (E self) jmp fin depth c2 K5 (tJ1 a b limit wasBalanced wasPartitioned length_10 data_P) =
    SJ1 self (fun a b limit wasBalanced wasPartitioned length_10 pivot hint data_P => jmp (.code c3 K5) (tJ2 a b limit wasBalanced wasPartitioned length_10 pivot hint data_P)) a b limit wasBalanced wasPartitioned length_10 data_P := by kernel_rfl
theorem sJ2 (self : (List Int) → Int → Int → Int → R) (jmp : Tgt → ASt → R) (a : Int) (b : Int) (limit : Int) (wasBalanced : Bool) (wasPartitioned : Bool) (length_10 : Int) (pivot : Int) (hint : Int) (data_P : List Int) : run (E self) jmp fin depth c3 K5 (tJ2 a b limit wasBalanced wasPartitioned length_10 pivot hint data_P) =
    SJ2 self (fun a b limit wasBalanced wasPartitioned length_10 pivot data_P => jmp (.code c4 K5) (tJ3 a b limit wasBalanced wasPartitioned length_10 pivot data_P)) a b limit wasBalanced wasPartitioned length_10 pivot hint data_P := by kernel_rfl
theorem sJ3 (self : (List Int) → Int → Int → Int → R) (jmp : Tgt → ASt → R) (a : Int) (b : Int) (limit : Int) (wasBalanced : Bool) (wasPartitioned : Bool) (length_10 : Int) (pivot : Int) (data_P : List Int) : run (E self) jmp fin depth c4 K5 (tJ3 a b limit wasBalanced wasPartitioned length_10 pivot data_P) =
    SJ3 self (fun a b limit wasBalanced wasPartitioned length_10 pivot v_87 data_P => jmp (.code c5 K24) (tJ4 a b limit wasBalanced wasPartitioned length_10 pivot v_87 data_P)) a b limit wasBalanced wasPartitioned length_10 pivot data_P := by kernel_rfl
theorem sJ4 (self : (List Int) → Int → Int → Int → R) (jmp : Tgt → ASt → R) (a : Int) (b : Int) (limit : Int) (wasBalanced : Bool) (wasPartitioned : Bool) (length_10 : Int) (pivot : Int) (v_87 : Bool) (data_P : List Int) : run (E self) jmp fin depth c5 K24 (tJ4 a b limit wasBalanced wasPartitioned length_10 pivot v_87 data_P) =
    SJ4 self (fun a b limit wasBalanced wasPartitioned data_P => jmp (.loop c0 K3) (tL0 a b limit wasBalanced wasPartitioned data_P)) a b limit wasBalanced wasPartitioned length_10 pivot v_87 data_P := by kernel_rfl
theorem se (self : (List Int) → Int → Int → Int → R) (jmp : Tgt → ASt → R) (x : (argTy ps).den) : run (E self) jmp fin depth (bodyOf Try.f91) .ret (entryFrom 0 ps x) =
    Se self (fun a b limit wasBalanced wasPartitioned data_P => jmp (.loop c0 K3) (tL0 a b limit wasBalanced wasPartitioned data_P)) x.1 x.2.1 x.2.2.1 x.2.2.2.1 := by kernel_rfl
end slices_pdqsortOrdered_int
noncomputable def slices_pdqsortOrdered_int (data : List Int) (a : Int) (b : Int) (limit : Int) : slices_pdqsortOrdered_int.R :=
  recF slices_pdqsortOrdered_int.E0 slices_pdqsortOrdered_int.ctx0 91 slices_pdqsortOrdered_int.ps slices_pdqsortOrdered_int.rs slices_pdqsortOrdered_int.fin (bodyOf Try.f91) (data, a, b, limit, ())
namespace slices_pdqsortOrdered_int
noncomputable def L0 (a : Int) (b : Int) (limit : Int) (wasBalanced : Bool) (wasPartitioned : Bool) (data_P : List Int) : R := lim (E slices_pdqsortOrdered_int) fin (.loop c0 K3) (tL0 a b limit wasBalanced wasPartitioned data_P)
noncomputable def J1 (a : Int) (b : Int) (limit : Int) (wasBalanced : Bool) (wasPartitioned : Bool) (length_10 : Int) (data_P : List Int) : R := lim (E slices_pdqsortOrdered_int) fin (.code c2 K5) (tJ1 a b limit wasBalanced wasPartitioned length_10 data_P)
noncomputable def J2 (a : Int) (b : Int) (limit : Int) (wasBalanced : Bool) (wasPartitioned : Bool) (length_10 : Int) (pivot : Int) (hint : Int) (data_P : List Int) : R := lim (E slices_pdqsortOrdered_int) fin (.code c3 K5) (tJ2 a b limit wasBalanced wasPartitioned length_10 pivot hint data_P)
noncomputable def J3 (a : Int) (b : Int) (limit : Int) (wasBalanced : Bool) (wasPartitioned : Bool) (length_10 : Int) (pivot : Int) (data_P : List Int) : R := lim (E slices_pdqsortOrdered_int) fin (.code c4 K5) (tJ3 a b limit wasBalanced wasPartitioned length_10 pivot data_P)
noncomputable def J4 (a : Int) (b : Int) (limit : Int) (wasBalanced : Bool) (wasPartitioned : Bool) (length_10 : Int) (pivot : Int) (v_87 : Bool) (data_P : List Int) : R := lim (E slices_pdqsortOrdered_int) fin (.code c5 K24) (tJ4 a b limit wasBalanced wasPartitioned length_10 pivot v_87 data_P)
theorem L0_eq (a : Int) (b : Int) (limit : Int) (wasBalanced : Bool) (wasPartitioned : Bool) (data_P : List Int) : L0 a b limit wasBalanced wasPartitioned data_P = SL0 slices_pdqsortOrdered_int J1 a b limit wasBalanced wasPartitioned data_P :=
  (lim_eq (.loop c0 K3) (tL0 a b limit wasBalanced wasPartitioned data_P)).trans (sL0 slices_pdqsortOrdered_int (lim (E slices_pdqsortOrdered_int) fin) a b limit wasBalanced wasPartitioned data_P)
theorem J1_eq (a : Int) (b : Int) (limit : Int) (wasBalanced : Bool) (wasPartitioned : Bool) (length_10 : Int) (data_P : List Int) : J1 a b limit wasBalanced wasPartitioned length_10 data_P = SJ1 slices_pdqsortOrdered_int J2 a b limit wasBalanced wasPartitioned length_10 data_P :=
  (lim_eq (.code c2 K5) (tJ1 a b limit wasBalanced wasPartitioned length_10 data_P)).trans (sJ1 slices_pdqsortOrdered_int (lim (E slices_pdqsortOrdered_int) fin) a b limit wasBalanced wasPartitioned length_10 data_P)
theorem J2_eq (a : Int) (b : Int) (limit : Int) (wasBalanced : Bool) (wasPartitioned : Bool) (length_10 : Int) (pivot : Int) (hint : Int) (data_P : List Int) : J2 a b limit wasBalanced wasPartitioned length_10 pivot hint data_P = SJ2 slices_pdqsortOrdered_int J3 a b limit wasBalanced wasPartitioned length_10 pivot hint data_P :=
  (lim_eq (.code c3 K5) (tJ2 a b limit wasBalanced wasPartitioned length_10 pivot hint data_P)).trans (sJ2 slices_pdqsortOrdered_int (lim (E slices_pdqsortOrdered_int) fin) a b limit wasBalanced wasPartitioned length_10 pivot hint data_P)
theorem J3_eq (a : Int) (b : Int) (limit : Int) (wasBalanced : Bool) (wasPartitioned : Bool) (length_10 : Int) (pivot : Int) (data_P : List Int) : J3 a b limit wasBalanced wasPartitioned length_10 pivot data_P = SJ3 slices_pdqsortOrdered_int J4 a b limit wasBalanced wasPartitioned length_10 pivot data_P :=
  (lim_eq (.code c4 K5) (tJ3 a b limit wasBalanced wasPartitioned length_10 pivot data_P)).trans (sJ3 slices_pdqsortOrdered_int (lim (E slices_pdqsortOrdered_int) fin) a b limit wasBalanced wasPartitioned length_10 pivot data_P)
theorem J4_eq (a : Int) (b : Int) (limit : Int) (wasBalanced : Bool) (wasPartitioned : Bool) (length_10 : Int) (pivot : Int) (v_87 : Bool) (data_P : List Int) : J4 a b limit wasBalanced wasPartitioned length_10 pivot v_87 data_P = SJ4 slices_pdqsortOrdered_int L0 a b limit wasBalanced wasPartitioned length_10 pivot v_87 data_P :=
  (lim_eq (.code c5 K24) (tJ4 a b limit wasBalanced wasPartitioned length_10 pivot v_87 data_P)).trans (sJ4 slices_pdqsortOrdered_int (lim (E slices_pdqsortOrdered_int) fin) a b limit wasBalanced wasPartitioned length_10 pivot v_87 data_P)
theorem selfrun : (fun x : (argTy ps).den => slices_pdqsortOrdered_int x.1 x.2.1 x.2.2.1 x.2.2.2.1) = recF E0 ctx0 91 ps rs fin (bodyOf Try.f91) := by kernel_rfl
end slices_pdqsortOrdered_int
noncomputable def slices_pdqsortOrdered_int.sig : Sig := ⟨slices_pdqsortOrdered_int.ps, slices_pdqsortOrdered_int.rs, fun x => slices_pdqsortOrdered_int x.1 x.2.1 x.2.2.1 x.2.2.2.1⟩
theorem slices_pdqsortOrdered_int.val (x : (argTy slices_pdqsortOrdered_int.ps).den) : lim (slices_pdqsortOrdered_int.E slices_pdqsortOrdered_int) slices_pdqsortOrdered_int.fin (.code (bodyOf Try.f91) .ret) (entryFrom 0 slices_pdqsortOrdered_int.ps x) = slices_pdqsortOrdered_int.sig.run x := by
  have h := recF_eq (E := slices_pdqsortOrdered_int.E0) (ctx := slices_pdqsortOrdered_int.ctx0) (f := 91) (ps := slices_pdqsortOrdered_int.ps) (rs := slices_pdqsortOrdered_int.rs) (fin := slices_pdqsortOrdered_int.fin) (body := bodyOf Try.f91) x
  rw [← slices_pdqsortOrdered_int.selfrun] at h
  exact h.symm
theorem slices_pdqsortOrdered_int_eq (data : List Int) (a : Int) (b : Int) (limit : Int) : slices_pdqsortOrdered_int data a b limit = slices_pdqsortOrdered_int.Se slices_pdqsortOrdered_int slices_pdqsortOrdered_int.L0 data a b limit :=
  (slices_pdqsortOrdered_int.val (data, a, b, limit, ())).symm.trans ((lim_eq (.code (bodyOf Try.f91) .ret) (entryFrom 0 slices_pdqsortOrdered_int.ps (data, a, b, limit, ()))).trans (slices_pdqsortOrdered_int.se slices_pdqsortOrdered_int (lim (slices_pdqsortOrdered_int.E slices_pdqsortOrdered_int) slices_pdqsortOrdered_int.fin) (data, a, b, limit, ())))
theorem slices_pdqsortOrdered_int.ok : CallOK Try.prog 91 slices_pdqsortOrdered_int.sig := by
  have h := callOK_rec (E := slices_pdqsortOrdered_int.E0) (ctx := slices_pdqsortOrdered_int.ctx0) (f := 91) (ps := slices_pdqsortOrdered_int.ps) (rs := slices_pdqsortOrdered_int.rs) (fin := slices_pdqsortOrdered_int.fin) (body := bodyOf Try.f91) mixed tt_ok (ctxOk_cons (ctxOk_cons (ctxOk_cons (ctxOk_cons (ctxOk_cons (ctxOk_cons (ctxOk_cons (ctxOk_cons (ctxOk_cons ctxOk_nil slices_partitionOrdered_int.ok Try.func105 (by kernel_rfl) (by kernel_rfl)) slices_partitionEqualOrdered_int.ok Try.func104 (by kernel_rfl) (by kernel_rfl)) cmp_Less_int.ok Try.func103 (by kernel_rfl) (by kernel_rfl)) slices_partialInsertionSortOrdered_int.ok Try.func102 (by kernel_rfl) (by kernel_rfl)) slices_reverseRangeOrdered_int.ok Try.func101 (by kernel_rfl) (by kernel_rfl)) slices_choosePivotOrdered_int.ok Try.func100 (by kernel_rfl) (by kernel_rfl)) slices_breakPatternsOrdered_int.ok Try.func99 (by kernel_rfl) (by kernel_rfl)) slices_heapSortOrdered_int.ok Try.func98 (by kernel_rfl) (by kernel_rfl)) slices_insertionSortOrdered_int.ok Try.func97 (by kernel_rfl) (by kernel_rfl)) Try.func91 (by kernel_rfl : Try.f91.body = some (bodyOf Try.f91)) (by kernel_rfl) (by kernel_rfl) Try.ntmps91 (of_decide_eq_true (by kernel_rfl)) (of_decide_eq_true (by kernel_rfl)) rfl
  rw [← slices_pdqsortOrdered_int.selfrun] at h
  exact h
noncomputable def slices_pdqsortOrdered_int.ctxc (n : Nat) : List (Nat × Sig) := [(97, slices_insertionSortOrdered_int.sigc n), (98, slices_heapSortOrdered_int.sigc n), (99, slices_breakPatternsOrdered_int.sigc n), (100, slices_choosePivotOrdered_int.sigc n), (101, slices_reverseRangeOrdered_int.sigc n), (102, slices_partialInsertionSortOrdered_int.sigc n), (103, cmp_Less_int.sigc n), (104, slices_partitionEqualOrdered_int.sigc n), (105, slices_partitionOrdered_int.sigc n)]
noncomputable def slices_pdqsortOrdered_int.runc (n : Nat) : Nat → (argTy slices_pdqsortOrdered_int.ps).den → slices_pdqsortOrdered_int.R
  | 0, _ => none
  | d + 1, x => runs (withCtx slices_pdqsortOrdered_int.E0 ((91, ⟨slices_pdqsortOrdered_int.ps, slices_pdqsortOrdered_int.rs, slices_pdqsortOrdered_int.runc n d⟩) :: slices_pdqsortOrdered_int.ctxc n)) slices_pdqsortOrdered_int.fin n (.code (bodyOf Try.f91) .ret) (entryFrom 0 slices_pdqsortOrdered_int.ps x)
noncomputable def slices_pdqsortOrdered_int.sigc (n : Nat) : Sig := ⟨slices_pdqsortOrdered_int.ps, slices_pdqsortOrdered_int.rs, slices_pdqsortOrdered_int.runc n n⟩
theorem slices_pdqsortOrdered_int.runc_le (n : Nat) : ∀ d x y, slices_pdqsortOrdered_int.runc n d x = some y → slices_pdqsortOrdered_int.sig.run x = some y := by
  intro d
  induction d with
  | zero => intro x y h; cases h
  | succ d ih => exact fun x y h => (slices_pdqsortOrdered_int.val x).symm.trans (runs_lim (E := slices_pdqsortOrdered_int.E slices_pdqsortOrdered_int) (c := (91, ⟨slices_pdqsortOrdered_int.ps, slices_pdqsortOrdered_int.rs, slices_pdqsortOrdered_int.runc n d⟩) :: slices_pdqsortOrdered_int.ctxc n) (ctxLe_cons (ctxLe_cons (ctxLe_cons (ctxLe_cons (ctxLe_cons (ctxLe_cons (ctxLe_cons (ctxLe_cons (ctxLe_cons (ctxLe_cons ctxLe_nil (slices_partitionOrdered_int.sigc_le n)) (slices_partitionEqualOrdered_int.sigc_le n)) (cmp_Less_int.sigc_le n)) (slices_partialInsertionSortOrdered_int.sigc_le n)) (slices_reverseRangeOrdered_int.sigc_le n)) (slices_choosePivotOrdered_int.sigc_le n)) (slices_breakPatternsOrdered_int.sigc_le n)) (slices_heapSortOrdered_int.sigc_le n)) (slices_insertionSortOrdered_int.sigc_le n)) ih) h)
theorem slices_pdqsortOrdered_int.sigc_le (n : Nat) : ∀ x y, (slices_pdqsortOrdered_int.sigc n).run x = some y → slices_pdqsortOrdered_int.sig.run x = some y := slices_pdqsortOrdered_int.runc_le n n
namespace slices_Sort_int_int
abbrev ps : List PM := [.own (.int .i64)]
abbrev rs : List RM := []
abbrev R : Type := Option (List Int × Unit)
noncomputable def E : Env := { tt := tt, ctx := [(69, math_bits_Len.sig), (91, slices_pdqsortOrdered_int.sig)], nt := 11, ann := [] }
noncomputable def fin : ASt → R := Kret E Try.f76.results.toList ps rs
noncomputable def Se (x_0 : List Int) : R :=
  Option.bind (math_bits_Len (IntKind.u64.wrap (x_0.length : Int))) fun x1 =>
  Option.bind (slices_pdqsortOrdered_int x_0 0 (x_0.length : Int) x1.1) fun x2 =>
  some (x2.1, ())
theorem se (jmp : Tgt → ASt → R) (x : (argTy ps).den) : run E jmp fin depth (bodyOf Try.f76) .ret (entryFrom 0 ps x) =
    Se x.1 := by kernel_rfl
end slices_Sort_int_int
noncomputable def slices_Sort_int_int (x_0 : List Int) : slices_Sort_int_int.R :=
  slices_Sort_int_int.Se x_0
noncomputable def slices_Sort_int_int.sig : Sig := ⟨slices_Sort_int_int.ps, slices_Sort_int_int.rs, fun x => slices_Sort_int_int x.1⟩
theorem slices_Sort_int_int.ok : CallOK Try.prog 76 slices_Sort_int_int.sig :=
  callOK_of_lim (E := slices_Sort_int_int.E) mixed tt_ok (ctxOk_cons (ctxOk_cons ctxOk_nil slices_pdqsortOrdered_int.ok Try.func91 (by kernel_rfl) (by kernel_rfl)) math_bits_Len.ok Try.func69 (by kernel_rfl) (by kernel_rfl)) Try.func76 (by kernel_rfl : Try.f76.body = some (bodyOf Try.f76)) Try.ntmps76 (of_decide_eq_true (by kernel_rfl)) (of_decide_eq_true (by kernel_rfl))
    fun x y h => ((lim_eq (.code (bodyOf Try.f76) .ret) (entryFrom 0 slices_Sort_int_int.ps x)).trans (slices_Sort_int_int.se (lim slices_Sort_int_int.E slices_Sort_int_int.fin) x)).trans h
theorem slices_Sort_int_int.val (x : (argTy slices_Sort_int_int.ps).den) : lim slices_Sort_int_int.E slices_Sort_int_int.fin (.code (bodyOf Try.f76) .ret) (entryFrom 0 slices_Sort_int_int.ps x) = slices_Sort_int_int.sig.run x :=
  (lim_eq (.code (bodyOf Try.f76) .ret) (entryFrom 0 slices_Sort_int_int.ps x)).trans (slices_Sort_int_int.se (lim slices_Sort_int_int.E slices_Sort_int_int.fin) x)
noncomputable def slices_Sort_int_int.ctxc (n : Nat) : List (Nat × Sig) := [(69, math_bits_Len.sigc n), (91, slices_pdqsortOrdered_int.sigc n)]
noncomputable def slices_Sort_int_int.sigc (n : Nat) : Sig := ⟨slices_Sort_int_int.ps, slices_Sort_int_int.rs, fun x => runs (withCtx slices_Sort_int_int.E (slices_Sort_int_int.ctxc n)) slices_Sort_int_int.fin n (.code (bodyOf Try.f76) .ret) (entryFrom 0 slices_Sort_int_int.ps x)⟩
theorem slices_Sort_int_int.sigc_le (n : Nat) : ∀ x y, (slices_Sort_int_int.sigc n).run x = some y → slices_Sort_int_int.sig.run x = some y :=
  fun x y h => (slices_Sort_int_int.val x).symm.trans (runs_lim (E := slices_Sort_int_int.E) (c := slices_Sort_int_int.ctxc n) (ctxLe_cons (ctxLe_cons ctxLe_nil (slices_pdqsortOrdered_int.sigc_le n)) (math_bits_Len.sigc_le n)) h)
namespace slices_Compact_int_int
abbrev ps : List PM := [.give (.int .i64)]
abbrev rs : List RM := [.own (.int .i64)]
abbrev R : Type := Option (List Int × Unit)
noncomputable def E : Env := { tt := tt, ctx := [], nt := 61, ann := [(1000004, [(0, .keep), (3, .keep)]), (1000009, [(0, .keep), (3, .keep), (4, .keep), (5, .keep)])] }
noncomputable def c0 : Code := sub [1, 1, 1] (bodyOf Try.f77)
noncomputable def c1 : Code := sub [1, 1, 0, 1, 0, 0] (bodyOf Try.f77)
noncomputable def c2 : Code := sub [1, 1, 0, 1, 0, 0, 1, 1] (bodyOf Try.f77)
noncomputable def c3 : Code := sub [1, 1, 0, 1, 0, 0, 1, 0, 0, 1, 0, 1, 1] (bodyOf Try.f77)
noncomputable def c4 : Code := sub [1, 1, 0, 1, 0, 0, 1, 0, 0, 1, 0, 1, 0, 1, 0, 0] (bodyOf Try.f77)
noncomputable def K5 : Kont := .seq c0 .ret
noncomputable def K7 : Kont := .blk 0 K5
noncomputable def K8 : Kont := .loop c1 K7
noncomputable def K11 : Kont := .seq c2 K8
noncomputable def K12 : Kont := .blk 1 K11
noncomputable def K15 : Kont := .seq c3 K12
noncomputable def K17 : Kont := .blk 2 K15
noncomputable def fin : ASt → R := Kret E Try.f77.results.toList ps rs
def tL0 (s : List Int) (k : Int) : ASt := ⟨[(3, .one (.val (.int .i64) k)), (0, .one (.own 0))], [(0, some ⟨.free, .int .i64, s⟩)]⟩
def tL1 (s : List Int) (k : Int) (s2_lo : Nat) (s2_len : Nat) (k2 : Int) : ASt := ⟨[(5, .one (.val (.int .i64) k2)), (4, .one (.osub 0 s2_lo s2_len)), (3, .one (.val (.int .i64) k)), (0, .one (.own 0))], [(0, some ⟨.free, .int .i64, s⟩)]⟩
noncomputable def SL0 (kL1 : (List Int) → Int → Nat → Nat → Int → R) (kL0 : (List Int) → Int → R) (s : List Int) (k : Int) : R :=
  cond (decide (k < (s.length : Int)))
    (cond (decide (0 ≤ k) && decide (k < (s.length : Int)))
      (cond (decide (0 ≤ IntKind.i64.wrap (k - 1)) && decide (IntKind.i64.wrap (k - 1) < (s.length : Int)))
        (cond ((s.getD k.toNat 0) == (s.getD ((IntKind.i64.wrap (k - 1)).toNat) 0))
          (cond (decide ((0 : Int) ≤ k) && (decide ((k : Int) ≤ (s.length : Int)) && decide ((s.length : Int) ≤ (s.length : Int))))
            (kL1 s k k.toNat (s.length - k.toNat) 1)
            none)
          (kL0 s (IntKind.i64.wrap (k + 1))))
        none)
      none)
    (some (s, ()))
noncomputable def SL1 (kL1 : (List Int) → Int → Nat → Nat → Int → R) (s : List Int) (k : Int) (s2_lo : Nat) (s2_len : Nat) (k2 : Int) : R :=
  cond (decide (k2 < (s2_len : Int)))
    (cond (decide (0 ≤ k2) && decide (k2 < ((s2_len : Nat) : Int)))
      (cond (decide (0 ≤ IntKind.i64.wrap (k2 - 1)) && decide (IntKind.i64.wrap (k2 - 1) < ((s2_len : Nat) : Int)))
        (cond ((s.getD (s2_lo + k2.toNat) 0) != (s.getD (s2_lo + (IntKind.i64.wrap (k2 - 1)).toNat) 0))
          (cond (decide (0 ≤ k2) && decide (k2 < ((s2_len : Nat) : Int)))
            (cond (decide (0 ≤ k) && decide (k < (s.length : Int)))
              (kL1 (s.set k.toNat (s.getD (s2_lo + k2.toNat) 0)) (IntKind.i64.wrap (k + 1)) s2_lo s2_len (IntKind.i64.wrap (k2 + 1)))
              none)
            none)
          (kL1 s k s2_lo s2_len (IntKind.i64.wrap (k2 + 1))))
        none)
      none)
    (cond (decide ((0 : Int) ≤ k) && (decide ((k : Int) ≤ (s.length : Int)) && decide ((s.length : Int) ≤ (s.length : Int))))
      (cond (decide (0 < (s.length - k.toNat)))
        (cond (decide ((0 : Int) ≤ 0) && (decide ((0 : Int) ≤ k) && decide (k ≤ ((s.take k.toNat ++ (List.replicate (s.length - k.toNat) 0 ++ s.drop (k.toNat + (s.length - k.toNat)))).length : Int))))
          (some (((s.take k.toNat ++ (List.replicate (s.length - k.toNat) 0 ++ s.drop (k.toNat + (s.length - k.toNat)))).take k.toNat), ()))
          none)
        none)
      none)
noncomputable def Se (kL0 : (List Int) → Int → R) (s : List Int) : R :=
  cond (decide ((s.length : Int) < 2))
    (some (s, ()))
    (kL0 s 1)
theorem sL0 (jmp : Tgt → ASt → R) (s : List Int) (k : Int) : run E jmp fin depth c1 (.loop c1 K7) (tL0 s k) =
    SL0 (fun s k s2_lo s2_len k2 => jmp (.loop c4 K17) (tL1 s k s2_lo s2_len k2)) (fun s k => jmp (.loop c1 K7) (tL0 s k)) s k := by kernel_rfl
theorem sL1 (jmp : Tgt → ASt → R) (s : List Int) (k : Int) (s2_lo : Nat) (s2_len : Nat) (k2 : Int) : run E jmp fin depth c4 (.loop c4 K17) (tL1 s k s2_lo s2_len k2) =
    SL1 (fun s k s2_lo s2_len k2 => jmp (.loop c4 K17) (tL1 s k s2_lo s2_len k2)) s k s2_lo s2_len k2 := by kernel_rfl
theorem se (jmp : Tgt → ASt → R) (x : (argTy ps).den) : run E jmp fin depth (bodyOf Try.f77) .ret (entryFrom 0 ps x) =
    Se (fun s k => jmp (.loop c1 K7) (tL0 s k)) x.1 := by kernel_rfl
noncomputable def L0 (s : List Int) (k : Int) : R := lim E fin (.loop c1 K7) (tL0 s k)
noncomputable def L1 (s : List Int) (k : Int) (s2_lo : Nat) (s2_len : Nat) (k2 : Int) : R := lim E fin (.loop c4 K17) (tL1 s k s2_lo s2_len k2)
theorem L0_eq (s : List Int) (k : Int) : L0 s k = SL0 L1 L0 s k :=
  (lim_eq (.loop c1 K7) (tL0 s k)).trans (sL0 (lim E fin) s k)
theorem L1_eq (s : List Int) (k : Int) (s2_lo : Nat) (s2_len : Nat) (k2 : Int) : L1 s k s2_lo s2_len k2 = SL1 L1 s k s2_lo s2_len k2 :=
  (lim_eq (.loop c4 K17) (tL1 s k s2_lo s2_len k2)).trans (sL1 (lim E fin) s k s2_lo s2_len k2)
end slices_Compact_int_int
noncomputable def slices_Compact_int_int (s : List Int) : slices_Compact_int_int.R :=
  slices_Compact_int_int.Se slices_Compact_int_int.L0 s
noncomputable def slices_Compact_int_int.sig : Sig := ⟨slices_Compact_int_int.ps, slices_Compact_int_int.rs, fun x => slices_Compact_int_int x.1⟩
theorem slices_Compact_int_int.ok : CallOK Try.prog 77 slices_Compact_int_int.sig :=
  callOK_of_lim (E := slices_Compact_int_int.E) mixed tt_ok ctxOk_nil Try.func77 (by kernel_rfl : Try.f77.body = some (bodyOf Try.f77)) Try.ntmps77 (of_decide_eq_true (by kernel_rfl)) (of_decide_eq_true (by kernel_rfl))
    fun x y h => ((lim_eq (.code (bodyOf Try.f77) .ret) (entryFrom 0 slices_Compact_int_int.ps x)).trans (slices_Compact_int_int.se (lim slices_Compact_int_int.E slices_Compact_int_int.fin) x)).trans h
theorem slices_Compact_int_int.val (x : (argTy slices_Compact_int_int.ps).den) : lim slices_Compact_int_int.E slices_Compact_int_int.fin (.code (bodyOf Try.f77) .ret) (entryFrom 0 slices_Compact_int_int.ps x) = slices_Compact_int_int.sig.run x :=
  (lim_eq (.code (bodyOf Try.f77) .ret) (entryFrom 0 slices_Compact_int_int.ps x)).trans (slices_Compact_int_int.se (lim slices_Compact_int_int.E slices_Compact_int_int.fin) x)
noncomputable def slices_Compact_int_int.ctxc (n : Nat) : List (Nat × Sig) := []
noncomputable def slices_Compact_int_int.sigc (n : Nat) : Sig := ⟨slices_Compact_int_int.ps, slices_Compact_int_int.rs, fun x => runs (withCtx slices_Compact_int_int.E (slices_Compact_int_int.ctxc n)) slices_Compact_int_int.fin n (.code (bodyOf Try.f77) .ret) (entryFrom 0 slices_Compact_int_int.ps x)⟩
theorem slices_Compact_int_int.sigc_le (n : Nat) : ∀ x y, (slices_Compact_int_int.sigc n).run x = some y → slices_Compact_int_int.sig.run x = some y :=
  fun x y h => (slices_Compact_int_int.val x).symm.trans (runs_lim (E := slices_Compact_int_int.E) (c := slices_Compact_int_int.ctxc n) ctxLe_nil h)
namespace daterange_Boundaries
abbrev ps : List PM := [.pure (.sl api_Type)]
abbrev rs : List RM := [.own (.int .i64)]
abbrev R : Type := Option (List Int × Unit)
noncomputable def E : Env := { tt := tt, ctx := [(75, daterange_proper.sig), (76, slices_Sort_int_int.sig), (77, slices_Compact_int_int.sig)], nt := 26, ann := [(1000003, [(3, .own (.int .i64)), (6, .keep), (7, .keep), (8, .keep)])] }
noncomputable def c0 : Code := sub [1, 1, 1] (bodyOf Try.f58)
noncomputable def c1 : Code := sub [1, 1, 0, 1, 0, 0] (bodyOf Try.f58)
noncomputable def K3 : Kont := .seq c0 .ret
noncomputable def K5 : Kont := .blk 0 K3
noncomputable def fin : ASt → R := Kret E Try.f58.results.toList ps rs
def tL0 (out : List Int) (v_6 : List api_TypeV) (v_7 : Int) (v_8 : Int) : ASt := ⟨[(8, .one (.val (.int .i64) v_8)), (7, .one (.val (.int .i64) v_7)), (6, .one (.val (.sl api_Type) v_6)), (3, .one (.own 3))], [(3, some ⟨.free, .int .i64, out⟩)]⟩
noncomputable def SL0 (kL0 : (List Int) → (List api_TypeV) → Int → Int → R) (out : List Int) (v_6 : List api_TypeV) (v_7 : Int) (v_8 : Int) : R :=
  cond (decide (v_8 < v_7))
    (Option.bind (idx v_6 v_8) fun x1 =>
    Option.bind (daterange_proper x1) fun x2 =>
    cond x2.1
      (cond (decide ((out.length + 2) * 8 ≤ room) && decide (0 < Ty.nc (.int .i64)))
        (kL0 (out ++ [x1.1, x1.2.1]) v_6 v_7 (IntKind.i64.wrap (v_8 + 1)))
        none)
      (kL0 out v_6 v_7 (IntKind.i64.wrap (v_8 + 1))))
    (Option.bind (slices_Sort_int_int out) fun x3 =>
    Option.bind (slices_Compact_int_int x3.1) fun x4 =>
    some (x4.1, ()))
noncomputable def Se (kL0 : (List Int) → (List api_TypeV) → Int → Int → R) (l : List api_TypeV) : R :=
  kL0 [] l (l.length : Int) 0
theorem sL0 (jmp : Tgt → ASt → R) (out : List Int) (v_6 : List api_TypeV) (v_7 : Int) (v_8 : Int) : run E jmp fin depth c1 (.loop c1 K5) (tL0 out v_6 v_7 v_8) =
    SL0 (fun out v_6 v_7 v_8 => jmp (.loop c1 K5) (tL0 out v_6 v_7 v_8)) out v_6 v_7 v_8 := by kernel_rfl
theorem se (jmp : Tgt → ASt → R) (x : (argTy ps).den) : run E jmp fin depth (bodyOf Try.f58) .ret (entryFrom 0 ps x) =
    Se (fun out v_6 v_7 v_8 => jmp (.loop c1 K5) (tL0 out v_6 v_7 v_8)) x.1 := by kernel_rfl
noncomputable def L0 (out : List Int) (v_6 : List api_TypeV) (v_7 : Int) (v_8 : Int) : R := lim E fin (.loop c1 K5) (tL0 out v_6 v_7 v_8)
theorem L0_eq (out : List Int) (v_6 : List api_TypeV) (v_7 : Int) (v_8 : Int) : L0 out v_6 v_7 v_8 = SL0 L0 out v_6 v_7 v_8 :=
  (lim_eq (.loop c1 K5) (tL0 out v_6 v_7 v_8)).trans (sL0 (lim E fin) out v_6 v_7 v_8)
end daterange_Boundaries
noncomputable def daterange_Boundaries (l : List api_TypeV) : daterange_Boundaries.R :=
  daterange_Boundaries.Se daterange_Boundaries.L0 l
noncomputable def daterange_Boundaries.sig : Sig := ⟨daterange_Boundaries.ps, daterange_Boundaries.rs, fun x => daterange_Boundaries x.1⟩
theorem daterange_Boundaries.ok : CallOK Try.prog 58 daterange_Boundaries.sig :=
  callOK_of_lim (E := daterange_Boundaries.E) mixed tt_ok (ctxOk_cons (ctxOk_cons (ctxOk_cons ctxOk_nil slices_Compact_int_int.ok Try.func77 (by kernel_rfl) (by kernel_rfl)) slices_Sort_int_int.ok Try.func76 (by kernel_rfl) (by kernel_rfl)) daterange_proper.ok Try.func75 (by kernel_rfl) (by kernel_rfl)) Try.func58 (by kernel_rfl : Try.f58.body = some (bodyOf Try.f58)) Try.ntmps58 (of_decide_eq_true (by kernel_rfl)) (of_decide_eq_true (by kernel_rfl))
    fun x y h => ((lim_eq (.code (bodyOf Try.f58) .ret) (entryFrom 0 daterange_Boundaries.ps x)).trans (daterange_Boundaries.se (lim daterange_Boundaries.E daterange_Boundaries.fin) x)).trans h
theorem daterange_Boundaries.val (x : (argTy daterange_Boundaries.ps).den) : lim daterange_Boundaries.E daterange_Boundaries.fin (.code (bodyOf Try.f58) .ret) (entryFrom 0 daterange_Boundaries.ps x) = daterange_Boundaries.sig.run x :=
  (lim_eq (.code (bodyOf Try.f58) .ret) (entryFrom 0 daterange_Boundaries.ps x)).trans (daterange_Boundaries.se (lim daterange_Boundaries.E daterange_Boundaries.fin) x)
noncomputable def daterange_Boundaries.ctxc (n : Nat) : List (Nat × Sig) := [(75, daterange_proper.sigc n), (76, slices_Sort_int_int.sigc n), (77, slices_Compact_int_int.sigc n)]
noncomputable def daterange_Boundaries.sigc (n : Nat) : Sig := ⟨daterange_Boundaries.ps, daterange_Boundaries.rs, fun x => runs (withCtx daterange_Boundaries.E (daterange_Boundaries.ctxc n)) daterange_Boundaries.fin n (.code (bodyOf Try.f58) .ret) (entryFrom 0 daterange_Boundaries.ps x)⟩
theorem daterange_Boundaries.sigc_le (n : Nat) : ∀ x y, (daterange_Boundaries.sigc n).run x = some y → daterange_Boundaries.sig.run x = some y :=
  fun x y h => (daterange_Boundaries.val x).symm.trans (runs_lim (E := daterange_Boundaries.E) (c := daterange_Boundaries.ctxc n) (ctxLe_cons (ctxLe_cons (ctxLe_cons ctxLe_nil (slices_Compact_int_int.sigc_le n)) (slices_Sort_int_int.sigc_le n)) (daterange_proper.sigc_le n)) h)
end Go.Proofs.Ytgnigfnonoicmaa
