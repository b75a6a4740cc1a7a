/- The functions of the program as typed Lean functions, with the proof that they are what the code computes. -/
import Derived.Test.YtkhmefingpocpaaCode1
set_option maxRecDepth 100000
set_option linter.unusedVariables false
namespace Go.Proofs.Ytkhmefingpocpaa
open Go Go.Lift

/-! ### slices.symMergeCmpFunc[guerdon/money.part] -/
namespace slices_symMergeCmpFunc_money_part_money_shares_1
abbrev ps : List PM := [.own money_part, .pure (.int .i64), .pure (.int .i64), .pure (.int .i64), .fn 37]
abbrev rs : List RM := []
abbrev R : Type := Option (List money_partV × Unit)
noncomputable def E0 : Env := { tt := tt, ctx := [], nt := 220, ann := [(1000003, [(0, .keep), (1, .keep), (4, .keep), (10, .keep), (11, .keep)]), (1000015, [(0, .keep), (2, .keep), (4, .keep), (14, .keep), (15, .keep)]), (32, [(0, .keep), (1, .keep), (2, .keep), (3, .keep), (4, .keep), (18, .keep), (19, .keep), (20, .keep), (21, .keep)]), (1000009, [(0, .keep), (10, .keep), (13, .keep)]), (1000021, [(0, .keep), (14, .keep), (17, .keep)]), (1000033, [(0, .keep), (1, .keep), (2, .keep), (3, .keep), (4, .keep), (18, .keep), (19, .keep), (20, .keep), (21, .keep), (22, .keep)]), (41, [(0, .keep), (1, .keep), (3, .keep), (4, .keep), (18, .keep), (20, .keep), (24, .keep)]), (43, [(0, .keep), (3, .keep), (4, .keep), (18, .keep), (24, .keep)])] }
noncomputable def ctx0 : List (Nat × Sig) := [(37, money_shares_1.sig), (44, slices_rotateCmpFunc_money_part_money_shares_1.sig)]
noncomputable def E (self : (List money_partV) → Int → Int → Int → R) : Env := withCtx E0 ((43, ⟨ps, rs, fun x => self x.1 x.2.1 x.2.2.1 x.2.2.2.1⟩) :: ctx0)
noncomputable def c0 : Code := sub [1] (bodyOf Try.f43)
noncomputable def c1 : Code := sub [0, 1, 0, 1, 1, 1] (bodyOf Try.f43)
noncomputable def c2 : Code := sub [1, 1] (bodyOf Try.f43)
noncomputable def c3 : Code := sub [1, 0, 1, 0, 1, 1, 1] (bodyOf Try.f43)
noncomputable def c4 : Code := sub [0, 1, 0, 1, 1, 1, 1] (bodyOf Try.f43)
noncomputable def c5 : Code := sub [1, 0, 1, 0, 1, 1, 1, 1] (bodyOf Try.f43)
noncomputable def c6 : Code := sub [1, 1, 1, 1, 1, 1, 1, 1] (bodyOf Try.f43)
noncomputable def c7 : Code := sub [0, 1, 0, 1, 1, 0, 0, 0] (bodyOf Try.f43)
noncomputable def c8 : Code := sub [1, 0, 1, 0, 1, 1, 0, 0, 0] (bodyOf Try.f43)
noncomputable def c9 : Code := sub [1, 1, 1, 1, 1, 1] (bodyOf Try.f43)
noncomputable def c10 : Code := sub [0, 1, 0, 1, 1, 1, 0, 1, 0, 0] (bodyOf Try.f43)
noncomputable def c11 : Code := sub [1, 0, 1, 0, 1, 1, 1, 0, 1, 0, 0] (bodyOf Try.f43)
noncomputable def c12 : Code := sub [1, 1, 1, 1, 1, 1, 1, 0, 0, 0] (bodyOf Try.f43)
noncomputable def c13 : Code := sub [1, 1, 1, 1, 1, 1, 1, 1, 1, 1] (bodyOf Try.f43)
noncomputable def c14 : Code := sub [1, 1, 1, 1, 1, 1, 1, 1, 1, 1, 1] (bodyOf Try.f43)
noncomputable def K1 : Kont := .seq c0 .ret
noncomputable def K5 : Kont := .seq c1 K1
noncomputable def K6 : Kont := .blk 0 K5
noncomputable def K8 : Kont := .seq c2 .ret
noncomputable def K12 : Kont := .seq c3 K8
noncomputable def K13 : Kont := .blk 4 K12
noncomputable def K27 : Kont := .seq c4 K1
noncomputable def K29 : Kont := .blk 2 K27
noncomputable def K36 : Kont := .seq c5 K8
noncomputable def K38 : Kont := .blk 6 K36
noncomputable def K41 : Kont := .seq c6 .ret
noncomputable def K42 : Kont := .blk 8 K41
noncomputable def fin : ASt → R := Kret E0 Try.f43.results.toList ps rs
def tL0 (a : Int) (i : Int) (j : Int) (data_P : List money_partV) : ASt := ⟨[(11, .one (.val (.int .i64) j)), (10, .one (.val (.int .i64) i)), (4, .one (.fn 37 [])), (1, .one (.val (.int .i64) a)), (0, .one (.own 10000))], [(10000, some ⟨.fixed, money_part, data_P⟩)]⟩
def tL1 (m : Int) (i : Int) (j : Int) (data_P : List money_partV) : ASt := ⟨[(15, .one (.val (.int .i64) j)), (14, .one (.val (.int .i64) i)), (4, .one (.fn 37 [])), (2, .one (.val (.int .i64) m)), (0, .one (.own 10000))], [(10000, some ⟨.fixed, money_part, data_P⟩)]⟩
def tJ2 (a : Int) (m : Int) (b : Int) (mid : Int) (n_19 : Int) (start : Int) (r_21 : Int) (data_P : List money_partV) : ASt := ⟨[(21, .one (.val (.int .i64) r_21)), (20, .one (.val (.int .i64) start)), (19, .one (.val (.int .i64) n_19)), (18, .one (.val (.int .i64) mid)), (4, .one (.fn 37 [])), (3, .one (.val (.int .i64) b)), (2, .one (.val (.int .i64) m)), (1, .one (.val (.int .i64) a)), (0, .one (.own 10000))], [(10000, some ⟨.fixed, money_part, data_P⟩)]⟩
def tL3 (i : Int) (k : Int) (data_P : List money_partV) : ASt := ⟨[(13, .one (.val (.int .i64) k)), (10, .one (.val (.int .i64) i)), (0, .one (.own 10000))], [(10000, some ⟨.fixed, money_part, data_P⟩)]⟩
def tL4 (i : Int) (k : Int) (data_P : List money_partV) : ASt := ⟨[(17, .one (.val (.int .i64) k)), (14, .one (.val (.int .i64) i)), (0, .one (.own 10000))], [(10000, some ⟨.fixed, money_part, data_P⟩)]⟩
def tL5 (a : Int) (m : Int) (b : Int) (mid : Int) (n_19 : Int) (start : Int) (r_21 : Int) (p : Int) (data_P : List money_partV) : ASt := ⟨[(22, .one (.val (.int .i64) p)), (21, .one (.val (.int .i64) r_21)), (20, .one (.val (.int .i64) start)), (19, .one (.val (.int .i64) n_19)), (18, .one (.val (.int .i64) mid)), (4, .one (.fn 37 [])), (3, .one (.val (.int .i64) b)), (2, .one (.val (.int .i64) m)), (1, .one (.val (.int .i64) a)), (0, .one (.own 10000))], [(10000, some ⟨.fixed, money_part, data_P⟩)]⟩
def tJ6 (a : Int) (b : Int) (mid : Int) (start : Int) (end_24 : Int) (data_P : List money_partV) : ASt := ⟨[(24, .one (.val (.int .i64) end_24)), (20, .one (.val (.int .i64) start)), (18, .one (.val (.int .i64) mid)), (4, .one (.fn 37 [])), (3, .one (.val (.int .i64) b)), (1, .one (.val (.int .i64) a)), (0, .one (.own 10000))], [(10000, some ⟨.fixed, money_part, data_P⟩)]⟩
def tJ7 (b : Int) (mid : Int) (end_24 : Int) (data_P : List money_partV) : ASt := ⟨[(24, .one (.val (.int .i64) end_24)), (18, .one (.val (.int .i64) mid)), (4, .one (.fn 37 [])), (3, .one (.val (.int .i64) b)), (0, .one (.own 10000))], [(10000, some ⟨.fixed, money_part, data_P⟩)]⟩
noncomputable def SL0 (self : (List money_partV) → Int → Int → Int → R) (kL0 : Int → Int → Int → (List money_partV) → R) (kL3 : Int → Int → (List money_partV) → R) (a : Int) (i : Int) (j : Int) (data_P : List money_partV) : R :=
  cond (decide (i < j))
    (cond (decide (0 ≤ IntKind.i64.wrap (Int.fdiv (IntKind.u64.wrap (IntKind.i64.wrap (i + j))) (2 ^ (min 1 IntKind.u64.bits)))) && decide (IntKind.i64.wrap (Int.fdiv (IntKind.u64.wrap (IntKind.i64.wrap (i + j))) (2 ^ (min 1 IntKind.u64.bits))) < (data_P.length : Int)))
      (cond (decide (0 ≤ a) && decide (a < (data_P.length : Int)))
        (Option.bind (money_shares_1 (data_P.getD ((IntKind.i64.wrap (Int.fdiv (IntKind.u64.wrap (IntKind.i64.wrap (i + j))) (2 ^ (min 1 IntKind.u64.bits)))).toNat) (0, 0, ())) (data_P.getD a.toNat (0, 0, ()))) fun x1 =>
        cond (decide (x1.1 < 0))
          (kL0 a (IntKind.i64.wrap ((IntKind.i64.wrap (Int.fdiv (IntKind.u64.wrap (IntKind.i64.wrap (i + j))) (2 ^ (min 1 IntKind.u64.bits)))) + 1)) j data_P)
          (kL0 a i (IntKind.i64.wrap (Int.fdiv (IntKind.u64.wrap (IntKind.i64.wrap (i + j))) (2 ^ (min 1 IntKind.u64.bits)))) data_P))
        none)
      none)
    (kL3 i a data_P)
noncomputable def SL1 (self : (List money_partV) → Int → Int → Int → R) (kL1 : Int → Int → Int → (List money_partV) → R) (kL4 : Int → Int → (List money_partV) → R) (m : Int) (i : Int) (j : Int) (data_P : List money_partV) : R :=
  cond (decide (i < j))
    (cond (decide (0 ≤ m) && decide (m < (data_P.length : Int)))
      (cond (decide (0 ≤ IntKind.i64.wrap (Int.fdiv (IntKind.u64.wrap (IntKind.i64.wrap (i + j))) (2 ^ (min 1 IntKind.u64.bits)))) && decide (IntKind.i64.wrap (Int.fdiv (IntKind.u64.wrap (IntKind.i64.wrap (i + j))) (2 ^ (min 1 IntKind.u64.bits))) < (data_P.length : Int)))
        (Option.bind (money_shares_1 (data_P.getD m.toNat (0, 0, ())) (data_P.getD ((IntKind.i64.wrap (Int.fdiv (IntKind.u64.wrap (IntKind.i64.wrap (i + j))) (2 ^ (min 1 IntKind.u64.bits)))).toNat) (0, 0, ()))) fun x1 =>
        cond (!(decide (x1.1 < 0)))
          (kL1 m (IntKind.i64.wrap ((IntKind.i64.wrap (Int.fdiv (IntKind.u64.wrap (IntKind.i64.wrap (i + j))) (2 ^ (min 1 IntKind.u64.bits)))) + 1)) j data_P)
          (kL1 m i (IntKind.i64.wrap (Int.fdiv (IntKind.u64.wrap (IntKind.i64.wrap (i + j))) (2 ^ (min 1 IntKind.u64.bits)))) data_P))
        none)
      none)
    (kL4 i m data_P)
noncomputable def SJ2 (self : (List money_partV) → Int → Int → Int → R) (kL5 : Int → Int → Int → Int → Int → Int → Int → Int → (List money_partV) → R) (a : Int) (m : Int) (b : Int) (mid : Int) (n_19 : Int) (start : Int) (r_21 : Int) (data_P : List money_partV) : R :=
  kL5 a m b mid n_19 start r_21 (IntKind.i64.wrap (n_19 - 1)) data_P
noncomputable def SL3 (self : (List money_partV) → Int → Int → Int → R) (kL3 : Int → Int → (List money_partV) → R) (i : Int) (k : Int) (data_P : List money_partV) : R :=
  cond (decide (k < (IntKind.i64.wrap (i - 1))))
    (cond (decide (0 ≤ IntKind.i64.wrap (k + 1)) && decide (IntKind.i64.wrap (k + 1) < (data_P.length : Int)))
      (cond (decide (0 ≤ k) && decide (k < (data_P.length : Int)))
        (cond (decide (0 ≤ k) && decide (k < (data_P.length : Int)))
          (cond (decide (0 ≤ IntKind.i64.wrap (k + 1)) && decide (IntKind.i64.wrap (k + 1) < ((data_P.set k.toNat (data_P.getD ((IntKind.i64.wrap (k + 1)).toNat) (0, 0, ()))).length : Int)))
            (kL3 i (IntKind.i64.wrap (k + 1)) ((data_P.set k.toNat (data_P.getD ((IntKind.i64.wrap (k + 1)).toNat) (0, 0, ()))).set ((IntKind.i64.wrap (k + 1)).toNat) (data_P.getD k.toNat (0, 0, ()))))
            none)
          none)
        none)
      none)
    (some (data_P, ()))
noncomputable def SL4 (self : (List money_partV) → Int → Int → Int → R) (kL4 : Int → Int → (List money_partV) → R) (i : Int) (k : Int) (data_P : List money_partV) : R :=
  cond (decide (k > i))
    (cond (decide (0 ≤ IntKind.i64.wrap (k - 1)) && decide (IntKind.i64.wrap (k - 1) < (data_P.length : Int)))
      (cond (decide (0 ≤ k) && decide (k < (data_P.length : Int)))
        (cond (decide (0 ≤ k) && decide (k < (data_P.length : Int)))
          (cond (decide (0 ≤ IntKind.i64.wrap (k - 1)) && decide (IntKind.i64.wrap (k - 1) < ((data_P.set k.toNat (data_P.getD ((IntKind.i64.wrap (k - 1)).toNat) (0, 0, ()))).length : Int)))
            (kL4 i (IntKind.i64.wrap (k - 1)) ((data_P.set k.toNat (data_P.getD ((IntKind.i64.wrap (k - 1)).toNat) (0, 0, ()))).set ((IntKind.i64.wrap (k - 1)).toNat) (data_P.getD k.toNat (0, 0, ()))))
            none)
          none)
        none)
      none)
    (some (data_P, ()))
noncomputable def SL5 (self : (List money_partV) → Int → Int → Int → R) (kL5 : Int → Int → Int → Int → Int → Int → Int → Int → (List money_partV) → R) (kJ6 : Int → Int → Int → Int → Int → (List money_partV) → R) (a : Int) (m : Int) (b : Int) (mid : Int) (n_19 : Int) (start : Int) (r_21 : Int) (p : Int) (data_P : List money_partV) : R :=
  cond (decide (start < r_21))
    (cond (decide (0 ≤ IntKind.i64.wrap (p - (IntKind.i64.wrap (Int.fdiv (IntKind.u64.wrap (IntKind.i64.wrap (start + r_21))) (2 ^ (min 1 IntKind.u64.bits)))))) && decide (IntKind.i64.wrap (p - (IntKind.i64.wrap (Int.fdiv (IntKind.u64.wrap (IntKind.i64.wrap (start + r_21))) (2 ^ (min 1 IntKind.u64.bits))))) < (data_P.length : Int)))
      (cond (decide (0 ≤ IntKind.i64.wrap (Int.fdiv (IntKind.u64.wrap (IntKind.i64.wrap (start + r_21))) (2 ^ (min 1 IntKind.u64.bits)))) && decide (IntKind.i64.wrap (Int.fdiv (IntKind.u64.wrap (IntKind.i64.wrap (start + r_21))) (2 ^ (min 1 IntKind.u64.bits))) < (data_P.length : Int)))
        (Option.bind (money_shares_1 (data_P.getD ((IntKind.i64.wrap (p - (IntKind.i64.wrap (Int.fdiv (IntKind.u64.wrap (IntKind.i64.wrap (start + r_21))) (2 ^ (min 1 IntKind.u64.bits)))))).toNat) (0, 0, ())) (data_P.getD ((IntKind.i64.wrap (Int.fdiv (IntKind.u64.wrap (IntKind.i64.wrap (start + r_21))) (2 ^ (min 1 IntKind.u64.bits)))).toNat) (0, 0, ()))) fun x1 =>
        cond (!(decide (x1.1 < 0)))
          (kL5 a m b mid n_19 (IntKind.i64.wrap ((IntKind.i64.wrap (Int.fdiv (IntKind.u64.wrap (IntKind.i64.wrap (start + r_21))) (2 ^ (min 1 IntKind.u64.bits)))) + 1)) r_21 p data_P)
          (kL5 a m b mid n_19 start (IntKind.i64.wrap (Int.fdiv (IntKind.u64.wrap (IntKind.i64.wrap (start + r_21))) (2 ^ (min 1 IntKind.u64.bits)))) p data_P))
        none)
      none)
    (cond (decide (start < m))
      (cond (decide (m < (IntKind.i64.wrap (n_19 - start))))
        (Option.bind (slices_rotateCmpFunc_money_part_money_shares_1 data_P start m (IntKind.i64.wrap (n_19 - start))) fun x2 =>
        kJ6 a b mid start (IntKind.i64.wrap (n_19 - start)) x2.1)
        (kJ6 a b mid start (IntKind.i64.wrap (n_19 - start)) data_P))
      (kJ6 a b mid start (IntKind.i64.wrap (n_19 - start)) data_P))
noncomputable def SJ6 (self : (List money_partV) → Int → Int → Int → R) (kJ7 : Int → Int → Int → (List money_partV) → R) (a : Int) (b : Int) (mid : Int) (start : Int) (end_24 : Int) (data_P : List money_partV) : R :=
  cond (decide (a < start))
    (cond (decide (start < mid))
      (Option.bind (self data_P a start mid) fun x1 =>
      kJ7 b mid end_24 x1.1)
      (kJ7 b mid end_24 data_P))
    (kJ7 b mid end_24 data_P)
noncomputable def SJ7 (self : (List money_partV) → Int → Int → Int → R) (b : Int) (mid : Int) (end_24 : Int) (data_P : List money_partV) : R :=
  cond (decide (mid < end_24))
    (cond (decide (end_24 < b))
      (Option.bind (self data_P mid end_24 b) fun x1 =>
      some (x1.1, ()))
      (some (data_P, ())))
    (some (data_P, ()))
noncomputable def Se (self : (List money_partV) → Int → Int → Int → R) (kL0 : Int → Int → Int → (List money_partV) → R) (kL1 : Int → Int → Int → (List money_partV) → R) (kJ2 : Int → Int → Int → Int → Int → Int → Int → (List money_partV) → R) (data : List money_partV) (a : Int) (m : Int) (b : Int) : R :=
  cond ((IntKind.i64.wrap (m - a)) == 1)
    (kL0 a m b data)
    (cond ((IntKind.i64.wrap (b - m)) == 1)
      (kL1 m a m data)
      (cond (decide (m > (IntKind.i64.wrap (Int.fdiv (IntKind.u64.wrap (IntKind.i64.wrap (a + b))) (2 ^ (min 1 IntKind.u64.bits))))))
        (kJ2 a m b (IntKind.i64.wrap (Int.fdiv (IntKind.u64.wrap (IntKind.i64.wrap (a + b))) (2 ^ (min 1 IntKind.u64.bits)))) (IntKind.i64.wrap ((IntKind.i64.wrap (Int.fdiv (IntKind.u64.wrap (IntKind.i64.wrap (a + b))) (2 ^ (min 1 IntKind.u64.bits)))) + m)) (IntKind.i64.wrap ((IntKind.i64.wrap ((IntKind.i64.wrap (Int.fdiv (IntKind.u64.wrap (IntKind.i64.wrap (a + b))) (2 ^ (min 1 IntKind.u64.bits)))) + m)) - b)) (IntKind.i64.wrap (Int.fdiv (IntKind.u64.wrap (IntKind.i64.wrap (a + b))) (2 ^ (min 1 IntKind.u64.bits)))) data)
        (kJ2 a m b (IntKind.i64.wrap (Int.fdiv (IntKind.u64.wrap (IntKind.i64.wrap (a + b))) (2 ^ (min 1 IntKind.u64.bits)))) (IntKind.i64.wrap ((IntKind.i64.wrap (Int.fdiv (IntKind.u64.wrap (IntKind.i64.wrap (a + b))) (2 ^ (min 1 IntKind.u64.bits)))) + m)) a m data)))
theorem sL0 (self : (List money_partV) → Int → Int → Int → R) (jmp : Tgt → ASt → R) (a : Int) (i : Int) (j : Int) (data_P : List money_partV) : run (E self) jmp fin depth c7 (.loop c7 K6) (tL0 a i j data_P) =
    SL0 self (fun a i j data_P => jmp (.loop c7 K6) (tL0 a i j data_P)) (fun i k data_P => jmp (.loop c10 K29) (tL3 i k data_P)) a i j data_P := by kernel_rfl
theorem sL1 (self : (List money_partV) → Int → Int → Int → R) (jmp : Tgt → ASt → R) (m : Int) (i : Int) (j : Int) (data_P : List money_partV) : run (E self) jmp fin depth c8 (.loop c8 K13) (tL1 m i j data_P) =
    SL1 self (fun m i j data_P => jmp (.loop c8 K13) (tL1 m i j data_P)) (fun i k data_P => jmp (.loop c11 K38) (tL4 i k data_P)) m i j data_P := by kernel_rfl
theorem sJ2 (self : (List money_partV) → Int → Int → Int → R) (jmp : Tgt → ASt → R) (a : Int) (m : Int) (b : Int) (mid : Int) (n_19 : Int) (start : Int) (r_21 : Int) (data_P : List money_partV) : run (E self) jmp fin depth c9 .ret (tJ2 a m b mid n_19 start r_21 data_P) =
    SJ2 self (fun a m b mid n_19 start r_21 p data_P => jmp (.loop c12 K42) (tL5 a m b mid n_19 start r_21 p data_P)) a m b mid n_19 start r_21 data_P := by kernel_rfl
theorem sL3 (self : (List money_partV) → Int → Int → Int → R) (jmp : Tgt → ASt → R) (i : Int) (k : Int) (data_P : List money_partV) : run (E self) jmp fin depth c10 (.loop c10 K29) (tL3 i k data_P) =
    SL3 self (fun i k data_P => jmp (.loop c10 K29) (tL3 i k data_P)) i k data_P := by kernel_rfl
theorem sL4 (self : (List money_partV) → Int → Int → Int → R) (jmp : Tgt → ASt → R) (i : Int) (k : Int) (data_P : List money_partV) : run (E self) jmp fin depth c11 (.loop c11 K38) (tL4 i k data_P) =
    SL4 self (fun i k data_P => jmp (.loop c11 K38) (tL4 i k data_P)) i k data_P := by kernel_rfl
theorem sL5 (self : (List money_partV) → Int → Int → Int → R) (jmp : Tgt → ASt → R) (a : Int) (m : Int) (b : Int) (mid : Int) (n_19 : Int) (start : Int) (r_21 : Int) (p : Int) (data_P : List money_partV) : run (E self) jmp fin depth c12 (.loop c12 K42) (tL5 a m b mid n_19 start r_21 p data_P) =
    SL5 self (fun a m b mid n_19 start r_21 p data_P => jmp (.loop c12 K42) (tL5 a m b mid n_19 start r_21 p data_P)) (fun a b mid start end_24 data_P => jmp (.code c13 .ret) (tJ6 a b mid start end_24 data_P)) a m b mid n_19 start r_21 p data_P := by kernel_rfl
theorem sJ6 (self : (List money_partV) → Int → Int → Int → R) (jmp : Tgt → ASt → R) (a : Int) (b : Int) (mid : Int) (start : Int) (end_24 : Int) (data_P : List money_partV) : run (E self) jmp fin depth c13 .ret (tJ6 a b mid start end_24 data_P) =
    SJ6 self (fun b mid end_24 data_P => jmp (.code c14 .ret) (tJ7 b mid end_24 data_P)) a b mid start end_24 data_P := by kernel_rfl
theorem sJ7 (self : (List money_partV) → Int → Int → Int → R) (jmp : Tgt → ASt → R) (b : Int) (mid : Int) (end_24 : Int) (data_P : List money_partV) : run (E self) jmp fin depth c14 .ret (tJ7 b mid end_24 data_P) =
    SJ7 self b mid end_24 data_P := by kernel_rfl
theorem se (self : (List money_partV) → Int → Int → Int → R) (jmp : Tgt → ASt → R) (x : (argTy ps).den) : run (E self) jmp fin depth (bodyOf Try.f43) .ret (entryFrom 0 ps x) =
    Se self (fun a i j data_P => jmp (.loop c7 K6) (tL0 a i j data_P)) (fun m i j data_P => jmp (.loop c8 K13) (tL1 m i j data_P)) (fun a m b mid n_19 start r_21 data_P => jmp (.code c9 .ret) (tJ2 a m b mid n_19 start r_21 data_P)) x.1 x.2.1 x.2.2.1 x.2.2.2.1 := by kernel_rfl
end slices_symMergeCmpFunc_money_part_money_shares_1
noncomputable def slices_symMergeCmpFunc_money_part_money_shares_1 (data : List money_partV) (a : Int) (m : Int) (b : Int) : slices_symMergeCmpFunc_money_part_money_shares_1.R :=
  recF slices_symMergeCmpFunc_money_part_money_shares_1.E0 slices_symMergeCmpFunc_money_part_money_shares_1.ctx0 43 slices_symMergeCmpFunc_money_part_money_shares_1.ps slices_symMergeCmpFunc_money_part_money_shares_1.rs slices_symMergeCmpFunc_money_part_money_shares_1.fin (bodyOf Try.f43) (data, a, m, b, (), ())
namespace slices_symMergeCmpFunc_money_part_money_shares_1
noncomputable def L0 (a : Int) (i : Int) (j : Int) (data_P : List money_partV) : R := lim (E slices_symMergeCmpFunc_money_part_money_shares_1) fin (.loop c7 K6) (tL0 a i j data_P)
noncomputable def L1 (m : Int) (i : Int) (j : Int) (data_P : List money_partV) : R := lim (E slices_symMergeCmpFunc_money_part_money_shares_1) fin (.loop c8 K13) (tL1 m i j data_P)
noncomputable def J2 (a : Int) (m : Int) (b : Int) (mid : Int) (n_19 : Int) (start : Int) (r_21 : Int) (data_P : List money_partV) : R := lim (E slices_symMergeCmpFunc_money_part_money_shares_1) fin (.code c9 .ret) (tJ2 a m b mid n_19 start r_21 data_P)
noncomputable def L3 (i : Int) (k : Int) (data_P : List money_partV) : R := lim (E slices_symMergeCmpFunc_money_part_money_shares_1) fin (.loop c10 K29) (tL3 i k data_P)
noncomputable def L4 (i : Int) (k : Int) (data_P : List money_partV) : R := lim (E slices_symMergeCmpFunc_money_part_money_shares_1) fin (.loop c11 K38) (tL4 i k data_P)
noncomputable def L5 (a : Int) (m : Int) (b : Int) (mid : Int) (n_19 : Int) (start : Int) (r_21 : Int) (p : Int) (data_P : List money_partV) : R := lim (E slices_symMergeCmpFunc_money_part_money_shares_1) fin (.loop c12 K42) (tL5 a m b mid n_19 start r_21 p data_P)
noncomputable def J6 (a : Int) (b : Int) (mid : Int) (start : Int) (end_24 : Int) (data_P : List money_partV) : R := lim (E slices_symMergeCmpFunc_money_part_money_shares_1) fin (.code c13 .ret) (tJ6 a b mid start end_24 data_P)
noncomputable def J7 (b : Int) (mid : Int) (end_24 : Int) (data_P : List money_partV) : R := lim (E slices_symMergeCmpFunc_money_part_money_shares_1) fin (.code c14 .ret) (tJ7 b mid end_24 data_P)
theorem L0_eq (a : Int) (i : Int) (j : Int) (data_P : List money_partV) : L0 a i j data_P = SL0 slices_symMergeCmpFunc_money_part_money_shares_1 L0 L3 a i j data_P :=
  (lim_eq (.loop c7 K6) (tL0 a i j data_P)).trans (sL0 slices_symMergeCmpFunc_money_part_money_shares_1 (lim (E slices_symMergeCmpFunc_money_part_money_shares_1) fin) a i j data_P)
theorem L1_eq (m : Int) (i : Int) (j : Int) (data_P : List money_partV) : L1 m i j data_P = SL1 slices_symMergeCmpFunc_money_part_money_shares_1 L1 L4 m i j data_P :=
  (lim_eq (.loop c8 K13) (tL1 m i j data_P)).trans (sL1 slices_symMergeCmpFunc_money_part_money_shares_1 (lim (E slices_symMergeCmpFunc_money_part_money_shares_1) fin) m i j data_P)
theorem J2_eq (a : Int) (m : Int) (b : Int) (mid : Int) (n_19 : Int) (start : Int) (r_21 : Int) (data_P : List money_partV) : J2 a m b mid n_19 start r_21 data_P = SJ2 slices_symMergeCmpFunc_money_part_money_shares_1 L5 a m b mid n_19 start r_21 data_P :=
  (lim_eq (.code c9 .ret) (tJ2 a m b mid n_19 start r_21 data_P)).trans (sJ2 slices_symMergeCmpFunc_money_part_money_shares_1 (lim (E slices_symMergeCmpFunc_money_part_money_shares_1) fin) a m b mid n_19 start r_21 data_P)
theorem L3_eq (i : Int) (k : Int) (data_P : List money_partV) : L3 i k data_P = SL3 slices_symMergeCmpFunc_money_part_money_shares_1 L3 i k data_P :=
  (lim_eq (.loop c10 K29) (tL3 i k data_P)).trans (sL3 slices_symMergeCmpFunc_money_part_money_shares_1 (lim (E slices_symMergeCmpFunc_money_part_money_shares_1) fin) i k data_P)
theorem L4_eq (i : Int) (k : Int) (data_P : List money_partV) : L4 i k data_P = SL4 slices_symMergeCmpFunc_money_part_money_shares_1 L4 i k data_P :=
  (lim_eq (.loop c11 K38) (tL4 i k data_P)).trans (sL4 slices_symMergeCmpFunc_money_part_money_shares_1 (lim (E slices_symMergeCmpFunc_money_part_money_shares_1) fin) i k data_P)
theorem L5_eq (a : Int) (m : Int) (b : Int) (mid : Int) (n_19 : Int) (start : Int) (r_21 : Int) (p : Int) (data_P : List money_partV) : L5 a m b mid n_19 start r_21 p data_P = SL5 slices_symMergeCmpFunc_money_part_money_shares_1 L5 J6 a m b mid n_19 start r_21 p data_P :=
  (lim_eq (.loop c12 K42) (tL5 a m b mid n_19 start r_21 p data_P)).trans (sL5 slices_symMergeCmpFunc_money_part_money_shares_1 (lim (E slices_symMergeCmpFunc_money_part_money_shares_1) fin) a m b mid n_19 start r_21 p data_P)
theorem J6_eq (a : Int) (b : Int) (mid : Int) (start : Int) (end_24 : Int) (data_P : List money_partV) : J6 a b mid start end_24 data_P = SJ6 slices_symMergeCmpFunc_money_part_money_shares_1 J7 a b mid start end_24 data_P :=
  (lim_eq (.code c13 .ret) (tJ6 a b mid start end_24 data_P)).trans (sJ6 slices_symMergeCmpFunc_money_part_money_shares_1 (lim (E slices_symMergeCmpFunc_money_part_money_shares_1) fin) a b mid start end_24 data_P)
theorem J7_eq (b : Int) (mid : Int) (end_24 : Int) (data_P : List money_partV) : J7 b mid end_24 data_P = SJ7 slices_symMergeCmpFunc_money_part_money_shares_1 b mid end_24 data_P :=
  (lim_eq (.code c14 .ret) (tJ7 b mid end_24 data_P)).trans (sJ7 slices_symMergeCmpFunc_money_part_money_shares_1 (lim (E slices_symMergeCmpFunc_money_part_money_shares_1) fin) b mid end_24 data_P)
theorem selfrun : (fun x : (argTy ps).den => slices_symMergeCmpFunc_money_part_money_shares_1 x.1 x.2.1 x.2.2.1 x.2.2.2.1) = recF E0 ctx0 43 ps rs fin (bodyOf Try.f43) := by kernel_rfl
end slices_symMergeCmpFunc_money_part_money_shares_1
noncomputable def slices_symMergeCmpFunc_money_part_money_shares_1.sig : Sig := ⟨slices_symMergeCmpFunc_money_part_money_shares_1.ps, slices_symMergeCmpFunc_money_part_money_shares_1.rs, fun x => slices_symMergeCmpFunc_money_part_money_shares_1 x.1 x.2.1 x.2.2.1 x.2.2.2.1⟩
theorem slices_symMergeCmpFunc_money_part_money_shares_1.val (x : (argTy slices_symMergeCmpFunc_money_part_money_shares_1.ps).den) : lim (slices_symMergeCmpFunc_money_part_money_shares_1.E slices_symMergeCmpFunc_money_part_money_shares_1) slices_symMergeCmpFunc_money_part_money_shares_1.fin (.code (bodyOf Try.f43) .ret) (entryFrom 0 slices_symMergeCmpFunc_money_part_money_shares_1.ps x) = slices_symMergeCmpFunc_money_part_money_shares_1.sig.run x := by
  have h := recF_eq (E := slices_symMergeCmpFunc_money_part_money_shares_1.E0) (ctx := slices_symMergeCmpFunc_money_part_money_shares_1.ctx0) (f := 43) (ps := slices_symMergeCmpFunc_money_part_money_shares_1.ps) (rs := slices_symMergeCmpFunc_money_part_money_shares_1.rs) (fin := slices_symMergeCmpFunc_money_part_money_shares_1.fin) (body := bodyOf Try.f43) x
  rw [← slices_symMergeCmpFunc_money_part_money_shares_1.selfrun] at h
  exact h.symm
theorem slices_symMergeCmpFunc_money_part_money_shares_1_eq (data : List money_partV) (a : Int) (m : Int) (b : Int) : slices_symMergeCmpFunc_money_part_money_shares_1 data a m b = slices_symMergeCmpFunc_money_part_money_shares_1.Se slices_symMergeCmpFunc_money_part_money_shares_1 slices_symMergeCmpFunc_money_part_money_shares_1.L0 slices_symMergeCmpFunc_money_part_money_shares_1.L1 slices_symMergeCmpFunc_money_part_money_shares_1.J2 data a m b :=
  (slices_symMergeCmpFunc_money_part_money_shares_1.val (data, a, m, b, (), ())).symm.trans ((lim_eq (.code (bodyOf Try.f43) .ret) (entryFrom 0 slices_symMergeCmpFunc_money_part_money_shares_1.ps (data, a, m, b, (), ()))).trans (slices_symMergeCmpFunc_money_part_money_shares_1.se slices_symMergeCmpFunc_money_part_money_shares_1 (lim (slices_symMergeCmpFunc_money_part_money_shares_1.E slices_symMergeCmpFunc_money_part_money_shares_1) slices_symMergeCmpFunc_money_part_money_shares_1.fin) (data, a, m, b, (), ())))
theorem slices_symMergeCmpFunc_money_part_money_shares_1.ok : CallOK Try.prog 43 slices_symMergeCmpFunc_money_part_money_shares_1.sig := by
  have h := callOK_rec (E := slices_symMergeCmpFunc_money_part_money_shares_1.E0) (ctx := slices_symMergeCmpFunc_money_part_money_shares_1.ctx0) (f := 43) (ps := slices_symMergeCmpFunc_money_part_money_shares_1.ps) (rs := slices_symMergeCmpFunc_money_part_money_shares_1.rs) (fin := slices_symMergeCmpFunc_money_part_money_shares_1.fin) (body := bodyOf Try.f43) mixed tt_ok (ctxOk_cons (ctxOk_cons ctxOk_nil slices_rotateCmpFunc_money_part_money_shares_1.ok Try.func44 (by kernel_rfl) (by kernel_rfl)) money_shares_1.ok Try.func37 (by kernel_rfl) (by kernel_rfl)) Try.func43 (by kernel_rfl : Try.f43.body = some (bodyOf Try.f43)) (by kernel_rfl) (by kernel_rfl) Try.ntmps43 (of_decide_eq_true (by kernel_rfl)) (of_decide_eq_true (by kernel_rfl)) rfl
  rw [← slices_symMergeCmpFunc_money_part_money_shares_1.selfrun] at h
  exact h
noncomputable def slices_symMergeCmpFunc_money_part_money_shares_1.ctxc (n : Nat) : List (Nat × Sig) := [(37, money_shares_1.sigc n), (44, slices_rotateCmpFunc_money_part_money_shares_1.sigc n)]
noncomputable def slices_symMergeCmpFunc_money_part_money_shares_1.runc (n : Nat) : Nat → (argTy slices_symMergeCmpFunc_money_part_money_shares_1.ps).den → slices_symMergeCmpFunc_money_part_money_shares_1.R
  | 0, _ => none
  | d + 1, x => runs (withCtx slices_symMergeCmpFunc_money_part_money_shares_1.E0 ((43, ⟨slices_symMergeCmpFunc_money_part_money_shares_1.ps, slices_symMergeCmpFunc_money_part_money_shares_1.rs, slices_symMergeCmpFunc_money_part_money_shares_1.runc n d⟩) :: slices_symMergeCmpFunc_money_part_money_shares_1.ctxc n)) slices_symMergeCmpFunc_money_part_money_shares_1.fin n (.code (bodyOf Try.f43) .ret) (entryFrom 0 slices_symMergeCmpFunc_money_part_money_shares_1.ps x)
noncomputable def slices_symMergeCmpFunc_money_part_money_shares_1.sigc (n : Nat) : Sig := ⟨slices_symMergeCmpFunc_money_part_money_shares_1.ps, slices_symMergeCmpFunc_money_part_money_shares_1.rs, slices_symMergeCmpFunc_money_part_money_shares_1.runc n n⟩
theorem slices_symMergeCmpFunc_money_part_money_shares_1.runc_le (n : Nat) : ∀ d x y, slices_symMergeCmpFunc_money_part_money_shares_1.runc n d x = some y → slices_symMergeCmpFunc_money_part_money_shares_1.sig.run x = some y := by
  intro d
  induction d with
  | zero => intro x y h; cases h
  | succ d ih => exact fun x y h => (slices_symMergeCmpFunc_money_part_money_shares_1.val x).symm.trans (runs_lim (E := slices_symMergeCmpFunc_money_part_money_shares_1.E slices_symMergeCmpFunc_money_part_money_shares_1) (c := (43, ⟨slices_symMergeCmpFunc_money_part_money_shares_1.ps, slices_symMergeCmpFunc_money_part_money_shares_1.rs, slices_symMergeCmpFunc_money_part_money_shares_1.runc n d⟩) :: slices_symMergeCmpFunc_money_part_money_shares_1.ctxc n) (ctxLe_cons (ctxLe_cons (ctxLe_cons ctxLe_nil (slices_rotateCmpFunc_money_part_money_shares_1.sigc_le n)) (money_shares_1.sigc_le n)) ih) h)
theorem slices_symMergeCmpFunc_money_part_money_shares_1.sigc_le (n : Nat) : ∀ x y, (slices_symMergeCmpFunc_money_part_money_shares_1.sigc n).run x = some y → slices_symMergeCmpFunc_money_part_money_shares_1.sig.run x = some y := slices_symMergeCmpFunc_money_part_money_shares_1.runc_le n n

/-! ### slices.stableCmpFunc[guerdon/money.part] -/
namespace slices_stableCmpFunc_money_part_money_shares_1
abbrev ps : List PM := [.own money_part, .pure (.int .i64), .fn 37]
abbrev rs : List RM := []
abbrev R : Type := Option (List money_partV × Unit)
noncomputable def E : Env := { tt := tt, ctx := [(42, slices_insertionSortCmpFunc_money_part_money_shares_1.sig), (43, slices_symMergeCmpFunc_money_part_money_shares_1.sig)], nt := 63, ann := [(1000002, [(0, .keep), (1, .keep), (2, .keep), (6, .keep), (7, .keep), (8, .keep)]), (1000007, [(0, .keep), (1, .keep), (2, .keep), (6, .keep)]), (1000009, [(0, .keep), (1, .keep), (2, .keep), (6, .keep), (7, .keep), (8, .keep)])] }
noncomputable def c0 : Code := sub [1, 1, 1] (bodyOf Try.f40)
noncomputable def c1 : Code := sub [1, 1, 1, 1, 0, 0] (bodyOf Try.f40)
noncomputable def c2 : Code := sub [1, 1, 1, 1, 0, 0, 1, 0, 1, 1] (bodyOf Try.f40)
noncomputable def c3 : Code := sub [1, 1, 0, 0, 0] (bodyOf Try.f40)
noncomputable def c4 : Code := sub [1, 1, 1, 1, 0, 0, 1, 0, 1, 0, 0, 0] (bodyOf Try.f40)
noncomputable def K3 : Kont := .seq c0 .ret
noncomputable def K4 : Kont := .blk 0 K3
noncomputable def K12 : Kont := .blk 2 .ret
noncomputable def K13 : Kont := .loop c1 K12
noncomputable def K16 : Kont := .blk 3 K13
noncomputable def K18 : Kont := .seq c2 K16
noncomputable def K19 : Kont := .blk 4 K18
noncomputable def fin : ASt → R := Kret E Try.f40.results.toList ps rs
def tL0 (n_1 : Int) (blockSize : Int) (a : Int) (b : Int) (data_P : List money_partV) : ASt := ⟨[(8, .one (.val (.int .i64) b)), (7, .one (.val (.int .i64) a)), (6, .one (.val (.int .i64) blockSize)), (2, .one (.fn 37 [])), (1, .one (.val (.int .i64) n_1)), (0, .one (.own 10000))], [(10000, some ⟨.fixed, money_part, data_P⟩)]⟩
def tL1 (n_1 : Int) (blockSize : Int) (data_P : List money_partV) : ASt := ⟨[(6, .one (.val (.int .i64) blockSize)), (2, .one (.fn 37 [])), (1, .one (.val (.int .i64) n_1)), (0, .one (.own 10000))], [(10000, some ⟨.fixed, money_part, data_P⟩)]⟩
def tL2 (n_1 : Int) (blockSize : Int) (a : Int) (b : Int) (data_P : List money_partV) : ASt := ⟨[(8, .one (.val (.int .i64) b)), (7, .one (.val (.int .i64) a)), (6, .one (.val (.int .i64) blockSize)), (2, .one (.fn 37 [])), (1, .one (.val (.int .i64) n_1)), (0, .one (.own 10000))], [(10000, some ⟨.fixed, money_part, data_P⟩)]⟩
noncomputable def SL0 (kL0 : Int → Int → Int → Int → (List money_partV) → R) (kL1 : Int → Int → (List money_partV) → R) (n_1 : Int) (blockSize : Int) (a : Int) (b : Int) (data_P : List money_partV) : R :=
  cond (decide (b ≤ n_1))
    (Option.bind (slices_insertionSortCmpFunc_money_part_money_shares_1 data_P a b) fun x1 =>
    kL0 n_1 blockSize b (IntKind.i64.wrap (b + blockSize)) x1.1)
    (Option.bind (slices_insertionSortCmpFunc_money_part_money_shares_1 data_P a n_1) fun x2 =>
    kL1 n_1 blockSize x2.1)
noncomputable def SL1 (kL2 : Int → Int → Int → Int → (List money_partV) → R) (n_1 : Int) (blockSize : Int) (data_P : List money_partV) : R :=
  cond (decide (blockSize < n_1))
    (kL2 n_1 blockSize 0 (IntKind.i64.wrap (2 * blockSize)) data_P)
    (some (data_P, ()))
noncomputable def SL2 (kL2 : Int → Int → Int → Int → (List money_partV) → R) (kL1 : Int → Int → (List money_partV) → R) (n_1 : Int) (blockSize : Int) (a : Int) (b : Int) (data_P : List money_partV) : R :=
  cond (decide (b ≤ n_1))
    (Option.bind (slices_symMergeCmpFunc_money_part_money_shares_1 data_P a (IntKind.i64.wrap (a + blockSize)) b) fun x1 =>
    kL2 n_1 blockSize b (IntKind.i64.wrap (b + (IntKind.i64.wrap (2 * blockSize)))) x1.1)
    (cond (decide ((IntKind.i64.wrap (a + blockSize)) < n_1))
      (Option.bind (slices_symMergeCmpFunc_money_part_money_shares_1 data_P a (IntKind.i64.wrap (a + blockSize)) n_1) fun x2 =>
      kL1 n_1 (IntKind.i64.wrap (blockSize * 2)) x2.1)
      (kL1 n_1 (IntKind.i64.wrap (blockSize * 2)) data_P))
noncomputable def Se (kL0 : Int → Int → Int → Int → (List money_partV) → R) (data : List money_partV) (n_1 : Int) : R :=
  kL0 n_1 20 0 20 data
theorem sL0 (jmp : Tgt → ASt → R) (n_1 : Int) (blockSize : Int) (a : Int) (b : Int) (data_P : List money_partV) : run E jmp fin depth c3 (.loop c3 K4) (tL0 n_1 blockSize a b data_P) =
    SL0 (fun n_1 blockSize a b data_P => jmp (.loop c3 K4) (tL0 n_1 blockSize a b data_P)) (fun n_1 blockSize data_P => jmp (.loop c1 K12) (tL1 n_1 blockSize data_P)) n_1 blockSize a b data_P := by kernel_rfl
theorem sL1 (jmp : Tgt → ASt → R) (n_1 : Int) (blockSize : Int) (data_P : List money_partV) : run E jmp fin depth c1 (.loop c1 K12) (tL1 n_1 blockSize data_P) =
    SL1 (fun n_1 blockSize a b data_P => jmp (.loop c4 K19) (tL2 n_1 blockSize a b data_P)) n_1 blockSize data_P := by kernel_rfl
theorem sL2 (jmp : Tgt → ASt → R) (n_1 : Int) (blockSize : Int) (a : Int) (b : Int) (data_P : List money_partV) : run E jmp fin depth c4 (.loop c4 K19) (tL2 n_1 blockSize a b data_P) =
    SL2 (fun n_1 blockSize a b data_P => jmp (.loop c4 K19) (tL2 n_1 blockSize a b data_P)) (fun n_1 blockSize data_P => jmp (.loop c1 K12) (tL1 n_1 blockSize data_P)) n_1 blockSize a b data_P := by kernel_rfl
theorem se (jmp : Tgt → ASt → R) (x : (argTy ps).den) : run E jmp fin depth (bodyOf Try.f40) .ret (entryFrom 0 ps x) =
    Se (fun n_1 blockSize a b data_P => jmp (.loop c3 K4) (tL0 n_1 blockSize a b data_P)) x.1 x.2.1 := by kernel_rfl
noncomputable def L0 (n_1 : Int) (blockSize : Int) (a : Int) (b : Int) (data_P : List money_partV) : R := lim E fin (.loop c3 K4) (tL0 n_1 blockSize a b data_P)
noncomputable def L1 (n_1 : Int) (blockSize : Int) (data_P : List money_partV) : R := lim E fin (.loop c1 K12) (tL1 n_1 blockSize data_P)
noncomputable def L2 (n_1 : Int) (blockSize : Int) (a : Int) (b : Int) (data_P : List money_partV) : R := lim E fin (.loop c4 K19) (tL2 n_1 blockSize a b data_P)
theorem L0_eq (n_1 : Int) (blockSize : Int) (a : Int) (b : Int) (data_P : List money_partV) : L0 n_1 blockSize a b data_P = SL0 L0 L1 n_1 blockSize a b data_P :=
  (lim_eq (.loop c3 K4) (tL0 n_1 blockSize a b data_P)).trans (sL0 (lim E fin) n_1 blockSize a b data_P)
theorem L1_eq (n_1 : Int) (blockSize : Int) (data_P : List money_partV) : L1 n_1 blockSize data_P = SL1 L2 n_1 blockSize data_P :=
  (lim_eq (.loop c1 K12) (tL1 n_1 blockSize data_P)).trans (sL1 (lim E fin) n_1 blockSize data_P)
theorem L2_eq (n_1 : Int) (blockSize : Int) (a : Int) (b : Int) (data_P : List money_partV) : L2 n_1 blockSize a b data_P = SL2 L2 L1 n_1 blockSize a b data_P :=
  (lim_eq (.loop c4 K19) (tL2 n_1 blockSize a b data_P)).trans (sL2 (lim E fin) n_1 blockSize a b data_P)
end slices_stableCmpFunc_money_part_money_shares_1
noncomputable def slices_stableCmpFunc_money_part_money_shares_1 (data : List money_partV) (n_1 : Int) : slices_stableCmpFunc_money_part_money_shares_1.R :=
  slices_stableCmpFunc_money_part_money_shares_1.Se slices_stableCmpFunc_money_part_money_shares_1.L0 data n_1
noncomputable def slices_stableCmpFunc_money_part_money_shares_1.sig : Sig := ⟨slices_stableCmpFunc_money_part_money_shares_1.ps, slices_stableCmpFunc_money_part_money_shares_1.rs, fun x => slices_stableCmpFunc_money_part_money_shares_1 x.1 x.2.1⟩
theorem slices_stableCmpFunc_money_part_money_shares_1.ok : CallOK Try.prog 40 slices_stableCmpFunc_money_part_money_shares_1.sig :=
  callOK_of_lim (E := slices_stableCmpFunc_money_part_money_shares_1.E) mixed tt_ok (ctxOk_cons (ctxOk_cons ctxOk_nil slices_symMergeCmpFunc_money_part_money_shares_1.ok Try.func43 (by kernel_rfl) (by kernel_rfl)) slices_insertionSortCmpFunc_money_part_money_shares_1.ok Try.func42 (by kernel_rfl) (by kernel_rfl)) Try.func40 (by kernel_rfl : Try.f40.body = some (bodyOf Try.f40)) Try.ntmps40 (of_decide_eq_true (by kernel_rfl)) (of_decide_eq_true (by kernel_rfl))
    fun x y h => ((lim_eq (.code (bodyOf Try.f40) .ret) (entryFrom 0 slices_stableCmpFunc_money_part_money_shares_1.ps x)).trans (slices_stableCmpFunc_money_part_money_shares_1.se (lim slices_stableCmpFunc_money_part_money_shares_1.E slices_stableCmpFunc_money_part_money_shares_1.fin) x)).trans h
theorem slices_stableCmpFunc_money_part_money_shares_1.val (x : (argTy slices_stableCmpFunc_money_part_money_shares_1.ps).den) : lim slices_stableCmpFunc_money_part_money_shares_1.E slices_stableCmpFunc_money_part_money_shares_1.fin (.code (bodyOf Try.f40) .ret) (entryFrom 0 slices_stableCmpFunc_money_part_money_shares_1.ps x) = slices_stableCmpFunc_money_part_money_shares_1.sig.run x :=
  (lim_eq (.code (bodyOf Try.f40) .ret) (entryFrom 0 slices_stableCmpFunc_money_part_money_shares_1.ps x)).trans (slices_stableCmpFunc_money_part_money_shares_1.se (lim slices_stableCmpFunc_money_part_money_shares_1.E slices_stableCmpFunc_money_part_money_shares_1.fin) x)
noncomputable def slices_stableCmpFunc_money_part_money_shares_1.ctxc (n : Nat) : List (Nat × Sig) := [(42, slices_insertionSortCmpFunc_money_part_money_shares_1.sigc n), (43, slices_symMergeCmpFunc_money_part_money_shares_1.sigc n)]
noncomputable def slices_stableCmpFunc_money_part_money_shares_1.sigc (n : Nat) : Sig := ⟨slices_stableCmpFunc_money_part_money_shares_1.ps, slices_stableCmpFunc_money_part_money_shares_1.rs, fun x => runs (withCtx slices_stableCmpFunc_money_part_money_shares_1.E (slices_stableCmpFunc_money_part_money_shares_1.ctxc n)) slices_stableCmpFunc_money_part_money_shares_1.fin n (.code (bodyOf Try.f40) .ret) (entryFrom 0 slices_stableCmpFunc_money_part_money_shares_1.ps x)⟩
theorem slices_stableCmpFunc_money_part_money_shares_1.sigc_le (n : Nat) : ∀ x y, (slices_stableCmpFunc_money_part_money_shares_1.sigc n).run x = some y → slices_stableCmpFunc_money_part_money_shares_1.sig.run x = some y :=
  fun x y h => (slices_stableCmpFunc_money_part_money_shares_1.val x).symm.trans (runs_lim (E := slices_stableCmpFunc_money_part_money_shares_1.E) (c := slices_stableCmpFunc_money_part_money_shares_1.ctxc n) (ctxLe_cons (ctxLe_cons ctxLe_nil (slices_symMergeCmpFunc_money_part_money_shares_1.sigc_le n)) (slices_insertionSortCmpFunc_money_part_money_shares_1.sigc_le n)) h)

/-! ### slices.SortStableFunc[[]guerdon/money.part,guerdon/money.part] -/
namespace slices_SortStableFunc_money_part_money_part_money_shares_1
abbrev ps : List PM := [.own money_part, .fn 37]
abbrev rs : List RM := []
abbrev R : Type := Option (List money_partV × Unit)
noncomputable def E : Env := { tt := tt, ctx := [(40, slices_stableCmpFunc_money_part_money_shares_1.sig)], nt := 9, ann := [] }
noncomputable def fin : ASt → R := Kret E Try.f36.results.toList ps rs
noncomputable def Se (x_0 : List money_partV) : R :=
  Option.bind (slices_stableCmpFunc_money_part_money_shares_1 x_0 (x_0.length : Int)) fun x1 =>
  some (x1.1, ())
theorem se (jmp : Tgt → ASt → R) (x : (argTy ps).den) : run E jmp fin depth (bodyOf Try.f36) .ret (entryFrom 0 ps x) =
    Se x.1 := by kernel_rfl
end slices_SortStableFunc_money_part_money_part_money_shares_1
noncomputable def slices_SortStableFunc_money_part_money_part_money_shares_1 (x_0 : List money_partV) : slices_SortStableFunc_money_part_money_part_money_shares_1.R :=
  slices_SortStableFunc_money_part_money_part_money_shares_1.Se x_0
noncomputable def slices_SortStableFunc_money_part_money_part_money_shares_1.sig : Sig := ⟨slices_SortStableFunc_money_part_money_part_money_shares_1.ps, slices_SortStableFunc_money_part_money_part_money_shares_1.rs, fun x => slices_SortStableFunc_money_part_money_part_money_shares_1 x.1⟩
theorem slices_SortStableFunc_money_part_money_part_money_shares_1.ok : CallOK Try.prog 36 slices_SortStableFunc_money_part_money_part_money_shares_1.sig :=
  callOK_of_lim (E := slices_SortStableFunc_money_part_money_part_money_shares_1.E) mixed tt_ok (ctxOk_cons ctxOk_nil slices_stableCmpFunc_money_part_money_shares_1.ok Try.func40 (by kernel_rfl) (by kernel_rfl)) Try.func36 (by kernel_rfl : Try.f36.body = some (bodyOf Try.f36)) Try.ntmps36 (of_decide_eq_true (by kernel_rfl)) (of_decide_eq_true (by kernel_rfl))
    fun x y h => ((lim_eq (.code (bodyOf Try.f36) .ret) (entryFrom 0 slices_SortStableFunc_money_part_money_part_money_shares_1.ps x)).trans (slices_SortStableFunc_money_part_money_part_money_shares_1.se (lim slices_SortStableFunc_money_part_money_part_money_shares_1.E slices_SortStableFunc_money_part_money_part_money_shares_1.fin) x)).trans h
theorem slices_SortStableFunc_money_part_money_part_money_shares_1.val (x : (argTy slices_SortStableFunc_money_part_money_part_money_shares_1.ps).den) : lim slices_SortStableFunc_money_part_money_part_money_shares_1.E slices_SortStableFunc_money_part_money_part_money_shares_1.fin (.code (bodyOf Try.f36) .ret) (entryFrom 0 slices_SortStableFunc_money_part_money_part_money_shares_1.ps x) = slices_SortStableFunc_money_part_money_part_money_shares_1.sig.run x :=
  (lim_eq (.code (bodyOf Try.f36) .ret) (entryFrom 0 slices_SortStableFunc_money_part_money_part_money_shares_1.ps x)).trans (slices_SortStableFunc_money_part_money_part_money_shares_1.se (lim slices_SortStableFunc_money_part_money_part_money_shares_1.E slices_SortStableFunc_money_part_money_part_money_shares_1.fin) x)
noncomputable def slices_SortStableFunc_money_part_money_part_money_shares_1.ctxc (n : Nat) : List (Nat × Sig) := [(40, slices_stableCmpFunc_money_part_money_shares_1.sigc n)]
noncomputable def slices_SortStableFunc_money_part_money_part_money_shares_1.sigc (n : Nat) : Sig := ⟨slices_SortStableFunc_money_part_money_part_money_shares_1.ps, slices_SortStableFunc_money_part_money_part_money_shares_1.rs, fun x => runs (withCtx slices_SortStableFunc_money_part_money_part_money_shares_1.E (slices_SortStableFunc_money_part_money_part_money_shares_1.ctxc n)) slices_SortStableFunc_money_part_money_part_money_shares_1.fin n (.code (bodyOf Try.f36) .ret) (entryFrom 0 slices_SortStableFunc_money_part_money_part_money_shares_1.ps x)⟩
theorem slices_SortStableFunc_money_part_money_part_money_shares_1.sigc_le (n : Nat) : ∀ x y, (slices_SortStableFunc_money_part_money_part_money_shares_1.sigc n).run x = some y → slices_SortStableFunc_money_part_money_part_money_shares_1.sig.run x = some y :=
  fun x y h => (slices_SortStableFunc_money_part_money_part_money_shares_1.val x).symm.trans (runs_lim (E := slices_SortStableFunc_money_part_money_part_money_shares_1.E) (c := slices_SortStableFunc_money_part_money_part_money_shares_1.ctxc n) (ctxLe_cons ctxLe_nil (slices_stableCmpFunc_money_part_money_shares_1.sigc_le n)) h)

/-! ### guerdon/money.shares -/
namespace money_shares
abbrev ps : List PM := [.pure (.int .u64), .pure (.sl (.int .i64)), .pure (.int .u64)]
abbrev rs : List RM := [.own (.int .i64)]
abbrev R : Type := Option (List Int × Unit)
noncomputable def E : Env := { tt := tt, ctx := [(30, math_bits_Mul64.sig), (31, math_bits_Div64.sig), (36, slices_SortStableFunc_money_part_money_part_money_shares_1.sig)], nt := 80, ann := [(1000005, [(0, .keep), (2, .keep), (7, .keep), (8, .keep), (9, .keep), (25, .keep), (26, .keep), (27, .keep)]), (1000014, [(7, .keep), (65, .keep), (66, .keep), (67, .keep)])] }
noncomputable def c0 : Code := sub [1, 1, 1, 1, 1] (bodyOf Try.f32)
noncomputable def c1 : Code := sub [1, 1, 1, 1, 1, 1, 1] (bodyOf Try.f32)
noncomputable def c2 : Code := sub [1, 1, 1, 1, 0, 1, 0, 0] (bodyOf Try.f32)
noncomputable def c3 : Code := sub [1, 1, 1, 1, 1, 1, 0, 1, 0, 0] (bodyOf Try.f32)
noncomputable def K5 : Kont := .seq c0 .ret
noncomputable def K7 : Kont := .blk 0 K5
noncomputable def K18 : Kont := .seq c1 .ret
noncomputable def K20 : Kont := .blk 2 K18
noncomputable def fin : ASt → R := Kret E Try.f32.results.toList ps rs
def tL0 (c_0 : Int) (sum : Int) (out : List Int) (parts : List money_partV) (left : Int) (v_25 : List Int) (v_26 : Int) (v_27 : Int) : ASt := ⟨[(27, .one (.val (.int .i64) v_27)), (26, .one (.val (.int .i64) v_26)), (25, .one (.val (.sl (.int .i64)) v_25)), (9, .one (.val (.int .u64) left)), (8, .one (.own 8)), (7, .one (.own 7)), (2, .one (.val (.int .u64) sum)), (0, .one (.val (.int .u64) c_0))], [(8, some ⟨.free, money_part, parts⟩), (7, some ⟨.free, .int .i64, out⟩)]⟩
def tL1 (out : List Int) (v_65 : List money_partV) (v_66 : Int) (v_67 : Int) : ASt := ⟨[(67, .one (.val (.int .i64) v_67)), (66, .one (.val (.int .i64) v_66)), (65, .one (.own 65)), (7, .one (.own 7))], [(65, some ⟨.free, money_part, v_65⟩), (7, some ⟨.free, .int .i64, out⟩)]⟩
noncomputable def SL0 (kL0 : Int → Int → (List Int) → (List money_partV) → Int → (List Int) → Int → Int → R) (kL1 : (List Int) → (List money_partV) → Int → Int → R) (c_0 : Int) (sum : Int) (out : List Int) (parts : List money_partV) (left : Int) (v_25 : List Int) (v_26 : Int) (v_27 : Int) : R :=
  cond (decide (v_27 < v_26))
    (Option.bind (idx v_25 v_27) fun x1 =>
    Option.bind (math_bits_Mul64 c_0 (IntKind.u64.wrap x1)) fun x2 =>
    Option.bind (math_bits_Div64 x2.1 x2.2.1 sum) fun x3 =>
    cond (decide (0 ≤ v_27) && decide (v_27 < (out.length : Int)))
      (cond (decide (0 ≤ v_27) && decide (v_27 < (parts.length : Int)))
        (kL0 c_0 sum (out.set v_27.toNat (IntKind.i64.wrap x3.1)) (parts.set v_27.toNat (v_27, x3.2.1, ())) (IntKind.u64.wrap (left - x3.1)) v_25 v_26 (IntKind.i64.wrap (v_27 + 1)))
        none)
      none)
    (Option.bind (slices_SortStableFunc_money_part_money_part_money_shares_1 parts) fun x4 =>
    cond (decide ((0 : Int) ≤ 0) && (decide ((0 : Int) ≤ left) && decide (left ≤ (x4.1.length : Int))))
      (kL1 out (x4.1.take left.toNat) (left.toNat : Int) 0)
      none)
noncomputable def SL1 (kL1 : (List Int) → (List money_partV) → Int → Int → R) (out : List Int) (v_65 : List money_partV) (v_66 : Int) (v_67 : Int) : R :=
  cond (decide (v_67 < v_66))
    (cond (decide (0 ≤ v_67) && decide (v_67 < (v_65.length : Int)))
      (cond (decide (0 ≤ (v_65.getD v_67.toNat (0, 0, ())).1) && decide ((v_65.getD v_67.toNat (0, 0, ())).1 < (out.length : Int)))
        (cond (decide (0 ≤ (v_65.getD v_67.toNat (0, 0, ())).1) && decide ((v_65.getD v_67.toNat (0, 0, ())).1 < (out.length : Int)))
          (kL1 (out.set (((v_65.getD v_67.toNat (0, 0, ())).1).toNat) (IntKind.i64.wrap ((out.getD (((v_65.getD v_67.toNat (0, 0, ())).1).toNat) 0) + 1))) v_65 v_66 (IntKind.i64.wrap (v_67 + 1)))
          none)
        none)
      none)
    (some (out, ()))
noncomputable def Se (kL0 : Int → Int → (List Int) → (List money_partV) → Int → (List Int) → Int → Int → R) (c_0 : Int) (weights : List Int) (sum : Int) : R :=
  cond (decide (0 ≤ ((weights.length : Int) : Int)) && (decide (((weights.length : Int) : Int) ≤ (weights.length : Int)) && (decide (((weights.length : Int) : Int) * 8 ≤ room) && (decide (((weights.length : Int) : Int) ≤ maxLen) && decide (0 < Ty.nc (.int .i64))))))
    (cond (decide (0 ≤ ((weights.length : Int) : Int)) && (decide (((weights.length : Int) : Int) ≤ (weights.length : Int)) && (decide (((weights.length : Int) : Int) * 16 ≤ room) && (decide (((weights.length : Int) : Int) ≤ maxLen) && decide (0 < Ty.nc (.pair (.int .i64) (.pair (.int .u64) .unit)))))))
      (kL0 c_0 sum (List.replicate weights.length 0) (List.replicate weights.length (0, 0, ())) c_0 weights (weights.length : Int) 0)
      none)
    none
theorem sL0 (jmp : Tgt → ASt → R) (c_0 : Int) (sum : Int) (out : List Int) (parts : List money_partV) (left : Int) (v_25 : List Int) (v_26 : Int) (v_27 : Int) : run E jmp fin depth c2 (.loop c2 K7) (tL0 c_0 sum out parts left v_25 v_26 v_27) =
    SL0 (fun c_0 sum out parts left v_25 v_26 v_27 => jmp (.loop c2 K7) (tL0 c_0 sum out parts left v_25 v_26 v_27)) (fun out v_65 v_66 v_67 => jmp (.loop c3 K20) (tL1 out v_65 v_66 v_67)) c_0 sum out parts left v_25 v_26 v_27 := by kernel_rfl
theorem sL1 (jmp : Tgt → ASt → R) (out : List Int) (v_65 : List money_partV) (v_66 : Int) (v_67 : Int) : run E jmp fin depth c3 (.loop c3 K20) (tL1 out v_65 v_66 v_67) =
    SL1 (fun out v_65 v_66 v_67 => jmp (.loop c3 K20) (tL1 out v_65 v_66 v_67)) out v_65 v_66 v_67 := by kernel_rfl
theorem se (jmp : Tgt → ASt → R) (x : (argTy ps).den) : run E jmp fin depth (bodyOf Try.f32) .ret (entryFrom 0 ps x) =
    Se (fun c_0 sum out parts left v_25 v_26 v_27 => jmp (.loop c2 K7) (tL0 c_0 sum out parts left v_25 v_26 v_27)) x.1 x.2.1 x.2.2.1 := by kernel_rfl
noncomputable def L0 (c_0 : Int) (sum : Int) (out : List Int) (parts : List money_partV) (left : Int) (v_25 : List Int) (v_26 : Int) (v_27 : Int) : R := lim E fin (.loop c2 K7) (tL0 c_0 sum out parts left v_25 v_26 v_27)
noncomputable def L1 (out : List Int) (v_65 : List money_partV) (v_66 : Int) (v_67 : Int) : R := lim E fin (.loop c3 K20) (tL1 out v_65 v_66 v_67)
theorem L0_eq (c_0 : Int) (sum : Int) (out : List Int) (parts : List money_partV) (left : Int) (v_25 : List Int) (v_26 : Int) (v_27 : Int) : L0 c_0 sum out parts left v_25 v_26 v_27 = SL0 L0 L1 c_0 sum out parts left v_25 v_26 v_27 :=
  (lim_eq (.loop c2 K7) (tL0 c_0 sum out parts left v_25 v_26 v_27)).trans (sL0 (lim E fin) c_0 sum out parts left v_25 v_26 v_27)
theorem L1_eq (out : List Int) (v_65 : List money_partV) (v_66 : Int) (v_67 : Int) : L1 out v_65 v_66 v_67 = SL1 L1 out v_65 v_66 v_67 :=
  (lim_eq (.loop c3 K20) (tL1 out v_65 v_66 v_67)).trans (sL1 (lim E fin) out v_65 v_66 v_67)
end money_shares
noncomputable def money_shares (c_0 : Int) (weights : List Int) (sum : Int) : money_shares.R :=
  money_shares.Se money_shares.L0 c_0 weights sum
noncomputable def money_shares.sig : Sig := ⟨money_shares.ps, money_shares.rs, fun x => money_shares x.1 x.2.1 x.2.2.1⟩
theorem money_shares.ok : CallOK Try.prog 32 money_shares.sig :=
  callOK_of_lim (E := money_shares.E) mixed tt_ok (ctxOk_cons (ctxOk_cons (ctxOk_cons ctxOk_nil slices_SortStableFunc_money_part_money_part_money_shares_1.ok Try.func36 (by kernel_rfl) (by kernel_rfl)) math_bits_Div64.ok Try.func31 (by kernel_rfl) (by kernel_rfl)) math_bits_Mul64.ok Try.func30 (by kernel_rfl) (by kernel_rfl)) Try.func32 (by kernel_rfl : Try.f32.body = some (bodyOf Try.f32)) Try.ntmps32 (of_decide_eq_true (by kernel_rfl)) (of_decide_eq_true (by kernel_rfl))
    fun x y h => ((lim_eq (.code (bodyOf Try.f32) .ret) (entryFrom 0 money_shares.ps x)).trans (money_shares.se (lim money_shares.E money_shares.fin) x)).trans h
theorem money_shares.val (x : (argTy money_shares.ps).den) : lim money_shares.E money_shares.fin (.code (bodyOf Try.f32) .ret) (entryFrom 0 money_shares.ps x) = money_shares.sig.run x :=
  (lim_eq (.code (bodyOf Try.f32) .ret) (entryFrom 0 money_shares.ps x)).trans (money_shares.se (lim money_shares.E money_shares.fin) x)
noncomputable def money_shares.ctxc (n : Nat) : List (Nat × Sig) := [(30, math_bits_Mul64.sigc n), (31, math_bits_Div64.sigc n), (36, slices_SortStableFunc_money_part_money_part_money_shares_1.sigc n)]
noncomputable def money_shares.sigc (n : Nat) : Sig := ⟨money_shares.ps, money_shares.rs, fun x => runs (withCtx money_shares.E (money_shares.ctxc n)) money_shares.fin n (.code (bodyOf Try.f32) .ret) (entryFrom 0 money_shares.ps x)⟩
theorem money_shares.sigc_le (n : Nat) : ∀ x y, (money_shares.sigc n).run x = some y → money_shares.sig.run x = some y :=
  fun x y h => (money_shares.val x).symm.trans (runs_lim (E := money_shares.E) (c := money_shares.ctxc n) (ctxLe_cons (ctxLe_cons (ctxLe_cons ctxLe_nil (slices_SortStableFunc_money_part_money_part_money_shares_1.sigc_le n)) (math_bits_Div64.sigc_le n)) (math_bits_Mul64.sigc_le n)) h)

/-! ### guerdon/money.Allocate -/
namespace money_Allocate
abbrev ps : List PM := [.pure (.int .i64), .pure (.sl (.int .i64))]
abbrev rs : List RM := [.own (.int .i64), .pure (.int .i64)]
abbrev R : Type := Option (List Int × Int × Unit)
noncomputable def E : Env := { tt := tt, ctx := [(25, money_abs.sig), (32, money_shares.sig)], nt := 67, ann := [(1000004, [(0, .keep), (1, .keep), (16, .keep), (17, .keep), (18, .keep)]), (1000013, [(0, .keep), (1, .keep), (8, .keep), (32, .keep), (33, .keep), (34, .keep)]), (1000022, [(11, .keep), (53, .keep), (54, .keep)])] }
noncomputable def c0 : Code := sub [1, 1, 1] (bodyOf Try.f17)
noncomputable def c1 : Code := sub [1, 1, 1, 1, 1, 1] (bodyOf Try.f17)
noncomputable def c2 : Code := sub [1, 1, 1, 1, 1, 1, 1, 1, 1] (bodyOf Try.f17)
noncomputable def c3 : Code := sub [1, 1, 0, 1, 0, 0] (bodyOf Try.f17)
noncomputable def c4 : Code := sub [1, 1, 1, 1, 1, 0, 1, 0, 0] (bodyOf Try.f17)
noncomputable def c5 : Code := sub [1, 1, 1, 1, 1, 1, 1, 1, 0, 1, 0, 1, 0, 0] (bodyOf Try.f17)
noncomputable def K5 : Kont := .seq c0 .ret
noncomputable def K7 : Kont := .blk 0 K5
noncomputable def K20 : Kont := .seq c1 .ret
noncomputable def K22 : Kont := .blk 2 K20
noncomputable def K33 : Kont := .seq c2 .ret
noncomputable def K36 : Kont := .blk 4 K33
noncomputable def fin : ASt → R := Kret E Try.f17.results.toList ps rs
def tL0 (c_0 : Int) (weights : List Int) (v_16 : List Int) (v_17 : Int) (v_18 : Int) : ASt := ⟨[(18, .one (.val (.int .i64) v_18)), (17, .one (.val (.int .i64) v_17)), (16, .one (.val (.sl (.int .i64)) v_16)), (1, .one (.val (.sl (.int .i64)) weights)), (0, .one (.val (.int .i64) c_0))], []⟩
def tL1 (c_0 : Int) (weights : List Int) (sum : Int) (v_32 : List Int) (v_33 : Int) (v_34 : Int) : ASt := ⟨[(34, .one (.val (.int .i64) v_34)), (33, .one (.val (.int .i64) v_33)), (32, .one (.val (.sl (.int .i64)) v_32)), (8, .one (.val (.int .u64) sum)), (1, .one (.val (.sl (.int .i64)) weights)), (0, .one (.val (.int .i64) c_0))], []⟩
def tL2 (out : List Int) (v_53 : Int) (v_54 : Int) : ASt := ⟨[(54, .one (.val (.int .i64) v_54)), (53, .one (.val (.int .i64) v_53)), (11, .one (.own 11))], [(11, some ⟨.free, .int .i64, out⟩)]⟩
noncomputable def SL0 (kL0 : Int → (List Int) → (List Int) → Int → Int → R) (kL1 : Int → (List Int) → Int → (List Int) → Int → Int → R) (c_0 : Int) (weights : List Int) (v_16 : List Int) (v_17 : Int) (v_18 : Int) : R :=
  cond (decide (v_18 < v_17))
    (Option.bind (idx v_16 v_18) fun x1 =>
    cond (decide (x1 < 0))
      (some ([], 3, ()))
      (cond (decide (x1 > 1000000000))
        (some ([], 3, ()))
        (kL0 c_0 weights v_16 v_17 (IntKind.i64.wrap (v_18 + 1)))))
    (cond (decide ((weights.length : Int) > 64))
      (some ([], 4, ()))
      (kL1 c_0 weights 0 weights (weights.length : Int) 0))
noncomputable def SL1 (kL1 : Int → (List Int) → Int → (List Int) → Int → Int → R) (kL2 : (List Int) → Int → Int → R) (c_0 : Int) (weights : List Int) (sum : Int) (v_32 : List Int) (v_33 : Int) (v_34 : Int) : R :=
  cond (decide (v_34 < v_33))
    (Option.bind (idx v_32 v_34) fun x1 =>
    kL1 c_0 weights (IntKind.u64.wrap (sum + (IntKind.u64.wrap x1))) v_32 v_33 (IntKind.i64.wrap (v_34 + 1)))
    (cond (sum == 0)
      (some ([], 12, ()))
      (Option.bind (money_abs c_0) fun x2 =>
      Option.bind (money_shares x2.1 weights sum) fun x3 =>
      cond (decide (c_0 < 0))
        (kL2 x3.1 (x3.1.length : Int) 0)
        (some (x3.1, 0, ()))))
noncomputable def SL2 (kL2 : (List Int) → Int → Int → R) (out : List Int) (v_53 : Int) (v_54 : Int) : R :=
  cond (decide (v_54 < v_53))
    (cond (decide (0 ≤ v_54) && decide (v_54 < (out.length : Int)))
      (cond (decide (0 ≤ v_54) && decide (v_54 < (out.length : Int)))
        (kL2 (out.set v_54.toNat (IntKind.i64.wrap (0 - (out.getD v_54.toNat 0)))) v_53 (IntKind.i64.wrap (v_54 + 1)))
        none)
      none)
    (some (out, 0, ()))
noncomputable def Se (kL0 : Int → (List Int) → (List Int) → Int → Int → R) (c_0 : Int) (weights : List Int) : R :=
  Option.bind (money_abs c_0) fun x1 =>
  cond (decide (x1.1 > 1000000000000000))
    (some ([], 3, ()))
    (kL0 c_0 weights weights (weights.length : Int) 0)
theorem sL0 (jmp : Tgt → ASt → R) (c_0 : Int) (weights : List Int) (v_16 : List Int) (v_17 : Int) (v_18 : Int) : run E jmp fin depth c3 (.loop c3 K7) (tL0 c_0 weights v_16 v_17 v_18) =
    SL0 (fun c_0 weights v_16 v_17 v_18 => jmp (.loop c3 K7) (tL0 c_0 weights v_16 v_17 v_18)) (fun c_0 weights sum v_32 v_33 v_34 => jmp (.loop c4 K22) (tL1 c_0 weights sum v_32 v_33 v_34)) c_0 weights v_16 v_17 v_18 := by kernel_rfl
theorem sL1 (jmp : Tgt → ASt → R) (c_0 : Int) (weights : List Int) (sum : Int) (v_32 : List Int) (v_33 : Int) (v_34 : Int) : run E jmp fin depth c4 (.loop c4 K22) (tL1 c_0 weights sum v_32 v_33 v_34) =
    SL1 (fun c_0 weights sum v_32 v_33 v_34 => jmp (.loop c4 K22) (tL1 c_0 weights sum v_32 v_33 v_34)) (fun out v_53 v_54 => jmp (.loop c5 K36) (tL2 out v_53 v_54)) c_0 weights sum v_32 v_33 v_34 := by kernel_rfl
theorem sL2 (jmp : Tgt → ASt → R) (out : List Int) (v_53 : Int) (v_54 : Int) : run E jmp fin depth c5 (.loop c5 K36) (tL2 out v_53 v_54) =
    SL2 (fun out v_53 v_54 => jmp (.loop c5 K36) (tL2 out v_53 v_54)) out v_53 v_54 := by kernel_rfl
theorem se (jmp : Tgt → ASt → R) (x : (argTy ps).den) : run E jmp fin depth (bodyOf Try.f17) .ret (entryFrom 0 ps x) =
    Se (fun c_0 weights v_16 v_17 v_18 => jmp (.loop c3 K7) (tL0 c_0 weights v_16 v_17 v_18)) x.1 x.2.1 := by kernel_rfl
noncomputable def L0 (c_0 : Int) (weights : List Int) (v_16 : List Int) (v_17 : Int) (v_18 : Int) : R := lim E fin (.loop c3 K7) (tL0 c_0 weights v_16 v_17 v_18)
noncomputable def L1 (c_0 : Int) (weights : List Int) (sum : Int) (v_32 : List Int) (v_33 : Int) (v_34 : Int) : R := lim E fin (.loop c4 K22) (tL1 c_0 weights sum v_32 v_33 v_34)
noncomputable def L2 (out : List Int) (v_53 : Int) (v_54 : Int) : R := lim E fin (.loop c5 K36) (tL2 out v_53 v_54)
theorem L0_eq (c_0 : Int) (weights : List Int) (v_16 : List Int) (v_17 : Int) (v_18 : Int) : L0 c_0 weights v_16 v_17 v_18 = SL0 L0 L1 c_0 weights v_16 v_17 v_18 :=
  (lim_eq (.loop c3 K7) (tL0 c_0 weights v_16 v_17 v_18)).trans (sL0 (lim E fin) c_0 weights v_16 v_17 v_18)
theorem L1_eq (c_0 : Int) (weights : List Int) (sum : Int) (v_32 : List Int) (v_33 : Int) (v_34 : Int) : L1 c_0 weights sum v_32 v_33 v_34 = SL1 L1 L2 c_0 weights sum v_32 v_33 v_34 :=
  (lim_eq (.loop c4 K22) (tL1 c_0 weights sum v_32 v_33 v_34)).trans (sL1 (lim E fin) c_0 weights sum v_32 v_33 v_34)
theorem L2_eq (out : List Int) (v_53 : Int) (v_54 : Int) : L2 out v_53 v_54 = SL2 L2 out v_53 v_54 :=
  (lim_eq (.loop c5 K36) (tL2 out v_53 v_54)).trans (sL2 (lim E fin) out v_53 v_54)
end money_Allocate
noncomputable def money_Allocate (c_0 : Int) (weights : List Int) : money_Allocate.R :=
  money_Allocate.Se money_Allocate.L0 c_0 weights
noncomputable def money_Allocate.sig : Sig := ⟨money_Allocate.ps, money_Allocate.rs, fun x => money_Allocate x.1 x.2.1⟩
theorem money_Allocate.ok : CallOK Try.prog 17 money_Allocate.sig :=
  callOK_of_lim (E := money_Allocate.E) mixed tt_ok (ctxOk_cons (ctxOk_cons ctxOk_nil money_shares.ok Try.func32 (by kernel_rfl) (by kernel_rfl)) money_abs.ok Try.func25 (by kernel_rfl) (by kernel_rfl)) Try.func17 (by kernel_rfl : Try.f17.body = some (bodyOf Try.f17)) Try.ntmps17 (of_decide_eq_true (by kernel_rfl)) (of_decide_eq_true (by kernel_rfl))
    fun x y h => ((lim_eq (.code (bodyOf Try.f17) .ret) (entryFrom 0 money_Allocate.ps x)).trans (money_Allocate.se (lim money_Allocate.E money_Allocate.fin) x)).trans h
theorem money_Allocate.val (x : (argTy money_Allocate.ps).den) : lim money_Allocate.E money_Allocate.fin (.code (bodyOf Try.f17) .ret) (entryFrom 0 money_Allocate.ps x) = money_Allocate.sig.run x :=
  (lim_eq (.code (bodyOf Try.f17) .ret) (entryFrom 0 money_Allocate.ps x)).trans (money_Allocate.se (lim money_Allocate.E money_Allocate.fin) x)
noncomputable def money_Allocate.ctxc (n : Nat) : List (Nat × Sig) := [(25, money_abs.sigc n), (32, money_shares.sigc n)]
noncomputable def money_Allocate.sigc (n : Nat) : Sig := ⟨money_Allocate.ps, money_Allocate.rs, fun x => runs (withCtx money_Allocate.E (money_Allocate.ctxc n)) money_Allocate.fin n (.code (bodyOf Try.f17) .ret) (entryFrom 0 money_Allocate.ps x)⟩
theorem money_Allocate.sigc_le (n : Nat) : ∀ x y, (money_Allocate.sigc n).run x = some y → money_Allocate.sig.run x = some y :=
  fun x y h => (money_Allocate.val x).symm.trans (runs_lim (E := money_Allocate.E) (c := money_Allocate.ctxc n) (ctxLe_cons (ctxLe_cons ctxLe_nil (money_shares.sigc_le n)) (money_abs.sigc_le n)) h)

/-! ### guerdon/money.Sum -/
namespace money_Sum
abbrev ps : List PM := [.pure (.sl (.int .i64))]
abbrev rs : List RM := [.pure (.int .i64), .pure (.int .i64)]
abbrev R : Type := Option (Int × Int × Unit)
noncomputable def E : Env := { tt := tt, ctx := [(25, money_abs.sig)], nt := 24, ann := [(1000003, [(4, .keep), (7, .keep), (8, .keep), (9, .keep)])] }
noncomputable def c0 : Code := sub [1, 1, 1] (bodyOf Try.f22)
noncomputable def c1 : Code := sub [1, 1, 0, 1, 0, 0] (bodyOf Try.f22)
noncomputable def K3 : Kont := .seq c0 .ret
noncomputable def K5 : Kont := .blk 0 K3
noncomputable def fin : ASt → R := Kret E Try.f22.results.toList ps rs
def tL0 (n_4 : Int) (v_7 : List Int) (v_8 : Int) (v_9 : Int) : ASt := ⟨[(9, .one (.val (.int .i64) v_9)), (8, .one (.val (.int .i64) v_8)), (7, .one (.val (.sl (.int .i64)) v_7)), (4, .one (.val (.int .i64) n_4))], []⟩
noncomputable def SL0 (kL0 : Int → (List Int) → Int → Int → R) (n_4 : Int) (v_7 : List Int) (v_8 : Int) (v_9 : Int) : R :=
  cond (decide (v_9 < v_8))
    (Option.bind (idx v_7 v_9) fun x1 =>
    Option.bind (money_abs x1) fun x2 =>
    cond (decide (x2.1 > 1000000000000000))
      (some (0, 3, ()))
      (Option.bind (money_abs (IntKind.i64.wrap (n_4 + x1))) fun x3 =>
      cond (decide (x3.1 > 1000000000000000))
        (some (0, 3, ()))
        (kL0 (IntKind.i64.wrap (n_4 + x1)) v_7 v_8 (IntKind.i64.wrap (v_9 + 1)))))
    (some (n_4, 0, ()))
noncomputable def Se (kL0 : Int → (List Int) → Int → Int → R) (l : List Int) : R :=
  kL0 0 l (l.length : Int) 0
theorem sL0 (jmp : Tgt → ASt → R) (n_4 : Int) (v_7 : List Int) (v_8 : Int) (v_9 : Int) : run E jmp fin depth c1 (.loop c1 K5) (tL0 n_4 v_7 v_8 v_9) =
    SL0 (fun n_4 v_7 v_8 v_9 => jmp (.loop c1 K5) (tL0 n_4 v_7 v_8 v_9)) n_4 v_7 v_8 v_9 := by kernel_rfl
theorem se (jmp : Tgt → ASt → R) (x : (argTy ps).den) : run E jmp fin depth (bodyOf Try.f22) .ret (entryFrom 0 ps x) =
    Se (fun n_4 v_7 v_8 v_9 => jmp (.loop c1 K5) (tL0 n_4 v_7 v_8 v_9)) x.1 := by kernel_rfl
noncomputable def L0 (n_4 : Int) (v_7 : List Int) (v_8 : Int) (v_9 : Int) : R := lim E fin (.loop c1 K5) (tL0 n_4 v_7 v_8 v_9)
theorem L0_eq (n_4 : Int) (v_7 : List Int) (v_8 : Int) (v_9 : Int) : L0 n_4 v_7 v_8 v_9 = SL0 L0 n_4 v_7 v_8 v_9 :=
  (lim_eq (.loop c1 K5) (tL0 n_4 v_7 v_8 v_9)).trans (sL0 (lim E fin) n_4 v_7 v_8 v_9)
end money_Sum
noncomputable def money_Sum (l : List Int) : money_Sum.R :=
  money_Sum.Se money_Sum.L0 l
noncomputable def money_Sum.sig : Sig := ⟨money_Sum.ps, money_Sum.rs, fun x => money_Sum x.1⟩
theorem money_Sum.ok : CallOK Try.prog 22 money_Sum.sig :=
  callOK_of_lim (E := money_Sum.E) mixed tt_ok (ctxOk_cons ctxOk_nil money_abs.ok Try.func25 (by kernel_rfl) (by kernel_rfl)) Try.func22 (by kernel_rfl : Try.f22.body = some (bodyOf Try.f22)) Try.ntmps22 (of_decide_eq_true (by kernel_rfl)) (of_decide_eq_true (by kernel_rfl))
    fun x y h => ((lim_eq (.code (bodyOf Try.f22) .ret) (entryFrom 0 money_Sum.ps x)).trans (money_Sum.se (lim money_Sum.E money_Sum.fin) x)).trans h
theorem money_Sum.val (x : (argTy money_Sum.ps).den) : lim money_Sum.E money_Sum.fin (.code (bodyOf Try.f22) .ret) (entryFrom 0 money_Sum.ps x) = money_Sum.sig.run x :=
  (lim_eq (.code (bodyOf Try.f22) .ret) (entryFrom 0 money_Sum.ps x)).trans (money_Sum.se (lim money_Sum.E money_Sum.fin) x)
noncomputable def money_Sum.ctxc (n : Nat) : List (Nat × Sig) := [(25, money_abs.sigc n)]
noncomputable def money_Sum.sigc (n : Nat) : Sig := ⟨money_Sum.ps, money_Sum.rs, fun x => runs (withCtx money_Sum.E (money_Sum.ctxc n)) money_Sum.fin n (.code (bodyOf Try.f22) .ret) (entryFrom 0 money_Sum.ps x)⟩
theorem money_Sum.sigc_le (n : Nat) : ∀ x y, (money_Sum.sigc n).run x = some y → money_Sum.sig.run x = some y :=
  fun x y h => (money_Sum.val x).symm.trans (runs_lim (E := money_Sum.E) (c := money_Sum.ctxc n) (ctxLe_cons ctxLe_nil (money_abs.sigc_le n)) h)

/-! ### guerdon/guerdonsame.Ints -/
namespace same_Ints
abbrev ps : List PM := [.pure (.sl (.int .i64)), .pure (.sl (.int .i64))]
abbrev rs : List RM := [.pure .bool]
abbrev R : Type := Option (Bool × Unit)
noncomputable def E : Env := { tt := tt, ctx := [], nt := 32, ann := [(1000004, [(0, .keep), (1, .keep), (5, .keep)]), (6, [(0, .keep), (1, .keep), (5, .keep)])] }
noncomputable def c0 : Code := sub [1, 1, 1] (bodyOf Try.f19)
noncomputable def c1 : Code := sub [1, 1, 0, 1, 0, 0] (bodyOf Try.f19)
noncomputable def c2 : Code := sub [1, 1, 0, 1, 0, 0, 1] (bodyOf Try.f19)
noncomputable def K5 : Kont := .seq c0 .ret
noncomputable def K7 : Kont := .blk 0 K5
noncomputable def K8 : Kont := .loop c1 K7
noncomputable def fin : ASt → R := Kret E Try.f19.results.toList ps rs
def tL0 (a : List Int) (b : List Int) (i : Int) : ASt := ⟨[(5, .one (.val (.int .i64) i)), (1, .one (.val (.sl (.int .i64)) b)), (0, .one (.val (.sl (.int .i64)) a))], []⟩
def tJ1 (a : List Int) (b : List Int) (i : Int) : ASt := ⟨[(5, .one (.val (.int .i64) i)), (1, .one (.val (.sl (.int .i64)) b)), (0, .one (.val (.sl (.int .i64)) a))], []⟩
noncomputable def SL0 (kJ1 : (List Int) → (List Int) → Int → R) (a : List Int) (b : List Int) (i : Int) : R :=
  cond (decide (i < (a.length : Int)))
    (cond (decide (i < (b.length : Int)))
      (kJ1 a b i)
      (some (true, ())))
    (some (true, ()))
noncomputable def SJ1 (kL0 : (List Int) → (List Int) → Int → R) (a : List Int) (b : List Int) (i : Int) : R :=
  Option.bind (idx a i) fun x1 =>
  Option.bind (idx b i) fun x2 =>
  cond (x1 != x2)
    (some (false, ()))
    (kL0 a b (IntKind.i64.wrap (i + 1)))
noncomputable def Se (kL0 : (List Int) → (List Int) → Int → R) (a : List Int) (b : List Int) : R :=
  cond ((a.length : Int) != (b.length : Int))
    (some (false, ()))
    (kL0 a b 0)
theorem sL0 (jmp : Tgt → ASt → R) (a : List Int) (b : List Int) (i : Int) : run E jmp fin depth c1 (.loop c1 K7) (tL0 a b i) =
    SL0 (fun a b i => jmp (.code c2 K8) (tJ1 a b i)) a b i := by kernel_rfl
theorem sJ1 (jmp : Tgt → ASt → R) (a : List Int) (b : List Int) (i : Int) : run E jmp fin depth c2 K8 (tJ1 a b i) =
    SJ1 (fun a b i => jmp (.loop c1 K7) (tL0 a b i)) a b i := by kernel_rfl
theorem se (jmp : Tgt → ASt → R) (x : (argTy ps).den) : run E jmp fin depth (bodyOf Try.f19) .ret (entryFrom 0 ps x) =
    Se (fun a b i => jmp (.loop c1 K7) (tL0 a b i)) x.1 x.2.1 := by kernel_rfl
noncomputable def L0 (a : List Int) (b : List Int) (i : Int) : R := lim E fin (.loop c1 K7) (tL0 a b i)
noncomputable def J1 (a : List Int) (b : List Int) (i : Int) : R := lim E fin (.code c2 K8) (tJ1 a b i)
theorem L0_eq (a : List Int) (b : List Int) (i : Int) : L0 a b i = SL0 J1 a b i :=
  (lim_eq (.loop c1 K7) (tL0 a b i)).trans (sL0 (lim E fin) a b i)
theorem J1_eq (a : List Int) (b : List Int) (i : Int) : J1 a b i = SJ1 L0 a b i :=
  (lim_eq (.code c2 K8) (tJ1 a b i)).trans (sJ1 (lim E fin) a b i)
end same_Ints
noncomputable def same_Ints (a : List Int) (b : List Int) : same_Ints.R :=
  same_Ints.Se same_Ints.L0 a b
noncomputable def same_Ints.sig : Sig := ⟨same_Ints.ps, same_Ints.rs, fun x => same_Ints x.1 x.2.1⟩
theorem same_Ints.ok : CallOK Try.prog 19 same_Ints.sig :=
  callOK_of_lim (E := same_Ints.E) mixed tt_ok ctxOk_nil Try.func19 (by kernel_rfl : Try.f19.body = some (bodyOf Try.f19)) Try.ntmps19 (of_decide_eq_true (by kernel_rfl)) (of_decide_eq_true (by kernel_rfl))
    fun x y h => ((lim_eq (.code (bodyOf Try.f19) .ret) (entryFrom 0 same_Ints.ps x)).trans (same_Ints.se (lim same_Ints.E same_Ints.fin) x)).trans h
theorem same_Ints.val (x : (argTy same_Ints.ps).den) : lim same_Ints.E same_Ints.fin (.code (bodyOf Try.f19) .ret) (entryFrom 0 same_Ints.ps x) = same_Ints.sig.run x :=
  (lim_eq (.code (bodyOf Try.f19) .ret) (entryFrom 0 same_Ints.ps x)).trans (same_Ints.se (lim same_Ints.E same_Ints.fin) x)
noncomputable def same_Ints.ctxc (n : Nat) : List (Nat × Sig) := []
noncomputable def same_Ints.sigc (n : Nat) : Sig := ⟨same_Ints.ps, same_Ints.rs, fun x => runs (withCtx same_Ints.E (same_Ints.ctxc n)) same_Ints.fin n (.code (bodyOf Try.f19) .ret) (entryFrom 0 same_Ints.ps x)⟩
theorem same_Ints.sigc_le (n : Nat) : ∀ x y, (same_Ints.sigc n).run x = some y → same_Ints.sig.run x = some y :=
  fun x y h => (same_Ints.val x).symm.trans (runs_lim (E := same_Ints.E) (c := same_Ints.ctxc n) ctxLe_nil h)

/-! ### guerdon/guerdonlaw02.awake -/
namespace law02_awake
abbrev ps : List PM := []
abbrev rs : List RM := [.pure .bool]
abbrev R : Type := Option (Bool × Unit)
noncomputable def E : Env := { tt := tt, ctx := [(10, money_DivRound.sig), (13, money_MulDiv.sig), (15, money_RoundTo.sig), (17, money_Allocate.sig), (22, money_Sum.sig), (19, same_Ints.sig)], nt := 86, ann := [] }
noncomputable def fin : ASt → R := Kret E Try.f12.results.toList ps rs
noncomputable def Se : R :=
  Option.bind (money_DivRound (-7) 2 0) fun x1 =>
  Option.bind (money_DivRound 5 2 5) fun x2 =>
  Option.bind (money_MulDiv 1000 125000 1000000 4) fun x3 =>
  Option.bind (money_RoundTo 1250 100 4) fun x4 =>
  Option.bind (money_Allocate 100 [1, 1, 1]) fun x5 =>
  Option.bind (money_Sum [5, (-7)]) fun x6 =>
  cond (x1.1 == (-4))
    (cond (x1.2.1 == 0)
      (cond (x2.1 == 2)
        (cond (x2.2.1 == 0)
          (cond (x3.1 == 125)
            (cond (x3.2.1 == 0)
              (cond (x4.1 == 1300)
                (cond (x4.2.1 == 0)
                  (Option.bind (same_Ints x5.1 [34, 33, 33]) fun x7 =>
                  cond x7.1
                    (cond (x5.2.1 == 0)
                      (cond (x6.1 == (-2))
                        (some ((x6.2.1 == 0), ()))
                        (some (false, ())))
                      (some (false, ())))
                    (some (false, ())))
                  (some (false, ())))
                (some (false, ())))
              (some (false, ())))
            (some (false, ())))
          (some (false, ())))
        (some (false, ())))
      (some (false, ())))
    (some (false, ()))
theorem se (jmp : Tgt → ASt → R) (x : (argTy ps).den) : run E jmp fin depth (bodyOf Try.f12) .ret (entryFrom 0 ps x) =
    Se := by kernel_rfl
end law02_awake
noncomputable def law02_awake : law02_awake.R :=
  law02_awake.Se 
noncomputable def law02_awake.sig : Sig := ⟨law02_awake.ps, law02_awake.rs, fun x => law02_awake⟩
theorem law02_awake.ok : CallOK Try.prog 12 law02_awake.sig :=
  callOK_of_lim (E := law02_awake.E) mixed tt_ok (ctxOk_cons (ctxOk_cons (ctxOk_cons (ctxOk_cons (ctxOk_cons (ctxOk_cons ctxOk_nil same_Ints.ok Try.func19 (by kernel_rfl) (by kernel_rfl)) money_Sum.ok Try.func22 (by kernel_rfl) (by kernel_rfl)) money_Allocate.ok Try.func17 (by kernel_rfl) (by kernel_rfl)) money_RoundTo.ok Try.func15 (by kernel_rfl) (by kernel_rfl)) money_MulDiv.ok Try.func13 (by kernel_rfl) (by kernel_rfl)) money_DivRound.ok Try.func10 (by kernel_rfl) (by kernel_rfl)) Try.func12 (by kernel_rfl : Try.f12.body = some (bodyOf Try.f12)) Try.ntmps12 (of_decide_eq_true (by kernel_rfl)) (of_decide_eq_true (by kernel_rfl))
    fun x y h => ((lim_eq (.code (bodyOf Try.f12) .ret) (entryFrom 0 law02_awake.ps x)).trans (law02_awake.se (lim law02_awake.E law02_awake.fin) x)).trans h
theorem law02_awake.val (x : (argTy law02_awake.ps).den) : lim law02_awake.E law02_awake.fin (.code (bodyOf Try.f12) .ret) (entryFrom 0 law02_awake.ps x) = law02_awake.sig.run x :=
  (lim_eq (.code (bodyOf Try.f12) .ret) (entryFrom 0 law02_awake.ps x)).trans (law02_awake.se (lim law02_awake.E law02_awake.fin) x)
noncomputable def law02_awake.ctxc (n : Nat) : List (Nat × Sig) := [(10, money_DivRound.sigc n), (13, money_MulDiv.sigc n), (15, money_RoundTo.sigc n), (17, money_Allocate.sigc n), (22, money_Sum.sigc n), (19, same_Ints.sigc n)]
noncomputable def law02_awake.sigc (n : Nat) : Sig := ⟨law02_awake.ps, law02_awake.rs, fun x => runs (withCtx law02_awake.E (law02_awake.ctxc n)) law02_awake.fin n (.code (bodyOf Try.f12) .ret) (entryFrom 0 law02_awake.ps x)⟩
theorem law02_awake.sigc_le (n : Nat) : ∀ x y, (law02_awake.sigc n).run x = some y → law02_awake.sig.run x = some y :=
  fun x y h => (law02_awake.val x).symm.trans (runs_lim (E := law02_awake.E) (c := law02_awake.ctxc n) (ctxLe_cons (ctxLe_cons (ctxLe_cons (ctxLe_cons (ctxLe_cons (ctxLe_cons ctxLe_nil (same_Ints.sigc_le n)) (money_Sum.sigc_le n)) (money_Allocate.sigc_le n)) (money_RoundTo.sigc_le n)) (money_MulDiv.sigc_le n)) (money_DivRound.sigc_le n)) h)

/-! ### guerdon/guerdonlaw02.MoneyDivRound -/
namespace law02_MoneyDivRound
abbrev ps : List PM := [.pure (.int .i64), .pure (.int .i64), .pure (.int .i64)]
abbrev rs : List RM := [.pure .bool]
abbrev R : Type := Option (Bool × Unit)
noncomputable def E : Env := { tt := tt, ctx := [(10, money_DivRound.sig), (11, ref02_DivRound.sig), (12, law02_awake.sig)], nt := 36, ann := [] }
noncomputable def fin : ASt → R := Kret E Try.f3.results.toList ps rs
noncomputable def Se (n_0 : Int) (d : Int) (mode : Int) : R :=
  Option.bind (money_DivRound n_0 d mode) fun x1 =>
  Option.bind (ref02_DivRound n_0 d mode) fun x2 =>
  cond (x1.1 == x2.1)
    (cond (x1.2.1 == x2.2.1)
      (Option.bind law02_awake fun x3 =>
      some (x3.1, ()))
      (some (false, ())))
    (some (false, ()))
theorem se (jmp : Tgt → ASt → R) (x : (argTy ps).den) : run E jmp fin depth (bodyOf Try.f3) .ret (entryFrom 0 ps x) =
    Se x.1 x.2.1 x.2.2.1 := by kernel_rfl
end law02_MoneyDivRound
noncomputable def law02_MoneyDivRound (n_0 : Int) (d : Int) (mode : Int) : law02_MoneyDivRound.R :=
  law02_MoneyDivRound.Se n_0 d mode
noncomputable def law02_MoneyDivRound.sig : Sig := ⟨law02_MoneyDivRound.ps, law02_MoneyDivRound.rs, fun x => law02_MoneyDivRound x.1 x.2.1 x.2.2.1⟩
theorem law02_MoneyDivRound.ok : CallOK Try.prog 3 law02_MoneyDivRound.sig :=
  callOK_of_lim (E := law02_MoneyDivRound.E) mixed tt_ok (ctxOk_cons (ctxOk_cons (ctxOk_cons ctxOk_nil law02_awake.ok Try.func12 (by kernel_rfl) (by kernel_rfl)) ref02_DivRound.ok Try.func11 (by kernel_rfl) (by kernel_rfl)) money_DivRound.ok Try.func10 (by kernel_rfl) (by kernel_rfl)) Try.func3 (by kernel_rfl : Try.f3.body = some (bodyOf Try.f3)) Try.ntmps3 (of_decide_eq_true (by kernel_rfl)) (of_decide_eq_true (by kernel_rfl))
    fun x y h => ((lim_eq (.code (bodyOf Try.f3) .ret) (entryFrom 0 law02_MoneyDivRound.ps x)).trans (law02_MoneyDivRound.se (lim law02_MoneyDivRound.E law02_MoneyDivRound.fin) x)).trans h
theorem law02_MoneyDivRound.val (x : (argTy law02_MoneyDivRound.ps).den) : lim law02_MoneyDivRound.E law02_MoneyDivRound.fin (.code (bodyOf Try.f3) .ret) (entryFrom 0 law02_MoneyDivRound.ps x) = law02_MoneyDivRound.sig.run x :=
  (lim_eq (.code (bodyOf Try.f3) .ret) (entryFrom 0 law02_MoneyDivRound.ps x)).trans (law02_MoneyDivRound.se (lim law02_MoneyDivRound.E law02_MoneyDivRound.fin) x)
noncomputable def law02_MoneyDivRound.ctxc (n : Nat) : List (Nat × Sig) := [(10, money_DivRound.sigc n), (11, ref02_DivRound.sigc n), (12, law02_awake.sigc n)]
noncomputable def law02_MoneyDivRound.sigc (n : Nat) : Sig := ⟨law02_MoneyDivRound.ps, law02_MoneyDivRound.rs, fun x => runs (withCtx law02_MoneyDivRound.E (law02_MoneyDivRound.ctxc n)) law02_MoneyDivRound.fin n (.code (bodyOf Try.f3) .ret) (entryFrom 0 law02_MoneyDivRound.ps x)⟩
theorem law02_MoneyDivRound.sigc_le (n : Nat) : ∀ x y, (law02_MoneyDivRound.sigc n).run x = some y → law02_MoneyDivRound.sig.run x = some y :=
  fun x y h => (law02_MoneyDivRound.val x).symm.trans (runs_lim (E := law02_MoneyDivRound.E) (c := law02_MoneyDivRound.ctxc n) (ctxLe_cons (ctxLe_cons (ctxLe_cons ctxLe_nil (law02_awake.sigc_le n)) (ref02_DivRound.sigc_le n)) (money_DivRound.sigc_le n)) h)

/-! ### guerdon/guerdonref02.MulDiv -/
namespace ref02_MulDiv
abbrev ps : List PM := [.pure (.int .i64), .pure (.int .i64), .pure (.int .i64), .pure (.int .i64)]
abbrev rs : List RM := [.pure (.int .i64), .pure (.int .i64)]
abbrev R : Type := Option (Int × Int × Unit)
noncomputable def E : Env := { tt := tt, ctx := [(28, ref02_Mode.sig), (20, ref02_Beyond.sig), (21, ref02_Abs.sig), (29, ref02_Rounded.sig)], nt := 79, ann := [(7, [(0, .keep), (1, .keep), (2, .keep), (3, .keep)]), (10, [(0, .keep), (1, .keep), (2, .keep), (3, .keep), (10, .keep), (11, .keep), (12, .keep)])] }
noncomputable def c0 : Code := sub [1, 1, 1, 1] (bodyOf Try.f14)
noncomputable def c1 : Code := sub [1, 1, 1, 1, 1, 1] (bodyOf Try.f14)
noncomputable def fin : ASt → R := Kret E Try.f14.results.toList ps rs
def tJ0 (c_0 : Int) (num : Int) (den : Int) (mode : Int) : ASt := ⟨[(3, .one (.val (.int .i64) mode)), (2, .one (.val (.int .i64) den)), (1, .one (.val (.int .i64) num)), (0, .one (.val (.int .i64) c_0))], []⟩
def tJ1 (c_0 : Int) (num : Int) (den : Int) (mode : Int) (a : Int) (x_11 : Int) (b : Int) : ASt := ⟨[(12, .one (.val (.int .i64) b)), (11, .one (.val (.int .i64) x_11)), (10, .one (.val (.int .i64) a)), (3, .one (.val (.int .i64) mode)), (2, .one (.val (.int .i64) den)), (1, .one (.val (.int .i64) num)), (0, .one (.val (.int .i64) c_0))], []⟩
noncomputable def SJ0 (kJ1 : Int → Int → Int → Int → Int → Int → Int → R) (c_0 : Int) (num : Int) (den : Int) (mode : Int) : R :=
  Option.bind (ref02_Abs c_0) fun x1 =>
  Option.bind (ref02_Abs num) fun x2 =>
  Option.bind (ref02_Abs den) fun x3 =>
  cond (decide (x2.1 > 0))
    (cond (decide (x3.1 = 0))
      none
      (cond (decide (x2.1 = 0))
        none
        (cond (decide ((IntKind.i64.wrap (Int.tdiv x1.1 x3.1)) > (IntKind.i64.wrap (Int.tdiv 1000000000000000 x2.1))))
          (some (0, 3, ()))
          (kJ1 c_0 num den mode x1.1 x2.1 x3.1))))
    (kJ1 c_0 num den mode x1.1 x2.1 x3.1)
noncomputable def SJ1 (c_0 : Int) (num : Int) (den : Int) (mode : Int) (a : Int) (x_11 : Int) (b : Int) : R :=
  cond (decide (b = 0))
    none
    (cond (decide (b = 0))
      none
      (cond (decide (b = 0))
        none
        (cond (decide (b = 0))
          none
          (Option.bind (ref02_Rounded (IntKind.i64.wrap ((IntKind.i64.wrap ((IntKind.i64.wrap (Int.tdiv a b)) * x_11)) + (IntKind.i64.wrap (Int.tdiv (IntKind.i64.wrap ((Int.tmod a b) * x_11)) b)))) (Int.tmod (IntKind.i64.wrap ((Int.tmod a b) * x_11)) b) b (!((!((decide (c_0 < 0)) == (decide (num < 0)))) == (decide (den < 0)))) mode) fun x1 =>
          Option.bind (ref02_Beyond x1.1 1000000000000000) fun x2 =>
          cond x2.1
            (some (0, 3, ()))
            (some (x1.1, 0, ()))))))
noncomputable def Se (kJ0 : Int → Int → Int → Int → R) (c_0 : Int) (num : Int) (den : Int) (mode : Int) : R :=
  Option.bind (ref02_Mode mode) fun x1 =>
  cond (!x1.1)
    (some (0, 1, ()))
    (cond (den == 0)
      (some (0, 12, ()))
      (Option.bind (ref02_Beyond c_0 1000000000000000) fun x2 =>
      cond x2.1
        (some (0, 3, ()))
        (Option.bind (ref02_Beyond num 1000000000) fun x3 =>
        cond x3.1
          (some (0, 3, ()))
          (Option.bind (ref02_Beyond den 1000000000) fun x4 =>
          cond x4.1
            (some (0, 3, ()))
            (kJ0 c_0 num den mode)))))
theorem sJ0 (jmp : Tgt → ASt → R) (c_0 : Int) (num : Int) (den : Int) (mode : Int) : run E jmp fin depth c0 .ret (tJ0 c_0 num den mode) =
    SJ0 (fun c_0 num den mode a x_11 b => jmp (.code c1 .ret) (tJ1 c_0 num den mode a x_11 b)) c_0 num den mode := by kernel_rfl
theorem sJ1 (jmp : Tgt → ASt → R) (c_0 : Int) (num : Int) (den : Int) (mode : Int) (a : Int) (x_11 : Int) (b : Int) : run E jmp fin depth c1 .ret (tJ1 c_0 num den mode a x_11 b) =
    SJ1 c_0 num den mode a x_11 b := by kernel_rfl
theorem se (jmp : Tgt → ASt → R) (x : (argTy ps).den) : run E jmp fin depth (bodyOf Try.f14) .ret (entryFrom 0 ps x) =
    Se (fun c_0 num den mode => jmp (.code c0 .ret) (tJ0 c_0 num den mode)) x.1 x.2.1 x.2.2.1 x.2.2.2.1 := by kernel_rfl
noncomputable def J0 (c_0 : Int) (num : Int) (den : Int) (mode : Int) : R := lim E fin (.code c0 .ret) (tJ0 c_0 num den mode)
noncomputable def J1 (c_0 : Int) (num : Int) (den : Int) (mode : Int) (a : Int) (x_11 : Int) (b : Int) : R := lim E fin (.code c1 .ret) (tJ1 c_0 num den mode a x_11 b)
theorem J0_eq (c_0 : Int) (num : Int) (den : Int) (mode : Int) : J0 c_0 num den mode = SJ0 J1 c_0 num den mode :=
  (lim_eq (.code c0 .ret) (tJ0 c_0 num den mode)).trans (sJ0 (lim E fin) c_0 num den mode)
theorem J1_eq (c_0 : Int) (num : Int) (den : Int) (mode : Int) (a : Int) (x_11 : Int) (b : Int) : J1 c_0 num den mode a x_11 b = SJ1 c_0 num den mode a x_11 b :=
  (lim_eq (.code c1 .ret) (tJ1 c_0 num den mode a x_11 b)).trans (sJ1 (lim E fin) c_0 num den mode a x_11 b)
end ref02_MulDiv
noncomputable def ref02_MulDiv (c_0 : Int) (num : Int) (den : Int) (mode : Int) : ref02_MulDiv.R :=
  ref02_MulDiv.Se ref02_MulDiv.J0 c_0 num den mode
noncomputable def ref02_MulDiv.sig : Sig := ⟨ref02_MulDiv.ps, ref02_MulDiv.rs, fun x => ref02_MulDiv x.1 x.2.1 x.2.2.1 x.2.2.2.1⟩
theorem ref02_MulDiv.ok : CallOK Try.prog 14 ref02_MulDiv.sig :=
  callOK_of_lim (E := ref02_MulDiv.E) mixed tt_ok (ctxOk_cons (ctxOk_cons (ctxOk_cons (ctxOk_cons ctxOk_nil ref02_Rounded.ok Try.func29 (by kernel_rfl) (by kernel_rfl)) ref02_Abs.ok Try.func21 (by kernel_rfl) (by kernel_rfl)) ref02_Beyond.ok Try.func20 (by kernel_rfl) (by kernel_rfl)) ref02_Mode.ok Try.func28 (by kernel_rfl) (by kernel_rfl)) Try.func14 (by kernel_rfl : Try.f14.body = some (bodyOf Try.f14)) Try.ntmps14 (of_decide_eq_true (by kernel_rfl)) (of_decide_eq_true (by kernel_rfl))
    fun x y h => ((lim_eq (.code (bodyOf Try.f14) .ret) (entryFrom 0 ref02_MulDiv.ps x)).trans (ref02_MulDiv.se (lim ref02_MulDiv.E ref02_MulDiv.fin) x)).trans h
theorem ref02_MulDiv.val (x : (argTy ref02_MulDiv.ps).den) : lim ref02_MulDiv.E ref02_MulDiv.fin (.code (bodyOf Try.f14) .ret) (entryFrom 0 ref02_MulDiv.ps x) = ref02_MulDiv.sig.run x :=
  (lim_eq (.code (bodyOf Try.f14) .ret) (entryFrom 0 ref02_MulDiv.ps x)).trans (ref02_MulDiv.se (lim ref02_MulDiv.E ref02_MulDiv.fin) x)
noncomputable def ref02_MulDiv.ctxc (n : Nat) : List (Nat × Sig) := [(28, ref02_Mode.sigc n), (20, ref02_Beyond.sigc n), (21, ref02_Abs.sigc n), (29, ref02_Rounded.sigc n)]
noncomputable def ref02_MulDiv.sigc (n : Nat) : Sig := ⟨ref02_MulDiv.ps, ref02_MulDiv.rs, fun x => runs (withCtx ref02_MulDiv.E (ref02_MulDiv.ctxc n)) ref02_MulDiv.fin n (.code (bodyOf Try.f14) .ret) (entryFrom 0 ref02_MulDiv.ps x)⟩
theorem ref02_MulDiv.sigc_le (n : Nat) : ∀ x y, (ref02_MulDiv.sigc n).run x = some y → ref02_MulDiv.sig.run x = some y :=
  fun x y h => (ref02_MulDiv.val x).symm.trans (runs_lim (E := ref02_MulDiv.E) (c := ref02_MulDiv.ctxc n) (ctxLe_cons (ctxLe_cons (ctxLe_cons (ctxLe_cons ctxLe_nil (ref02_Rounded.sigc_le n)) (ref02_Abs.sigc_le n)) (ref02_Beyond.sigc_le n)) (ref02_Mode.sigc_le n)) h)

/-! ### guerdon/guerdonlaw02.MoneyMulDiv -/
namespace law02_MoneyMulDiv
abbrev ps : List PM := [.pure (.int .i64), .pure (.int .i64), .pure (.int .i64), .pure (.int .i64)]
abbrev rs : List RM := [.pure .bool]
abbrev R : Type := Option (Bool × Unit)
noncomputable def E : Env := { tt := tt, ctx := [(13, money_MulDiv.sig), (14, ref02_MulDiv.sig), (12, law02_awake.sig)], nt := 40, ann := [] }
noncomputable def fin : ASt → R := Kret E Try.f4.results.toList ps rs
noncomputable def Se (c_0 : Int) (num : Int) (den : Int) (mode : Int) : R :=
  Option.bind (money_MulDiv c_0 num den mode) fun x1 =>
  Option.bind (ref02_MulDiv c_0 num den mode) fun x2 =>
  cond (x1.1 == x2.1)
    (cond (x1.2.1 == x2.2.1)
      (Option.bind law02_awake fun x3 =>
      some (x3.1, ()))
      (some (false, ())))
    (some (false, ()))
theorem se (jmp : Tgt → ASt → R) (x : (argTy ps).den) : run E jmp fin depth (bodyOf Try.f4) .ret (entryFrom 0 ps x) =
    Se x.1 x.2.1 x.2.2.1 x.2.2.2.1 := by kernel_rfl
end law02_MoneyMulDiv
noncomputable def law02_MoneyMulDiv (c_0 : Int) (num : Int) (den : Int) (mode : Int) : law02_MoneyMulDiv.R :=
  law02_MoneyMulDiv.Se c_0 num den mode
noncomputable def law02_MoneyMulDiv.sig : Sig := ⟨law02_MoneyMulDiv.ps, law02_MoneyMulDiv.rs, fun x => law02_MoneyMulDiv x.1 x.2.1 x.2.2.1 x.2.2.2.1⟩
theorem law02_MoneyMulDiv.ok : CallOK Try.prog 4 law02_MoneyMulDiv.sig :=
  callOK_of_lim (E := law02_MoneyMulDiv.E) mixed tt_ok (ctxOk_cons (ctxOk_cons (ctxOk_cons ctxOk_nil law02_awake.ok Try.func12 (by kernel_rfl) (by kernel_rfl)) ref02_MulDiv.ok Try.func14 (by kernel_rfl) (by kernel_rfl)) money_MulDiv.ok Try.func13 (by kernel_rfl) (by kernel_rfl)) Try.func4 (by kernel_rfl : Try.f4.body = some (bodyOf Try.f4)) Try.ntmps4 (of_decide_eq_true (by kernel_rfl)) (of_decide_eq_true (by kernel_rfl))
    fun x y h => ((lim_eq (.code (bodyOf Try.f4) .ret) (entryFrom 0 law02_MoneyMulDiv.ps x)).trans (law02_MoneyMulDiv.se (lim law02_MoneyMulDiv.E law02_MoneyMulDiv.fin) x)).trans h
theorem law02_MoneyMulDiv.val (x : (argTy law02_MoneyMulDiv.ps).den) : lim law02_MoneyMulDiv.E law02_MoneyMulDiv.fin (.code (bodyOf Try.f4) .ret) (entryFrom 0 law02_MoneyMulDiv.ps x) = law02_MoneyMulDiv.sig.run x :=
  (lim_eq (.code (bodyOf Try.f4) .ret) (entryFrom 0 law02_MoneyMulDiv.ps x)).trans (law02_MoneyMulDiv.se (lim law02_MoneyMulDiv.E law02_MoneyMulDiv.fin) x)
noncomputable def law02_MoneyMulDiv.ctxc (n : Nat) : List (Nat × Sig) := [(13, money_MulDiv.sigc n), (14, ref02_MulDiv.sigc n), (12, law02_awake.sigc n)]
noncomputable def law02_MoneyMulDiv.sigc (n : Nat) : Sig := ⟨law02_MoneyMulDiv.ps, law02_MoneyMulDiv.rs, fun x => runs (withCtx law02_MoneyMulDiv.E (law02_MoneyMulDiv.ctxc n)) law02_MoneyMulDiv.fin n (.code (bodyOf Try.f4) .ret) (entryFrom 0 law02_MoneyMulDiv.ps x)⟩
theorem law02_MoneyMulDiv.sigc_le (n : Nat) : ∀ x y, (law02_MoneyMulDiv.sigc n).run x = some y → law02_MoneyMulDiv.sig.run x = some y :=
  fun x y h => (law02_MoneyMulDiv.val x).symm.trans (runs_lim (E := law02_MoneyMulDiv.E) (c := law02_MoneyMulDiv.ctxc n) (ctxLe_cons (ctxLe_cons (ctxLe_cons ctxLe_nil (law02_awake.sigc_le n)) (ref02_MulDiv.sigc_le n)) (money_MulDiv.sigc_le n)) h)

/-! ### guerdon/guerdonref02.RoundTo -/
namespace ref02_RoundTo
abbrev ps : List PM := [.pure (.int .i64), .pure (.int .i64), .pure (.int .i64)]
abbrev rs : List RM := [.pure (.int .i64), .pure (.int .i64)]
abbrev R : Type := Option (Int × Int × Unit)
noncomputable def E : Env := { tt := tt, ctx := [(28, ref02_Mode.sig), (20, ref02_Beyond.sig), (21, ref02_Abs.sig), (29, ref02_Rounded.sig)], nt := 39, ann := [(7, [(0, .keep), (1, .keep), (2, .keep)])] }
noncomputable def c0 : Code := sub [1, 1, 1, 1] (bodyOf Try.f16)
noncomputable def fin : ASt → R := Kret E Try.f16.results.toList ps rs
def tJ0 (c_0 : Int) (unit : Int) (mode : Int) : ASt := ⟨[(2, .one (.val (.int .i64) mode)), (1, .one (.val (.int .i64) unit)), (0, .one (.val (.int .i64) c_0))], []⟩
noncomputable def SJ0 (c_0 : Int) (unit : Int) (mode : Int) : R :=
  Option.bind (ref02_Abs c_0) fun x1 =>
  cond (decide (unit = 0))
    none
    (cond (decide (unit = 0))
      none
      (Option.bind (ref02_Rounded (IntKind.i64.wrap (Int.tdiv x1.1 unit)) (Int.tmod x1.1 unit) unit (decide (c_0 < 0)) mode) fun x2 =>
      Option.bind (ref02_Beyond (IntKind.i64.wrap (x2.1 * unit)) 1000000000000000) fun x3 =>
      cond x3.1
        (some (0, 3, ()))
        (some (IntKind.i64.wrap (x2.1 * unit), 0, ()))))
noncomputable def Se (kJ0 : Int → Int → Int → R) (c_0 : Int) (unit : Int) (mode : Int) : R :=
  Option.bind (ref02_Mode mode) fun x1 =>
  cond (!x1.1)
    (some (0, 1, ()))
    (cond (decide (unit < 1))
      (some (0, 12, ()))
      (Option.bind (ref02_Beyond c_0 1000000000000000) fun x2 =>
      cond x2.1
        (some (0, 3, ()))
        (cond (decide (unit > 1000000000000000))
          (some (0, 3, ()))
          (kJ0 c_0 unit mode))))
theorem sJ0 (jmp : Tgt → ASt → R) (c_0 : Int) (unit : Int) (mode : Int) : run E jmp fin depth c0 .ret (tJ0 c_0 unit mode) =
    SJ0 c_0 unit mode := by kernel_rfl
theorem se (jmp : Tgt → ASt → R) (x : (argTy ps).den) : run E jmp fin depth (bodyOf Try.f16) .ret (entryFrom 0 ps x) =
    Se (fun c_0 unit mode => jmp (.code c0 .ret) (tJ0 c_0 unit mode)) x.1 x.2.1 x.2.2.1 := by kernel_rfl
noncomputable def J0 (c_0 : Int) (unit : Int) (mode : Int) : R := lim E fin (.code c0 .ret) (tJ0 c_0 unit mode)
theorem J0_eq (c_0 : Int) (unit : Int) (mode : Int) : J0 c_0 unit mode = SJ0 c_0 unit mode :=
  (lim_eq (.code c0 .ret) (tJ0 c_0 unit mode)).trans (sJ0 (lim E fin) c_0 unit mode)
end ref02_RoundTo
noncomputable def ref02_RoundTo (c_0 : Int) (unit : Int) (mode : Int) : ref02_RoundTo.R :=
  ref02_RoundTo.Se ref02_RoundTo.J0 c_0 unit mode
noncomputable def ref02_RoundTo.sig : Sig := ⟨ref02_RoundTo.ps, ref02_RoundTo.rs, fun x => ref02_RoundTo x.1 x.2.1 x.2.2.1⟩
theorem ref02_RoundTo.ok : CallOK Try.prog 16 ref02_RoundTo.sig :=
  callOK_of_lim (E := ref02_RoundTo.E) mixed tt_ok (ctxOk_cons (ctxOk_cons (ctxOk_cons (ctxOk_cons ctxOk_nil ref02_Rounded.ok Try.func29 (by kernel_rfl) (by kernel_rfl)) ref02_Abs.ok Try.func21 (by kernel_rfl) (by kernel_rfl)) ref02_Beyond.ok Try.func20 (by kernel_rfl) (by kernel_rfl)) ref02_Mode.ok Try.func28 (by kernel_rfl) (by kernel_rfl)) Try.func16 (by kernel_rfl : Try.f16.body = some (bodyOf Try.f16)) Try.ntmps16 (of_decide_eq_true (by kernel_rfl)) (of_decide_eq_true (by kernel_rfl))
    fun x y h => ((lim_eq (.code (bodyOf Try.f16) .ret) (entryFrom 0 ref02_RoundTo.ps x)).trans (ref02_RoundTo.se (lim ref02_RoundTo.E ref02_RoundTo.fin) x)).trans h
theorem ref02_RoundTo.val (x : (argTy ref02_RoundTo.ps).den) : lim ref02_RoundTo.E ref02_RoundTo.fin (.code (bodyOf Try.f16) .ret) (entryFrom 0 ref02_RoundTo.ps x) = ref02_RoundTo.sig.run x :=
  (lim_eq (.code (bodyOf Try.f16) .ret) (entryFrom 0 ref02_RoundTo.ps x)).trans (ref02_RoundTo.se (lim ref02_RoundTo.E ref02_RoundTo.fin) x)
noncomputable def ref02_RoundTo.ctxc (n : Nat) : List (Nat × Sig) := [(28, ref02_Mode.sigc n), (20, ref02_Beyond.sigc n), (21, ref02_Abs.sigc n), (29, ref02_Rounded.sigc n)]
noncomputable def ref02_RoundTo.sigc (n : Nat) : Sig := ⟨ref02_RoundTo.ps, ref02_RoundTo.rs, fun x => runs (withCtx ref02_RoundTo.E (ref02_RoundTo.ctxc n)) ref02_RoundTo.fin n (.code (bodyOf Try.f16) .ret) (entryFrom 0 ref02_RoundTo.ps x)⟩
theorem ref02_RoundTo.sigc_le (n : Nat) : ∀ x y, (ref02_RoundTo.sigc n).run x = some y → ref02_RoundTo.sig.run x = some y :=
  fun x y h => (ref02_RoundTo.val x).symm.trans (runs_lim (E := ref02_RoundTo.E) (c := ref02_RoundTo.ctxc n) (ctxLe_cons (ctxLe_cons (ctxLe_cons (ctxLe_cons ctxLe_nil (ref02_Rounded.sigc_le n)) (ref02_Abs.sigc_le n)) (ref02_Beyond.sigc_le n)) (ref02_Mode.sigc_le n)) h)

/-! ### guerdon/guerdonlaw02.MoneyRoundTo -/
namespace law02_MoneyRoundTo
abbrev ps : List PM := [.pure (.int .i64), .pure (.int .i64), .pure (.int .i64)]
abbrev rs : List RM := [.pure .bool]
abbrev R : Type := Option (Bool × Unit)
noncomputable def E : Env := { tt := tt, ctx := [(15, money_RoundTo.sig), (16, ref02_RoundTo.sig), (12, law02_awake.sig)], nt := 56, ann := [(5, [(1, .keep), (2, .keep), (7, .keep), (8, .keep)])] }
noncomputable def c0 : Code := sub [1, 1, 1, 1] (bodyOf Try.f5)
noncomputable def fin : ASt → R := Kret E Try.f5.results.toList ps rs
def tJ0 (unit : Int) (mode : Int) (a : Int) (e : Int) : ASt := ⟨[(8, .one (.val (.int .i64) e)), (7, .one (.val (.int .i64) a)), (2, .one (.val (.int .i64) mode)), (1, .one (.val (.int .i64) unit))], []⟩
noncomputable def SJ0 (unit : Int) (mode : Int) (a : Int) (e : Int) : R :=
  Option.bind (money_RoundTo a unit mode) fun x1 =>
  cond (e != 0)
    (Option.bind law02_awake fun x2 =>
    some (x2.1, ()))
    (cond (x1.2.1 == 0)
      (cond (x1.1 == a)
        (Option.bind law02_awake fun x3 =>
        some (x3.1, ()))
        (some (false, ())))
      (some (false, ())))
noncomputable def Se (kJ0 : Int → Int → Int → Int → R) (c_0 : Int) (unit : Int) (mode : Int) : R :=
  Option.bind (money_RoundTo c_0 unit mode) fun x1 =>
  Option.bind (ref02_RoundTo c_0 unit mode) fun x2 =>
  cond (x1.1 != x2.1)
    (some (false, ()))
    (cond (x1.2.1 != x2.2.1)
      (some (false, ()))
      (kJ0 unit mode x1.1 x1.2.1))
theorem sJ0 (jmp : Tgt → ASt → R) (unit : Int) (mode : Int) (a : Int) (e : Int) : run E jmp fin depth c0 .ret (tJ0 unit mode a e) =
    SJ0 unit mode a e := by kernel_rfl
theorem se (jmp : Tgt → ASt → R) (x : (argTy ps).den) : run E jmp fin depth (bodyOf Try.f5) .ret (entryFrom 0 ps x) =
    Se (fun unit mode a e => jmp (.code c0 .ret) (tJ0 unit mode a e)) x.1 x.2.1 x.2.2.1 := by kernel_rfl
noncomputable def J0 (unit : Int) (mode : Int) (a : Int) (e : Int) : R := lim E fin (.code c0 .ret) (tJ0 unit mode a e)
theorem J0_eq (unit : Int) (mode : Int) (a : Int) (e : Int) : J0 unit mode a e = SJ0 unit mode a e :=
  (lim_eq (.code c0 .ret) (tJ0 unit mode a e)).trans (sJ0 (lim E fin) unit mode a e)
end law02_MoneyRoundTo
noncomputable def law02_MoneyRoundTo (c_0 : Int) (unit : Int) (mode : Int) : law02_MoneyRoundTo.R :=
  law02_MoneyRoundTo.Se law02_MoneyRoundTo.J0 c_0 unit mode
noncomputable def law02_MoneyRoundTo.sig : Sig := ⟨law02_MoneyRoundTo.ps, law02_MoneyRoundTo.rs, fun x => law02_MoneyRoundTo x.1 x.2.1 x.2.2.1⟩
theorem law02_MoneyRoundTo.ok : CallOK Try.prog 5 law02_MoneyRoundTo.sig :=
  callOK_of_lim (E := law02_MoneyRoundTo.E) mixed tt_ok (ctxOk_cons (ctxOk_cons (ctxOk_cons ctxOk_nil law02_awake.ok Try.func12 (by kernel_rfl) (by kernel_rfl)) ref02_RoundTo.ok Try.func16 (by kernel_rfl) (by kernel_rfl)) money_RoundTo.ok Try.func15 (by kernel_rfl) (by kernel_rfl)) Try.func5 (by kernel_rfl : Try.f5.body = some (bodyOf Try.f5)) Try.ntmps5 (of_decide_eq_true (by kernel_rfl)) (of_decide_eq_true (by kernel_rfl))
    fun x y h => ((lim_eq (.code (bodyOf Try.f5) .ret) (entryFrom 0 law02_MoneyRoundTo.ps x)).trans (law02_MoneyRoundTo.se (lim law02_MoneyRoundTo.E law02_MoneyRoundTo.fin) x)).trans h
theorem law02_MoneyRoundTo.val (x : (argTy law02_MoneyRoundTo.ps).den) : lim law02_MoneyRoundTo.E law02_MoneyRoundTo.fin (.code (bodyOf Try.f5) .ret) (entryFrom 0 law02_MoneyRoundTo.ps x) = law02_MoneyRoundTo.sig.run x :=
  (lim_eq (.code (bodyOf Try.f5) .ret) (entryFrom 0 law02_MoneyRoundTo.ps x)).trans (law02_MoneyRoundTo.se (lim law02_MoneyRoundTo.E law02_MoneyRoundTo.fin) x)
noncomputable def law02_MoneyRoundTo.ctxc (n : Nat) : List (Nat × Sig) := [(15, money_RoundTo.sigc n), (16, ref02_RoundTo.sigc n), (12, law02_awake.sigc n)]
noncomputable def law02_MoneyRoundTo.sigc (n : Nat) : Sig := ⟨law02_MoneyRoundTo.ps, law02_MoneyRoundTo.rs, fun x => runs (withCtx law02_MoneyRoundTo.E (law02_MoneyRoundTo.ctxc n)) law02_MoneyRoundTo.fin n (.code (bodyOf Try.f5) .ret) (entryFrom 0 law02_MoneyRoundTo.ps x)⟩
theorem law02_MoneyRoundTo.sigc_le (n : Nat) : ∀ x y, (law02_MoneyRoundTo.sigc n).run x = some y → law02_MoneyRoundTo.sig.run x = some y :=
  fun x y h => (law02_MoneyRoundTo.val x).symm.trans (runs_lim (E := law02_MoneyRoundTo.E) (c := law02_MoneyRoundTo.ctxc n) (ctxLe_cons (ctxLe_cons (ctxLe_cons ctxLe_nil (law02_awake.sigc_le n)) (ref02_RoundTo.sigc_le n)) (money_RoundTo.sigc_le n)) h)

/-! ### guerdon/guerdonref02.part -/
namespace ref02_part
abbrev ps : List PM := [.pure (.int .i64), .pure (.int .i64), .pure (.int .i64)]
abbrev rs : List RM := [.pure (.int .i64), .pure (.int .i64)]
abbrev R : Type := Option (Int × Int × Unit)
noncomputable def E : Env := { tt := tt, ctx := [], nt := 37, ann := [(1000003, [(0, .keep), (1, .keep), (2, .keep), (8, .keep), (9, .keep), (10, .keep)]), (8, [(0, .keep), (1, .keep), (2, .keep), (8, .keep), (9, .keep), (10, .keep)])] }
noncomputable def c0 : Code := sub [1, 1, 1] (bodyOf Try.f33)
noncomputable def c1 : Code := sub [1, 1, 0, 1, 0, 0] (bodyOf Try.f33)
noncomputable def c2 : Code := sub [1, 1, 0, 1, 0, 0, 1, 1] (bodyOf Try.f33)
noncomputable def c3 : Code := sub [1, 1, 0, 1, 0, 0, 1, 0, 0, 1, 1] (bodyOf Try.f33)
noncomputable def K3 : Kont := .seq c0 .ret
noncomputable def K5 : Kont := .blk 0 K3
noncomputable def K6 : Kont := .loop c1 K5
noncomputable def K9 : Kont := .seq c2 K6
noncomputable def K10 : Kont := .blk 1 K9
noncomputable def fin : ASt → R := Kret E Try.f33.results.toList ps rs
def tL0 (x_0 : Int) (w : Int) (sum : Int) (q : Int) (r_9 : Int) (bit : Int) : ASt := ⟨[(10, .one (.val (.int .i64) bit)), (9, .one (.val (.int .i64) r_9)), (8, .one (.val (.int .i64) q)), (2, .one (.val (.int .i64) sum)), (1, .one (.val (.int .i64) w)), (0, .one (.val (.int .i64) x_0))], []⟩
def tJ1 (x_0 : Int) (w : Int) (sum : Int) (q : Int) (r_9 : Int) (bit : Int) : ASt := ⟨[(10, .one (.val (.int .i64) bit)), (9, .one (.val (.int .i64) r_9)), (8, .one (.val (.int .i64) q)), (2, .one (.val (.int .i64) sum)), (1, .one (.val (.int .i64) w)), (0, .one (.val (.int .i64) x_0))], []⟩
noncomputable def SL0 (kJ1 : Int → Int → Int → Int → Int → Int → R) (x_0 : Int) (w : Int) (sum : Int) (q : Int) (r_9 : Int) (bit : Int) : R :=
  cond (decide (bit > 0))
    (cond (decide (bit = 0))
      none
      (cond ((Int.tmod (IntKind.i64.wrap (Int.tdiv w bit)) 2) == 1)
        (kJ1 x_0 w sum (IntKind.i64.wrap (2 * q)) (IntKind.i64.wrap ((IntKind.i64.wrap (2 * r_9)) + x_0)) bit)
        (kJ1 x_0 w sum (IntKind.i64.wrap (2 * q)) (IntKind.i64.wrap (2 * r_9)) bit)))
    (some (q, r_9, ()))
noncomputable def SJ1 (kL0 : Int → Int → Int → Int → Int → Int → R) (x_0 : Int) (w : Int) (sum : Int) (q : Int) (r_9 : Int) (bit : Int) : R :=
  cond (decide (sum = 0))
    none
    (cond (decide (sum = 0))
      none
      (kL0 x_0 w sum (IntKind.i64.wrap (q + (IntKind.i64.wrap (Int.tdiv r_9 sum)))) (Int.tmod r_9 sum) (IntKind.i64.wrap (Int.tdiv bit 2))))
noncomputable def Se (kL0 : Int → Int → Int → Int → Int → Int → R) (x_0 : Int) (w : Int) (sum : Int) : R :=
  kL0 x_0 w sum 0 0 1073741824
theorem sL0 (jmp : Tgt → ASt → R) (x_0 : Int) (w : Int) (sum : Int) (q : Int) (r_9 : Int) (bit : Int) : run E jmp fin depth c1 (.loop c1 K5) (tL0 x_0 w sum q r_9 bit) =
    SL0 (fun x_0 w sum q r_9 bit => jmp (.code c3 K10) (tJ1 x_0 w sum q r_9 bit)) x_0 w sum q r_9 bit := by kernel_rfl
theorem sJ1 (jmp : Tgt → ASt → R) (x_0 : Int) (w : Int) (sum : Int) (q : Int) (r_9 : Int) (bit : Int) : run E jmp fin depth c3 K10 (tJ1 x_0 w sum q r_9 bit) =
    SJ1 (fun x_0 w sum q r_9 bit => jmp (.loop c1 K5) (tL0 x_0 w sum q r_9 bit)) x_0 w sum q r_9 bit := by kernel_rfl
theorem se (jmp : Tgt → ASt → R) (x : (argTy ps).den) : run E jmp fin depth (bodyOf Try.f33) .ret (entryFrom 0 ps x) =
    Se (fun x_0 w sum q r_9 bit => jmp (.loop c1 K5) (tL0 x_0 w sum q r_9 bit)) x.1 x.2.1 x.2.2.1 := by kernel_rfl
noncomputable def L0 (x_0 : Int) (w : Int) (sum : Int) (q : Int) (r_9 : Int) (bit : Int) : R := lim E fin (.loop c1 K5) (tL0 x_0 w sum q r_9 bit)
noncomputable def J1 (x_0 : Int) (w : Int) (sum : Int) (q : Int) (r_9 : Int) (bit : Int) : R := lim E fin (.code c3 K10) (tJ1 x_0 w sum q r_9 bit)
theorem L0_eq (x_0 : Int) (w : Int) (sum : Int) (q : Int) (r_9 : Int) (bit : Int) : L0 x_0 w sum q r_9 bit = SL0 J1 x_0 w sum q r_9 bit :=
  (lim_eq (.loop c1 K5) (tL0 x_0 w sum q r_9 bit)).trans (sL0 (lim E fin) x_0 w sum q r_9 bit)
theorem J1_eq (x_0 : Int) (w : Int) (sum : Int) (q : Int) (r_9 : Int) (bit : Int) : J1 x_0 w sum q r_9 bit = SJ1 L0 x_0 w sum q r_9 bit :=
  (lim_eq (.code c3 K10) (tJ1 x_0 w sum q r_9 bit)).trans (sJ1 (lim E fin) x_0 w sum q r_9 bit)
end ref02_part
noncomputable def ref02_part (x_0 : Int) (w : Int) (sum : Int) : ref02_part.R :=
  ref02_part.Se ref02_part.L0 x_0 w sum
noncomputable def ref02_part.sig : Sig := ⟨ref02_part.ps, ref02_part.rs, fun x => ref02_part x.1 x.2.1 x.2.2.1⟩
theorem ref02_part.ok : CallOK Try.prog 33 ref02_part.sig :=
  callOK_of_lim (E := ref02_part.E) mixed tt_ok ctxOk_nil Try.func33 (by kernel_rfl : Try.f33.body = some (bodyOf Try.f33)) Try.ntmps33 (of_decide_eq_true (by kernel_rfl)) (of_decide_eq_true (by kernel_rfl))
    fun x y h => ((lim_eq (.code (bodyOf Try.f33) .ret) (entryFrom 0 ref02_part.ps x)).trans (ref02_part.se (lim ref02_part.E ref02_part.fin) x)).trans h
theorem ref02_part.val (x : (argTy ref02_part.ps).den) : lim ref02_part.E ref02_part.fin (.code (bodyOf Try.f33) .ret) (entryFrom 0 ref02_part.ps x) = ref02_part.sig.run x :=
  (lim_eq (.code (bodyOf Try.f33) .ret) (entryFrom 0 ref02_part.ps x)).trans (ref02_part.se (lim ref02_part.E ref02_part.fin) x)
noncomputable def ref02_part.ctxc (n : Nat) : List (Nat × Sig) := []
noncomputable def ref02_part.sigc (n : Nat) : Sig := ⟨ref02_part.ps, ref02_part.rs, fun x => runs (withCtx ref02_part.E (ref02_part.ctxc n)) ref02_part.fin n (.code (bodyOf Try.f33) .ret) (entryFrom 0 ref02_part.ps x)⟩
theorem ref02_part.sigc_le (n : Nat) : ∀ x y, (ref02_part.sigc n).run x = some y → ref02_part.sig.run x = some y :=
  fun x y h => (ref02_part.val x).symm.trans (runs_lim (E := ref02_part.E) (c := ref02_part.ctxc n) ctxLe_nil h)

/-! ### guerdon/guerdonref02.greatest -/
namespace ref02_greatest
abbrev ps : List PM := [.pure (.sl (.int .i64))]
abbrev rs : List RM := [.pure (.int .i64)]
abbrev R : Type := Option (Int × Unit)
noncomputable def E : Env := { tt := tt, ctx := [], nt := 33, ann := [(1000003, [(0, .keep), (3, .keep), (4, .keep)])] }
noncomputable def c0 : Code := sub [1, 1, 1] (bodyOf Try.f34)
noncomputable def c1 : Code := sub [1, 1, 0, 1, 0, 0] (bodyOf Try.f34)
noncomputable def K3 : Kont := .seq c0 .ret
noncomputable def K5 : Kont := .blk 0 K3
noncomputable def fin : ASt → R := Kret E Try.f34.results.toList ps rs
def tL0 (rest : List Int) (best : Int) (i : Int) : ASt := ⟨[(4, .one (.val (.int .i64) i)), (3, .one (.val (.int .i64) best)), (0, .one (.val (.sl (.int .i64)) rest))], []⟩
noncomputable def SL0 (kL0 : (List Int) → Int → Int → R) (rest : List Int) (best : Int) (i : Int) : R :=
  cond (decide (i < (rest.length : Int)))
    (Option.bind (idx rest i) fun x1 =>
    cond (decide (x1 > 0))
      (cond (decide (best < 0))
        (kL0 rest i (IntKind.i64.wrap (i + 1)))
        (Option.bind (idx rest i) fun x2 =>
        Option.bind (idx rest best) fun x3 =>
        cond (decide (x2 > x3))
          (kL0 rest i (IntKind.i64.wrap (i + 1)))
          (kL0 rest best (IntKind.i64.wrap (i + 1)))))
      (kL0 rest best (IntKind.i64.wrap (i + 1))))
    (some (best, ()))
noncomputable def Se (kL0 : (List Int) → Int → Int → R) (rest : List Int) : R :=
  kL0 rest (-1) 0
theorem sL0 (jmp : Tgt → ASt → R) (rest : List Int) (best : Int) (i : Int) : run E jmp fin depth c1 (.loop c1 K5) (tL0 rest best i) =
    SL0 (fun rest best i => jmp (.loop c1 K5) (tL0 rest best i)) rest best i := by kernel_rfl
theorem se (jmp : Tgt → ASt → R) (x : (argTy ps).den) : run E jmp fin depth (bodyOf Try.f34) .ret (entryFrom 0 ps x) =
    Se (fun rest best i => jmp (.loop c1 K5) (tL0 rest best i)) x.1 := by kernel_rfl
noncomputable def L0 (rest : List Int) (best : Int) (i : Int) : R := lim E fin (.loop c1 K5) (tL0 rest best i)
theorem L0_eq (rest : List Int) (best : Int) (i : Int) : L0 rest best i = SL0 L0 rest best i :=
  (lim_eq (.loop c1 K5) (tL0 rest best i)).trans (sL0 (lim E fin) rest best i)
end ref02_greatest
noncomputable def ref02_greatest (rest : List Int) : ref02_greatest.R :=
  ref02_greatest.Se ref02_greatest.L0 rest
noncomputable def ref02_greatest.sig : Sig := ⟨ref02_greatest.ps, ref02_greatest.rs, fun x => ref02_greatest x.1⟩
theorem ref02_greatest.ok : CallOK Try.prog 34 ref02_greatest.sig :=
  callOK_of_lim (E := ref02_greatest.E) mixed tt_ok ctxOk_nil Try.func34 (by kernel_rfl : Try.f34.body = some (bodyOf Try.f34)) Try.ntmps34 (of_decide_eq_true (by kernel_rfl)) (of_decide_eq_true (by kernel_rfl))
    fun x y h => ((lim_eq (.code (bodyOf Try.f34) .ret) (entryFrom 0 ref02_greatest.ps x)).trans (ref02_greatest.se (lim ref02_greatest.E ref02_greatest.fin) x)).trans h
theorem ref02_greatest.val (x : (argTy ref02_greatest.ps).den) : lim ref02_greatest.E ref02_greatest.fin (.code (bodyOf Try.f34) .ret) (entryFrom 0 ref02_greatest.ps x) = ref02_greatest.sig.run x :=
  (lim_eq (.code (bodyOf Try.f34) .ret) (entryFrom 0 ref02_greatest.ps x)).trans (ref02_greatest.se (lim ref02_greatest.E ref02_greatest.fin) x)
noncomputable def ref02_greatest.ctxc (n : Nat) : List (Nat × Sig) := []
noncomputable def ref02_greatest.sigc (n : Nat) : Sig := ⟨ref02_greatest.ps, ref02_greatest.rs, fun x => runs (withCtx ref02_greatest.E (ref02_greatest.ctxc n)) ref02_greatest.fin n (.code (bodyOf Try.f34) .ret) (entryFrom 0 ref02_greatest.ps x)⟩
theorem ref02_greatest.sigc_le (n : Nat) : ∀ x y, (ref02_greatest.sigc n).run x = some y → ref02_greatest.sig.run x = some y :=
  fun x y h => (ref02_greatest.val x).symm.trans (runs_lim (E := ref02_greatest.E) (c := ref02_greatest.ctxc n) ctxLe_nil h)

/-! ### guerdon/guerdonref02.Allocate -/
namespace ref02_Allocate
abbrev ps : List PM := [.pure (.int .i64), .pure (.sl (.int .i64))]
abbrev rs : List RM := [.own (.int .i64), .pure (.int .i64)]
abbrev R : Type := Option (List Int × Int × Unit)
noncomputable def E : Env := { tt := tt, ctx := [(20, ref02_Beyond.sig), (21, ref02_Abs.sig), (33, ref02_part.sig), (34, ref02_greatest.sig)], nt := 128, ann := [(1000005, [(0, .keep), (1, .keep), (6, .keep), (7, .keep)]), (1000018, [(0, .keep), (1, .keep), (6, .keep), (8, .keep), (9, .own (.int .i64)), (10, .own (.int .i64)), (11, .keep), (12, .keep)]), (1000025, [(0, .keep), (9, .own (.int .i64)), (10, .own (.int .i64)), (11, .keep)]), (1000033, [(0, .keep), (9, .own (.int .i64)), (16, .keep)]), (35, [(0, .keep), (9, .own (.int .i64)), (16, .keep)])] }
noncomputable def c0 : Code := sub [1, 1, 1, 1] (bodyOf Try.f18)
noncomputable def c1 : Code := sub [1, 1, 1, 1, 1, 1, 1, 1, 1, 1] (bodyOf Try.f18)
noncomputable def c2 : Code := sub [1, 1, 1, 1, 1, 1, 1, 1, 1, 1, 1] (bodyOf Try.f18)
noncomputable def c3 : Code := sub [1, 1, 1, 1, 1, 1, 1, 1, 1, 1, 1, 1] (bodyOf Try.f18)
noncomputable def c4 : Code := sub [1, 1, 1, 1, 1, 1, 1, 1, 1, 1, 1, 0, 1, 0, 0] (bodyOf Try.f18)
noncomputable def c5 : Code := sub [1, 1, 1, 0, 1, 0, 0] (bodyOf Try.f18)
noncomputable def c6 : Code := sub [1, 1, 1, 1, 1, 1, 1, 1, 1, 0, 1, 0, 0] (bodyOf Try.f18)
noncomputable def c7 : Code := sub [1, 1, 1, 1, 1, 1, 1, 1, 1, 1, 0, 0, 0] (bodyOf Try.f18)
noncomputable def c8 : Code := sub [1, 1, 1, 1, 1, 1, 1, 1, 1, 1, 1, 0, 1, 0, 0, 1] (bodyOf Try.f18)
noncomputable def K6 : Kont := .seq c0 .ret
noncomputable def K8 : Kont := .blk 0 K6
noncomputable def K26 : Kont := .seq c1 .ret
noncomputable def K28 : Kont := .blk 2 K26
noncomputable def K38 : Kont := .seq c2 .ret
noncomputable def K39 : Kont := .blk 4 K38
noncomputable def K49 : Kont := .seq c3 .ret
noncomputable def K51 : Kont := .blk 6 K49
noncomputable def K52 : Kont := .loop c4 K51
noncomputable def fin : ASt → R := Kret E Try.f18.results.toList ps rs
def tL0 (c_0 : Int) (weights : List Int) (sum : Int) (i : Int) : ASt := ⟨[(7, .one (.val (.int .i64) i)), (6, .one (.val (.int .i64) sum)), (1, .one (.val (.sl (.int .i64)) weights)), (0, .one (.val (.int .i64) c_0))], []⟩
def tL1 (c_0 : Int) (weights : List Int) (sum : Int) (a : Int) (out : List Int) (rest : List Int) (left : Int) (i : Int) : ASt := ⟨[(12, .one (.val (.int .i64) i)), (11, .one (.val (.int .i64) left)), (10, .one (.own 10)), (9, .one (.own 9)), (8, .one (.val (.int .i64) a)), (6, .one (.val (.int .i64) sum)), (1, .one (.val (.sl (.int .i64)) weights)), (0, .one (.val (.int .i64) c_0))], [(10, some ⟨.free, .int .i64, rest⟩), (9, some ⟨.free, .int .i64, out⟩)]⟩
def tL2 (c_0 : Int) (out : List Int) (rest : List Int) (left : Int) : ASt := ⟨[(11, .one (.val (.int .i64) left)), (10, .one (.own 10)), (9, .one (.own 9)), (0, .one (.val (.int .i64) c_0))], [(10, some ⟨.free, .int .i64, rest⟩), (9, some ⟨.free, .int .i64, out⟩)]⟩
def tL3 (c_0 : Int) (out : List Int) (i : Int) : ASt := ⟨[(16, .one (.val (.int .i64) i)), (9, .one (.own 9)), (0, .one (.val (.int .i64) c_0))], [(9, some ⟨.free, .int .i64, out⟩)]⟩
def tJ4 (c_0 : Int) (out : List Int) (i : Int) : ASt := ⟨[(16, .one (.val (.int .i64) i)), (9, .one (.own 9)), (0, .one (.val (.int .i64) c_0))], [(9, some ⟨.free, .int .i64, out⟩)]⟩
noncomputable def SL0 (kL0 : Int → (List Int) → Int → Int → R) (kL1 : Int → (List Int) → Int → Int → (List Int) → (List Int) → Int → Int → R) (c_0 : Int) (weights : List Int) (sum : Int) (i : Int) : R :=
  cond (decide (i < (weights.length : Int)))
    (Option.bind (idx weights i) fun x1 =>
    cond (decide (x1 < 0))
      (some ([], 3, ()))
      (Option.bind (idx weights i) fun x2 =>
      cond (decide (x2 > 1000000000))
        (some ([], 3, ()))
        (Option.bind (idx weights i) fun x3 =>
        kL0 c_0 weights (IntKind.i64.wrap (sum + x3)) (IntKind.i64.wrap (i + 1)))))
    (cond (decide ((weights.length : Int) > 64))
      (some ([], 4, ()))
      (cond (sum == 0)
        (some ([], 12, ()))
        (Option.bind (ref02_Abs c_0) fun x4 =>
        kL1 c_0 weights sum x4.1 [] [] x4.1 0)))
noncomputable def SL1 (kL1 : Int → (List Int) → Int → Int → (List Int) → (List Int) → Int → Int → R) (kL2 : Int → (List Int) → (List Int) → Int → R) (c_0 : Int) (weights : List Int) (sum : Int) (a : Int) (out : List Int) (rest : List Int) (left : Int) (i : Int) : R :=
  cond (decide (i < (weights.length : Int)))
    (cond (decide (sum = 0))
      none
      (Option.bind (idx weights i) fun x1 =>
      Option.bind (ref02_part (Int.tmod a sum) x1 sum) fun x2 =>
      cond (decide (sum = 0))
        none
        (Option.bind (idx weights i) fun x3 =>
        cond (decide ((out.length + 1) * 8 ≤ room) && decide (0 < Ty.nc (.int .i64)))
          (cond (decide ((rest.length + 1) * 8 ≤ room) && decide (0 < Ty.nc (.int .i64)))
            (kL1 c_0 weights sum a (out ++ [IntKind.i64.wrap (x2.1 + (IntKind.i64.wrap ((IntKind.i64.wrap (Int.tdiv a sum)) * x3)))]) (rest ++ [x2.2.1]) (IntKind.i64.wrap (left - (IntKind.i64.wrap (x2.1 + (IntKind.i64.wrap ((IntKind.i64.wrap (Int.tdiv a sum)) * x3)))))) (IntKind.i64.wrap (i + 1)))
            none)
          none)))
    (kL2 c_0 out rest left)
noncomputable def SL2 (kL2 : Int → (List Int) → (List Int) → Int → R) (kL3 : Int → (List Int) → Int → R) (c_0 : Int) (out : List Int) (rest : List Int) (left : Int) : R :=
  cond (decide (left > 0))
    (Option.bind (ref02_greatest rest) fun x1 =>
    cond (decide (x1.1 < 0))
      (some ([], 1, ()))
      (cond (decide (0 ≤ x1.1) && decide (x1.1 < (out.length : Int)))
        (cond (decide (0 ≤ x1.1) && decide (x1.1 < (out.length : Int)))
          (cond (decide (0 ≤ x1.1) && decide (x1.1 < (rest.length : Int)))
            (kL2 c_0 (out.set x1.1.toNat (IntKind.i64.wrap ((out.getD x1.1.toNat 0) + 1))) (rest.set x1.1.toNat 0) (IntKind.i64.wrap (left - 1)))
            none)
          none)
        none))
    (kL3 c_0 out 0)
noncomputable def SL3 (kJ4 : Int → (List Int) → Int → R) (c_0 : Int) (out : List Int) (i : Int) : R :=
  cond (decide (i < (out.length : Int)))
    (cond (decide (c_0 < 0))
      (kJ4 c_0 out i)
      (some (out, 0, ())))
    (some (out, 0, ()))
noncomputable def SJ4 (kL3 : Int → (List Int) → Int → R) (c_0 : Int) (out : List Int) (i : Int) : R :=
  cond (decide (0 ≤ i) && decide (i < (out.length : Int)))
    (cond (decide (0 ≤ i) && decide (i < (out.length : Int)))
      (kL3 c_0 (out.set i.toNat (IntKind.i64.wrap (0 - (out.getD i.toNat 0)))) (IntKind.i64.wrap (i + 1)))
      none)
    none
noncomputable def Se (kL0 : Int → (List Int) → Int → Int → R) (c_0 : Int) (weights : List Int) : R :=
  Option.bind (ref02_Beyond c_0 1000000000000000) fun x1 =>
  cond x1.1
    (some ([], 3, ()))
    (kL0 c_0 weights 0 0)
theorem sL0 (jmp : Tgt → ASt → R) (c_0 : Int) (weights : List Int) (sum : Int) (i : Int) : run E jmp fin depth c5 (.loop c5 K8) (tL0 c_0 weights sum i) =
    SL0 (fun c_0 weights sum i => jmp (.loop c5 K8) (tL0 c_0 weights sum i)) (fun c_0 weights sum a out rest left i => jmp (.loop c6 K28) (tL1 c_0 weights sum a out rest left i)) c_0 weights sum i := by kernel_rfl
theorem sL1 (jmp : Tgt → ASt → R) (c_0 : Int) (weights : List Int) (sum : Int) (a : Int) (out : List Int) (rest : List Int) (left : Int) (i : Int) : run E jmp fin depth c6 (.loop c6 K28) (tL1 c_0 weights sum a out rest left i) =
    SL1 (fun c_0 weights sum a out rest left i => jmp (.loop c6 K28) (tL1 c_0 weights sum a out rest left i)) (fun c_0 out rest left => jmp (.loop c7 K39) (tL2 c_0 out rest left)) c_0 weights sum a out rest left i := by kernel_rfl
theorem sL2 (jmp : Tgt → ASt → R) (c_0 : Int) (out : List Int) (rest : List Int) (left : Int) : run E jmp fin depth c7 (.loop c7 K39) (tL2 c_0 out rest left) =
    SL2 (fun c_0 out rest left => jmp (.loop c7 K39) (tL2 c_0 out rest left)) (fun c_0 out i => jmp (.loop c4 K51) (tL3 c_0 out i)) c_0 out rest left := by kernel_rfl
theorem sL3 (jmp : Tgt → ASt → R) (c_0 : Int) (out : List Int) (i : Int) : run E jmp fin depth c4 (.loop c4 K51) (tL3 c_0 out i) =
    SL3 (fun c_0 out i => jmp (.code c8 K52) (tJ4 c_0 out i)) c_0 out i := by kernel_rfl
theorem sJ4 (jmp : Tgt → ASt → R) (c_0 : Int) (out : List Int) (i : Int) : run E jmp fin depth c8 K52 (tJ4 c_0 out i) =
    SJ4 (fun c_0 out i => jmp (.loop c4 K51) (tL3 c_0 out i)) c_0 out i := by kernel_rfl
theorem se (jmp : Tgt → ASt → R) (x : (argTy ps).den) : run E jmp fin depth (bodyOf Try.f18) .ret (entryFrom 0 ps x) =
    Se (fun c_0 weights sum i => jmp (.loop c5 K8) (tL0 c_0 weights sum i)) x.1 x.2.1 := by kernel_rfl
noncomputable def L0 (c_0 : Int) (weights : List Int) (sum : Int) (i : Int) : R := lim E fin (.loop c5 K8) (tL0 c_0 weights sum i)
noncomputable def L1 (c_0 : Int) (weights : List Int) (sum : Int) (a : Int) (out : List Int) (rest : List Int) (left : Int) (i : Int) : R := lim E fin (.loop c6 K28) (tL1 c_0 weights sum a out rest left i)
noncomputable def L2 (c_0 : Int) (out : List Int) (rest : List Int) (left : Int) : R := lim E fin (.loop c7 K39) (tL2 c_0 out rest left)
noncomputable def L3 (c_0 : Int) (out : List Int) (i : Int) : R := lim E fin (.loop c4 K51) (tL3 c_0 out i)
noncomputable def J4 (c_0 : Int) (out : List Int) (i : Int) : R := lim E fin (.code c8 K52) (tJ4 c_0 out i)
theorem L0_eq (c_0 : Int) (weights : List Int) (sum : Int) (i : Int) : L0 c_0 weights sum i = SL0 L0 L1 c_0 weights sum i :=
  (lim_eq (.loop c5 K8) (tL0 c_0 weights sum i)).trans (sL0 (lim E fin) c_0 weights sum i)
theorem L1_eq (c_0 : Int) (weights : List Int) (sum : Int) (a : Int) (out : List Int) (rest : List Int) (left : Int) (i : Int) : L1 c_0 weights sum a out rest left i = SL1 L1 L2 c_0 weights sum a out rest left i :=
  (lim_eq (.loop c6 K28) (tL1 c_0 weights sum a out rest left i)).trans (sL1 (lim E fin) c_0 weights sum a out rest left i)
theorem L2_eq (c_0 : Int) (out : List Int) (rest : List Int) (left : Int) : L2 c_0 out rest left = SL2 L2 L3 c_0 out rest left :=
  (lim_eq (.loop c7 K39) (tL2 c_0 out rest left)).trans (sL2 (lim E fin) c_0 out rest left)
theorem L3_eq (c_0 : Int) (out : List Int) (i : Int) : L3 c_0 out i = SL3 J4 c_0 out i :=
  (lim_eq (.loop c4 K51) (tL3 c_0 out i)).trans (sL3 (lim E fin) c_0 out i)
theorem J4_eq (c_0 : Int) (out : List Int) (i : Int) : J4 c_0 out i = SJ4 L3 c_0 out i :=
  (lim_eq (.code c8 K52) (tJ4 c_0 out i)).trans (sJ4 (lim E fin) c_0 out i)
end ref02_Allocate
noncomputable def ref02_Allocate (c_0 : Int) (weights : List Int) : ref02_Allocate.R :=
  ref02_Allocate.Se ref02_Allocate.L0 c_0 weights
noncomputable def ref02_Allocate.sig : Sig := ⟨ref02_Allocate.ps, ref02_Allocate.rs, fun x => ref02_Allocate x.1 x.2.1⟩
theorem ref02_Allocate.ok : CallOK Try.prog 18 ref02_Allocate.sig :=
  callOK_of_lim (E := ref02_Allocate.E) mixed tt_ok (ctxOk_cons (ctxOk_cons (ctxOk_cons (ctxOk_cons ctxOk_nil ref02_greatest.ok Try.func34 (by kernel_rfl) (by kernel_rfl)) ref02_part.ok Try.func33 (by kernel_rfl) (by kernel_rfl)) ref02_Abs.ok Try.func21 (by kernel_rfl) (by kernel_rfl)) ref02_Beyond.ok Try.func20 (by kernel_rfl) (by kernel_rfl)) Try.func18 (by kernel_rfl : Try.f18.body = some (bodyOf Try.f18)) Try.ntmps18 (of_decide_eq_true (by kernel_rfl)) (of_decide_eq_true (by kernel_rfl))
    fun x y h => ((lim_eq (.code (bodyOf Try.f18) .ret) (entryFrom 0 ref02_Allocate.ps x)).trans (ref02_Allocate.se (lim ref02_Allocate.E ref02_Allocate.fin) x)).trans h
theorem ref02_Allocate.val (x : (argTy ref02_Allocate.ps).den) : lim ref02_Allocate.E ref02_Allocate.fin (.code (bodyOf Try.f18) .ret) (entryFrom 0 ref02_Allocate.ps x) = ref02_Allocate.sig.run x :=
  (lim_eq (.code (bodyOf Try.f18) .ret) (entryFrom 0 ref02_Allocate.ps x)).trans (ref02_Allocate.se (lim ref02_Allocate.E ref02_Allocate.fin) x)
noncomputable def ref02_Allocate.ctxc (n : Nat) : List (Nat × Sig) := [(20, ref02_Beyond.sigc n), (21, ref02_Abs.sigc n), (33, ref02_part.sigc n), (34, ref02_greatest.sigc n)]
noncomputable def ref02_Allocate.sigc (n : Nat) : Sig := ⟨ref02_Allocate.ps, ref02_Allocate.rs, fun x => runs (withCtx ref02_Allocate.E (ref02_Allocate.ctxc n)) ref02_Allocate.fin n (.code (bodyOf Try.f18) .ret) (entryFrom 0 ref02_Allocate.ps x)⟩
theorem ref02_Allocate.sigc_le (n : Nat) : ∀ x y, (ref02_Allocate.sigc n).run x = some y → ref02_Allocate.sig.run x = some y :=
  fun x y h => (ref02_Allocate.val x).symm.trans (runs_lim (E := ref02_Allocate.E) (c := ref02_Allocate.ctxc n) (ctxLe_cons (ctxLe_cons (ctxLe_cons (ctxLe_cons ctxLe_nil (ref02_greatest.sigc_le n)) (ref02_part.sigc_le n)) (ref02_Abs.sigc_le n)) (ref02_Beyond.sigc_le n)) h)

end Go.Proofs.Ytkhmefingpocpaa
