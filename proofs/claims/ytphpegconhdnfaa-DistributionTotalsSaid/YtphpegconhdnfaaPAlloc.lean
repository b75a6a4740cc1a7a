import Derived.Test.YtphpegconhdnfaaPSortP
set_option maxRecDepth 100000
set_option linter.unusedVariables false
set_option linter.unusedSimpArgs false
namespace Go.Proofs.Ytphpegconhdnfaa
open Go Go.Lift
theorem cd_3 {p q r : Prop} [Decidable p] [Decidable q] [Decidable r] {α : Type} {A B : α} (hp : p) (hq : q) (hr : r) : cond (decide p && (decide q && decide r)) A B = A := by simp [hp, hq, hr]
theorem part_loop {x w S : Int} (hx0 : 0 ≤ x) (hx : x < S) (hS : S ≤ 100000000000) (hw0 : 0 ≤ w) (hw : w ≤ 1073741823) : ∀ (e : Nat) (q r : Int), e ≤ 31 → x * (w / 2 ^ e) = q * S + r → 0 ≤ r → r < S → 0 ≤ q →
    ref02_part.L0 x w S q r (if e = 0 then 0 else 2 ^ (e - 1)) = some (x * w / S, x * w % S, ())
  | 0, q, r, he, h, h1, h2, h3 => by
    rw [if_pos rfl, ref02_part.L0_eq, ref02_part.SL0, cd_f (by omega)]
    rw [Int.pow_zero, Int.ediv_one] at h
    rw [h]
    have e1 : (q * S + r) / S = q := by rw [Int.add_comm, Int.add_mul_ediv_right _ _ (by omega), Int.ediv_eq_zero_of_lt h1 h2]; omega
    have e2 : (q * S + r) % S = r := by rw [Int.add_comm, Int.add_mul_emod_self_right, Int.emod_eq_of_lt h1 h2]
    rw [e1, e2]
  | e + 1, q, r, he, h, h1, h2, h3 => by
    rw [if_neg (by omega), Nat.add_sub_cancel]
    have hcast : (2 : Int) ^ e = ((2 ^ e : Nat) : Int) := by simp
    have hp : (1 : Int) ≤ 2 ^ e := by
      have : 0 < 2 ^ e := Nat.pos_of_ne_zero (by simp)
      rw [hcast]; omega
    have hp2 : (2 : Int) ^ e ≤ 1073741824 := by
      have h5 : 2 ^ e ≤ 2 ^ 30 := Nat.pow_le_pow_right (by omega) (by omega)
      have e30 : (2 : Nat) ^ 30 = 1073741824 := by decide
      rw [hcast]; omega
    have hd : w / 2 ^ (e + 1) = w / 2 ^ e / 2 := by rw [Int.pow_succ, Int.ediv_ediv_of_nonneg (by omega)]
    rw [hd] at h
    have hW0 : 0 ≤ w / 2 ^ e := Int.ediv_nonneg hw0 (by omega)
    have hW1 : w / 2 ^ e ≤ w := Int.ediv_le_self _ hw0
    have hnext : Int.tdiv (2 ^ e) 2 = (if e = 0 then 0 else 2 ^ (e - 1)) := by
      rw [tdiv_pos (by omega)]
      by_cases c : e = 0
      · rw [if_pos c, c]; rfl
      · rw [if_neg c]
        obtain ⟨k, rfl⟩ : ∃ k, e = k + 1 := ⟨e - 1, by omega⟩
        rw [Int.pow_succ, Int.mul_ediv_cancel _ (by omega), Nat.add_sub_cancel]
    have hq : q ≤ w / 2 ^ e / 2 := by
      have : q * S ≤ (w / 2 ^ e / 2) * S := by
        have h4 : x * (w / 2 ^ e / 2) ≤ S * (w / 2 ^ e / 2) := Int.mul_le_mul_of_nonneg_right (by omega) (by omega)
        rw [Int.mul_comm (w / 2 ^ e / 2) S]
        omega
      exact Int.le_of_mul_le_mul_right this (by omega)
    generalize hV : w / 2 ^ e = V at *
    have key : ∀ b : Int, (b = 0 ∨ b = 1) → V = 2 * (V / 2) + b → ref02_part.J1 x w S (IntKind.i64.wrap (2 * q)) (2 * r + b * x) (2 ^ e) = some (x * w / S, x * w % S, ()) := by
      intro b hb hVb
      have hbx : b * x = 0 ∨ b * x = x := by rcases hb with rfl | rfl <;> simp
      have t0 : 0 ≤ 2 * r + b * x := by rcases hbx with g | g <;> omega
      have t1 : 2 * r + b * x < 3 * S := by rcases hbx with g | g <;> omega
      have d0 : 0 ≤ (2 * r + b * x) / S := Int.ediv_nonneg t0 (by omega)
      have d1 : (2 * r + b * x) / S < 3 := Int.ediv_lt_of_lt_mul (by omega) t1
      rw [ref02_part.J1_eq, ref02_part.SJ1, cd_f (by omega), cd_f (by omega), tdiv_pos t0, tmod_pos t0, hnext, wrap64 (n := 2 * q) (by omega) (by omega), wrap64 (n := (2 * r + b * x) / S) (by omega) (by omega), wrap64 (n := 2 * q + _) (by omega) (by omega)]
      have hb2 : IntKind.i64.wrap (if e = 0 then 0 else 2 ^ (e - 1)) = (if e = 0 then 0 else 2 ^ (e - 1)) := by
        rw [← hnext, tdiv_pos (by omega), wrap64 (by omega) (by omega)]
      rw [hb2]
      refine part_loop hx0 hx hS hw0 hw e _ _ (by omega) ?_ (Int.emod_nonneg _ (by omega)) (Int.emod_lt_of_pos _ (by omega)) (by omega)
      rw [hV]
      have e3 := Int.emod_add_mul_ediv (2 * r + b * x) S
      have e4 : x * V = 2 * (x * (V / 2)) + b * x := by
        rw [hVb, Int.mul_add, Int.mul_left_comm, Int.mul_comm x b]
        have : (2 * (V / 2) + b) / 2 = V / 2 := by omega
        rw [this]
      rw [e4, h]
      grind
    rw [ref02_part.L0_eq, ref02_part.SL0, cd_t (by omega), cd_f (by omega), tdiv_pos hw0, hV, wrap64 (n := V) (by omega) (by omega), tmod_pos hW0, wrap64 (n := 2 * r) (by omega) (by omega)]
    by_cases c : V % 2 = 1
    · rw [c]
      have := key 1 (.inr rfl) (by omega)
      rw [Int.one_mul] at this
      rw [wrap64 (n := 2 * r + x) (by omega) (by omega)]
      exact this
    · rw [show ((V % 2) == 1) = false from beq_eq_false_iff_ne.2 c]
      have := key 0 (.inl rfl) (by omega)
      rw [Int.zero_mul, Int.add_zero] at this
      exact this
theorem part_val {x w S : Int} (hx0 : 0 ≤ x) (hx : x < S) (hS : S ≤ 100000000000) (hw0 : 0 ≤ w) (hw : w ≤ 1000000000) : ref02_part x w S = some (x * w / S, x * w % S, ()) := by
  simp only [ref02_part, ref02_part.Se]
  have := part_loop hx0 hx hS hw0 (by omega : w ≤ 1073741823) 31 0 0 (by omega) (by
    rw [Int.ediv_eq_zero_of_lt hw0 (by have : (2 : Int) ^ 31 = 2147483648 := by decide
                                       omega)]; simp) (by omega) (by omega) (by omega)
  exact this
section
variable (A S : Int)
/-- The whole shares. -/
def qs (W : List Int) : List Int := W.map (fun w => A * w / S)
/-- The rests. -/
def rs (W : List Int) : List Int := W.map (fun w => A * w % S)
/-- The parts that are sorted. -/
def parts : Nat → List Int → List money_partV
  | _, [] => []
  | k, w :: W => ((k : Int), A * w % S, ()) :: parts (k + 1) W
theorem parts_length : ∀ (W : List Int) (k : Nat), (parts A S k W).length = W.length
  | [], _ => rfl
  | w :: W, k => by simp [parts, parts_length W]
theorem parts_get : ∀ (W : List Int) (k i : Nat) (h : i < W.length), (parts A S k W)[i]? = some (((k + i : Nat) : Int), A * W[i] % S, ())
  | w :: W, k, 0, h => by simp [parts]
  | w :: W, k, i + 1, h => by
    rw [parts, List.getElem?_cons_succ, parts_get W (k + 1) i (by simpa using h)]
    simp [Nat.add_assoc, Nat.add_comm 1 i]
theorem parts_snoc : ∀ (W : List Int) (k : Nat) (w : Int), parts A S k (W ++ [w]) = parts A S k W ++ [(((k + W.length : Nat) : Int), A * w % S, ())]
  | [], k, w => by simp [parts]
  | v :: W, k, w => by simp [parts, parts_snoc W, Nat.add_assoc, Nat.add_comm 1]
theorem sum_split : ∀ W : List Int, S * (qs A S W).sum + (rs A S W).sum = A * W.sum
  | [] => by simp [qs, rs]
  | w :: W => by
    have h := sum_split W
    have e := Int.emod_add_mul_ediv (A * w) S
    simp only [qs, rs, List.map_cons, List.sum_cons] at h ⊢
    grind
theorem rs_bounds (hS : 0 < S) : ∀ W : List Int, 0 ≤ (rs A S W).sum ∧ (rs A S W).sum ≤ W.length * (S - 1)
  | [] => by simp [rs]
  | w :: W => by
    have h := rs_bounds hS W
    have e1 := Int.emod_nonneg (A * w) (show S ≠ 0 by omega)
    have e2 := Int.emod_lt_of_pos (A * w) hS
    simp only [rs, List.map_cons, List.sum_cons, List.length_cons] at h ⊢
    have : ((W.length + 1 : Nat) : Int) * (S - 1) = W.length * (S - 1) + (S - 1) := by
      rw [Int.natCast_add, Int.add_mul]; simp
    omega
theorem qs_nonneg (hA : 0 ≤ A) (hS : 0 < S) : ∀ W : List Int, (∀ w ∈ W, 0 ≤ w) → 0 ≤ (qs A S W).sum
  | [], _ => by simp [qs]
  | w :: W, h => by
    have h1 := qs_nonneg hA hS W (fun v hv => h v (List.mem_cons_of_mem _ hv))
    have := Int.ediv_nonneg (Int.mul_nonneg hA (h w (List.mem_cons_self ..))) (show 0 ≤ S by omega)
    simp only [qs, List.map_cons, List.sum_cons] at h1 ⊢
    omega
theorem qs_append (a b : List Int) : (qs A S (a ++ b)).sum = (qs A S a).sum + (qs A S b).sum := by
  simp [qs]
theorem q_le {w : Int} (hA : 0 ≤ A) (hS : 0 < S) (hw0 : 0 ≤ w) (hw : w ≤ S) : 0 ≤ A * w / S ∧ A * w / S ≤ A := by
  refine ⟨Int.ediv_nonneg (Int.mul_nonneg hA hw0) (by omega), ?_⟩
  have : A * w / S < A + 1 := Int.ediv_lt_of_lt_mul hS (by
    have := Int.mul_le_mul_of_nonneg_left hw hA
    rw [Int.add_mul]; omega)
  omega
end
theorem sum_mem_le : ∀ (W : List Int), (∀ w ∈ W, 0 ≤ w) → 0 ≤ W.sum ∧ ∀ w ∈ W, w ≤ W.sum
  | [], _ => by simp
  | v :: W, h => by
    obtain ⟨h1, h2⟩ := sum_mem_le W (fun w hw => h w (List.mem_cons_of_mem _ hw))
    have h3 := h v (List.mem_cons_self ..)
    simp only [List.sum_cons]
    refine ⟨by omega, fun w hw => ?_⟩
    rcases List.mem_cons.1 hw with rfl | hw
    · omega
    · have := h2 w hw; omega
theorem sum_le_of : ∀ (W : List Int), (∀ w ∈ W, w ≤ 1000000000) → W.sum ≤ W.length * 1000000000
  | [], _ => by simp
  | v :: W, h => by
    have := sum_le_of W (fun w hw => h w (List.mem_cons_of_mem _ hw))
    have := h v (List.mem_cons_self ..)
    simp only [List.sum_cons, List.length_cons]
    omega
/-- What a split needs of the amount and the weights. -/
structure Fair (A S : Int) (W : List Int) : Prop where
  a0 : 0 ≤ A
  a1 : A ≤ 1000000000000000
  w0 : ∀ w ∈ W, 0 ≤ w
  w1 : ∀ w ∈ W, w ≤ 1000000000
  len : W.length ≤ 64
  sum : W.sum = S
  pos : 0 < S
theorem Fair.s1 {A S : Int} {W : List Int} (f : Fair A S W) : S ≤ 64000000000 := by
  have := sum_le_of W f.w1
  have := f.sum
  have := f.len
  omega
theorem Fair.le {A S : Int} {W : List Int} (f : Fair A S W) : ∀ w ∈ W, w ≤ S := by
  rw [← f.sum]; exact (sum_mem_le W f.w0).2
/-- What is left over: at least nothing, and less than there are parts. -/
theorem Fair.left {A S : Int} {W : List Int} (f : Fair A S W) : (rs A S W).sum = S * (A - (qs A S W).sum) ∧ 0 ≤ A - (qs A S W).sum ∧ A - (qs A S W).sum ≤ W.length := by
  have e := sum_split A S W
  rw [f.sum] at e
  have h := rs_bounds A S f.pos W
  have e2 : (rs A S W).sum = S * (A - (qs A S W).sum) := by rw [Int.mul_sub, Int.mul_comm S A]; omega
  refine ⟨e2, ?_, ?_⟩
  · rw [e2] at h
    exact Int.nonneg_of_mul_nonneg_right h.1 f.pos
  · have h2 : S * (A - (qs A S W).sum) ≤ S * W.length := by
      rw [← e2]
      have : (W.length : Int) * (S - 1) = S * W.length - W.length := by rw [Int.mul_sub, Int.mul_comm]; omega
      omega
    exact Int.le_of_mul_le_mul_left h2 f.pos
theorem set_mid {α : Type} (pre : List α) (x y : α) (rest : List α) : (pre ++ x :: rest).set pre.length y = pre ++ y :: rest := by
  simp
theorem shares_L0 {A S : Int} {W : List Int} (f : Fair A S W) : ∀ (rest pre : List Int), W = pre ++ rest →
    money_shares.L0 A S (qs A S pre ++ List.replicate rest.length 0) (parts A S 0 pre ++ List.replicate rest.length (0, 0, ())) (A - (qs A S pre).sum) W (W.length : Int) (pre.length : Int) =
      money_shares.L0 A S (qs A S W) (parts A S 0 W) (A - (qs A S W).sum) W (W.length : Int) (W.length : Int)
  | [], pre, h => by
    rw [List.append_nil] at h
    subst h
    simp
  | w :: rest, pre, h => by
    have hm : w ∈ W := by rw [h]; simp
    have w0 := f.w0 w hm
    have w1 := f.le w hm
    have w2 := f.w1 w hm
    have s1 := f.s1
    have a0 := f.a0; have a1 := f.a1; have pos := f.pos
    have hlen : W.length = pre.length + (rest.length + 1) := by rw [h]; simp
    have hl := f.len
    obtain ⟨q0, q1⟩ := q_le A S a0 pos w0 w1
    have hsum : (qs A S pre).sum + A * w / S ≤ A := by
      have h1 := f.left.2.1
      rw [h, qs_append] at h1
      have h2 := qs_nonneg A S a0 pos rest (fun v hv => f.w0 v (by rw [h]; simp [hv]))
      simp only [qs, List.map_cons, List.sum_cons] at h1 h2 ⊢
      omega
    have hq0 := qs_nonneg A S a0 pos pre (fun v hv => f.w0 v (by rw [h]; simp [hv]))
    have m0 : 0 ≤ A * w := Int.mul_nonneg a0 w0
    have m1 : A * w ≤ 1000000000000000 * S := Int.mul_le_mul a1 w1 w0 (by omega)
    rw [money_shares.L0_eq, money_shares.SL0, cd_t (by omega)]
    have hidx : idx W (pre.length : Int) = some w := by rw [h]; exact idx_mid ..
    rw [hidx, bind_some', wrapU (n := w) w0 (by omega), Mul64_val a0 (by omega) w0 (by omega), bind_some']
    simp only
    rw [Div64_val (by omega) (by omega) (by omega) (by omega) (by omega), bind_some']
    have e1 : A * w / 18446744073709551616 * 18446744073709551616 + A * w % 18446744073709551616 = A * w := by omega
    simp only [e1, Int.toNat_natCast]
    have lq : (qs A S pre).length = pre.length := by simp [qs]
    have lp := parts_length A S pre 0
    rw [cd_b (by omega) (by simp [lq]; omega), cd_b (by omega) (by simp [lp]; omega), wrap64 (n := A * w / S) (by omega) (by omega), wrapU (n := A - (qs A S pre).sum - A * w / S) (by omega) (by omega), wrap_succ (by omega)]
    have g := shares_L0 f rest (pre ++ [w]) (by rw [h]; simp)
    rw [← g, len_snoc]
    have eq1 : qs A S (pre ++ [w]) = qs A S pre ++ [A * w / S] := by simp [qs]
    have eq2 : parts A S 0 (pre ++ [w]) = parts A S 0 pre ++ [((pre.length : Int), A * w % S, ())] := by rw [parts_snoc]; simp
    have s2 : (qs A S pre ++ List.replicate (w :: rest).length 0).set pre.length (A * w / S) = qs A S (pre ++ [w]) ++ List.replicate rest.length 0 := by
      rw [eq1, List.length_cons, List.replicate_succ, ← lq, set_mid]; simp
    have s3 : (parts A S 0 pre ++ List.replicate (w :: rest).length (0, 0, ())).set pre.length ((pre.length : Int), A * w % S, ()) = parts A S 0 (pre ++ [w]) ++ List.replicate rest.length (0, 0, ()) := by
      rw [eq2, List.length_cons, List.replicate_succ]
      have := set_mid (parts A S 0 pre) (0, 0, ()) ((pre.length : Int), A * w % S, ()) (List.replicate rest.length (0, 0, ()))
      rw [lp] at this
      rw [this]; simp
    rw [s2, s3]
    congr 1
    rw [eq1]; simp; omega
end Go.Proofs.Ytphpegconhdnfaa
