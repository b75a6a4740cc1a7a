import Derived.Test.YtphpegconhdnfaaPAlloc4
set_option maxRecDepth 100000
set_option linter.unusedVariables false
set_option linter.unusedSimpArgs false
namespace Go.Proofs.Ytphpegconhdnfaa
open Go Go.Lift
def ones (n : Nat) : List Int := List.replicate n 1
theorem rep_copy (n k : Nat) (h1 : 1 ≤ k) (h : k ≤ n) : (ones k ++ List.replicate (n - k) (0 : Int)).take k ++ (((ones k ++ List.replicate (n - k) (0 : Int)).take k).take (n - k) ++ (ones k ++ List.replicate (n - k) (0 : Int)).drop (k + min (n - k) ((ones k ++ List.replicate (n - k) (0 : Int)).take k).length)) =
    ones (k + min (n - k) k) ++ List.replicate (n - (k + min (n - k) k)) 0 := by
  have lk : (ones k).length = k := by simp [ones]
  have t1 : (ones k ++ List.replicate (n - k) (0 : Int)).take k = ones k := by
    rw [List.take_append_of_le_length (by omega), List.take_of_length_le (by omega)]
  rw [t1, lk]
  have t2 : (ones k).take (n - k) = ones (min (n - k) k) := by simp [ones, List.take_replicate]
  have t3 : (ones k ++ List.replicate (n - k) (0 : Int)).drop (k + min (n - k) k) = List.replicate (n - (k + min (n - k) k)) 0 := by
    rw [List.drop_append, List.drop_of_length_le (by omega), lk, List.drop_replicate, List.nil_append]
    congr 1
    omega
  rw [t2, t3, ← List.append_assoc]
  congr 1
  simp [ones, List.replicate_append_replicate]
theorem repeat_L2 (n : Nat) (hn : n ≤ 1000) : ∀ (d k : Nat), n - k ≤ d → 1 ≤ k → k ≤ n → slices_Repeat_int_int.L2 (ones k ++ List.replicate (n - k) 0) (k : Int) = some (ones n, ()) := by
  have len : ∀ k, k ≤ n → (ones k ++ List.replicate (n - k) (0 : Int)).length = n := fun k hk => by simp [ones]; omega
  intro d
  induction d with
  | zero =>
    intro k h h1 h2
    have : k = n := by omega
    subst this
    rw [slices_Repeat_int_int.L2_eq, slices_Repeat_int_int.SL2, cd_f (by rw [len k (by omega)]; omega)]
    simp
  | succ d ih =>
    intro k h h1 h2
    by_cases g : k < n
    · rw [slices_Repeat_int_int.L2_eq, slices_Repeat_int_int.SL2, cd_t (by rw [len k (by omega)]; omega), cd_3 (by omega) (by rw [len k h2]; omega) (by omega), cd_3 (by omega) (by omega) (by rw [len k h2]; omega)]
      simp only [Int.toNat_natCast]
      rw [len k h2, rep_copy n k h1 h2]
      have e : ((ones k ++ List.replicate (n - k) (0 : Int)).take k).length = k := by
        rw [List.length_take, len k h2]; omega
      rw [e, wrap64 (by omega) (by omega), ← Int.natCast_add]
      exact ih (k + min (n - k) k) (by omega) (by omega) (by omega)
    · exact ih k (by omega) h1 h2
theorem repeat_val (n : Nat) (h1 : 1 ≤ n) (hn : n ≤ 1000) : slices_Repeat_int_int [1] (n : Int) = some (ones n, ()) := by
  simp only [slices_Repeat_int_int, slices_Repeat_int_int.Se]
  rw [cd_f (by omega), slices_Repeat_int_int.J0_eq, slices_Repeat_int_int.SJ0]
  simp only [math_bits_Mul, math_bits_Mul.Se, List.length_singleton]
  rw [wrapU (n := ((1 : Nat) : Int)) (by omega) (by omega), wrapU (n := (n : Int)) (by omega) (by omega), Mul64_val (by omega) (by omega) (by omega) (by omega)]
  simp only [bind_some']
  rw [cd_f (by omega), cd_f (by omega), slices_Repeat_int_int.J1_eq, slices_Repeat_int_int.SJ1]
  have e : ((1 : Nat) : Int) * (n : Int) % 18446744073709551616 = (n : Int) := by omega
  rw [e, wrap64 (n := (n : Int)) (by omega) (by omega)]
  rw [decide_eq_true (show (0 : Int) ≤ (n : Int) by omega), decide_eq_true (Int.le_refl _), decide_eq_true (show (n : Int) * 8 ≤ room by rw [room_eq]; omega), decide_eq_true (show (n : Int) ≤ maxLen by rw [maxLen_eq]; omega)]
  have l := repeat_L2 n hn n 1 (by omega) (by omega) h1
  rw [← l]
  simp only [Int.toNat_natCast, List.length_replicate, List.take_zero, List.nil_append, List.length_singleton]
  show slices_Repeat_int_int.L2 (List.take n [1] ++ List.drop (0 + min n 1) (List.replicate n 0)) ((min n 1 : Nat) : Int) = slices_Repeat_int_int.L2 (ones 1 ++ List.replicate (n - 1) 0) ((1 : Nat) : Int)
  have m : min n 1 = 1 := by omega
  have t : List.take n [(1 : Int)] = ones 1 := by rw [List.take_of_length_le (by simpa using h1)]; rfl
  rw [m, t, Nat.zero_add, List.drop_replicate]
/-- The allocation succeeds. -/
theorem alloc_fair {c : Int} (hc1 : -1000000000000000 ≤ c) (hc2 : c ≤ 1000000000000000) (W : List Int) (hl : W.length ≤ 64) (c2 : okW W) (c4 : W.sum ≠ 0) :
    ∃ P S, Fair (c.natAbs : Int) S W ∧ Sorted (c.natAbs : Int) S W P ∧ money_Allocate c W = some (fin c (dealt (c.natAbs : Int) S W P), 0, ()) ∧ ref02_Allocate c W = some (fin c (dealt (c.natAbs : Int) S W P), 0, ()) := by
  simp only [money_Allocate, money_Allocate.Se, ref02_Allocate, ref02_Allocate.Se, money_abs_val (show -9223372036854775808 ≤ c by omega) (show c ≤ 9223372036854775807 by omega), bind_some']
  rw [ref02_Beyond_val (by omega) (by omega)]
  simp only [bind_some']
  rw [cd_f (show ¬ (c.natAbs : Int) > 1000000000000000 by omega), decide_eq_false (by omega), cond_false]
  have a := alloc_L0 c W (by omega) W [] rfl
  have b := ralloc_L0 c W (by omega) W [] rfl (by simp [okW])
  have a' : money_Allocate.L0 c W W (W.length : Int) 0 = if okW W then money_Allocate.L0 c W W (W.length : Int) (W.length : Int) else some ([], 3, ()) := a
  have b' : ref02_Allocate.L0 c W 0 0 = if okW W then ref02_Allocate.L0 c W W.sum (W.length : Int) else some ([], 3, ()) := b
  rw [a', b', if_pos c2, if_pos c2, money_Allocate.L0_eq, money_Allocate.SL0, cd_f (show ¬ (W.length : Int) < (W.length : Int) by omega), ref02_Allocate.L0_eq, ref02_Allocate.SL0, cd_f (show ¬ (W.length : Int) < (W.length : Int) by omega)]
  rw [cd_f (show ¬ (W.length : Int) > 64 by omega), cd_f (show ¬ (W.length : Int) > 64 by omega)]
  have s := alloc_L1 c W (by omega) c2 W [] rfl
  have s' : money_Allocate.L1 c W 0 W (W.length : Int) 0 = money_Allocate.L1 c W W.sum W (W.length : Int) (W.length : Int) := s
  rw [s', money_Allocate.L1_eq, money_Allocate.SL1, cd_f (by omega)]
  have s0 := (sum_mem_le W (fun v hv => (c2 v hv).1)).1
  rw [beq_eq_false_iff_ne.2 c4, cond_false, cond_false, ref02_Abs_val (by omega) (by omega)]
  simp only [money_abs_val (show -9223372036854775808 ≤ c by omega) (show c ≤ 9223372036854775807 by omega), bind_some']
  have f : Fair (c.natAbs : Int) W.sum W := ⟨by omega, by omega, fun w hw => (c2 w hw).1, fun w hw => (c2 w hw).2, by omega, rfl, by omega⟩
  obtain ⟨P, hP, hS⟩ := sort_parts f
  refine ⟨P, W.sum, f, hS, ?_, ?_⟩
  · rw [shares_val f hS hP, bind_some']
    unfold fin
    by_cases c5 : c < 0
    · rw [cd_t c5, if_pos c5]
      exact neg_loop (dealt _ _ W P) [] (by simp [dealt_length]; omega) (dealt_bound f hS)
    · rw [cd_f c5, if_neg c5]
  · rw [ref_val f hS c, ref_fin f hS c]
/-- m values dealt to n groups. -/
theorem sizes (m n : Nat) (hm : m ≤ 1000) (h1 : 1 ≤ n) (hn : n ≤ 64) : ∃ z : List Int, money_Allocate (m : Int) (ones n) = some (z, 0, ()) ∧ ref02_Allocate (m : Int) (ones n) = some (z, 0, ()) ∧ z.length = n ∧ z.sum = (m : Int) ∧ ∀ x ∈ z, 0 ≤ x := by
  have hs : (ones n).sum = (n : Int) := by
    unfold ones
    have : ∀ k : Nat, (List.replicate k (1 : Int)).sum = (k : Int) := by
      intro k
      induction k with
      | zero => rfl
      | succ k ih => rw [List.replicate_succ, List.sum_cons, ih]; omega
    exact this n
  obtain ⟨P, S, f, hS, e1, e2⟩ := alloc_fair (c := (m : Int)) (by omega) (by omega) (ones n) (by simp [ones]; omega) (fun w hw => by rw [(List.mem_replicate.1 hw).2]; omega) (by rw [hs]; omega)
  have ef : fin (m : Int) (dealt (((m : Int).natAbs : Nat) : Int) S (ones n) P) = dealt (((m : Int).natAbs : Nat) : Int) S (ones n) P := by
    unfold fin; rw [if_neg (by omega)]
  rw [ef] at e1 e2
  have ln : (ones n).length = n := by simp [ones]
  refine ⟨_, e1, e2, by rw [dealt_length, ln], by rw [dealt_sum f hS]; omega, fun x hx => ?_⟩
  obtain ⟨i, hi, rfl⟩ := List.mem_iff_getElem.1 hx
  have hi' : i < (ones n).length := by rw [dealt_length] at hi; exact hi
  have := (share_range f hS hi').1
  rw [getD_nat hi] at this
  exact this
/-- Sums of consecutive parts. -/
def chk : List Int → List Int → List Int
  | [], _ => []
  | z :: zs, r => (r.take z.toNat).sum :: chk zs (r.drop z.toNat)
theorem chk_length : ∀ (zs r : List Int), (chk zs r).length = zs.length := by
  intro zs
  induction zs with
  | nil => intro r; rfl
  | cons z zs ih => intro r; simp [chk, ih]
theorem chk_sum : ∀ (zs r : List Int), (∀ z ∈ zs, 0 ≤ z) → zs.sum = (r.length : Int) → (chk zs r).sum = r.sum := by
  intro zs
  induction zs with
  | nil =>
    intro r _ h
    have : r = [] := List.length_eq_zero_iff.1 (by simp at h; omega)
    subst this; rfl
  | cons z zs ih =>
    intro r h0 h
    have hz := h0 z List.mem_cons_self
    have hs := (sum_mem_le zs (fun y hy => h0 y (List.mem_cons_of_mem _ hy))).1
    rw [List.sum_cons] at h
    have e : (r.drop z.toNat).length = r.length - z.toNat := by simp
    rw [chk, List.sum_cons, ih (r.drop z.toNat) (fun y hy => h0 y (List.mem_cons_of_mem _ hy)) (by omega), ← List.sum_append, List.take_append_drop]
def BdL (l : List Int) : Prop := ∀ x ∈ l, -1000000000000000 ≤ x ∧ x ≤ 1000000000000000
theorem bdl_sum : ∀ {l : List Int}, BdL l → -1000000000000000 * (l.length : Int) ≤ l.sum ∧ l.sum ≤ 1000000000000000 * (l.length : Int) := by
  intro l h
  have := sum_bound l (fun _ => true) h
  have e : l.filter (fun _ => true) = l := List.filter_eq_self.2 (fun _ _ => rfl)
  rw [e] at this
  exact this
theorem take_sum_succ {l : List Int} {i : Nat} (hi : i < l.length) : (l.take (i + 1)).sum = (l.take i).sum + l.getD i 0 := by
  rw [List.take_add_one, List.getElem?_eq_getElem hi, List.sum_append, getD_nat hi]; simp
theorem take_bd {l : List Int} (h : BdL l) (k : Nat) : BdL (l.take k) := fun x hx => h x (List.mem_of_mem_take hx)
theorem dshares_L2 (rest : List Int) (hr : BdL rest) (hl : rest.length ≤ 1000) (A R : List Int) (hA : A.length + R.length ≤ 100) (z : Nat) (hz : z ≤ rest.length) (V : List Int) (n i : Int) : ∀ (d k : Nat), k + d = z →
    distribution_Shares.L2 rest (A ++ (rest.take k).sum :: R) (A.length : Int) (z : Int) V n i 0 z (z : Int) (k : Int) = distribution_Shares.L1 (rest.drop z) (A ++ (rest.take z).sum :: R) V n (IntKind.i64.wrap (i + 1)) := by
  intro d
  induction d with
  | zero =>
    intro k h
    have : k = z := by omega
    subst this
    rw [distribution_Shares.L2_eq, distribution_Shares.SL2, cd_f (by omega), cd_3 (by omega) (by omega) (by omega), Int.toNat_natCast]
    congr 1
    exact List.take_of_length_le (by simp)
  | succ d ih =>
    intro k h
    have b := bdl_sum (take_bd hr k)
    rw [List.length_take] at b
    have hk : k < rest.length := by omega
    have hx := hr (rest.getD k 0) (by rw [getD_nat hk]; exact List.getElem_mem hk)
    rw [distribution_Shares.L2_eq, distribution_Shares.SL2, cd_t (by omega), cd_b (by omega) (by omega)]
    simp only [Int.toNat_natCast, len_mid, setm, getD_mid, Nat.zero_add]
    rw [cd_b (by omega) (by omega), cd_b (by omega) (by omega), wrap64 (by omega) (by omega), wrap_succ (by omega), ← take_sum_succ hk]
    exact ih (k + 1) (by omega)
theorem dshares_L1 : ∀ (zs pre rest A : List Int), A.length = pre.length → (pre ++ zs).length ≤ 64 → (∀ z ∈ zs, 0 ≤ z) → zs.sum = (rest.length : Int) → BdL rest → rest.length ≤ 1000 →
    distribution_Shares.L1 rest (A ++ List.replicate zs.length 0) (pre ++ zs) ((pre ++ zs).length : Int) (pre.length : Int) = some (A ++ chk zs rest, 0, ()) := by
  intro zs
  induction zs with
  | nil =>
    intro pre rest A hA h h0 hs hb hl
    rw [distribution_Shares.L1_eq, distribution_Shares.SL1, cd_f (by simp)]
    simp [chk]
  | cons z zs ih =>
    intro pre rest A hA h h0 hs hb hl
    have hlen := len_mid pre z zs
    have hz := h0 z List.mem_cons_self
    have hs0 := (sum_mem_le zs (fun y hy => h0 y (List.mem_cons_of_mem _ hy))).1
    rw [List.sum_cons] at hs
    obtain ⟨m, rfl⟩ := Int.eq_ofNat_of_zero_le hz
    rw [distribution_Shares.L1_eq, distribution_Shares.SL1, cd_t (by rw [hlen]; omega), cd_b (by omega) (by rw [hlen]; omega)]
    simp only [Int.toNat_natCast, getD_mid]
    rw [cd_3 (by omega) (by omega) (by omega)]
    have l2 := dshares_L2 rest hb hl A (List.replicate zs.length 0) (by simp; rw [hlen] at h; omega) m (by omega) (pre ++ (m : Int) :: zs) ((pre ++ (m : Int) :: zs).length : Int) (pre.length : Int) m 0 (by omega)
    rw [List.take_zero, List.sum_nil, hA] at l2
    have e1 : ((List.replicate ((m : Int) :: zs).length (0 : Int))) = 0 :: List.replicate zs.length 0 := rfl
    rw [e1]
    refine l2.trans ?_
    rw [wrap_succ (by omega)]
    have i2 := ih (pre ++ [(m : Int)]) (rest.drop m) (A ++ [(rest.take m).sum]) (by simp [hA]) (by rw [← mid_shift]; exact h) (fun y hy => h0 y (List.mem_cons_of_mem _ hy)) (by rw [List.length_drop]; omega) (fun x hx => hb x (List.mem_of_mem_drop hx)) (by rw [List.length_drop]; omega)
    rw [len_snoc, ← mid_shift pre] at i2
    rw [mid_shift A (rest.take m).sum (List.replicate zs.length 0)]
    refine i2.trans ?_
    rw [chk, Int.toNat_natCast, mid_shift A (rest.take m).sum (chk zs _)]
theorem rshares_L3 (n : Int) (Z l out : List Int) (hl : l.length ≤ 1000) (hb : BdL l) (ho : out.length ≤ 100) (i a z : Nat) (hi : i < Z.length) (hi2 : i ≤ 100) (hZ : Z.getD i 0 = (z : Int)) (ha : a + z ≤ l.length) : ∀ (d k : Nat), k + d = z →
    ref59_Shares.L3 n Z l out ((a + k : Nat) : Int) (i : Int) ((l.drop a).take k).sum (k : Int) = ref59_Shares.L2 n Z l (out ++ [((l.drop a).take z).sum]) ((a + z : Nat) : Int) ((i + 1 : Nat) : Int) := by
  intro d
  induction d with
  | zero =>
    intro k h
    have : k = z := by omega
    subst this
    rw [ref59_Shares.L3_eq, ref59_Shares.SL3, cd_b (by omega) (by omega), Int.toNat_natCast, hZ, cd_f (by omega), rm8 (by omega), cond_true, wrap_succ (by omega)]
  | succ d ih =>
    intro k h
    have hk : k < (l.drop a).length := by rw [List.length_drop]; omega
    have bd : BdL (l.drop a) := fun x hx => hb x (List.mem_of_mem_drop hx)
    have b := bdl_sum (take_bd bd k)
    rw [List.length_take, List.length_drop] at b
    have hx := bd ((l.drop a).getD k 0) (by rw [getD_nat hk]; exact List.getElem_mem hk)
    have e : l.getD (a + k) 0 = (l.drop a).getD k 0 := by simp [List.getD_eq_getElem?_getD]
    rw [ref59_Shares.L3_eq, ref59_Shares.SL3, cd_b (by omega) (by omega), Int.toNat_natCast, hZ, cd_t (by omega), cd_b (by omega) (by omega), Int.toNat_natCast, e, wrap64 (n := ((l.drop a).take k).sum + _) (by omega) (by omega), ← take_sum_succ hk, wrap_succ (by omega), wrap_succ (by omega)]
    exact ih (k + 1) (by omega)
theorem rshares_L2 (l : List Int) (hl : l.length ≤ 1000) (hb : BdL l) : ∀ (zs pre out : List Int) (a : Nat), (pre ++ zs).length ≤ 64 → out.length = pre.length → (∀ z ∈ zs, 0 ≤ z) → zs.sum + (a : Int) = (l.length : Int) →
    ref59_Shares.L2 ((pre ++ zs).length : Int) (pre ++ zs) l out (a : Int) (pre.length : Int) = some (out ++ chk zs (l.drop a), 0, ()) := by
  intro zs
  induction zs with
  | nil =>
    intro pre out a h ho h0 hs
    rw [ref59_Shares.L2_eq, ref59_Shares.SL2, cd_f (by simp)]
    simp [chk]
  | cons z zs ih =>
    intro pre out a h ho h0 hs
    have hlen := len_mid pre z zs
    have hz := h0 z List.mem_cons_self
    have hs0 := (sum_mem_le zs (fun y hy => h0 y (List.mem_cons_of_mem _ hy))).1
    rw [List.sum_cons] at hs
    obtain ⟨m, rfl⟩ := Int.eq_ofNat_of_zero_le hz
    rw [ref59_Shares.L2_eq, ref59_Shares.SL2, cd_t (by rw [hlen]; omega)]
    have l3 := rshares_L3 ((pre ++ (m : Int) :: zs).length : Int) (pre ++ (m : Int) :: zs) l out hl hb (by omega) pre.length a m (by omega) (by omega) (getD_mid _ _ _ _) (by omega) m 0 (by omega)
    rw [List.take_zero, List.sum_nil, Nat.add_zero] at l3
    refine l3.trans ?_
    have i2 := ih (pre ++ [(m : Int)]) (out ++ [((l.drop a).take m).sum]) (a + m) (by rw [← mid_shift]; exact h) (by simp [ho]) (fun y hy => h0 y (List.mem_cons_of_mem _ hy)) (by omega)
    rw [len_snoc, ← mid_shift] at i2
    refine i2.trans ?_
    rw [chk, Int.toNat_natCast, List.drop_drop, mid_shift out (List.take m (List.drop a l)).sum (chk zs _)]
theorem rweights (v : List Int) (n : Nat) (hn : n ≤ 64) : ∀ (d i : Nat), i + d = n → ref59_Shares.L1 v (n : Int) (ones i) (i : Int) = ref59_Shares.L1 v (n : Int) (ones n) (n : Int) := by
  intro d
  induction d with
  | zero => intro i h; rw [show i = n by omega]
  | succ d ih =>
    intro i h
    have i2 := ih (i + 1) (by omega)
    have li : (ones i).length = i := by simp [ones]
    rw [← i2, ref59_Shares.L1_eq v (n : Int) (ones i), ref59_Shares.SL1, cd_t (by omega), rm8 (by rw [li]; omega), cond_true, wrap_succ (by omega)]
    congr 1
    simp [ones, List.replicate_succ']
/-- What Shares returns. -/
theorem shares_both {v s : List Int} (n : Int) (h : v.length ≤ 1000) (hs : s.Perm v) (e : slices_Sorted_int_slices_Values_int_int_1 (v, ()) = some (s, ())) (e' : ref59_Sorted v = some (s, ())) :
    (1 ≤ n ∧ n ≤ 64 ∧ allM v = true ∧ ∃ z : List Int, money_Allocate (v.length : Int) (ones n.toNat) = some (z, 0, ()) ∧ z.length = n.toNat ∧ z.sum = (v.length : Int) ∧ (∀ x ∈ z, 0 ≤ x) ∧ distribution_Shares v n = some (chk z s, 0, ()) ∧ ref59_Shares v n = some (chk z s, 0, ())) ∨
    (¬ (1 ≤ n ∧ n ≤ 64 ∧ allM v = true) ∧ distribution_Shares v n = some ([], 3, ()) ∧ ref59_Shares v n = some ([], 3, ())) := by
  simp only [distribution_Shares, distribution_Shares.Se, ref59_Shares, ref59_Shares.Se]
  rw [cd_f (show ¬ (v.length : Int) > 4096 by omega), cd_f (show ¬ (v.length : Int) > 4096 by omega)]
  by_cases c1 : n < 1
  · rw [cd_t c1, cd_t c1, cd_t c1]; exact .inr ⟨by omega, rfl, rfl⟩
  rw [cd_f c1, cd_f c1]
  by_cases c2 : n > 64
  · rw [cd_t c2, cd_t c2, cd_t c2]; exact .inr ⟨by omega, rfl, rfl⟩
  rw [cd_f c2, cd_f c2, allWithin_val v (by omega), rwithin_val v (by omega)]
  simp only [bind_some']
  cases c3 : allM v with
  | false => exact .inr ⟨fun q => (by cases q.2.2), rfl, rfl⟩
  | true =>
    obtain ⟨m, rfl⟩ := Int.eq_ofNat_of_zero_le (show 0 ≤ n by omega)
    obtain ⟨z, z1, z2, z3, z4, z5⟩ := sizes v.length m h (by omega) (by omega)
    have hv := allM_iff.1 c3
    have hb : BdL s := fun x hx => hv x (hs.mem_iff.1 hx)
    have hl := hs.length_eq
    refine .inl ⟨by omega, by omega, rfl, z, by rw [Int.toNat_natCast]; exact z1, by rw [Int.toNat_natCast]; exact z3, z4, z5, ?_, ?_⟩
    · simp only [Bool.not_true, cond_false]
      rw [distribution_Shares.J0_eq, distribution_Shares.SJ0, repeat_val m (by omega) (by omega)]
      simp only [bind_some', z1, slices_Values_int_int, slices_Values_int_int.Se, e, bne_self_eq_false, cond_false]
      rw [decide_eq_true (show (0 : Int) ≤ (m : Int) by omega), decide_eq_true (Int.le_refl _), decide_eq_true (show (m : Int) * 8 ≤ room by rw [room_eq]; omega), decide_eq_true (show (m : Int) ≤ maxLen by rw [maxLen_eq]; omega)]
      have l1 := dshares_L1 z [] s [] rfl (by simp [z3]; omega) z5 (by rw [z4, hl]) hb (by omega)
      rw [z3] at l1
      exact l1
    · simp only [Bool.not_true, cond_false]
      rw [ref59_Shares.J0_eq, ref59_Shares.SJ0]
      have w := rweights v m (by omega) m 0 (by omega)
      have w' : ref59_Shares.L1 v (m : Int) [] 0 = ref59_Shares.L1 v (m : Int) (ones m) (m : Int) := w
      rw [w', ref59_Shares.L1_eq, ref59_Shares.SL1, cd_f (by omega), z2]
      simp only [bind_some', e']
      have l2 := rshares_L2 s (by omega) hb z [] [] 0 (by simp [z3]; omega) rfl z5 (by rw [z4, hl]; simp)
      simp only [List.nil_append, z3, List.drop_zero, List.length_nil] at l2
      exact l2
end Go.Proofs.Ytphpegconhdnfaa
