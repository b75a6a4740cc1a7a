import Derived.Test.YtphpegconhdnfaaPD
set_option maxRecDepth 100000
set_option linter.unusedVariables false
set_option linter.unusedSimpArgs false
namespace Go.Proofs.Ytphpegconhdnfaa
open Go Go.Lift
theorem hist_perm {b v w : List Int} (h : v.Perm w) : hist b v = hist b w := by
  unfold hist
  refine List.map_congr_left fun i _ => ?_
  unfold bkt
  have hf := h.filter (inB b i)
  have hs : (v.filter (inB b i)).sum = (w.filter (inB b i)).sum := by
    have := perm_sum (fun x : Int => x) hf
    simpa using this
  rw [hf.length_eq, hs]
theorem allM_perm {v w : List Int} (h : v.Perm w) : allM v = allM w := by
  have : allM v = true ↔ allM w = true := by
    rw [allM_iff, allM_iff]
    exact ⟨fun q x hx => q x (h.mem_iff.2 hx), fun q x hx => q x (h.mem_iff.1 hx)⟩
  cases e : allM v <;> cases e' : allM w <;> simp_all
theorem histR_perm {b v w : List Int} (h : v.Perm w) : histR v b = histR w b := by
  unfold histR
  rw [allM_perm h, hist_perm h]
/-- The values, read from a place on backwards. -/
def rot (v : List Int) (f : Nat) : List Int := (v.drop (f % v.length) ++ v.take (f % v.length)).reverse
theorem rot_perm (v : List Int) (f : Nat) : v.Perm (rot v f) := by
  refine List.Perm.trans ?_ (List.reverse_perm _).symm
  refine List.Perm.trans ?_ List.perm_append_comm
  rw [List.take_append_drop]
theorem rot_length (v : List Int) (f : Nat) : (rot v f).length = v.length := (rot_perm v f).length_eq.symm
theorem rot_get (v : List Int) (f : Nat) {i : Nat} (hi : i < v.length) : (rot v f)[i]'(by rw [rot_length]; exact hi) = v[(v.length - 1 - i + f) % v.length]'(Nat.mod_lt _ (by omega)) := by
  have hr : f % v.length < v.length := Nat.mod_lt _ (by omega)
  have e : (v.length - 1 - i + f) % v.length = (v.length - 1 - i + f % v.length) % v.length := by rw [Nat.add_mod_mod]
  have hlen : (v.drop (f % v.length) ++ v.take (f % v.length)).length = v.length := by simp; omega
  have h1 : (rot v f)[i]'(by rw [rot_length]; exact hi) = (v.drop (f % v.length) ++ v.take (f % v.length))[v.length - 1 - i]'(by rw [hlen]; omega) := by
    unfold rot
    rw [List.getElem_reverse]
    congr 1
    rw [hlen]
  rw [h1]
  by_cases g : v.length - 1 - i < v.length - f % v.length
  · rw [List.getElem_append_left (by simp; exact g), List.getElem_drop]
    congr 1
    rw [e, Nat.mod_eq_of_lt (a := v.length - 1 - i + f % v.length) (by omega), Nat.add_comm]
  · rw [List.getElem_append_right (by simp; omega), List.getElem_take]
    congr 1
    rw [e, List.length_drop, Nat.mod_eq_sub_mod (a := v.length - 1 - i + f % v.length) (by omega), Nat.mod_eq_of_lt (a := v.length - 1 - i + f % v.length - v.length) (by omega)]
    omega
theorem order_L1 (v b : List Int) (n : Int) (f : Nat) (hf : f ≤ 255) (hl : v.length ≤ 1000) : ∀ (d i : Nat), i + d = v.length →
    law59_DistributionOrder.L1 v b n (f : Int) ((rot v f).take i) (i : Int) = law59_DistributionOrder.L1 v b n (f : Int) (rot v f) (v.length : Int) := by
  intro d
  induction d with
  | zero =>
    intro i h
    rw [show i = v.length by omega, List.take_of_length_le (by rw [rot_length]; omega)]
  | succ d ih =>
    intro i h
    have hi : i < v.length := by omega
    have i2 := ih (i + 1) (by omega)
    rw [← i2, law59_DistributionOrder.L1_eq v b n f ((rot v f).take i), law59_DistributionOrder.SL1, cd_t (by omega), cd_f (by omega)]
    rw [wrap64 (n := (v.length : Int) - 1) (by omega) (by omega), wrap64 (n := (v.length : Int) - 1 - i) (by omega) (by omega), wrap64 (n := (f : Int)) (by omega) (by omega), wrap64 (n := (v.length : Int) - 1 - i + f) (by omega) (by omega)]
    have e : Int.tmod ((v.length : Int) - 1 - i + f) (v.length : Int) = (((v.length - 1 - i + f) % v.length : Nat) : Int) := by
      rw [tmod_pos (by omega)]
      rw [show (v.length : Int) - 1 - i + f = ((v.length - 1 - i + f : Nat) : Int) by omega]
      rfl
    have hm : (v.length - 1 - i + f) % v.length < v.length := Nat.mod_lt _ (by omega)
    rw [e, idx_nat, List.getElem?_eq_getElem hm, bind_some', List.length_take, rot_length, rm8 (by omega), cond_true, wrap_succ (by omega)]
    congr 1
    rw [← rot_get v f hi, List.take_add_one, List.getElem?_eq_getElem (by rw [rot_length]; exact hi)]
    rfl
theorem distributionOrder_true (aw : law59_awake = some (true, ())) (v b : List Int) (n f : Int) (hf : Ty.okv (.int .u8) f) : law59_DistributionOrder v b n f = some (true, ()) := by
  have hf' := okv_u8.1 hf
  obtain ⟨f, rfl⟩ := Int.eq_ofNat_of_zero_le hf'.1
  simp only [law59_DistributionOrder, law59_DistributionOrder.Se, few_val, bind_some', aw]
  by_cases h : (v.length : Int) ≤ 200
  · rw [decide_eq_true h]
    by_cases h2 : (b.length : Int) ≤ 200
    · rw [decide_eq_true h2]
      simp only [Bool.not_true, cond_false]
      rw [law59_DistributionOrder.J0_eq, law59_DistributionOrder.SJ0]
      have l1 := order_L1 v b n f (by omega) (by omega) v.length 0 (by omega)
      have l1' : law59_DistributionOrder.L1 v b n (f : Int) [] 0 = law59_DistributionOrder.L1 v b n (f : Int) (rot v f) (v.length : Int) := l1
      rw [l1', law59_DistributionOrder.L1_eq, law59_DistributionOrder.SL1, cd_f (by omega)]
      have hp := rot_perm v f
      have hpl := rot_length v f
      obtain ⟨s, e, e', p, q⟩ := both_sorted v (by omega)
      obtain ⟨t, e2, e2', p2, q2⟩ := both_sorted (rot v f) (by omega)
      have st : s = t := sorted_perm hp p p2 q q2
      subst st
      rw [(quantile_val _ n p e e').1, (quantile_val _ n p2 e2 e2').1, hpl, (hist_both v b (by omega) (by omega)).1, (hist_both (rot v f) b (by omega) (by omega)).1, histR_perm hp.symm]
      have hsh : ∃ sh ec, distribution_Shares v n = some (sh, ec, ()) ∧ distribution_Shares (rot v f) n = some (sh, ec, ()) ∧ sh.length ≤ 64 := by
        rcases shares_both n (by omega) p e e' with ⟨n1, n2, m1, z, z0, z3, z4, z5, s1, _⟩ | ⟨no, s1, _⟩
        · rcases shares_both n (by omega) p2 e2 e2' with ⟨n1', n2', m1', z', z0', z3', z4', z5', s1', _⟩ | ⟨no', _⟩
          · rw [hpl, z0] at z0'
            cases z0'
            exact ⟨_, _, s1, s1', by rw [chk_length, z3]; omega⟩
          · exact absurd ⟨n1, n2, by rw [← allM_perm hp]; exact m1⟩ no'
        · rcases shares_both n (by omega) p2 e2 e2' with ⟨n1', n2', m1', _⟩ | ⟨no', s1', _⟩
          · exact absurd ⟨n1', n2', by rw [allM_perm hp]; exact m1'⟩ no
          · exact ⟨_, _, s1, s1', by simp⟩
      obtain ⟨sh, ec, s1, s2, s3⟩ := hsh
      obtain ⟨hb, he, k1, k2⟩ : ∃ hb he, histR v b = some (hb, he, ()) ∧ hb.length ≤ 1000 := by
        rcases histR_cases v b with ⟨ee, k1, _⟩ | ⟨k0, _, _, _, k4⟩
        · exact ⟨_, _, k1, by simp⟩
        · exact ⟨_, _, k4, by rw [hist_length]; omega⟩
      rw [s1, s2, k1]
      have quant : ∀ (x : Option (Int × Bool × Unit)), x = (if qok v.length (Int.tmod (IntKind.i64.wrap (f : Int)) 8) n then some (s.getD (qat v.length (Int.tmod (IntKind.i64.wrap (f : Int)) 8) n) 0, true, ()) else some (0, false, ())) → ∃ y, x = some y := by
        intro x hx
        by_cases c : qok v.length (Int.tmod (IntKind.i64.wrap (f : Int)) 8) n
        · rw [if_pos c] at hx; exact ⟨_, hx⟩
        · rw [if_neg c] at hx; exact ⟨_, hx⟩
      obtain ⟨y, hy⟩ := quant _ rfl
      rw [hy]
      simp only [bind_some', beq_self_eq_true, cond_true]
      rw [same_Buckets_refl hb (by omega) (fun _ _ => trivial), bind_some', cond_true, same_Ints_val (by rw [maxLen_eq]; omega), decide_eq_true rfl, bind_some', cond_true, aw]
      rfl
    · rw [decide_eq_false h2]; rfl
  · rw [decide_eq_false h]; rfl
end Go.Proofs.Ytphpegconhdnfaa
