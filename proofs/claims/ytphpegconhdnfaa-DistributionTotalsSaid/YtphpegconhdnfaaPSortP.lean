import Derived.Test.YtphpegconhdnfaaPSortW
set_option maxRecDepth 100000
set_option linter.unusedVariables false
set_option linter.unusedSimpArgs false
namespace Go.Proofs.Ytphpegconhdnfaa
open Go Go.Lift
def cmpU (x y : Int) : Int := cond (decide (x < y)) (-1) (cond (decide (x > y)) 1 0)
theorem compare_uint64 (x y : Int) : cmp_Compare_uint64 x y = some (cmpU x y, ()) := by
  simp only [cmp_Compare_uint64, cmp_Compare_uint64.Se, cmp_isNaN_uint64, cmp_isNaN_uint64.Se, bind_some', bne_self_eq_false, cond_false, cmpU]
  cases decide (x < y) <;> cases decide (x > y) <;> rfl
theorem cmpU_neg (x y : Int) : decide (cmpU x y < 0) = decide (x < y) := by
  unfold cmpU
  by_cases h : x < y
  · simp [h]
  · by_cases h2 : x > y <;> simp [h, h2]
theorem shares1 (x y : money_partV) : money_shares_1 x y = some (cmpU y.2.1 x.2.1, ()) := by
  simp only [money_shares_1, money_shares_1.Se, compare_uint64, bind_some']
theorem part_sw : SW (fun x y : money_partV => decide (y.2.1 < x.2.1 ∨ (x.2.1 = y.2.1 ∧ x.1 < y.1))) :=
  ⟨fun x y h => by simp only [decide_eq_true_eq, decide_eq_false_iff_not] at h ⊢; omega, fun x y w h1 h2 => by simp only [decide_eq_false_iff_not] at h1 h2 ⊢; omega⟩
theorem part_sinsert (sw : SW (fun x y : money_partV => decide (y.2.1 < x.2.1 ∨ (x.2.1 = y.2.1 ∧ x.1 < y.1)))) (a b : Nat) (d : List money_partV) (hab : a ≤ b) (hb : b ≤ d.length) (hd : d.length ≤ 4611686018427387904) (ag : ∀ p q, a ≤ p → p < q → q < b → ((fun x y : money_partV => decide (cmpU y.2.1 x.2.1 < 0))) (d.getD q (0, 0, ())) (d.getD p (0, 0, ())) = ((fun x y : money_partV => decide (y.2.1 < x.2.1 ∨ (x.2.1 = y.2.1 ∧ x.1 < y.1)))) (d.getD q (0, 0, ())) (d.getD p (0, 0, ()))) :
    ∃ d', slices_insertionSortCmpFunc_money_part_money_shares_1 d a b = some (d', ()) ∧ Rng (0, 0, ()) a b d d' ∧ Srt (0, 0, ()) (fun x y : money_partV => decide (y.2.1 < x.2.1 ∨ (x.2.1 = y.2.1 ∧ x.1 < y.1))) a b d' :=
  Ins.spec2 (L0 := slices_insertionSortCmpFunc_money_part_money_shares_1.L0) (L1 := slices_insertionSortCmpFunc_money_part_money_shares_1.L1) (J2 := slices_insertionSortCmpFunc_money_part_money_shares_1.J2) (lt := (fun x y : money_partV => decide (cmpU y.2.1 x.2.1 < 0))) sw
    (fun a b i d => by rw [slices_insertionSortCmpFunc_money_part_money_shares_1.L0_eq]; rfl)
    (fun a b i j d => by rw [slices_insertionSortCmpFunc_money_part_money_shares_1.L1_eq]; simp only [slices_insertionSortCmpFunc_money_part_money_shares_1.SL1, Ins.SL1, shares1, bind_some'])
    (fun a b i j d => by rw [slices_insertionSortCmpFunc_money_part_money_shares_1.J2_eq]; rfl) a b d hb hd hab ag
theorem part_ex : Rot.ExOK (0, 0, ()) slices_swapRangeCmpFunc_money_part_money_shares_1 :=
  Rot.exOK (L0 := slices_swapRangeCmpFunc_money_part_money_shares_1.L0) (fun a b n i d => by rw [slices_swapRangeCmpFunc_money_part_money_shares_1.L0_eq]; rfl) (fun d a b n => rfl)
theorem part_rot : Rot.RoOK (0, 0, ()) slices_rotateCmpFunc_money_part_money_shares_1 :=
  Rot.roOK (L0 := slices_rotateCmpFunc_money_part_money_shares_1.L0) part_ex (fun m i j d => by rw [slices_rotateCmpFunc_money_part_money_shares_1.L0_eq]; rfl) (fun d a m b => rfl)
theorem part_merge (sw : SW (fun x y : money_partV => decide (y.2.1 < x.2.1 ∨ (x.2.1 = y.2.1 ∧ x.1 < y.1)))) (a m b : Nat) (d : List money_partV) (h1 : a < m) (h2 : m < b) (hb : b ≤ d.length) (hd : d.length ≤ 4611686018427387904) (s1 : Srt (0, 0, ()) (fun x y : money_partV => decide (y.2.1 < x.2.1 ∨ (x.2.1 = y.2.1 ∧ x.1 < y.1))) a m d) (s2 : Srt (0, 0, ()) (fun x y : money_partV => decide (y.2.1 < x.2.1 ∨ (x.2.1 = y.2.1 ∧ x.1 < y.1))) m b d)
    (ag : ∀ x y, a ≤ x → x < m → m ≤ y → y < b → ((fun x y : money_partV => decide (cmpU y.2.1 x.2.1 < 0))) (d.getD y (0, 0, ())) (d.getD x (0, 0, ())) = ((fun x y : money_partV => decide (y.2.1 < x.2.1 ∨ (x.2.1 = y.2.1 ∧ x.1 < y.1)))) (d.getD y (0, 0, ())) (d.getD x (0, 0, ()))) : ∃ d', slices_symMergeCmpFunc_money_part_money_shares_1 d a m b = some (d', ()) ∧ Rng (0, 0, ()) a b d d' ∧ Srt (0, 0, ()) (fun x y : money_partV => decide (y.2.1 < x.2.1 ∨ (x.2.1 = y.2.1 ∧ x.1 < y.1))) a b d' :=
  Sym.merge (lt := (fun x y : money_partV => decide (cmpU y.2.1 x.2.1 < 0))) (L0 := slices_symMergeCmpFunc_money_part_money_shares_1.L0) (L1 := slices_symMergeCmpFunc_money_part_money_shares_1.L1) (J2 := slices_symMergeCmpFunc_money_part_money_shares_1.J2) (L3 := slices_symMergeCmpFunc_money_part_money_shares_1.L3) (L4 := slices_symMergeCmpFunc_money_part_money_shares_1.L4) (L5 := slices_symMergeCmpFunc_money_part_money_shares_1.L5) (J6 := slices_symMergeCmpFunc_money_part_money_shares_1.J6) (J7 := slices_symMergeCmpFunc_money_part_money_shares_1.J7) sw part_rot
    ⟨fun d a m b => slices_symMergeCmpFunc_money_part_money_shares_1_eq d a m b,
     fun a i j d => by rw [slices_symMergeCmpFunc_money_part_money_shares_1.L0_eq]; simp only [slices_symMergeCmpFunc_money_part_money_shares_1.SL0, Sym.SL0, shares1, bind_some'],
     fun m i j d => by rw [slices_symMergeCmpFunc_money_part_money_shares_1.L1_eq]; simp only [slices_symMergeCmpFunc_money_part_money_shares_1.SL1, Sym.SL1, shares1, bind_some'],
     fun a m b mid n s r d => by rw [slices_symMergeCmpFunc_money_part_money_shares_1.J2_eq]; rfl,
     fun i k d => by rw [slices_symMergeCmpFunc_money_part_money_shares_1.L3_eq]; rfl,
     fun i k d => by rw [slices_symMergeCmpFunc_money_part_money_shares_1.L4_eq]; rfl,
     fun a m b mid n s r p d => by rw [slices_symMergeCmpFunc_money_part_money_shares_1.L5_eq]; simp only [slices_symMergeCmpFunc_money_part_money_shares_1.SL5, Sym.SL5, shares1, bind_some'],
     fun a b mid s e d => by rw [slices_symMergeCmpFunc_money_part_money_shares_1.J6_eq]; rfl,
     fun b mid e d => by rw [slices_symMergeCmpFunc_money_part_money_shares_1.J7_eq]; rfl⟩ (b - a + 1) a m b d (by omega) h1 h2 hb hd s1 s2 ag
/-- The stable sort: the same values, in the finer order. -/
theorem part_stable (sw : SW (fun x y : money_partV => decide (y.2.1 < x.2.1 ∨ (x.2.1 = y.2.1 ∧ x.1 < y.1)))) (sub : ∀ x y, ((fun x y : money_partV => decide (cmpU y.2.1 x.2.1 < 0))) x y = true → ((fun x y : money_partV => decide (y.2.1 < x.2.1 ∨ (x.2.1 = y.2.1 ∧ x.1 < y.1)))) x y = true) (d : List money_partV) (hd : d.length ≤ 1152921504606846976) (ag : Stb.Ag (0, 0, ()) (fun x y : money_partV => decide (cmpU y.2.1 x.2.1 < 0)) (fun x y : money_partV => decide (y.2.1 < x.2.1 ∨ (x.2.1 = y.2.1 ∧ x.1 < y.1))) d.length d) :
    ∃ d', slices_SortStableFunc_money_part_money_part_money_shares_1 d = some (d', ()) ∧ d'.Perm d ∧ d'.Pairwise (fun x y => ((fun x y : money_partV => decide (y.2.1 < x.2.1 ∨ (x.2.1 = y.2.1 ∧ x.1 < y.1)))) y x = false) := by
  obtain ⟨d', e, p, s⟩ := Stb.spec (lt := (fun x y : money_partV => decide (cmpU y.2.1 x.2.1 < 0))) (lt' := (fun x y : money_partV => decide (y.2.1 < x.2.1 ∨ (x.2.1 = y.2.1 ∧ x.1 < y.1)))) (ins := slices_insertionSortCmpFunc_money_part_money_shares_1) (mrg := slices_symMergeCmpFunc_money_part_money_shares_1) (L0 := slices_stableCmpFunc_money_part_money_shares_1.L0) (L1 := slices_stableCmpFunc_money_part_money_shares_1.L1) (L2 := slices_stableCmpFunc_money_part_money_shares_1.L2) sub
    ⟨part_sinsert sw, part_merge sw⟩
    ⟨fun n s a b d => by rw [slices_stableCmpFunc_money_part_money_shares_1.L0_eq]; rfl,
     fun n s d => by rw [slices_stableCmpFunc_money_part_money_shares_1.L1_eq]; rfl,
     fun n s a b d => by rw [slices_stableCmpFunc_money_part_money_shares_1.L2_eq]; rfl⟩ d hd ag
  refine ⟨d', ?_, p, s⟩
  simp only [slices_SortStableFunc_money_part_money_part_money_shares_1, slices_SortStableFunc_money_part_money_part_money_shares_1.Se, slices_stableCmpFunc_money_part_money_shares_1, slices_stableCmpFunc_money_part_money_shares_1.Se]
  rw [e]; rfl
end Go.Proofs.Ytphpegconhdnfaa
