import Derived.Test.YtphpegconhdnfaaPAlloc
set_option maxRecDepth 100000
set_option linter.unusedVariables false
set_option linter.unusedSimpArgs false
namespace Go.Proofs.Ytphpegconhdnfaa
open Go Go.Lift
def bump : List Int → List money_partV → List Int
  | out, [] => out
  | out, p :: ps => bump (out.set p.1.toNat (out.getD p.1.toNat 0 + 1)) ps
theorem bump_length : ∀ (ps : List money_partV) (out : List Int), (bump out ps).length = out.length
  | [], out => rfl
  | p :: ps, out => by rw [bump, bump_length ps]; simp
theorem bump_get : ∀ (ps : List money_partV) (out : List Int) (i : Nat), i < out.length → (bump out ps).getD i 0 = out.getD i 0 + ((ps.filter (fun p => decide (p.1.toNat = i))).length : Int)
  | [], out, i, h => by simp [bump]
  | p :: ps, out, i, h => by
    rw [bump, bump_get ps _ i (by simpa using h), getD_set_if, List.filter_cons]
    by_cases c : p.1.toNat = i
    · rw [if_pos ⟨c, h⟩, if_pos (by simpa using c), c]
      simp only [List.length_cons]; omega
    · rw [if_neg (fun g => c g.1), if_neg (by simpa using c)]
theorem shares_L1 : ∀ (rest pre : List money_partV) (out : List Int), (pre ++ rest).length ≤ 1000 → (∀ p ∈ rest, 0 ≤ p.1 ∧ p.1 < out.length) → (∀ k, 0 ≤ out.getD k 0 ∧ out.getD k 0 ≤ 1000000000000000 + pre.length) →
    money_shares.L1 out (pre ++ rest) ((pre ++ rest).length : Int) (pre.length : Int) = some (bump out rest, ())
  | [], pre, out, h, hp, hb => by
    rw [money_shares.L1_eq, money_shares.SL1, cd_f (by simp)]
    rfl
  | p :: rest, pre, out, h, hp, hb => by
    have h' := h
    rw [len_mid] at h'
    have p1 := hp p (List.mem_cons_self ..)
    have b1 := hb p.1.toNat
    rw [money_shares.L1_eq, money_shares.SL1, cd_t (by rw [len_mid]; omega), cd_b (by omega) (by rw [len_mid]; omega), Int.toNat_natCast, getD_mid, cd_b p1.1 p1.2, cd_b p1.1 p1.2, wrap64 (n := out.getD p.1.toNat 0 + 1) (by omega) (by omega), wrap_succ (by omega), ← len_snoc pre p, mid_shift pre p rest,
      shares_L1 rest (pre ++ [p]) _ (by rw [← mid_shift]; exact h) (fun r hr => by rw [List.length_set]; exact hp r (List.mem_cons_of_mem _ hr)) (fun k => by
        rw [getD_set_if]
        have := hb k
        simp only [List.length_append, List.length_singleton]
        split <;> omega)]
    rfl
theorem perm_sum {α : Type} (f : α → Int) {l l' : List α} (h : l.Perm l') : (l.map f).sum = (l'.map f).sum := by
  induction h with
  | nil => rfl
  | cons x _ ih => simp [ih]
  | swap x y l => simp; omega
  | trans _ _ h1 h2 => rw [h1, h2]
theorem sum_le_len {α : Type} (f : α → Int) (B : Int) : ∀ (l : List α), (∀ x ∈ l, f x ≤ B) → (l.map f).sum ≤ l.length * B
  | [], _ => by simp
  | x :: l, h => by
    have h1 := sum_le_len f B l (fun y hy => h y (List.mem_cons_of_mem _ hy))
    have h2 := h x (List.mem_cons_self ..)
    simp only [List.map_cons, List.sum_cons, List.length_cons]
    have : ((l.length + 1 : Nat) : Int) * B = l.length * B + B := by rw [Int.natCast_add, Int.add_mul]; simp
    omega
theorem parts_rest (A S : Int) : ∀ (W : List Int) (k : Nat), (parts A S k W).map (fun p => p.2.1) = rs A S W
  | [], _ => rfl
  | w :: W, k => by simp [parts, rs, parts_rest A S W]
theorem parts_mem (A S : Int) : ∀ (W : List Int) (k : Nat) (p : money_partV), p ∈ parts A S k W → ∃ i, i < W.length ∧ p = (((k + i : Nat) : Int), A * W.getD i 0 % S, ())
  | [], k, p, h => by cases h
  | w :: W, k, p, h => by
    rw [parts] at h
    rcases List.mem_cons.1 h with e | h
    · exact ⟨0, by simp, by rw [e]; simp⟩
    · obtain ⟨i, h1, h2⟩ := parts_mem A S W (k + 1) p h
      exact ⟨i + 1, by simpa using h1, by rw [h2]; simp [Nat.add_assoc, Nat.add_comm 1]⟩
theorem parts_distinct (A S : Int) : ∀ (W : List Int) (k : Nat), (parts A S k W).Pairwise (fun p q => p.1 ≠ q.1)
  | [], _ => .nil
  | w :: W, k => by
    rw [parts]
    refine List.pairwise_cons.2 ⟨fun q hq => ?_, parts_distinct A S W (k + 1)⟩
    obtain ⟨i, h1, h2⟩ := parts_mem A S W (k + 1) q hq
    rw [h2]
    simp only [ne_eq]
    omega
/-- The order of the parts. -/
def LS (x y : money_partV) : Bool := decide (y.2.1 < x.2.1 ∨ (x.2.1 = y.2.1 ∧ x.1 < y.1))
/-- The parts sorted. -/
structure Sorted (A S : Int) (W : List Int) (P : List money_partV) : Prop where
  perm : P.Perm (parts A S 0 W)
  srt : P.Pairwise (fun x y => LS y x = false)
theorem sort_parts {A S : Int} {W : List Int} (f : Fair A S W) : ∃ P, slices_SortStableFunc_money_part_money_part_money_shares_1 (parts A S 0 W) = some (P, ()) ∧ Sorted A S W P := by
  have hl := parts_length A S W 0
  have := f.len
  obtain ⟨P, e, p, s⟩ := part_stable part_sw (fun x y h => by
    simp only [cmpU_neg, decide_eq_true_eq] at h ⊢
    exact .inl h) (parts A S 0 W) (by omega) (fun i j hij hj => by
    have g : ∀ k, k < W.length → (parts A S 0 W).getD k (0, 0, ()) = ((k : Int), A * W.getD k 0 % S, ()) := fun k hk => by
      rw [List.getD_eq_getElem?_getD, parts_get A S W 0 k hk, getD_nat hk]; simp
    rw [g i (by omega), g j (by omega)]
    simp only [cmpU_neg, decide_eq_decide]
    omega)
  exact ⟨P, e, p, s⟩
section
variable {A S : Int} {W : List Int} {P : List money_partV}
theorem Sorted.mem (h : Sorted A S W P) {p : money_partV} (hp : p ∈ P) : ∃ i, i < W.length ∧ p = ((i : Int), A * W.getD i 0 % S, ()) := by
  obtain ⟨i, h1, h2⟩ := parts_mem A S W 0 p (h.perm.mem_iff.1 hp)
  exact ⟨i, h1, by rw [h2]; simp⟩
theorem Sorted.has (h : Sorted A S W P) {i : Nat} (hi : i < W.length) : ((i : Int), A * W.getD i 0 % S, ()) ∈ P := by
  rw [h.perm.mem_iff]
  have := parts_get A S W 0 i hi
  rw [Nat.zero_add, ← getD_nat (d := 0) hi] at this
  exact List.mem_of_getElem? this
theorem Sorted.distinct (h : Sorted A S W P) : P.Pairwise (fun p q => p.1 ≠ q.1) :=
  (List.Perm.pairwise_iff (fun {x y} h => Ne.symm h) h.perm).2 (parts_distinct A S W 0)
theorem Sorted.length (h : Sorted A S W P) : P.length = W.length := h.perm.length_eq.trans (parts_length A S W 0)
theorem Sorted.rest (f : Fair A S W) (h : Sorted A S W P) {p : money_partV} (hp : p ∈ P) : 0 ≤ p.2.1 ∧ p.2.1 ≤ S - 1 := by
  obtain ⟨i, h1, h2⟩ := h.mem hp
  have := f.pos
  rw [h2]
  have e1 := Int.emod_nonneg (A * W.getD i 0) (show S ≠ 0 by omega)
  have e2 := Int.emod_lt_of_pos (A * W.getD i 0) f.pos
  constructor
  · exact e1
  · show A * W.getD i 0 % S ≤ S - 1; omega
theorem Sorted.sum (f : Fair A S W) (h : Sorted A S W P) : (P.map (fun p => p.2.1)).sum = S * (A - (qs A S W).sum) := by
  rw [perm_sum _ h.perm, parts_rest, f.left.1]
/-- Those that get one more have a rest. -/
theorem Sorted.pos (f : Fair A S W) (h : Sorted A S W P) {dn tl : List money_partV} {p : money_partV} (e : P = dn ++ p :: tl) (hl : (dn.length : Int) < A - (qs A S W).sum) : 0 < p.2.1 := by
  have hp : p ∈ P := by rw [e]; simp
  obtain ⟨r0, r1⟩ := h.rest f hp
  rcases Int.lt_or_eq_of_le r0 with g | g
  · exact g
  · exfalso
    have sm := h.sum f
    have st := h.srt
    rw [e] at sm st
    rw [List.pairwise_append] at st
    have tz : ∀ q ∈ tl, q.2.1 ≤ 0 := fun q hq => by
      have := (List.pairwise_cons.1 st.2.1).1 q hq
      simp only [LS, decide_eq_false_iff_not] at this
      omega
    have b1 := sum_le_len (fun p : money_partV => p.2.1) (S - 1) dn (fun q hq => (h.rest f (by rw [e]; simp [hq])).2)
    have b2 := sum_le_len (fun p : money_partV => p.2.1) 0 tl tz
    simp only [List.map_append, List.map_cons, List.sum_append, List.sum_cons] at sm
    have hpos := f.pos
    have k1 : (dn.length : Int) * (S - 1) ≤ (A - (qs A S W).sum - 1) * (S - 1) := Int.mul_le_mul_of_nonneg_right (by omega) (by omega)
    have k2 : (A - (qs A S W).sum - 1) * (S - 1) = S * (A - (qs A S W).sum) - (A - (qs A S W).sum) - (S - 1) := by
      generalize A - (qs A S W).sum = L
      grind
    omega
end
theorem greatest_after (r : List Int) (g : Nat) (hg : g < r.length) (hl : r.length ≤ 1000) (h2 : ∀ i, g < i → i < r.length → r.getD i 0 ≤ r.getD g 0) : ∀ (d i : Nat), i + d = r.length → g < i → ref02_greatest.L0 r g i = some ((g : Int), ())
  | 0, i, h, hi => by
    rw [ref02_greatest.L0_eq, ref02_greatest.SL0, cd_f (by omega)]
  | d + 1, i, h, hi => by
    have hil : i < r.length := by omega
    have := h2 i hi hil
    rw [getD_nat hil, getD_nat hg] at this
    rw [ref02_greatest.L0_eq, ref02_greatest.SL0, cd_t (by omega), idx_nat, List.getElem?_eq_getElem hil, bind_some', wrap_succ (by omega)]
    have next := greatest_after r g hg hl h2 d (i + 1) (by omega) (by omega)
    by_cases c : r[i] > 0
    · rw [cd_t c, cd_f (by omega), bind_some', idx_nat, List.getElem?_eq_getElem hg, bind_some', cd_f (by omega)]
      exact next
    · rw [cd_f c]
      exact next
theorem greatest_until (r : List Int) (g : Nat) (hg : g < r.length) (hl : r.length ≤ 1000) (h0 : 0 < r.getD g 0) (h1 : ∀ i, i < g → r.getD i 0 < r.getD g 0) : ∀ (d i : Nat) (best : Int), i + d = g → (best = -1 ∨ ∃ b : Nat, best = b ∧ b < g) → ref02_greatest.L0 r best i = ref02_greatest.L0 r g ((g + 1 : Nat) : Int)
  | 0, i, best, h, hb => by
    have : i = g := by omega
    subst this
    rw [getD_nat hg] at h0
    rw [ref02_greatest.L0_eq, ref02_greatest.SL0, cd_t (by omega), idx_nat, List.getElem?_eq_getElem hg, bind_some', wrap_succ (by omega), cd_t h0]
    rcases hb with rfl | ⟨b, rfl, hb⟩
    · rw [cd_t (by omega)]
    · have hbl : b < r.length := by omega
      have := h1 b hb
      rw [getD_nat hg, getD_nat hbl] at this
      rw [cd_f (by omega), bind_some', idx_nat, List.getElem?_eq_getElem hbl, bind_some', cd_t (by omega)]
  | d + 1, i, best, h, hb => by
    have hil : i < r.length := by omega
    rw [ref02_greatest.L0_eq, ref02_greatest.SL0, cd_t (by omega), idx_nat, List.getElem?_eq_getElem hil, bind_some', wrap_succ (by omega)]
    have n1 := greatest_until r g hg hl h0 h1 d (i + 1) i (by omega) (.inr ⟨i, rfl, by omega⟩)
    have n2 := greatest_until r g hg hl h0 h1 d (i + 1) best (by omega) hb
    by_cases c : r[i] > 0
    · rw [cd_t c]
      rcases hb with rfl | ⟨b, rfl, hb⟩
      · rw [cd_t (by omega)]; exact n1
      · have hbl : b < r.length := by omega
        rw [cd_f (by omega), bind_some', idx_nat, List.getElem?_eq_getElem hbl, bind_some']
        by_cases c2 : r[i] > r[b]
        · rw [cd_t c2]; exact n1
        · rw [cd_f c2]; exact n2
    · rw [cd_f c]; exact n2
theorem greatest_val (r : List Int) (g : Nat) (hg : g < r.length) (hl : r.length ≤ 1000) (h0 : 0 < r.getD g 0) (h1 : ∀ i, i < g → r.getD i 0 < r.getD g 0) (h2 : ∀ i, g < i → i < r.length → r.getD i 0 ≤ r.getD g 0) : ref02_greatest r = some ((g : Int), ()) := by
  simp only [ref02_greatest, ref02_greatest.Se]
  have := greatest_until r g hg hl h0 h1 g 0 (-1) (by omega) (.inl rfl)
  rw [show (0 : Int) = ((0 : Nat) : Int) from rfl, this]
  exact greatest_after r g hg hl h2 (r.length - (g + 1)) (g + 1) (by omega) (by omega)
theorem ref_L2 {A S : Int} {W : List Int} {P : List money_partV} (f : Fair A S W) (h : Sorted A S W P) (c : Int) : ∀ (todo dn tl : List money_partV) (r out : List Int), P = dn ++ (todo ++ tl) → ((dn.length + todo.length : Nat) : Int) ≤ A - (qs A S W).sum → r.length = W.length → out.length = W.length →
    (∀ i, i < W.length → r.getD i 0 = if i ∈ dn.map (fun p => p.1.toNat) then 0 else A * W.getD i 0 % S) → (∀ k, 0 ≤ out.getD k 0 ∧ out.getD k 0 ≤ 1000000000000000 + dn.length) →
    ref02_Allocate.L2 c out r (todo.length : Int) = ref02_Allocate.L3 c (bump out todo) 0
  | [], dn, tl, r, out, e, hl, hr, ho, hz, hb => by
    rw [ref02_Allocate.L2_eq, ref02_Allocate.SL2, cd_f (by simp)]
    rfl
  | p :: todo, dn, tl, r, out, e, hl, hr, ho, hz, hb => by
    have hp : p ∈ P := by rw [e]; simp
    obtain ⟨g, g1, g2⟩ := h.mem hp
    have hpos := h.pos f (p := p) (dn := dn) (tl := todo ++ tl) (by rw [e]; simp) (by simp at hl; omega)
    have dist := h.distinct
    have srt := h.srt
    rw [e, List.pairwise_append] at dist srt
    have p1 : p.1 = (g : Int) := by rw [g2]
    have p2 : p.2.1 = A * W.getD g 0 % S := by rw [g2]
    have lenP := h.length
    have fl := f.len
    have dl : dn.length ≤ 64 := by
      have : P.length = dn.length + (p :: todo ++ tl).length := by rw [e]; simp
      omega
    have ng : g ∉ dn.map (fun p => p.1.toNat) := by
      intro hm
      obtain ⟨q, q1, q2⟩ := List.mem_map.1 hm
      have := dist.2.2 q q1 p (by simp)
      obtain ⟨i, i1, i2⟩ := h.mem (p := q) (by rw [e]; simp [q1])
      rw [i2] at q2 this
      simp only [Int.toNat_natCast] at q2
      rw [p1] at this
      simp only [ne_eq] at this
      omega
    have rg : r.getD g 0 = p.2.1 := by rw [hz g g1, if_neg ng, p2]
    have other : ∀ i, i < W.length → i ≠ g → r.getD i 0 ≤ p.2.1 ∧ (i < g → r.getD i 0 < p.2.1) := by
      intro i hi hne
      rw [hz i hi]
      by_cases ci : i ∈ dn.map (fun p => p.1.toNat)
      · rw [if_pos ci]; omega
      · rw [if_neg ci]
        have hm := h.has hi
        rw [e] at hm
        rcases List.mem_append.1 hm with hm | hm
        · exact absurd (List.mem_map.2 ⟨_, hm, by simp⟩) ci
        · rcases List.mem_cons.1 (List.cons_append .. ▸ hm) with hm | hm
          · exfalso
            rw [g2] at hm
            have := congrArg (fun x => x.1) hm
            simp only at this
            omega
          · have := (List.pairwise_cons.1 (List.cons_append .. ▸ srt.2.1)).1 _ hm
            simp only [LS, decide_eq_false_iff_not] at this
            rw [p1] at this
            omega
    have gv := greatest_val r g (by omega) (by omega) (by rw [rg]; exact hpos) (fun i hi => by rw [rg]; exact (other i (by omega) (by omega)).2 hi) (fun i hi hi2 => by rw [rg]; exact (other i (by omega) (by omega)).1)
    have b1 := hb g
    rw [ref02_Allocate.L2_eq, ref02_Allocate.SL2, cd_t (show ((p :: todo).length : Int) > 0 by rw [List.length_cons]; omega), gv, bind_some']
    simp only
    rw [cd_f (by omega), cd_b (by omega) (by omega), cd_b (by omega) (by omega), cd_b (by omega) (by omega), Int.toNat_natCast, wrap64 (n := out.getD g 0 + 1) (by omega) (by omega)]
    have e1 : IntKind.i64.wrap (((p :: todo).length : Int) - 1) = (todo.length : Int) := by
      have : (p :: todo).length = todo.length + 1 := rfl
      have lt : todo.length ≤ 64 := by
        have : P.length = dn.length + (todo.length + 1 + tl.length) := by rw [e]; simp; omega
        omega
      rw [wrap64 (by omega) (by omega)]; omega
    rw [e1, ref_L2 f h c todo (dn ++ [p]) tl (r.set g 0) (out.set g (out.getD g 0 + 1)) (by rw [e]; simp) (by simp at hl ⊢; omega) (by simpa using hr) (by simpa using ho) (fun i hi => by
      rw [getD_set_if]
      by_cases ci : g = i
      · rw [if_pos ⟨ci, by omega⟩, if_pos (by simp [p1, ci])]
      · rw [if_neg (fun x => ci x.1), hz i hi]
        by_cases cm : i ∈ dn.map (fun p => p.1.toNat)
        · rw [if_pos cm, if_pos (by simp only [List.map_append, List.mem_append]; exact .inl cm)]
        · rw [if_neg cm, if_neg (by
            simp only [List.map_append, List.mem_append, List.map_cons, List.map_nil, List.mem_singleton, p1, Int.toNat_natCast]
            exact fun x => x.elim cm (fun y => ci y.symm))]) (fun k => by
      rw [getD_set_if]
      have := hb k
      simp only [List.length_append, List.length_singleton]
      split <;> omega)]
    rw [bump, p1, Int.toNat_natCast]
end Go.Proofs.Ytphpegconhdnfaa
