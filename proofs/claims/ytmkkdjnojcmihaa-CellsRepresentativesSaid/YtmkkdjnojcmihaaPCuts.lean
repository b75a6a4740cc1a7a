/- Plain laws of the lifted functions. -/
import Derived.Test.YtmkkdjnojcmihaaPInts
set_option maxRecDepth 100000
set_option linter.unusedVariables false
set_option linter.unusedSimpArgs false
namespace Go.Proofs.Ytmkkdjnojcmihaa
open Go Go.Lift

/-! ### CutPoints -/
theorem uniq2 (l : List Int) (h : l.length ≤ 1000000) : ∃ d c, slices_Sort_int_int l = some (d, ()) ∧ slices_Compact_int_int d = some (c, ()) ∧ SS c ∧ (∀ x, x ∈ c ↔ x ∈ l) := by
  obtain ⟨d, e, p, s⟩ := sort_int l (by omega)
  obtain ⟨c, c1, c2, c3⟩ := compact_val s (by have := p.length_eq; omega)
  exact ⟨d, c, e, c1, c2, fun x => by rw [c3 x, p.mem_iff]⟩

/-- One node of a guard: what the two add. -/
theorem cut_step (gs : List (List api_TypeV)) (input : Int) (g : Nat) (e : List api_TypeV) (hg : gs[g]? = some e) (he : e.length ≤ 1000) (hok : ∀ x ∈ e, -9223372036854775808 ≤ x.2.1 ∧ x.2.1 ≤ 9223372036854775807) (i : Nat) (hi : i < e.length)
    (oc or' : List Int) (hs : SS or') (hl : or'.length ≤ 100000) (hc : oc.length ≤ 100000) (hm : ∀ x, x ∈ oc ↔ x ∈ or') :
    ∃ oc' or'', cells_CutPoints.L1 input oc e gs (gs.length : Int) g e (e.length : Int) i = cells_CutPoints.L1 input oc' e gs (gs.length : Int) g e (e.length : Int) ((i + 1 : Nat) : Int) ∧
      ref23_CutPoints.L1 gs input or' g i = ref23_CutPoints.L1 gs input or'' g ((i + 1 : Nat) : Int) ∧ SS or'' ∧ or''.length ≤ or'.length + 2 ∧ oc'.length ≤ oc.length + 2 ∧ ∀ x, x ∈ oc' ↔ x ∈ or'' := by
  obtain ⟨A, B, A', B', ok, s1, s2, s3⟩ := simple_val e i hi
  rw [cells_CutPoints.L1_eq, cells_CutPoints.SL1, ref23_CutPoints.L1_eq, ref23_CutPoints.SL1, cd_t (by omega)]
  simp only [idx_nat, hg, List.getElem?_eq_getElem hi, bind_some']
  rw [cd_t (by omega)]
  simp only [comparison_val, s1, s2, bind_some', wrap_succ (show i < 9223372036854775807 by omega)]
  have same : ∃ oc' or'', cells_CutPoints.L1 input oc e gs (gs.length : Int) g e (e.length : Int) ((i + 1 : Nat) : Int) = cells_CutPoints.L1 input oc' e gs (gs.length : Int) g e (e.length : Int) ((i + 1 : Nat) : Int) ∧
      ref23_CutPoints.L1 gs input or' g ((i + 1 : Nat) : Int) = ref23_CutPoints.L1 gs input or'' g ((i + 1 : Nat) : Int) ∧ SS or'' ∧ or''.length ≤ or'.length + 2 ∧ oc'.length ≤ oc.length + 2 ∧ ∀ x, x ∈ oc' ↔ x ∈ or'' := ⟨oc, or', rfl, rfl, hs, by omega, by omega, hm⟩
  by_cases c : 19 ≤ e[i].1 ∧ e[i].1 ≤ 22
  · rw [decide_eq_true c]
    simp only [Bool.not_true, cond_false, Bool.and_true]
    cases ok with
    | false => simpa only [Bool.not_false, cond_true] using same
    | true =>
      simp only [Bool.not_true, cond_false]
      obtain ⟨rfl, rfl, mA, mB⟩ := s3 rfl c.1 c.2
      by_cases ci : A'.2.1 = input
      · rw [show (A'.2.1 != input) = false by rw [ci, bne_self_eq_false]]
        simp only [cond_false]
        by_cases c6 : B'.1 = 6
        · rw [show (B'.1 == 6) = true from beq_iff_eq.2 c6]
          simpa only [cond_true] using same
        · rw [show (B'.1 == 6) = false from beq_eq_false_iff_ne.2 c6]
          simp only [cond_false]
          have hb := hok B' mB
          obtain ⟨o1, a1, a2, a3, a4⟩ := insert_val hs (by omega) B'.2.1
          rw [cells_CutPoints.J2_eq, cells_CutPoints.SJ2, ref23_CutPoints.J2_eq, ref23_CutPoints.SJ2, rm8 (by omega), cond_true, a1, bind_some', wrap_succ (by omega)]
          by_cases cm : B'.2.1 < 9223372036854775807
          · have e1 : IntKind.i64.wrap (B'.2.1 + 1) = B'.2.1 + 1 := wrap64 (by omega) (by omega)
            obtain ⟨o2, b1, b2, b3, b4⟩ := insert_val a2 (by omega) (B'.2.1 + 1)
            rw [cd_t cm, rm8 (by simp; omega), cond_true, e1, cd_t (by omega)]
            simp only [b1, bind_some']
            exact ⟨_, o2, rfl, rfl, b2, by omega, by simp, fun x => by rw [b3 x, a3 x, List.mem_append, List.mem_append, List.mem_singleton, List.mem_singleton, hm x]⟩
          · have e1 : B'.2.1 = 9223372036854775807 := by omega
            rw [cd_f cm, cd_f (show ¬ IntKind.i64.wrap (B'.2.1 + 1) > B'.2.1 by rw [e1]; decide)]
            exact ⟨_, o1, rfl, rfl, a2, by omega, by simp, fun x => by rw [a3 x, List.mem_append, List.mem_singleton, hm x]⟩
      · rw [show (A'.2.1 != input) = true from bne_iff_ne.2 ci]
        simpa only [cond_true] using same
  · rw [decide_eq_false c]
    simpa only [Bool.not_false, cond_true, Bool.and_false] using same

theorem cut_inner (gs : List (List api_TypeV)) (input : Int) (g : Nat) (e : List api_TypeV) (hg : gs[g]? = some e) (hgl : g < 1000) (he : e.length ≤ 60) (hok : ∀ x ∈ e, -9223372036854775808 ≤ x.2.1 ∧ x.2.1 ≤ 9223372036854775807) :
    ∀ (d i : Nat) (oc or' : List Int), i + d = e.length → SS or' → or'.length ≤ 5000 + 2 * i → oc.length ≤ 5000 + 2 * i → (∀ x, x ∈ oc ↔ x ∈ or') →
    ∃ oc' or'', cells_CutPoints.L1 input oc e gs (gs.length : Int) g e (e.length : Int) i = cells_CutPoints.L0 input oc' gs (gs.length : Int) ((g + 1 : Nat) : Int) ∧
      ref23_CutPoints.L1 gs input or' g i = ref23_CutPoints.L0 gs input or'' ((g + 1 : Nat) : Int) ∧ SS or'' ∧ or''.length ≤ or'.length + 2 * d ∧ oc'.length ≤ oc.length + 2 * d ∧ ∀ x, x ∈ oc' ↔ x ∈ or''
  | 0, i, oc, or', h, hs, l1, l2, hm => by
    rw [cells_CutPoints.L1_eq, cells_CutPoints.SL1, ref23_CutPoints.L1_eq, ref23_CutPoints.SL1, cd_f (by omega)]
    simp only [idx_nat, hg, bind_some']
    rw [cd_f (by omega), wrap_succ (by omega)]
    exact ⟨oc, or', rfl, rfl, hs, by omega, by omega, hm⟩
  | d + 1, i, oc, or', h, hs, l1, l2, hm => by
    obtain ⟨oc1, or1, e1, e2, s1, k1, k2, m1⟩ := cut_step gs input g e hg (by omega) hok i (by omega) oc or' hs (by omega) (by omega) hm
    obtain ⟨oc2, or2, e3, e4, s2, k3, k4, m2⟩ := cut_inner gs input g e hg hgl he hok d (i + 1) oc1 or1 (by omega) s1 (by omega) (by omega) m1
    exact ⟨oc2, or2, e1.trans e3, e2.trans e4, s2, by omega, by omega, m2⟩

theorem cut_outer (gs : List (List api_TypeV)) (input : Int) (hgl : gs.length ≤ 20) (he : ∀ e ∈ gs, e.length ≤ 60) (hok : ∀ e ∈ gs, ∀ x ∈ e, -9223372036854775808 ≤ x.2.1 ∧ x.2.1 ≤ 9223372036854775807) :
    ∀ (d g : Nat) (oc or' : List Int), g + d = gs.length → SS or' → or'.length ≤ 120 * g → oc.length ≤ 120 * g → (∀ x, x ∈ oc ↔ x ∈ or') →
    ∃ c, cells_CutPoints.L0 input oc gs (gs.length : Int) g = some (c, ()) ∧ ref23_CutPoints.L0 gs input or' g = some (c, ()) ∧ c.length ≤ 3000 ∧ SS c
  | 0, g, oc, or', h, hs, l1, l2, hm => by
    rw [cells_CutPoints.L0_eq, cells_CutPoints.SL0, ref23_CutPoints.L0_eq, ref23_CutPoints.SL0, cd_f (by omega), cd_f (by omega)]
    obtain ⟨dd, c, u1, u2, u3, u4⟩ := uniq2 oc (by omega)
    rw [u1, bind_some', u2, bind_some']
    have : c = or' := SS_unique u3 hs (fun x => by rw [u4, hm])
    exact ⟨c, rfl, by rw [this], by rw [this]; omega, u3⟩
  | d + 1, g, oc, or', h, hs, l1, l2, hm => by
    have hg : g < gs.length := by omega
    have me := List.getElem_mem hg
    have hge : gs[g]? = some gs[g] := List.getElem?_eq_getElem hg
    obtain ⟨oc1, or1, e1, e2, s1, k1, k2, m1⟩ := cut_inner gs input g gs[g] hge (by omega) (he _ me) (hok _ me) gs[g].length 0 oc or' (by omega) hs (by omega) (by omega) hm
    have := he _ me
    obtain ⟨c, c1, c2, c3⟩ := cut_outer gs input hgl he hok d (g + 1) oc1 or1 (by omega) s1 (by omega) (by omega) m1
    rw [cells_CutPoints.L0_eq, cells_CutPoints.SL0, ref23_CutPoints.L0_eq, ref23_CutPoints.SL0, cd_t (by omega), cd_t (by omega), idx_nat, hge, bind_some']
    exact ⟨c, e1.trans c1, e2.trans c2, c3⟩

theorem cellsCuts_true (aw : law23_awake = some (true, ())) (gs : List (List api_TypeV)) (input : Int) (ho : Ty.okv (.sl (.sl api_Type)) gs) : law23_CellsCuts gs input = some (true, ()) := by
  have hok : ∀ e ∈ gs, ∀ x ∈ e, -9223372036854775808 ≤ x.2.1 ∧ x.2.1 ≤ 9223372036854775807 := fun e he x hx => okv_i64.1 ((ho.2 e he).2 x hx).2.1
  simp only [law23_CellsCuts, law23_CellsCuts.Se, aw, bind_some']
  by_cases h : (gs.length : Int) > 20
  · rw [cd_t h]
  · rw [cd_f h]
    have go : ∀ (d i : Nat), i + d = gs.length → (∀ e ∈ gs.take i, e.length ≤ 60) → law23_CellsCuts.L0 gs input i = some (true, ()) := by
      intro d
      induction d with
      | zero =>
        intro i hi hx
        rw [law23_CellsCuts.L0_eq, law23_CellsCuts.SL0, cd_f (by omega)]
        rw [List.take_of_length_le (by omega)] at hx
        obtain ⟨c, c1, c2, c3, -⟩ := cut_outer gs input (by omega) hx hok gs.length 0 [] [] (by omega) .nil (by simp) (by simp) (by simp)
        have c1' : cells_CutPoints.L0 input [] gs (gs.length : Int) 0 = some (c, ()) := c1
        have c2' : ref23_CutPoints.L0 gs input [] 0 = some (c, ()) := c2
        simp only [cells_CutPoints, cells_CutPoints.Se, ref23_CutPoints, ref23_CutPoints.Se, c1', c2', bind_some']
        rw [same_Ints_val (by rw [maxLen_eq]; omega)]
        simp [aw]
      | succ d ih =>
        intro i hi hx
        have h1 : i < gs.length := by omega
        rw [law23_CellsCuts.L0_eq, law23_CellsCuts.SL0, cd_t (by omega), idx_nat, List.getElem?_eq_getElem h1, bind_some']
        by_cases c : (gs[i].length : Int) > 60
        · rw [cd_t c, aw]; rfl
        · rw [cd_f c, wrap_succ (by omega)]
          refine ih (i + 1) (by omega) (fun x hx' => ?_)
          rw [List.take_succ_eq_append_getElem h1] at hx'
          rcases List.mem_append.1 hx' with g | g
          · exact hx x g
          · rw [List.mem_singleton.1 g]; omega
    exact go gs.length 0 (by omega) (by simp)

/-! ### Representatives -/
theorem locate_spec (l : List Int) (n : Int) (hl : l.length ≤ 1000000) : ∀ (d i : Nat) (out : Int), i + d = l.length → (out = -1 ∨ ∃ k : Nat, out = k ∧ k < i ∧ l.getD k 0 ≤ n) → (∀ j : Nat, out < (j : Int) → j < i → n < l.getD j 0) →
    ∃ r : Int, cells_Locate.L0 n out l (l.length : Int) i = some (r, ()) ∧ (r = -1 ∨ ∃ k : Nat, r = k ∧ k < l.length ∧ l.getD k 0 ≤ n) ∧ (∀ j : Nat, r < (j : Int) → j < l.length → n < l.getD j 0)
  | 0, i, out, h, h1, h2 => by
    rw [cells_Locate.L0_eq, cells_Locate.SL0, cd_f (by omega)]
    refine ⟨out, rfl, ?_, fun j j1 j2 => h2 j j1 (by omega)⟩
    rcases h1 with h1 | ⟨k, k1, k2, k3⟩
    · exact .inl h1
    · exact .inr ⟨k, k1, by omega, k3⟩
  | d + 1, i, out, h, h1, h2 => by
    have hi : i < l.length := by omega
    rw [cells_Locate.L0_eq, cells_Locate.SL0, cd_t (by omega), idx_nat, List.getElem?_eq_getElem hi]
    simp only [bind_some', wrap_succ (show i < 9223372036854775807 by omega)]
    by_cases c : l[i] ≤ n
    · rw [cd_t c]
      exact locate_spec l n hl d (i + 1) i (by omega) (.inr ⟨i, rfl, by omega, by rw [getD_nat hi]; exact c⟩) (fun j j1 j2 => by omega)
    · rw [cd_f c]
      refine locate_spec l n hl d (i + 1) out (by omega) ?_ (fun j j1 j2 => ?_)
      · rcases h1 with h1 | ⟨k, k1, k2, k3⟩
        · exact .inl h1
        · exact .inr ⟨k, k1, by omega, k3⟩
      · by_cases e : j = i
        · rw [e, getD_nat hi]; omega
        · exact h2 j j1 (by omega)

/-- The bounds of a type. -/
theorem bounds_val (t : api_TypeV) (en : List api_EnumV) (hs : ∀ x ∈ en, x.2.1.length ≤ 40) : ∃ lo hi, value_Bounds t en = some (lo, hi, ()) ∧ ref09_Bounds t en = some (lo, hi, ()) ∧
    (validT t en.length = false → lo = 0 ∧ hi = -1) ∧ (validT t en.length = true → (t.1 = 1 ∨ t.1 = 6) → lo = 0 ∧ -1 ≤ hi ∧ hi ≤ 40) ∧ (validT t en.length = true → t.1 ≠ 1 → t.1 ≠ 6 → lo ≤ hi ∧ -1000000000000000 ≤ lo ∧ hi ≤ 1000000000000000) := by
  obtain ⟨k, m, u⟩ := t
  simp only [value_Bounds, value_Bounds.Se, ref09_Bounds, ref09_Bounds.Se, value_ValidType_val, ref09_ValidType_val, bind_some']
  cases hv : validT (k, m, u) en.length with
  | false => exact ⟨0, -1, rfl, rfl, fun _ => ⟨rfl, rfl⟩, (fun h => by cases h), (fun h => by cases h)⟩
  | true =>
    simp only [Bool.not_true, cond_false]
    rcases validT_iff.1 hv with ⟨h1, h2, h3⟩ | ⟨h1, h2, h3⟩
    · have : k = 1 ∨ k = 2 ∨ k = 3 ∨ k = 4 ∨ k = 5 := by omega
      rcases this with rfl | rfl | rfl | rfl | rfl
      · exact ⟨0, 1, rfl, rfl, (fun h => by cases h), (fun _ _ => by omega), (fun _ h => by simp at h)⟩
      · exact ⟨_, _, rfl, rfl, (fun h => by cases h), (fun _ h => by omega), (fun _ _ _ => by omega)⟩
      · exact ⟨_, _, rfl, rfl, (fun h => by cases h), (fun _ h => by omega), (fun _ _ _ => by omega)⟩
      · exact ⟨_, _, rfl, rfl, (fun h => by cases h), (fun _ h => by omega), (fun _ _ _ => by omega)⟩
      · exact ⟨_, _, rfl, rfl, (fun h => by cases h), (fun _ h => by omega), (fun _ _ _ => by omega)⟩
    · subst h1
      obtain ⟨p, rfl⟩ : ∃ p : Nat, m = p := ⟨m.toNat, by omega⟩
      have hp : p < en.length := by omega
      simp only [idx_nat, List.getElem?_eq_getElem hp, bind_some']
      have := hs en[p] (List.getElem_mem hp)
      rw [wrap64 (by omega) (by omega)]
      exact ⟨0, _, rfl, rfl, (fun h => by cases h), (fun _ _ => by omega), (fun _ _ h => by simp at h)⟩

/-- All the numbers from lo to hi. -/
theorem range_loop (hi : Int) (hh : hi ≤ 1000) : ∀ (d : Nat) (n : Int) (out : List Int), hi - n + 1 ≤ d → -1000 ≤ n → out.length + d ≤ 10000 → SS out → (∀ x ∈ out, x < n) →
    ∃ r, cells_Representatives.L1 hi out n = some (r, ()) ∧ ref23_Representatives.L1 hi out n = some (r, ()) ∧ SS r ∧ (∀ x, x ∈ r ↔ x ∈ out ∨ n ≤ x ∧ x ≤ hi) ∧ r.length ≤ out.length + d
  | 0, n, out, hd, hn, hl, hs, hx => by
    rw [cells_Representatives.L1_eq, cells_Representatives.SL1, ref23_Representatives.L1_eq, ref23_Representatives.SL1, cd_f (by omega), cd_f (by omega)]
    exact ⟨out, rfl, rfl, hs, fun x => ⟨.inl, fun h => h.elim id (fun g => by omega)⟩, by omega⟩
  | d + 1, n, out, hd, hn, hl, hs, hx => by
    rw [cells_Representatives.L1_eq, cells_Representatives.SL1, ref23_Representatives.L1_eq, ref23_Representatives.SL1]
    by_cases c : n ≤ hi
    · rw [cd_t c, cd_t c, rm8 (by omega), cond_true, cond_true, wrap64 (by omega) (by omega)]
      obtain ⟨r, r1, r2, r3, r4, r5⟩ := range_loop hi hh d (n + 1) (out ++ [n]) (by omega) (by omega) (by simp; omega) (SS_snoc.2 ⟨hs, hx⟩) (fun x h => by
        rcases List.mem_append.1 h with h | h
        · have := hx x h; omega
        · rw [List.mem_singleton.1 h]; omega)
      refine ⟨r, r1, r2, r3, fun x => ?_, by simp at r5; omega⟩
      rw [r4 x, List.mem_append, List.mem_singleton, or_assoc]
      constructor
      · rintro (h | h | h)
        · exact .inl h
        · exact .inr (by omega)
        · exact .inr (by omega)
      · rintro (h | h)
        · exact .inl h
        · exact .inr (by omega)
    · rw [cd_f c, cd_f c]
      exact ⟨out, rfl, rfl, hs, fun x => ⟨.inl, fun h => h.elim id (fun g => by omega)⟩, by omega⟩

theorem reps_L2 (lo hi : Int) : ∀ (rest pre out or' : List Int), (pre ++ rest).length ≤ 1000 → out.length ≤ pre.length + 1 → or'.length ≤ pre.length + 1 → SS or' → (∀ x, x ∈ out ↔ x ∈ or') →
    ∃ r, cells_Representatives.L2 lo hi out (pre ++ rest) ((pre ++ rest).length : Int) (pre.length : Int) = some (r, ()) ∧ ref23_Representatives.L2 (pre ++ rest) lo hi or' (pre.length : Int) = some (r, ()) ∧ SS r ∧ (∀ x, x ∈ r ↔ x ∈ or' ∨ (x ∈ rest ∧ lo ≤ x ∧ x ≤ hi)) ∧ r.length ≤ 2000
  | [], pre, out, or', h, l1, l2, hs, hm => by
    simp only [List.append_nil] at h
    rw [cells_Representatives.L2_eq, cells_Representatives.SL2, ref23_Representatives.L2_eq, ref23_Representatives.SL2, cd_f (by simp), cd_f (by simp)]
    obtain ⟨dd, c, u1, u2, u3, u4⟩ := uniq2 out (by omega)
    rw [u1, bind_some', u2, bind_some']
    have : c = or' := SS_unique u3 hs (fun x => by rw [u4, hm])
    exact ⟨c, rfl, by rw [this], u3, fun x => by rw [this]; simp, by rw [this]; omega⟩
  | y :: rest, pre, out, or', h, l1, l2, hs, hm => by
    have h' := h
    rw [len_mid] at h'
    rw [cells_Representatives.L2_eq, cells_Representatives.SL2, ref23_Representatives.L2_eq, ref23_Representatives.SL2, cd_t (by rw [len_mid]; omega), cd_t (by rw [len_mid]; omega), idx_mid]
    simp only [bind_some', wrap_succ (show pre.length < 9223372036854775807 by omega)]
    rw [← len_snoc pre y, mid_shift pre y rest]
    have skip : ¬ (lo ≤ y ∧ y ≤ hi) → ∃ r, cells_Representatives.L2 lo hi out (pre ++ [y] ++ rest) ((pre ++ [y] ++ rest).length : Int) ((pre ++ [y]).length : Int) = some (r, ()) ∧ ref23_Representatives.L2 (pre ++ [y] ++ rest) lo hi or' ((pre ++ [y]).length : Int) = some (r, ()) ∧ SS r ∧ (∀ x, x ∈ r ↔ x ∈ or' ∨ (x ∈ y :: rest ∧ lo ≤ x ∧ x ≤ hi)) ∧ r.length ≤ 2000 := by
      intro hc
      obtain ⟨r, r1, r2, r3, r4, r5⟩ := reps_L2 lo hi rest (pre ++ [y]) out or' (by rw [← mid_shift]; exact h) (by simp; omega) (by simp; omega) hs hm
      refine ⟨r, r1, r2, r3, fun x => ?_, r5⟩
      rw [r4 x, List.mem_cons]
      constructor
      · rintro (g | ⟨g1, g2⟩)
        · exact .inl g
        · exact .inr ⟨.inr g1, g2⟩
      · rintro (g | ⟨g1 | g1, g2⟩)
        · exact .inl g
        · rw [g1] at g2; exact absurd g2 hc
        · exact .inr ⟨g1, g2⟩
    by_cases c1 : lo ≤ y
    · rw [cd_t (show y ≥ lo by omega), cd_t (show y ≥ lo by omega)]
      by_cases c2 : y ≤ hi
      · obtain ⟨o1, a1, a2, a3, a4⟩ := insert_val hs (by omega) y
        rw [cd_t c2, cd_t c2, rm8 (by omega), cond_true, a1, bind_some']
        obtain ⟨r, r1, r2, r3, r4, r5⟩ := reps_L2 lo hi rest (pre ++ [y]) (out ++ [y]) o1 (by rw [← mid_shift]; exact h) (by simp; omega) (by simp; omega) a2 (fun x => by rw [a3 x, List.mem_append, List.mem_singleton, hm x])
        refine ⟨r, r1, r2, r3, fun x => ?_, r5⟩
        rw [r4 x, a3 x, List.mem_cons]
        constructor
        · rintro ((g | g) | ⟨g1, g2⟩)
          · exact .inl g
          · exact .inr ⟨.inl g, by omega⟩
          · exact .inr ⟨.inr g1, g2⟩
        · rintro (g | ⟨g1 | g1, g2⟩)
          · exact .inl (.inl g)
          · exact .inl (.inr g1)
          · exact .inr ⟨g1, g2⟩
      · rw [cd_f c2, cd_f c2]
        exact skip (fun g => c2 g.2)
    · rw [cd_f (show ¬ y ≥ lo by omega), cd_f (show ¬ y ≥ lo by omega)]
      exact skip (fun g => c1 g.1)

theorem reps_val (t : api_TypeV) (en : List api_EnumV) (cuts : List Int) (hc : cuts.length ≤ 100) (hs : ∀ x ∈ en, x.2.1.length ≤ 40) : ∃ r lo hi, cells_Representatives t en cuts = some (r, ()) ∧ ref23_Representatives t en cuts = some (r, ()) ∧ ref09_Bounds t en = some (lo, hi, ()) ∧
    r.length ≤ 10000 ∧ (lo ≤ hi → SS r ∧ lo ∈ r ∧ ∀ x ∈ r, lo ≤ x) := by
  obtain ⟨lo, hi, b1, b2, b3, b4, b5⟩ := bounds_val t en hs
  simp only [cells_Representatives, cells_Representatives.Se, ref23_Representatives, ref23_Representatives.Se, value_ValidType_val, b1, b2, bind_some']
  cases hv : validT t en.length with
  | false =>
    obtain ⟨rfl, rfl⟩ := b3 hv
    exact ⟨[], 0, -1, rfl, rfl, rfl, by simp, fun h => by omega⟩
  | true =>
    simp only [Bool.not_true, cond_false]
    have J : ∀ v : Bool, (v = true ↔ t.1 = 1 ∨ t.1 = 6) → lo ≤ hi → ∃ r, cells_Representatives.J0 cuts lo hi v = some (r, ()) ∧ ref23_Representatives.J0 cuts lo hi v = some (r, ()) ∧ r.length ≤ 10000 ∧ SS r ∧ lo ∈ r ∧ ∀ x ∈ r, lo ≤ x := by
      intro v hv' hlh
      rw [cells_Representatives.J0_eq, cells_Representatives.SJ0, ref23_Representatives.J0_eq, ref23_Representatives.SJ0]
      cases v with
      | true =>
        obtain ⟨l0, l1, l2⟩ := b4 hv (hv'.1 rfl)
        obtain ⟨r, r1, r2, r3, r4, r5⟩ := range_loop hi (by omega) 100 lo [] (by omega) (by omega) (by simp) .nil (by simp)
        exact ⟨r, r1, r2, by simp at r5; omega, r3, (r4 lo).2 (.inr ⟨by omega, hlh⟩), fun x hx => by
          rcases (r4 x).1 hx with g | g
          · cases g
          · exact g.1⟩
      | false =>
        obtain ⟨r, r1, r2, r3, r4, r5⟩ := reps_L2 lo hi cuts [] [lo] [lo] (by simp; omega) (by simp) (by simp) (List.pairwise_singleton _ _) (fun x => Iff.rfl)
        simp only [List.nil_append, List.length_nil] at r1 r2
        exact ⟨r, r1, r2, by omega, r3, (r4 lo).2 (.inl (by simp)), fun x hx => by
          rcases (r4 x).1 hx with g | g
          · rw [List.mem_singleton.1 g]; exact Int.le_refl _
          · exact g.2.1⟩
    by_cases hlh : lo ≤ hi
    · rw [cd_f (by omega)]
      by_cases c1 : t.1 = 1
      · rw [beq_iff_eq.2 c1]
        obtain ⟨r, r1, r2, r3, r4, r5, r6⟩ := J true ⟨fun _ => .inl c1, fun _ => rfl⟩ hlh
        exact ⟨r, lo, hi, r1, r2, rfl, r3, fun _ => ⟨r4, r5, r6⟩⟩
      · rw [beq_eq_false_iff_ne.2 c1]
        obtain ⟨r, r1, r2, r3, r4, r5, r6⟩ := J (t.1 == 6) ⟨fun h => .inr (beq_iff_eq.1 h), fun h => beq_iff_eq.2 (h.resolve_left c1)⟩ hlh
        exact ⟨r, lo, hi, r1, r2, rfl, r3, fun _ => ⟨r4, r5, r6⟩⟩
    · rw [cd_t (by omega)]
      have c16 : t.1 = 1 ∨ t.1 = 6 := by
        rcases Decidable.em (t.1 = 1 ∨ t.1 = 6) with g | g
        · exact g
        · exact absurd (b5 hv (fun h => g (.inl h)) (fun h => g (.inr h))).1 hlh
      obtain ⟨l0, l1, l2⟩ := b4 hv c16
      have e : cells_Representatives.J0 cuts lo hi true = some ([], ()) := by
        rw [cells_Representatives.J0_eq, cells_Representatives.SJ0, cond_true, cells_Representatives.L1_eq, cells_Representatives.SL1, cd_f (by omega)]
      refine ⟨[], lo, hi, ?_, rfl, rfl, by simp, fun h => absurd h hlh⟩
      rcases c16 with g | g
      · rw [beq_iff_eq.2 g]; exact e
      · rw [show (t.1 == 1) = false from beq_eq_false_iff_ne.2 (by omega), show (t.1 == 6) = true from beq_iff_eq.2 g]; exact e

theorem cellsRepresentatives_true (aw : law23_awake = some (true, ())) (t : api_TypeV) (en : List api_EnumV) (cuts : List Int) (n : Int) : law23_CellsRepresentatives t en cuts n = some (true, ()) := by
  simp only [law23_CellsRepresentatives, law23_CellsRepresentatives.Se, aw, bind_some']
  by_cases h : (cuts.length : Int) > 100
  · rw [cd_t h]
  rw [cd_f h]
  obtain ⟨b, b1, b2⟩ := few_val [] (en, [], [], [], [], false, ())
  rw [b1, bind_some']
  cases b with
  | false => rfl
  | true =>
    obtain ⟨h1, h2, h3⟩ := b2 rfl
    simp only [Bool.not_true, cond_false]
    obtain ⟨r, lo, hi, r1, r2, r3, r4, r5⟩ := reps_val t en cuts (by omega) h3
    rw [law23_CellsRepresentatives.J0_eq, law23_CellsRepresentatives.SJ0, r1, r2, r3]
    simp only [bind_some', aw]
    rw [same_Ints_val (by rw [maxLen_eq]; omega), decide_eq_true rfl]
    simp only [bind_some', Bool.not_true, cond_false]
    by_cases c1 : n < lo
    · rw [cd_t c1]
    rw [cd_f c1]
    by_cases c2 : n > hi
    · rw [cd_t c2]
    rw [cd_f c2]
    obtain ⟨s1, s2, s3⟩ := r5 (by omega)
    match r, s1, s2, s3, r4 with
    | y :: l, s1, s2, s3, r4 =>
    have hy : y = lo := by
      have g1 := s3 y (List.mem_cons_self ..)
      rcases List.mem_cons.1 s2 with g | g
      · exact g.symm
      · have := (List.pairwise_cons.1 s1).1 lo g; omega
    subst hy
    obtain ⟨k, k1, k2, k3⟩ := locate_spec (y :: l) n (by omega) (y :: l).length 0 (-1) (by omega) (.inl rfl) (fun j _ hj => by omega)
    have k1' : cells_Locate (y :: l) n = some (k, ()) := k1
    rw [law23_CellsRepresentatives.J1_eq, law23_CellsRepresentatives.SJ1, k1', bind_some']
    have hk : ∃ q : Nat, k = q ∧ q < (y :: l).length ∧ (y :: l).getD q 0 ≤ n := by
      rcases k2 with g | g
      · have := k3 0 (by omega) (by simp)
        simp at this
        omega
      · exact g
    obtain ⟨q, rfl, q2, q3⟩ := hk
    have g0 : (y :: l).getD 0 0 = y := rfl
    simp only
    rw [cd_t (by omega), cd_t (by omega), cd_b (by decide) (by simp), g0, BEq.rfl, cond_true, cd_b (by omega) (by omega), Int.toNat_natCast, cd_t q3, wrap_succ (by omega)]
    by_cases c3 : q + 1 = (y :: l).length
    · rw [show (((q + 1 : Nat) : Int) == ((y :: l).length : Int)) = true from beq_iff_eq.2 (by omega), aw]; rfl
    · rw [show (((q + 1 : Nat) : Int) == ((y :: l).length : Int)) = false from beq_eq_false_iff_ne.2 (by omega), cond_false, cd_b (by omega) (by omega), Int.toNat_natCast, cd_t (k3 (q + 1) (by omega) (by omega)), aw]; rfl

end Go.Proofs.Ytmkkdjnojcmihaa
