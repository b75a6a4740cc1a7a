import Derived.Test.YtojafdgkcamliaaPS
set_option maxRecDepth 100000
set_option linter.unusedVariables false
set_option linter.unusedSimpArgs false
namespace Go.Proofs.Ytojafdgkcamliaa
open Go Go.Lift
theorem clone_str (l : List (List UInt8)) (h : l.length ≤ 1000000) : slices_Clone_string_string l = some (l, ()) := by
  rw [slices_Clone_string_string.plain, slices_Clone_string_string.P, room_eq, decide_eq_true (by omega)]
  rfl
theorem clone_field (l : List api_FieldV) (h : l.length ≤ 1000000) : slices_Clone_api_Field_api_Field l = some (l, ()) := by
  rw [slices_Clone_api_Field_api_Field.plain, slices_Clone_api_Field_api_Field.P, room_eq, decide_eq_true (by omega)]
  rfl
theorem clone_node (l : List api_DateRangeV) (h : l.length ≤ 1000000) : slices_Clone_api_Node_api_Node l = some (l, ()) := by
  rw [slices_Clone_api_Node_api_Node.plain, slices_Clone_api_Node_api_Node.P, room_eq, decide_eq_true (by omega)]
  rfl
theorem rmE {n : Nat} (h : n ≤ 1000000) : (decide (n * 40 ≤ room) && decide (0 < Ty.nc api_Enum)) = true := by rw [room_eq, decide_eq_true (by omega)]; rfl
theorem rmR {n : Nat} (h : n ≤ 1000000) : (decide (n * 40 ≤ room) && decide (0 < Ty.nc api_Row)) = true := by rw [room_eq, decide_eq_true (by omega)]; rfl
theorem rmT {n : Nat} (h : n ≤ 1000000) : (decide (n * 72 ≤ room) && decide (0 < Ty.nc api_Table)) = true := by rw [room_eq, decide_eq_true (by omega)]; rfl
theorem rmS {n : Nat} (h : n ≤ 1000000) : (decide (n * 96 ≤ room) && decide (0 < Ty.nc api_Scope)) = true := by rw [room_eq, decide_eq_true (by omega)]; rfl
theorem rmU {n : Nat} (h : n ≤ 1000000) : (decide (n * 120 ≤ room) && decide (0 < Ty.nc api_Rule)) = true := by rw [room_eq, decide_eq_true (by omega)]; rfl
def rowNow (x : api_RowV) : api_RowV := ((0, 109573, ()), x.2.1, x.2.2.1, x.2.2.2.1, ())
def rowsNow (date : Int) (l : List api_RowV) : List api_RowV := (l.filter fun x => inD x.1 date).map rowNow
def tabOn (date : Int) (t : api_TableV) : api_TableV := (t.1, t.2.1, t.2.2.1, rowsNow date t.2.2.2.1, ())
/-- The places of the rules in force. -/
def keptOf (date : Int) (s : api_ScopeV) : List Int := sel (fun r : api_RuleV => inD r.2.2.2.2.1 date) 0 s.2.2.2.2.1
def ruleNow (s : api_ScopeV) (kept : List Int) (k : Int) : api_RuleV :=
  let r := s.2.2.2.2.1.getD k.toNat rule0
  (r.1, r.2.1, anc s.2.2.2.2.1 kept s.2.2.2.2.1.length k.toNat, r.2.2.2.1, (0, 109573, ()), r.2.2.2.2.2.1, r.2.2.2.2.2.2.1, r.2.2.2.2.2.2.2.1, ())
def scpOn (date : Int) (s : api_ScopeV) : api_ScopeV := (s.1, s.2.1, s.2.2.1, s.2.2.2.1, (keptOf date s).map (ruleNow s (keptOf date s)), ())
def lawOn (date : Int) (l : api_LawV) : api_LawV := (l.1, l.2.1.map (tabOn date), l.2.2.1.map (scpOn date), ())
theorem keptOf_bd (date : Int) (s : api_ScopeV) : (∀ k ∈ keptOf date s, 0 ≤ k ∧ k < (s.2.2.2.2.1.length : Int)) ∧ (keptOf date s).Pairwise (· < ·) ∧ (keptOf date s).length ≤ s.2.2.2.2.1.length := by
  obtain ⟨h1, h2, h3⟩ := sel_bd (fun r : api_RuleV => inD r.2.2.2.2.1 date) s.2.2.2.2.1 0
  exact ⟨fun k hk => by have := h1 k hk; omega, h2, h3⟩
theorem getD_mem {α : Type} {l : List α} {k : Int} (z : α) (h0 : 0 ≤ k) (h1 : k < l.length) : l.getD k.toNat z ∈ l := by
  rw [List.getD_eq_getElem?_getD, List.getElem?_eq_getElem (show k.toNat < l.length by omega)]
  exact List.getElem_mem _
theorem scopeOn_L0 (date : Int) (s v : api_ScopeV) : ∀ (rest pre : List api_RuleV) (out : List Int), (pre ++ rest).length ≤ 1000 → out.length ≤ pre.length →
    effective_scopeOn.L0 date s v out (pre ++ rest) ((pre ++ rest).length : Int) (pre.length : Int) =
      effective_scopeOn.L1 s v (out ++ sel (fun r : api_RuleV => inD r.2.2.2.2.1 date) pre.length rest) [] ((out ++ sel (fun r : api_RuleV => inD r.2.2.2.2.1 date) pre.length rest).length : Int) 0
  | [], pre, out, h, ho => by
    rw [effective_scopeOn.L0_eq, effective_scopeOn.SL0, cd_f (by simp)]
    simp [sel]
  | x :: rest, pre, out, h, ho => by
    have h' := h
    rw [len_mid] at h'
    have ih := fun out => scopeOn_L0 date s v rest (pre ++ [x]) out (by rw [← mid_shift]; exact h)
    rw [← mid_shift, len_snoc, show (pre ++ [x]).length = pre.length + 1 by simp] at ih
    have i1 := ih out (by omega)
    have i2 := ih (out ++ [(pre.length : Int)]) (by simp; omega)
    rw [effective_scopeOn.L0_eq, effective_scopeOn.SL0, cd_t (by rw [len_mid]; omega), idx_mid]
    simp only [bind_some', contains_val, wrap_succ (show pre.length < 9223372036854775807 by omega), rm8 (show out.length + 1 ≤ 1000000 by omega), cond_true, sel, i1, i2]
    cases inD x.2.2.2.2.1 date with
    | false => rfl
    | true => simp only [cond_true, List.append_assoc, List.cons_append, List.nil_append]
theorem scopeOn_L1 (s v : api_ScopeV) (kept : List Int) (hB : scopeB s) (hs : s.2.2.2.2.1.length ≤ 1000) (hk : ∀ k ∈ kept, 0 ≤ k ∧ k < (s.2.2.2.2.1.length : Int)) (hl : kept.length ≤ 1000) : ∀ (rest pre : List Int) (out : List api_RuleV), kept = pre ++ rest → out.length ≤ pre.length →
    effective_scopeOn.L1 s v kept out (kept.length : Int) (pre.length : Int) = some ((s.1, s.2.1, s.2.2.1, s.2.2.2.1, out ++ rest.map (ruleNow s kept), ()), ())
  | [], pre, out, e, ho => by
    rw [effective_scopeOn.L1_eq, effective_scopeOn.SL1, cd_f (by rw [e]; simp)]
    simp only [clone_field _ hB.1, clone_field _ hB.2.1, bind_some', List.map_nil, List.append_nil]
  | x :: rest, pre, out, e, ho => by
    have hpl : pre.length + (rest.length + 1) ≤ 1000 := by rw [e, len_mid] at hl; exact hl
    have ih := fun out => scopeOn_L1 s v kept hB hs hk hl rest (pre ++ [x]) out (by rw [e]; simp)
    rw [len_snoc] at ih
    obtain ⟨x0, x1⟩ := hk x (by rw [e]; simp)
    have g0 : kept.getD pre.length 0 = x := by rw [e]; exact getD_mid ..
    have hx : ((x.toNat : Nat) : Int) = x := by omega
    have av := ancestor_val s kept (by omega) (i := x.toNat) (by omega)
    rw [hx] at av
    obtain ⟨r1, r2⟩ := hB.2.2.2 _ (getD_mem rule0 x0 x1)
    rw [effective_scopeOn.L1_eq, effective_scopeOn.SL1, cd_t (by rw [e, len_mid]; omega), cd_b (by omega) (by rw [e, len_mid]; omega)]
    simp only [Int.toNat_natCast, g0, av, idx_getD rule0 x0 x1, bind_some', clone_node _ r1, clone_node _ r2, rmU (show out.length + 1 ≤ 1000000 by omega), cond_true, wrap_succ (show pre.length < 9223372036854775807 by omega)]
    rw [ih _ (by simp; omega)]
    simp [ruleNow]
theorem scopeOn_val (date : Int) (s : api_ScopeV) (hB : scopeB s) (hs : s.2.2.2.2.1.length ≤ 1000) : effective_scopeOn s date = some (scpOn date s, ()) := by
  obtain ⟨h1, h2, h3⟩ := keptOf_bd date s
  simp only [effective_scopeOn, effective_scopeOn.Se]
  have := scopeOn_L0 date s ([], 0, [], [], [], ()) s.2.2.2.2.1 [] [] (by simpa using hs) (by simp)
  simp only [List.nil_append, List.length_nil] at this
  rw [show ((0 : Nat) : Int) = 0 from rfl] at this
  rw [this]
  exact scopeOn_L1 s _ (keptOf date s) hB hs h1 (by omega) (keptOf date s) [] [] rfl (by simp)
theorem lawOn_L2 (date : Int) (l v : api_LawV) (o0 : List api_EnumV) (o1 : List api_TableV) (ho1 : o1.length ≤ 1000) (t : api_TableV) (V : List api_TableV) (n i : Int) : ∀ (rest pre out : List api_RowV), (pre ++ rest).length ≤ 1000 → out.length ≤ pre.length →
    effective_LawOn.L2 date l v o0 o1 t out V n i (pre ++ rest) ((pre ++ rest).length : Int) (pre.length : Int) = effective_LawOn.L1 date l v o0 (o1 ++ [(t.1, t.2.1, t.2.2.1, out ++ rowsNow date rest, ())]) V n (IntKind.i64.wrap (i + 1))
  | [], pre, out, h, ho => by
    rw [effective_LawOn.L2_eq, effective_LawOn.SL2, cd_f (by simp)]
    rw [rmT (by omega), cond_true]
    simp [rowsNow]
  | x :: rest, pre, out, h, ho => by
    have h' := h
    rw [len_mid] at h'
    have ih := fun out => lawOn_L2 date l v o0 o1 ho1 t V n i rest (pre ++ [x]) out (by rw [← mid_shift]; exact h)
    rw [← mid_shift, len_snoc] at ih
    have i1 := ih out (by simp; omega)
    have i2 := ih (out ++ [rowNow x]) (by simp; omega)
    rw [effective_LawOn.L2_eq, effective_LawOn.SL2, cd_t (by rw [len_mid]; omega), idx_mid]
    simp only [bind_some', contains_val, wrap_succ (show pre.length < 9223372036854775807 by omega), rmR (show out.length + 1 ≤ 1000000 by omega), cond_true]
    simp only [rowNow] at i2
    rw [i1, i2]
    cases hx : inD x.1 date with
    | false => simp [rowsNow, hx]
    | true => simp [rowsNow, hx, rowNow]
theorem lawOn_L3 (date : Int) (v : api_LawV) (o0 : List api_EnumV) (o1 : List api_TableV) : ∀ (rest pre out : List api_ScopeV), (pre ++ rest).length ≤ 1000 → out.length ≤ pre.length → (∀ s ∈ rest, scopeB s ∧ s.2.2.2.2.1.length ≤ 1000) →
    effective_LawOn.L3 date v o0 o1 out (pre ++ rest) ((pre ++ rest).length : Int) (pre.length : Int) = some ((o0, o1, out ++ rest.map (scpOn date), ()), ())
  | [], pre, out, h, ho, hB => by
    rw [effective_LawOn.L3_eq, effective_LawOn.SL3, cd_f (by simp)]
    simp
  | x :: rest, pre, out, h, ho, hB => by
    have h' := h
    rw [len_mid] at h'
    have ih := lawOn_L3 date v o0 o1 rest (pre ++ [x]) (out ++ [scpOn date x]) (by rw [← mid_shift]; exact h) (by simp; omega) (fun s hs => hB s (List.mem_cons_of_mem _ hs))
    rw [← mid_shift, len_snoc] at ih
    obtain ⟨b1, b2⟩ := hB x List.mem_cons_self
    rw [effective_LawOn.L3_eq, effective_LawOn.SL3, cd_t (by rw [len_mid]; omega), idx_mid]
    simp only [bind_some', scopeOn_val date x b1 b2, wrap_succ (show pre.length < 9223372036854775807 by omega), rmS (show out.length + 1 ≤ 1000000 by omega), cond_true, ih]
    simp
theorem lawOn_L1 (date : Int) (l v : api_LawV) (o0 : List api_EnumV) : ∀ (rest pre out : List api_TableV), (pre ++ rest).length ≤ 1000 → out.length ≤ pre.length → (∀ t ∈ rest, t.2.2.2.1.length ≤ 1000) →
    effective_LawOn.L1 date l v o0 out (pre ++ rest) ((pre ++ rest).length : Int) (pre.length : Int) = effective_LawOn.L3 date v o0 (out ++ rest.map (tabOn date)) [] l.2.2.1 (l.2.2.1.length : Int) 0
  | [], pre, out, h, ho, hB => by
    rw [effective_LawOn.L1_eq, effective_LawOn.SL1, cd_f (by simp)]
    simp
  | x :: rest, pre, out, h, ho, hB => by
    have h' := h
    rw [len_mid] at h'
    have ih := lawOn_L1 date l v o0 rest (pre ++ [x]) (out ++ [tabOn date x]) (by rw [← mid_shift]; exact h) (by simp; omega) (fun s hs => hB s (List.mem_cons_of_mem _ hs))
    rw [← mid_shift, len_snoc] at ih
    have hx := hB x List.mem_cons_self
    have l2 := lawOn_L2 date l v o0 out (by omega) x (pre ++ x :: rest) ((pre ++ x :: rest).length : Int) (pre.length : Int) x.2.2.2.1 [] [] (by simpa using hx) (by simp)
    simp only [List.nil_append, List.length_nil] at l2
    rw [show ((0 : Nat) : Int) = 0 from rfl, wrap_succ (show pre.length < 9223372036854775807 by omega)] at l2
    rw [effective_LawOn.L1_eq, effective_LawOn.SL1, cd_t (by rw [len_mid]; omega), idx_mid]
    simp only [bind_some']
    rw [l2, show (x.1, x.2.1, x.2.2.1, rowsNow date x.2.2.2.1, ()) = tabOn date x from rfl, ih]
    simp
theorem lawOn_L0 (date : Int) (l v : api_LawV) : ∀ (rest pre out : List api_EnumV), (pre ++ rest).length ≤ 1000 → out.length ≤ pre.length → (∀ e ∈ rest, e.2.1.length ≤ 1000000) →
    effective_LawOn.L0 date l v out (pre ++ rest) ((pre ++ rest).length : Int) (pre.length : Int) = effective_LawOn.L1 date l v (out ++ rest) [] l.2.1 (l.2.1.length : Int) 0
  | [], pre, out, h, ho, hB => by
    rw [effective_LawOn.L0_eq, effective_LawOn.SL0, cd_f (by simp)]
    simp
  | x :: rest, pre, out, h, ho, hB => by
    have h' := h
    rw [len_mid] at h'
    have ih := lawOn_L0 date l v rest (pre ++ [x]) (out ++ [x]) (by rw [← mid_shift]; exact h) (by simp; omega) (fun s hs => hB s (List.mem_cons_of_mem _ hs))
    rw [← mid_shift, len_snoc] at ih
    have hx := hB x List.mem_cons_self
    rw [effective_LawOn.L0_eq, effective_LawOn.SL0, cd_t (by rw [len_mid]; omega), idx_mid]
    simp only [bind_some', clone_str _ hx, wrap_succ (show pre.length < 9223372036854775807 by omega), rmE (show out.length + 1 ≤ 1000000 by omega), cond_true]
    rw [show (x.1, x.2.1, ()) = x from rfl, ih]
    simp
theorem lawOn_val (date : Int) (l : api_LawV) (hl : l.1.length ≤ 1000 ∧ l.2.1.length ≤ 1000 ∧ l.2.2.1.length ≤ 1000) (he : ∀ e ∈ l.1, e.2.1.length ≤ 1000000) (ht : ∀ t ∈ l.2.1, t.2.2.2.1.length ≤ 1000) (hs : ∀ s ∈ l.2.2.1, scopeB s ∧ s.2.2.2.2.1.length ≤ 1000) : effective_LawOn l date = some (lawOn date l, ()) := by
  simp only [effective_LawOn, effective_LawOn.Se]
  have a0 := lawOn_L0 date l ([], [], [], ()) l.1 [] [] (by simpa using hl.1) (by simp) he
  have a1 := lawOn_L1 date l ([], [], [], ()) l.1 l.2.1 [] [] (by simpa using hl.2.1) (by simp) ht
  have a2 := lawOn_L3 date ([], [], [], ()) l.1 (l.2.1.map (tabOn date)) l.2.2.1 [] [] (by simpa using hl.2.2) (by simp) hs
  simp only [List.nil_append, List.length_nil] at a0 a1 a2
  rw [show ((0 : Nat) : Int) = 0 from rfl] at a0 a1 a2
  rw [a0, a1, a2]
  rfl
end Go.Proofs.Ytojafdgkcamliaa
