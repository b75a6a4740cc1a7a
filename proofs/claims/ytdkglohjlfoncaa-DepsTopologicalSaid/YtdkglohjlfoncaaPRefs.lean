import Derived.Test.YtdkglohjlfoncaaPSortI
set_option maxRecDepth 100000
set_option linter.unusedVariables false
set_option linter.unusedSimpArgs false
namespace Go.Proofs.Ytdkglohjlfoncaa
open Go Go.Lift
theorem rm8 {n : Nat} (h : n ≤ 1000000) : (decide (n * 8 ≤ room) && decide (0 < Ty.nc (.int .i64))) = true := by
  rw [decide_eq_true (by rw [room_eq]; omega)]; rfl
theorem idx_mid {α : Type} (pre : List α) (x : α) (rest : List α) : idx (pre ++ x :: rest) (pre.length : Int) = some x := by
  rw [idx_nat]; simp
theorem getD_mid {α : Type} (pre : List α) (x z : α) (rest : List α) : (pre ++ x :: rest).getD pre.length z = x := by
  simp [List.getD_eq_getElem?_getD]
theorem len_mid {α : Type} (pre : List α) (x : α) (rest : List α) : (pre ++ x :: rest).length = pre.length + (rest.length + 1) := by simp
theorem mid_shift {α : Type} (pre : List α) (x : α) (rest : List α) : pre ++ x :: rest = (pre ++ [x]) ++ rest := by simp
theorem len_snoc {α : Type} (pre : List α) (x : α) : ((pre ++ [x]).length : Int) = ((pre.length + 1 : Nat) : Int) := by simp
def SS (l : List Int) : Prop := l.Pairwise (· < ·)
theorem SS_unique : ∀ {a b : List Int}, SS a → SS b → (∀ x, x ∈ a ↔ x ∈ b) → a = b
  | [], [], _, _, _ => rfl
  | [], y :: b, _, _, h => by have := (h y).2 (List.mem_cons_self ..); cases this
  | x :: a, [], _, _, h => by have := (h x).1 (List.mem_cons_self ..); cases this
  | x :: a, y :: b, ha, hb, h => by
    obtain ⟨a1, a2⟩ := List.pairwise_cons.1 ha
    obtain ⟨b1, b2⟩ := List.pairwise_cons.1 hb
    have e : x = y := by
      rcases List.mem_cons.1 ((h x).1 (List.mem_cons_self ..)) with e | h1
      · exact e
      · rcases List.mem_cons.1 ((h y).2 (List.mem_cons_self ..)) with e | h2
        · exact e.symm
        · have := b1 x h1; have := a1 y h2; omega
    subst e
    rw [SS_unique a2 b2 (fun z => ?_)]
    have hz := h z
    rw [List.mem_cons, List.mem_cons] at hz
    constructor
    · intro g
      rcases hz.1 (.inr g) with e | i
      · have := a1 z g; omega
      · exact i
    · intro g
      rcases hz.2 (.inr g) with e | i
      · have := b1 z g; omega
      · exact i
theorem SS_snoc {l : List Int} {x : Int} : SS (l ++ [x]) ↔ SS l ∧ ∀ y ∈ l, y < x := by
  simp [SS, List.pairwise_append]
theorem mem_take_succ {o : List Int} {m : Nat} (h : m < o.length) (x : Int) : x ∈ o.take (m + 1) ↔ x ∈ o.take m ∨ x = o.getD m 0 := by
  rw [List.take_succ_eq_append_getElem h, List.mem_append, List.mem_singleton, getD_nat h]
theorem sorted_get {o : List Int} (h : o.Pairwise (· ≤ ·)) {i j : Nat} (hij : i ≤ j) (hj : j < o.length) : o.getD i 0 ≤ o.getD j 0 := by
  rw [getD_nat hj, getD_nat (show i < o.length by omega)]
  rcases Nat.eq_or_lt_of_le hij with e | g
  · subst e; exact Int.le_refl _
  · exact List.pairwise_iff_getElem.1 h i j (by omega) hj g
theorem sorted_take_last {o : List Int} (h : o.Pairwise (· ≤ ·)) {m : Nat} (hm : m < o.length) : ∀ y ∈ o.take m, y ≤ o.getD m 0 := by
  intro y hy
  obtain ⟨i, hi, e⟩ := List.mem_iff_getElem.1 hy
  rw [List.getElem_take] at e
  have hi' : i < m := by simp at hi; omega
  rw [← e, ← getD_nat (d := 0) (show i < o.length by omega)]
  exact sorted_get h (by omega) hm
theorem cd_3 {p q r : Prop} [Decidable p] [Decidable q] [Decidable r] {α : Type} {A B : α} (hp : p) (hq : q) (hr : r) : cond (decide p && (decide q && decide r)) A B = A := by simp [hp, hq, hr]
theorem compact_L1 (o : List Int) (ho : o.Pairwise (· ≤ ·)) (hl : o.length ≤ 1000000) (lo : Nat) (hlo : lo < o.length) :
    ∀ (n k2 k : Nat) (s : List Int), o.length - lo - k2 ≤ n → 1 ≤ k2 → k2 ≤ o.length - lo → k + 1 ≤ lo + k2 → 1 ≤ k → s.length = o.length → (∀ j, lo + k2 ≤ j + 1 → s.getD j 0 = o.getD j 0) → SS (s.take k) → (∀ x, x ∈ s.take k ↔ x ∈ o.take (lo + k2)) →
    ∃ c, slices_Compact_int_int.L1 s k lo (o.length - lo) k2 = some (c, ()) ∧ SS c ∧ ∀ x, x ∈ c ↔ x ∈ o
  | n, k2, k, s, hn, h1, h2, hk, hk1, hs, hag, hss, hm => by
    rw [slices_Compact_int_int.L1_eq, slices_Compact_int_int.SL1]
    by_cases c : k2 < o.length - lo
    · have e1 : IntKind.i64.wrap ((k2 : Int) - 1) = ((k2 - 1 : Nat) : Int) := by rw [wrap64 (by omega) (by omega)]; omega
      rw [cd_t (by omega), cd_b (by omega) (by omega), e1, cd_b (by omega) (by omega), wrap_succ (by omega), wrap_succ (by omega)]
      simp only [Int.toNat_natCast]
      rw [hag (lo + k2) (by omega), hag (lo + (k2 - 1)) (by omega)]
      have hlast := sorted_take_last ho (m := lo + k2) (by omega)
      have mm := mem_take_succ (o := o) (m := lo + k2) (by omega)
      cases n with
      | zero => omega
      | succ n =>
      by_cases d : o.getD (lo + k2) 0 = o.getD (lo + (k2 - 1)) 0
      · rw [show ((o.getD (lo + k2) 0) != (o.getD (lo + (k2 - 1)) 0)) = false by rw [d, bne_self_eq_false], cond_false]
        refine compact_L1 o ho hl lo hlo n (k2 + 1) k s (by omega) (by omega) (by omega) (by omega) hk1 hs (fun j hj => hag j (by omega)) hss (fun x => ?_)
        rw [hm x, ← Nat.add_assoc, mm x]
        refine ⟨.inl, fun h => ?_⟩
        rcases h with h | h
        · exact h
        · have := (mem_take_succ (o := o) (m := lo + (k2 - 1)) (by omega) x).2 (.inr (by rw [h, d]))
          rwa [show lo + (k2 - 1) + 1 = lo + k2 by omega] at this
      · rw [show ((o.getD (lo + k2) 0) != (o.getD (lo + (k2 - 1)) 0)) = true from bne_iff_ne.2 d, cond_true, cd_b (by omega) (by omega), cd_b (by omega) (by omega)]
        have hkl : k < s.length := by omega
        have ht : (s.set k (o.getD (lo + k2) 0)).take (k + 1) = s.take k ++ [o.getD (lo + k2) 0] := by
          rw [List.take_succ_eq_append_getElem (by simpa using hkl), List.getElem_set_self, List.take_set_of_le (Nat.le_refl _)]
        refine compact_L1 o ho hl lo hlo n (k2 + 1) (k + 1) _ (by omega) (by omega) (by omega) (by omega) (by omega) (by simpa using hs) (fun j hj => ?_) ?_ (fun x => ?_)
        · rw [getD_set_if, if_neg (by omega)]
          exact hag j (by omega)
        · rw [ht, SS_snoc]
          refine ⟨hss, fun y hy => ?_⟩
          have h3 := hlast y ((hm y).1 hy)
          have h4 : y ≤ o.getD (lo + (k2 - 1)) 0 := by
            have h5 := (hm y).1 hy
            rw [show lo + k2 = lo + (k2 - 1) + 1 by omega, mem_take_succ (by omega)] at h5
            rcases h5 with h5 | h5
            · exact sorted_take_last ho (by omega) y h5
            · rw [h5]; exact Int.le_refl _
          have h6 := sorted_get ho (show lo + (k2 - 1) ≤ lo + k2 by omega) (by omega)
          omega
        · rw [ht, List.mem_append, List.mem_singleton, hm x, ← Nat.add_assoc, mm x]
    · have hk2 : lo + k2 = o.length := by omega
      rw [cd_f (by omega), cd_3 (by omega) (by omega) (by omega)]
      simp only [Int.toNat_natCast]
      rw [cd_t (by omega)]
      have e : (s.take k ++ (List.replicate (s.length - k) 0 ++ s.drop (k + (s.length - k)))).take k = s.take k := List.take_left' (by simp; omega)
      have el : (s.take k ++ (List.replicate (s.length - k) 0 ++ s.drop (k + (s.length - k)))).length = s.length := by simp; omega
      rw [e, cd_3 (by omega) (by omega) (by rw [el]; omega)]
      refine ⟨_, rfl, hss, fun x => ?_⟩
      rw [hm x, hk2, List.take_length]
theorem compact_L0 (o : List Int) (ho : o.Pairwise (· ≤ ·)) (hl : o.length ≤ 1000000) : ∀ (n k : Nat), o.length - k ≤ n → 1 ≤ k → k ≤ o.length → SS (o.take k) →
    ∃ c, slices_Compact_int_int.L0 o k = some (c, ()) ∧ SS c ∧ ∀ x, x ∈ c ↔ x ∈ o
  | n, k, hn, h1, h2, hs => by
    rw [slices_Compact_int_int.L0_eq, slices_Compact_int_int.SL0]
    by_cases c : k < o.length
    · have e1 : IntKind.i64.wrap ((k : Int) - 1) = ((k - 1 : Nat) : Int) := by rw [wrap64 (by omega) (by omega)]; omega
      rw [cd_t (by omega), cd_b (by omega) (by omega), e1, cd_b (by omega) (by omega), wrap_succ (by omega)]
      simp only [Int.toNat_natCast]
      by_cases d : o.getD k 0 = o.getD (k - 1) 0
      · rw [show ((o.getD k 0) == (o.getD (k - 1) 0)) = true from beq_iff_eq.2 d, cond_true, cd_3 (by omega) (by omega) (by omega)]
        have := compact_L1 o ho hl k c (o.length - k) 1 k o (by omega) (by omega) (by omega) (by omega) h1 rfl (fun j _ => rfl) hs (fun x => by
          rw [mem_take_succ c]
          refine ⟨.inl, fun h => ?_⟩
          rcases h with h | h
          · exact h
          · have := (mem_take_succ (o := o) (m := k - 1) (by omega) x).2 (.inr (by rw [h, d]))
            rwa [show k - 1 + 1 = k by omega] at this)
        exact this
      · rw [show ((o.getD k 0) == (o.getD (k - 1) 0)) = false from beq_eq_false_iff_ne.2 d, cond_false]
        cases n with
        | zero => omega
        | succ n =>
        refine compact_L0 o ho hl n (k + 1) (by omega) (by omega) (by omega) ?_
        rw [List.take_succ_eq_append_getElem c, SS_snoc]
        refine ⟨hs, fun y hy => ?_⟩
        have h4 : y ≤ o.getD (k - 1) 0 := by
          rw [show k = k - 1 + 1 by omega, mem_take_succ (by omega)] at hy
          rcases hy with h5 | h5
          · exact sorted_take_last ho (by omega) y h5
          · rw [h5]; exact Int.le_refl _
        have h6 := sorted_get ho (show k - 1 ≤ k by omega) c
        rw [← getD_nat (d := 0) c]
        omega
    · rw [cd_f (by omega)]
      rw [List.take_of_length_le (by omega)] at hs
      exact ⟨o, rfl, hs, fun x => Iff.rfl⟩
/-- Compact of a sorted list: each value once. -/
theorem compact_val {o : List Int} (ho : o.Pairwise (· ≤ ·)) (hl : o.length ≤ 1000000) : ∃ c, slices_Compact_int_int o = some (c, ()) ∧ SS c ∧ ∀ x, x ∈ c ↔ x ∈ o := by
  simp only [slices_Compact_int_int, slices_Compact_int_int.Se]
  by_cases h : o.length < 2
  · rw [cd_t (by omega)]
    refine ⟨o, rfl, ?_, fun x => Iff.rfl⟩
    match o, h with
    | [], _ => exact .nil
    | [x], _ => exact List.pairwise_singleton _ _
  · rw [cd_f (by omega)]
    exact compact_L0 o ho hl o.length 1 (by omega) (by omega) (by omega) (by
      match o, h with
      | x :: o, _ => exact List.pairwise_singleton _ _)
/-- A number put into a list in strict order. -/
def insS : List Int → Int → List Int
  | [], n => [n]
  | x :: l, n => if x < n then x :: insS l n else if x = n then x :: l else n :: x :: l
theorem insS_mem : ∀ (l : List Int) (n x : Int), x ∈ insS l n ↔ x ∈ l ∨ x = n
  | [], n, x => by simp [insS]
  | y :: l, n, x => by
    rw [insS]
    split
    · rw [List.mem_cons, List.mem_cons, insS_mem l n x, or_assoc]
    · split
      · rename_i h1 h2
        refine ⟨.inl, fun h => ?_⟩
        rcases h with h | h
        · exact h
        · rw [h, ← h2]; exact List.mem_cons_self ..
      · rw [List.mem_cons]; exact Or.comm
theorem insS_SS : ∀ (l : List Int) (n : Int), SS l → SS (insS l n)
  | [], n, _ => List.pairwise_singleton _ _
  | y :: l, n, h => by
    obtain ⟨h1, h2⟩ := List.pairwise_cons.1 h
    rw [insS]
    split
    · rename_i c
      refine List.pairwise_cons.2 ⟨fun x hx => ?_, insS_SS l n h2⟩
      rcases (insS_mem l n x).1 hx with g | g
      · exact h1 x g
      · omega
    · split
      · exact h
      · rename_i c1 c2
        refine List.pairwise_cons.2 ⟨fun x hx => ?_, h⟩
        rcases List.mem_cons.1 hx with g | g
        · omega
        · have := h1 x g; omega
theorem insS_length : ∀ (l : List Int) (n : Int), (insS l n).length ≤ l.length + 1
  | [], n => by simp [insS]
  | y :: l, n => by
    have := insS_length l n
    rw [insS]
    split
    · simp; omega
    · split <;> simp
theorem ins_done (n : Int) : ∀ (rest pre out : List Int), (pre ++ rest).length ≤ 100000 → out.length + rest.length ≤ 100000 → ref10_insert.L0 (pre ++ rest) n out true (pre.length : Int) = some (out ++ rest, ())
  | [], pre, out, h1, h2 => by
    rw [ref10_insert.L0_eq, ref10_insert.SL0, cd_f (by simp)]
    simp
  | x :: rest, pre, out, h1, h2 => by
    have h1' := h1
    rw [len_mid] at h1'
    simp only [List.length_cons] at h2
    rw [ref10_insert.L0_eq, ref10_insert.SL0, cd_t (by rw [len_mid]; omega)]
    simp only [Bool.not_true, cond_false]
    rw [ref10_insert.J2_eq, ref10_insert.SJ2, cond_false, ref10_insert.J1_eq, ref10_insert.SJ1, idx_mid, bind_some', rm8 (by omega), cond_true, wrap_succ (by omega), ← len_snoc pre x, mid_shift pre x rest, ins_done n rest (pre ++ [x]) (out ++ [x]) (by rw [← mid_shift]; exact h1) (by simp; omega)]
    simp
theorem ins_L0 (n : Int) : ∀ (rest pre out : List Int), (pre ++ rest).length ≤ 100000 → out.length + rest.length ≤ 99000 → ref10_insert.L0 (pre ++ rest) n out false (pre.length : Int) = some (out ++ insS rest n, ())
  | [], pre, out, h1, h2 => by
    rw [ref10_insert.L0_eq, ref10_insert.SL0, cd_f (by simp)]
    simp only [Bool.not_false, cond_true]
    rw [rm8 (by simp at h2; omega), cond_true, insS]
  | x :: rest, pre, out, h1, h2 => by
    have h1' := h1
    rw [len_mid] at h1'
    simp only [List.length_cons] at h2
    rw [ref10_insert.L0_eq, ref10_insert.SL0, cd_t (by rw [len_mid]; omega)]
    simp only [Bool.not_false, cond_true]
    rw [idx_mid, bind_some', ref10_insert.J2_eq, ref10_insert.SJ2, insS]
    have hd : ∀ o : List Int, o.length + rest.length ≤ 99010 → ref10_insert.J1 (pre ++ x :: rest) n o true (pre.length : Int) = some (o ++ x :: rest, ()) := by
      intro o ho
      rw [ref10_insert.J1_eq, ref10_insert.SJ1, idx_mid, bind_some', rm8 (by omega), cond_true, wrap_succ (by omega), ← len_snoc pre x, mid_shift pre x rest, ins_done n rest (pre ++ [x]) (o ++ [x]) (by rw [← mid_shift]; exact h1) (by simp; omega)]
      simp
    by_cases c : x < n
    · rw [cd_f (by omega), if_pos c, ref10_insert.J1_eq, ref10_insert.SJ1, idx_mid, bind_some', rm8 (by omega), cond_true, wrap_succ (by omega), ← len_snoc pre x, mid_shift pre x rest, ins_L0 n rest (pre ++ [x]) (out ++ [x]) (by rw [← mid_shift]; exact h1) (by simp; omega)]
      simp
    · rw [cd_t (by omega), if_neg c, idx_mid, bind_some']
      by_cases c2 : x = n
      · rw [cd_f (by omega), if_pos c2, hd out (by omega)]
      · rw [cd_t (by omega), if_neg c2, rm8 (by omega), cond_true, hd (out ++ [n]) (by simp; omega)]
        simp
theorem ins_val (l : List Int) (n : Int) (h : l.length ≤ 90000) : ref10_insert l n = some (insS l n, ()) := by
  simp only [ref10_insert, ref10_insert.Se]
  simpa using ins_L0 n l [] [] (by simp; omega) (by simp; omega)
theorem nodup_le : ∀ (c d : List Int), c.Nodup → (∀ x ∈ c, x ∈ d) → c.length ≤ d.length
  | [], d, _, _ => Nat.zero_le _
  | x :: c, d, hn, h => by
    obtain ⟨h1, h2⟩ := List.nodup_cons.1 hn
    have hx := h x (List.mem_cons_self ..)
    have := nodup_le c (d.erase x) h2 (fun y hy => (List.mem_erase_of_ne (by rintro rfl; exact h1 hy)).2 (h y (List.mem_cons_of_mem _ hy)))
    rw [List.length_erase_of_mem hx] at this
    have := List.length_pos_of_mem hx
    simp only [List.length_cons]
    omega
theorem uniq_val (l : List Int) (h : l.length ≤ 1000000) : ∃ c, expr_References_1 l = some (c, ()) ∧ SS c ∧ (∀ x, x ∈ c ↔ x ∈ l) ∧ c.length ≤ l.length := by
  simp only [expr_References_1, expr_References_1.Se]
  obtain ⟨d, e, p, s⟩ := sort_int l (by omega)
  rw [e, bind_some']
  obtain ⟨c, c1, c2, c3⟩ := compact_val s (by have := p.length_eq; omega)
  rw [c1, bind_some']
  refine ⟨c, rfl, c2, fun x => by rw [c3 x, p.mem_iff], ?_⟩
  have hn : c.Nodup := c2.imp (fun h => by omega)
  rw [← p.length_eq]
  exact nodup_le c d hn (fun x hx => (c3 x).1 hx)
/-- The numbers of the nodes with operations that p holds of. -/
def refsOf (p : Int → Prop) (l : List api_DateRangeV) (x : Int) : Prop := ∃ n ∈ l, p n.1 ∧ n.2.1 = x
theorem refsOf_cons (p : Int → Prop) (n : api_DateRangeV) (l : List api_DateRangeV) (x : Int) : refsOf p (n :: l) x ↔ (p n.1 ∧ x = n.2.1) ∨ refsOf p l x := by
  simp only [refsOf, List.mem_cons, exists_eq_or_imp, eq_comm (a := x)]
def isMember (op : Int) : Prop := 36 ≤ op ∧ op ≤ 39
theorem refs_L0 : ∀ (rest pre : List api_DateRangeV) (a b c : List Int), (pre ++ rest).length ≤ 1000 → a.length ≤ pre.length → b.length ≤ pre.length → c.length ≤ pre.length →
    ∃ x y w, expr_References.L0 a b c (pre ++ rest) ((pre ++ rest).length : Int) (pre.length : Int) = some (x, y, w, ()) ∧ SS x ∧ SS y ∧ SS w ∧ x.length ≤ 1000 ∧ y.length ≤ 1000 ∧ w.length ≤ 1000 ∧
      (∀ t, t ∈ x ↔ t ∈ a ∨ refsOf (· = 7) rest t) ∧ (∀ t, t ∈ y ↔ t ∈ b ∨ refsOf (· = 8) rest t) ∧ (∀ t, t ∈ w ↔ t ∈ c ∨ refsOf isMember rest t)
  | [], pre, a, b, c, h, ha, hb, hc => by
    simp at h
    obtain ⟨x, x1, x2, x3, x4⟩ := uniq_val a (by omega)
    obtain ⟨y, y1, y2, y3, y4⟩ := uniq_val b (by omega)
    obtain ⟨w, w1, w2, w3, w4⟩ := uniq_val c (by omega)
    rw [expr_References.L0_eq, expr_References.SL0, cd_f (by simp), x1, bind_some', y1, bind_some', w1, bind_some']
    exact ⟨x, y, w, rfl, x2, y2, w2, by omega, by omega, by omega, fun t => by rw [x3 t]; simp [refsOf], fun t => by rw [y3 t]; simp [refsOf], fun t => by rw [w3 t]; simp [refsOf]⟩
  | n :: rest, pre, a, b, c, h, ha, hb, hc => by
    have h' := h
    rw [len_mid] at h'
    have next : ∀ (a' b' c' : List Int), a'.length ≤ pre.length + 1 → b'.length ≤ pre.length + 1 → c'.length ≤ pre.length + 1 → (∀ t, t ∈ a' ↔ t ∈ a ∨ (n.1 = 7 ∧ t = n.2.1)) → (∀ t, t ∈ b' ↔ t ∈ b ∨ (n.1 = 8 ∧ t = n.2.1)) → (∀ t, t ∈ c' ↔ t ∈ c ∨ (isMember n.1 ∧ t = n.2.1)) →
        ∃ x y w, expr_References.L0 a' b' c' (pre ++ n :: rest) ((pre ++ n :: rest).length : Int) (IntKind.i64.wrap ((pre.length : Int) + 1)) = some (x, y, w, ()) ∧ SS x ∧ SS y ∧ SS w ∧ x.length ≤ 1000 ∧ y.length ≤ 1000 ∧ w.length ≤ 1000 ∧
          (∀ t, t ∈ x ↔ t ∈ a ∨ refsOf (· = 7) (n :: rest) t) ∧ (∀ t, t ∈ y ↔ t ∈ b ∨ refsOf (· = 8) (n :: rest) t) ∧ (∀ t, t ∈ w ↔ t ∈ c ∨ refsOf isMember (n :: rest) t) := by
      intro a' b' c' la lb lc ma mb mc
      rw [wrap_succ (by omega), ← len_snoc pre n, mid_shift pre n rest]
      obtain ⟨x, y, w, e, s1, s2, s3, l1, l2, l3, m1, m2, m3⟩ := refs_L0 rest (pre ++ [n]) a' b' c' (by rw [← mid_shift]; exact h) (by simpa using la) (by simpa using lb) (by simpa using lc)
      exact ⟨x, y, w, e, s1, s2, s3, l1, l2, l3, fun t => by rw [m1 t, ma t, refsOf_cons, or_assoc], fun t => by rw [m2 t, mb t, refsOf_cons, or_assoc], fun t => by rw [m3 t, mc t, refsOf_cons, or_assoc]⟩
    have keep : ∀ (q : Prop) (l : List Int), ¬ q → ∀ t, t ∈ l ↔ t ∈ l ∨ (q ∧ t = n.2.1) := fun q l hq t => by simp [hq]
    have grow : ∀ (q : Prop) (l : List Int), q → ∀ t, t ∈ l ++ [n.2.1] ↔ t ∈ l ∨ (q ∧ t = n.2.1) := fun q l hq t => by simp [hq]
    rw [expr_References.L0_eq, expr_References.SL0, cd_t (by rw [len_mid]; omega), idx_mid, bind_some']
    have nm : ∀ k : Int, k < 36 ∨ 39 < k → ¬ isMember k := fun k hk h => by unfold isMember at h; omega
    by_cases c7 : n.1 = 7
    · rw [beq_iff_eq.2 c7, cond_true, rm8 (by omega), cond_true]
      exact next _ _ _ (by simp; omega) (by omega) (by omega) (grow _ _ c7) (keep _ _ (by omega)) (keep _ _ (nm _ (by omega)))
    rw [beq_eq_false_iff_ne.2 c7, cond_false]
    by_cases c8 : n.1 = 8
    · rw [beq_iff_eq.2 c8, cond_true, rm8 (by omega), cond_true]
      exact next _ _ _ (by omega) (by simp; omega) (by omega) (keep _ _ c7) (grow _ _ c8) (keep _ _ (nm _ (by omega)))
    rw [beq_eq_false_iff_ne.2 c8, cond_false]
    by_cases c36 : n.1 = 36
    · rw [beq_iff_eq.2 c36, cond_true, cond_true, rm8 (by omega), cond_true]
      exact next _ _ _ (by omega) (by omega) (by simp; omega) (keep _ _ c7) (keep _ _ c8) (grow _ _ (by unfold isMember; omega))
    rw [beq_eq_false_iff_ne.2 c36, cond_false]
    by_cases c37 : n.1 = 37
    · rw [beq_iff_eq.2 c37, cond_true, cond_true, rm8 (by omega), cond_true]
      exact next _ _ _ (by omega) (by omega) (by simp; omega) (keep _ _ c7) (keep _ _ c8) (grow _ _ (by unfold isMember; omega))
    rw [beq_eq_false_iff_ne.2 c37, cond_false]
    by_cases c38 : n.1 = 38
    · rw [beq_iff_eq.2 c38, cond_true, cond_true, rm8 (by omega), cond_true]
      exact next _ _ _ (by omega) (by omega) (by simp; omega) (keep _ _ c7) (keep _ _ c8) (grow _ _ (by unfold isMember; omega))
    rw [beq_eq_false_iff_ne.2 c38, cond_false]
    by_cases c39 : n.1 = 39
    · rw [beq_iff_eq.2 c39, cond_true, rm8 (by omega), cond_true]
      exact next _ _ _ (by omega) (by omega) (by simp; omega) (keep _ _ c7) (keep _ _ c8) (grow _ _ (by unfold isMember; omega))
    rw [beq_eq_false_iff_ne.2 c39, cond_false]
    exact next _ _ _ (by omega) (by omega) (by omega) (keep _ _ c7) (keep _ _ c8) (keep _ _ (fun h => by unfold isMember at h; omega))
theorem rrefs_L0 : ∀ (rest pre : List api_DateRangeV) (a b c : List Int), (pre ++ rest).length ≤ 1000 → a.length ≤ pre.length → b.length ≤ pre.length → c.length ≤ pre.length → SS a → SS b → SS c →
    ∃ x y w, ref10_References.L0 (pre ++ rest) a b c (pre.length : Int) = some (x, y, w, ()) ∧ SS x ∧ SS y ∧ SS w ∧
      (∀ t, t ∈ x ↔ t ∈ a ∨ refsOf (· = 7) rest t) ∧ (∀ t, t ∈ y ↔ t ∈ b ∨ refsOf (· = 8) rest t) ∧ (∀ t, t ∈ w ↔ t ∈ c ∨ refsOf isMember rest t)
  | [], pre, a, b, c, h, ha, hb, hc, sa, sb, sc => by
    rw [ref10_References.L0_eq, ref10_References.SL0, cd_f (by simp)]
    exact ⟨a, b, c, rfl, sa, sb, sc, fun t => by simp [refsOf], fun t => by simp [refsOf], fun t => by simp [refsOf]⟩
  | n :: rest, pre, a, b, c, h, ha, hb, hc, sa, sb, sc => by
    have h' := h
    rw [len_mid] at h'
    have next : ∀ (a' b' c' : List Int), a'.length ≤ pre.length + 1 → b'.length ≤ pre.length + 1 → c'.length ≤ pre.length + 1 → SS a' → SS b' → SS c' → (∀ t, t ∈ a' ↔ t ∈ a ∨ (n.1 = 7 ∧ t = n.2.1)) → (∀ t, t ∈ b' ↔ t ∈ b ∨ (n.1 = 8 ∧ t = n.2.1)) → (∀ t, t ∈ c' ↔ t ∈ c ∨ (isMember n.1 ∧ t = n.2.1)) →
        ∃ x y w, ref10_References.L0 (pre ++ n :: rest) a' b' c' (IntKind.i64.wrap ((pre.length : Int) + 1)) = some (x, y, w, ()) ∧ SS x ∧ SS y ∧ SS w ∧
          (∀ t, t ∈ x ↔ t ∈ a ∨ refsOf (· = 7) (n :: rest) t) ∧ (∀ t, t ∈ y ↔ t ∈ b ∨ refsOf (· = 8) (n :: rest) t) ∧ (∀ t, t ∈ w ↔ t ∈ c ∨ refsOf isMember (n :: rest) t) := by
      intro a' b' c' la lb lc s1 s2 s3 ma mb mc
      rw [wrap_succ (by omega), ← len_snoc pre n, mid_shift pre n rest]
      obtain ⟨x, y, w, e, s1, s2, s3, m1, m2, m3⟩ := rrefs_L0 rest (pre ++ [n]) a' b' c' (by rw [← mid_shift]; exact h) (by simpa using la) (by simpa using lb) (by simpa using lc) s1 s2 s3
      exact ⟨x, y, w, e, s1, s2, s3, fun t => by rw [m1 t, ma t, refsOf_cons, or_assoc], fun t => by rw [m2 t, mb t, refsOf_cons, or_assoc], fun t => by rw [m3 t, mc t, refsOf_cons, or_assoc]⟩
    have keep : ∀ (q : Prop) (l : List Int), ¬ q → ∀ t, t ∈ l ↔ t ∈ l ∨ (q ∧ t = n.2.1) := fun q l hq t => by simp [hq]
    have grow : ∀ (q : Prop) (l : List Int), q → ∀ t, t ∈ insS l n.2.1 ↔ t ∈ l ∨ (q ∧ t = n.2.1) := fun q l hq t => by rw [insS_mem]; simp [hq]
    have nm : ∀ k : Int, k < 36 ∨ 39 < k → ¬ isMember k := fun k hk h => by unfold isMember at h; omega
    have la := insS_length a n.2.1
    have lb := insS_length b n.2.1
    have lc := insS_length c n.2.1
    have J3 : ∀ (a' b' : List Int) (v : Bool), (v = true ↔ isMember n.1) → a'.length ≤ pre.length + 1 → b'.length ≤ pre.length + 1 → SS a' → SS b' → (∀ t, t ∈ a' ↔ t ∈ a ∨ (n.1 = 7 ∧ t = n.2.1)) → (∀ t, t ∈ b' ↔ t ∈ b ∨ (n.1 = 8 ∧ t = n.2.1)) →
        ∃ x y w, ref10_References.J3 (pre ++ n :: rest) a' b' c (pre.length : Int) v = some (x, y, w, ()) ∧ SS x ∧ SS y ∧ SS w ∧
          (∀ t, t ∈ x ↔ t ∈ a ∨ refsOf (· = 7) (n :: rest) t) ∧ (∀ t, t ∈ y ↔ t ∈ b ∨ refsOf (· = 8) (n :: rest) t) ∧ (∀ t, t ∈ w ↔ t ∈ c ∨ refsOf isMember (n :: rest) t) := by
      intro a' b' v hv la lb s1 s2 ma mb
      rw [ref10_References.J3_eq, ref10_References.SJ3]
      cases v with
      | true =>
        rw [cond_true, idx_mid, bind_some', ins_val _ _ (by omega), bind_some']
        exact next _ _ (insS c n.2.1) la lb (by omega) s1 s2 (insS_SS _ _ sc) ma mb (grow _ _ (hv.1 rfl))
      | false =>
        rw [cond_false]
        exact next _ _ _ la lb (by omega) s1 s2 sc ma mb (keep _ _ (fun h => by have := hv.2 h; cases this))
    have J2 : ∀ (a' b' : List Int), a'.length ≤ pre.length + 1 → b'.length ≤ pre.length + 1 → SS a' → SS b' → (∀ t, t ∈ a' ↔ t ∈ a ∨ (n.1 = 7 ∧ t = n.2.1)) → (∀ t, t ∈ b' ↔ t ∈ b ∨ (n.1 = 8 ∧ t = n.2.1)) →
        ∃ x y w, ref10_References.J2 (pre ++ n :: rest) a' b' c (pre.length : Int) n.1 = some (x, y, w, ()) ∧ SS x ∧ SS y ∧ SS w ∧
          (∀ t, t ∈ x ↔ t ∈ a ∨ refsOf (· = 7) (n :: rest) t) ∧ (∀ t, t ∈ y ↔ t ∈ b ∨ refsOf (· = 8) (n :: rest) t) ∧ (∀ t, t ∈ w ↔ t ∈ c ∨ refsOf isMember (n :: rest) t) := by
      intro a' b' la lb s1 s2 ma mb
      rw [ref10_References.J2_eq, ref10_References.SJ2]
      by_cases c36 : 36 ≤ n.1
      · rw [cd_t (by omega)]
        exact J3 a' b' _ (by rw [decide_eq_true_iff]; unfold isMember; omega) la lb s1 s2 ma mb
      · rw [cd_f (by omega)]
        exact J3 a' b' false (by constructor; (intro h; cases h); (intro h; unfold isMember at h; omega)) la lb s1 s2 ma mb
    have J1 : ∀ (a' : List Int), a'.length ≤ pre.length + 1 → SS a' → (∀ t, t ∈ a' ↔ t ∈ a ∨ (n.1 = 7 ∧ t = n.2.1)) →
        ∃ x y w, ref10_References.J1 (pre ++ n :: rest) a' b c (pre.length : Int) n.1 = some (x, y, w, ()) ∧ SS x ∧ SS y ∧ SS w ∧
          (∀ t, t ∈ x ↔ t ∈ a ∨ refsOf (· = 7) (n :: rest) t) ∧ (∀ t, t ∈ y ↔ t ∈ b ∨ refsOf (· = 8) (n :: rest) t) ∧ (∀ t, t ∈ w ↔ t ∈ c ∨ refsOf isMember (n :: rest) t) := by
      intro a' la s1 ma
      rw [ref10_References.J1_eq, ref10_References.SJ1]
      by_cases c8 : n.1 = 8
      · rw [beq_iff_eq.2 c8, cond_true, idx_mid, bind_some', ins_val _ _ (by omega), bind_some']
        exact J2 a' (insS b n.2.1) la (by omega) s1 (insS_SS _ _ sb) ma (grow _ _ c8)
      · rw [beq_eq_false_iff_ne.2 c8, cond_false]
        exact J2 a' b la (by omega) s1 sb ma (keep _ _ c8)
    rw [ref10_References.L0_eq, ref10_References.SL0, cd_t (by rw [len_mid]; omega), idx_mid, bind_some']
    by_cases c7 : n.1 = 7
    · rw [beq_iff_eq.2 c7, cond_true, bind_some', ins_val _ _ (by omega), bind_some']
      exact J1 (insS a n.2.1) (by omega) (insS_SS _ _ sa) (grow _ _ c7)
    · rw [beq_eq_false_iff_ne.2 c7, cond_false]
      exact J1 _ (by omega) sa (keep _ _ c7)
theorem ins16_done (n : Int) : ∀ (rest pre out : List Int), (pre ++ rest).length ≤ 100000 → out.length + rest.length ≤ 100000 → ref16_insert.L0 (pre ++ rest) n out true (pre.length : Int) = some (out ++ rest, ())
  | [], pre, out, h1, h2 => by
    rw [ref16_insert.L0_eq, ref16_insert.SL0, cd_f (by simp)]
    simp
  | x :: rest, pre, out, h1, h2 => by
    have h1' := h1
    rw [len_mid] at h1'
    simp only [List.length_cons] at h2
    rw [ref16_insert.L0_eq, ref16_insert.SL0, cd_t (by rw [len_mid]; omega)]
    simp only [Bool.not_true, cond_false]
    rw [ref16_insert.J2_eq, ref16_insert.SJ2, cond_false, ref16_insert.J1_eq, ref16_insert.SJ1, idx_mid, bind_some', rm8 (by omega), cond_true, wrap_succ (by omega), ← len_snoc pre x, mid_shift pre x rest, ins16_done n rest (pre ++ [x]) (out ++ [x]) (by rw [← mid_shift]; exact h1) (by simp; omega)]
    simp
theorem ins16_L0 (n : Int) : ∀ (rest pre out : List Int), (pre ++ rest).length ≤ 100000 → out.length + rest.length ≤ 99000 → ref16_insert.L0 (pre ++ rest) n out false (pre.length : Int) = some (out ++ insS rest n, ())
  | [], pre, out, h1, h2 => by
    rw [ref16_insert.L0_eq, ref16_insert.SL0, cd_f (by simp)]
    simp only [Bool.not_false, cond_true]
    rw [rm8 (by simp at h2; omega), cond_true, insS]
  | x :: rest, pre, out, h1, h2 => by
    have h1' := h1
    rw [len_mid] at h1'
    simp only [List.length_cons] at h2
    rw [ref16_insert.L0_eq, ref16_insert.SL0, cd_t (by rw [len_mid]; omega)]
    simp only [Bool.not_false, cond_true]
    rw [idx_mid, bind_some', ref16_insert.J2_eq, ref16_insert.SJ2, insS]
    have hd : ∀ o : List Int, o.length + rest.length ≤ 99010 → ref16_insert.J1 (pre ++ x :: rest) n o true (pre.length : Int) = some (o ++ x :: rest, ()) := by
      intro o ho
      rw [ref16_insert.J1_eq, ref16_insert.SJ1, idx_mid, bind_some', rm8 (by omega), cond_true, wrap_succ (by omega), ← len_snoc pre x, mid_shift pre x rest, ins16_done n rest (pre ++ [x]) (o ++ [x]) (by rw [← mid_shift]; exact h1) (by simp; omega)]
      simp
    by_cases c : x < n
    · rw [cd_f (by omega), if_pos c, ref16_insert.J1_eq, ref16_insert.SJ1, idx_mid, bind_some', rm8 (by omega), cond_true, wrap_succ (by omega), ← len_snoc pre x, mid_shift pre x rest, ins16_L0 n rest (pre ++ [x]) (out ++ [x]) (by rw [← mid_shift]; exact h1) (by simp; omega)]
      simp
    · rw [cd_t (by omega), if_neg c, idx_mid, bind_some']
      by_cases c2 : x = n
      · rw [cd_f (by omega), if_pos c2, hd out (by omega)]
      · rw [cd_t (by omega), if_neg c2, rm8 (by omega), cond_true, hd (out ++ [n]) (by simp; omega)]
        simp
theorem ins16_val (l : List Int) (n : Int) (h : l.length ≤ 90000) : ref16_insert l n = some (insS l n, ()) := by
  simp only [ref16_insert, ref16_insert.Se]
  simpa using ins16_L0 n l [] [] (by simp; omega) (by simp; omega)
end Go.Proofs.Ytdkglohjlfoncaa
