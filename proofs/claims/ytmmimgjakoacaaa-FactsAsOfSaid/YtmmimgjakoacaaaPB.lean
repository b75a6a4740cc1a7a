import Derived.Test.YtmmimgjakoacaaaPA
set_option maxRecDepth 100000
set_option linter.unusedVariables false
set_option linter.unusedSimpArgs false
namespace Go.Proofs.Ytmmimgjakoacaaa
open Go Go.Lift
instance (r : api_DateRangeV) (t : Int) : Decidable (inr r t) := by unfold inr; infer_instance
/-- a comes before b. -/
def bef (a b : api_FactV) : Bool := decide (frec a > frec b ∨ (frec a = frec b ∧ a.1 > b.1))
theorem bef_iff {a b : api_FactV} : bef a b = true ↔ frec a > frec b ∨ (frec a = frec b ∧ a.1 > b.1) := by unfold bef; rw [decide_eq_true_iff]
theorem before_val (a b : api_FactV) : facts_known_1 a b = some (bef a b, ()) := by
  simp only [facts_known_1, facts_known_1.Se]
  unfold bef
  by_cases h1 : a.2.2.2.2.2.1 > b.2.2.2.2.2.1
  · rw [cd_t h1, decide_eq_true (.inl h1)]
  · rw [cd_f h1]
    by_cases h2 : a.2.2.2.2.2.1 = b.2.2.2.2.2.1
    · rw [beq_iff_eq.2 h2, cond_true]
      congr 2
      rw [decide_eq_decide]
      exact ⟨fun h => .inr ⟨h2, h⟩, fun h => h.elim (fun h => absurd h h1) (fun h => h.2)⟩
    · rw [beq_eq_false_iff_ne.2 h2, cond_false, decide_eq_false (fun h => h.elim h1 (fun h => h2 h.1))]
def insK (x : api_FactV) : List api_FactV → List api_FactV
  | [] => [x]
  | y :: l => if (y :: l).all (bef x) then x :: y :: l else y :: insK x l
theorem insK_all {x : api_FactV} {q : List api_FactV} (h : ∀ z ∈ q, bef x z = true) : insK x q = x :: q := by
  cases q with
  | nil => rfl
  | cons y l => rw [insK, if_pos (List.all_eq_true.2 h)]
theorem insK_split {x : api_FactV} {q : List api_FactV} (h : ∀ z ∈ q, bef x z = true) : ∀ (p : List api_FactV), (p = [] ∨ ∃ p' y, p = p' ++ [y] ∧ bef x y = false) → insK x (p ++ q) = p ++ x :: q := by
  intro p
  induction p with
  | nil => intro _; exact insK_all h
  | cons a p ih =>
    intro hp
    obtain ⟨p', y, e, hy⟩ := hp.resolve_left (by simp)
    have hm : y ∈ a :: p := by rw [e]; simp
    rw [List.cons_append, insK, if_neg (fun hall => by
      have := List.all_eq_true.1 hall y (by rcases List.mem_cons.1 hm with h | h <;> simp [h])
      rw [hy] at this; cases this), ih (by
      cases p with
      | nil => exact .inl rfl
      | cons b p2 =>
        refine .inr ?_
        cases p' with
        | nil => simp at e
        | cons c p3 =>
          simp only [List.cons_append, List.cons.injEq] at e
          exact ⟨p3, y, e.2, hy⟩)]
    rfl
theorem rmF {n : Nat} (h : n ≤ 100000) : (decide (n * 72 ≤ room) && decide (0 < Ty.nc (.pair (.int .i64) (.pair (.int .i64) (.pair (.int .i64) (.pair (.pair (.int .i64) (.pair (.int .i64) (.pair (.int .i64) .unit))) (.pair (.pair (.int .i64) (.pair (.int .i64) .unit)) (.pair (.int .i64) .unit)))))))) = true := by
  rw [decide_eq_true (by rw [room_eq]; omega)]; rfl
theorem put_list (p q : List api_FactV) (x : api_FactV) :
    (((p ++ q ++ [x]).take (p.length + 1) ++ ((((p ++ q ++ [x]).drop p.length).take ((p ++ q ++ [x]).length - p.length)).take ((p ++ q ++ [x]).length - (p.length + 1)) ++
      (p ++ q ++ [x]).drop (p.length + 1 + min ((p ++ q ++ [x]).length - (p.length + 1)) (((p ++ q ++ [x]).drop p.length).take ((p ++ q ++ [x]).length - p.length)).length))).set p.length x) = p ++ x :: q := by
  have e0 : p ++ q ++ [x] = p ++ (q ++ [x]) := by simp
  have hl : (p ++ q ++ [x]).length = p.length + q.length + 1 := by simp; omega
  have d1 : (p ++ q ++ [x]).drop p.length = q ++ [x] := by rw [e0]; simp
  have t1 : (q ++ [x]).take ((p ++ q ++ [x]).length - p.length) = q ++ [x] := List.take_of_length_le (by rw [hl]; simp; omega)
  have t2 : (q ++ [x]).take ((p ++ q ++ [x]).length - (p.length + 1)) = q := by
    rw [hl, show p.length + q.length + 1 - (p.length + 1) = q.length by omega]; simp
  have d2 : (p ++ q ++ [x]).drop (p.length + 1 + min ((p ++ q ++ [x]).length - (p.length + 1)) (q ++ [x]).length) = [] := by
    apply List.drop_of_length_le
    rw [hl]
    simp
    omega
  rw [d1, t1, t2, d2, List.append_nil]
  have t3 : (p ++ q ++ [x]).take (p.length + 1) = p ++ (q ++ [x]).take 1 := by
    rw [e0, List.take_append, List.take_of_length_le (show p.length ≤ p.length + 1 by omega), show p.length + 1 - p.length = 1 by omega]
  rw [t3, List.append_assoc, List.set_append_right _ _ (Nat.le_refl _), Nat.sub_self]
  cases q with
  | nil => rfl
  | cons y q => rfl
theorem add_J0 (p q : List api_FactV) (x : api_FactV) (h : (p ++ q).length ≤ 10000) : facts_sorted_api_Fact_add_facts_known_1.J0 (p ++ q) x (p.length : Int) = some (p ++ x :: q) := by
  have hl : (p ++ q ++ [x]).length = p.length + q.length + 1 := by simp; omega
  have hpl : p.length + q.length ≤ 10000 := by simpa using h
  rw [facts_sorted_api_Fact_add_facts_known_1.J0_eq, facts_sorted_api_Fact_add_facts_known_1.SJ0, rmF (by omega), cond_true, wrap_succ (by omega)]
  rw [cd_3 (by omega) (by rw [hl]; omega) (by omega), cd_3 (by omega) (by rw [hl]; omega) (by omega)]
  simp only [Int.toNat_natCast]
  rw [cd_b (by omega) (by simp; omega), put_list p q x]
theorem add_L1 (x : api_FactV) : ∀ (n : Nat) (p q : List api_FactV), p.length = n → (p ++ q).length ≤ 10000 → (∀ z ∈ q, bef x z = true) → facts_sorted_api_Fact_add_facts_known_1.L1 (p ++ q) x (p.length : Int) = some (insK x (p ++ q)) := by
  intro n
  induction n with
  | zero =>
    intro p q hp h hq
    have : p = [] := List.eq_nil_of_length_eq_zero hp
    subst this
    rw [facts_sorted_api_Fact_add_facts_known_1.L1_eq, facts_sorted_api_Fact_add_facts_known_1.SL1, cd_f (by simp), add_J0 [] q x h, insK_split hq [] (.inl rfl)]
  | succ n ih =>
    intro p q hp h hq
    rcases List.eq_nil_or_concat p with e | ⟨p', y, e⟩
    · subst e; cases hp
    rw [List.concat_eq_append] at e
    subst e
    have hpl : (p' ++ [y]).length = p'.length + 1 := by simp
    have hl : (p' ++ [y] ++ q).length = p'.length + 1 + q.length := by simp; omega
    have hg : (p' ++ [y] ++ q).getD p'.length (0, 0, 0, (0, 0, 0, ()), (0, 0, ()), 0, ()) = y := by
      rw [show p' ++ [y] ++ q = p' ++ y :: q by simp]; exact getD_mid _ _ _ _
    have w : IntKind.i64.wrap (((p' ++ [y]).length : Int) - 1) = (p'.length : Int) := by rw [hpl]; exact (wrap64 (by omega) (by omega)).trans (by omega)
    rw [facts_sorted_api_Fact_add_facts_known_1.L1_eq, facts_sorted_api_Fact_add_facts_known_1.SL1, cd_t (by rw [hpl]; omega), w, cd_b (by omega) (by rw [hl]; omega), Int.toNat_natCast, hg, before_val, bind_some']
    dsimp only
    cases hb : bef x y with
    | true =>
      rw [cond_true]
      have := ih p' (y :: q) (by omega) (by simpa using h) (fun z hz => by
        rcases List.mem_cons.1 hz with e | e
        · subst e; exact hb
        · exact hq z e)
      rw [show p' ++ [y] ++ q = p' ++ y :: q by simp]
      exact this
    | false =>
      rw [cond_false, add_J0 (p' ++ [y]) q x h, insK_split hq (p' ++ [y]) (.inr ⟨p', y, rfl, hb⟩)]
theorem add_val (s : List api_FactV) (x : api_FactV) (h : s.length ≤ 10000) : facts_sorted_api_Fact_add_facts_known_1 s x = some (insK x s) := by
  have := add_L1 x s.length s [] rfl (by simpa using h) (fun z hz => by cases hz)
  rw [List.append_nil] at this
  exact this
theorem insK_length (x : api_FactV) : ∀ l, (insK x l).length = l.length + 1 := by
  intro l
  induction l with
  | nil => rfl
  | cons y l ih =>
    rw [insK]
    split
    · rfl
    · simp [ih]
theorem insK_mem (x : api_FactV) : ∀ (l : List api_FactV) (y : api_FactV), y ∈ insK x l ↔ y = x ∨ y ∈ l := by
  intro l
  induction l with
  | nil => intro y; simp [insK]
  | cons a l ih =>
    intro y
    rw [insK]
    split
    · simp
    · rw [List.mem_cons, ih, List.mem_cons]
      constructor
      · rintro (h | h | h)
        · exact .inr (.inl h)
        · exact .inl h
        · exact .inr (.inr h)
      · rintro (h | h | h)
        · exact .inr (.inl h)
        · exact .inl h
        · exact .inr (.inr h)
/-- In order: none comes before one ahead of it. -/
def Ord (l : List api_FactV) : Prop := l.Pairwise (fun x y => bef y x = false)
theorem bef_asymm {a b : api_FactV} (h : bef a b = true) : bef b a = false := by
  rw [Bool.eq_false_iff]
  intro h2
  rw [bef_iff] at h h2
  omega
theorem bef_split {a b c : api_FactV} (h : bef a b = true) (h2 : bef c b = false) : bef a c = true := by
  have h2' : ¬ (bef c b = true) := by rw [h2]; simp
  rw [bef_iff] at h h2' ⊢
  omega
theorem insK_ord (x : api_FactV) : ∀ l, Ord l → Ord (insK x l) := by
  intro l
  induction l with
  | nil => intro _; exact List.pairwise_singleton _ _
  | cons y l ih =>
    intro h
    obtain ⟨h1, h2⟩ := List.pairwise_cons.1 h
    rw [insK]
    split
    · rename_i hall
      exact List.pairwise_cons.2 ⟨fun z hz => bef_asymm (List.all_eq_true.1 hall z hz), h⟩
    · rename_i hall
      refine List.pairwise_cons.2 ⟨fun z hz => ?_, ih h2⟩
      rcases (insK_mem x l z).1 hz with e | e
      · subst e
        rw [Bool.eq_false_iff]
        intro hb
        refine hall (List.all_eq_true.2 (fun w hw => ?_))
        rcases List.mem_cons.1 hw with e | e
        · subst e; exact hb
        · exact bef_split hb (h1 w e)
      · exact h1 z e
/-- The fact is about the input, and recorded by the date. -/
def about (m i r : Int) (f : api_FactV) : Bool := decide (f.2.1 = m ∧ f.2.2.1 = i ∧ frec f ≤ r)
/-- It is valid on the date. -/
def onD (t : Int) (f : api_FactV) : Bool := decide (prp (fran f) = true ∧ inr (fran f) t)
def bstep (m i r t : Int) (b : Option api_FactV) (f : api_FactV) : Option api_FactV :=
  if about m i r f = true ∧ onD t f = true then (match b with | none => some f | some b => if bef f b then some f else some b) else b
theorem bstep_neg {m i r t : Int} {b : Option api_FactV} {f : api_FactV} (h : ¬ (about m i r f = true ∧ onD t f = true)) : bstep m i r t b f = b := if_neg h
theorem bstep_none {m i r t : Int} {f : api_FactV} (h : about m i r f = true ∧ onD t f = true) : bstep m i r t none f = some f := if_pos h
theorem bstep_some {m i r t : Int} {b f : api_FactV} (h : about m i r f = true ∧ onD t f = true) : bstep m i r t (some b) f = if bef f b then some f else some b := if_pos h
def bst (m i r t : Int) (l : List api_FactV) : Option api_FactV := l.foldl (bstep m i r t) none
def kstep (m i r : Int) (K : List api_FactV) (f : api_FactV) : List api_FactV := if about m i r f then insK f K else K
def knw (m i r : Int) (l : List api_FactV) : List api_FactV := l.foldl (kstep m i r) []
theorem find_ins (C : api_FactV → Bool) (x : api_FactV) : ∀ K, Ord K → (insK x K).find? C = if C x then (match K.find? C with | none => some x | some b => if bef x b then some x else some b) else K.find? C := by
  intro K
  induction K with
  | nil => intro _; rw [insK]; simp only [List.find?]; cases C x <;> rfl
  | cons y K ih =>
    intro h
    obtain ⟨h1, h2⟩ := List.pairwise_cons.1 h
    rw [insK]
    split
    · rename_i hall
      rw [List.find?_cons]
      cases hc : C x with
      | false => rfl
      | true =>
        simp only [if_true]
        cases hf : (y :: K).find? C with
        | none => rfl
        | some b =>
          have := List.all_eq_true.1 hall b (List.mem_of_find?_eq_some hf)
          simp only [this, if_true]
    · rename_i hall
      have hxy : bef x y = false := by
        rw [Bool.eq_false_iff]
        intro hb
        refine hall (List.all_eq_true.2 (fun w hw => ?_))
        rcases List.mem_cons.1 hw with e | e
        · subst e; exact hb
        · exact bef_split hb (h1 w e)
      rw [List.find?_cons, List.find?_cons]
      cases hc : C y with
      | true =>
        simp only [hxy]
        cases C x <;> simp
      | false => exact ih h2
theorem find_knw (m i r t : Int) : ∀ l, Ord (knw m i r l) ∧ (knw m i r l).length ≤ l.length ∧ (knw m i r l).find? (onD t) = bst m i r t l := by
  have key : ∀ (l K : List api_FactV) (b : Option api_FactV), Ord K → K.find? (onD t) = b → Ord (l.foldl (kstep m i r) K) ∧ (l.foldl (kstep m i r) K).length ≤ K.length + l.length ∧ (l.foldl (kstep m i r) K).find? (onD t) = l.foldl (bstep m i r t) b := by
    intro l
    induction l with
    | nil => intro K b h1 h2; exact ⟨h1, Nat.le_refl _, h2⟩
    | cons f l ih =>
      intro K b h1 h2
      simp only [List.foldl_cons]
      have hlen : (kstep m i r K f).length ≤ K.length + 1 := by
        unfold kstep
        split
        · rw [insK_length]; exact Nat.le_refl _
        · omega
      obtain ⟨a1, a2, a3⟩ := ih (kstep m i r K f) (bstep m i r t b f) (by
        unfold kstep
        split
        · exact insK_ord f K h1
        · exact h1) (by
        unfold kstep bstep
        cases ha : about m i r f with
        | false => simpa using h2
        | true =>
          simp only [if_true, true_and]
          rw [find_ins _ _ _ h1, h2])
      exact ⟨a1, by simp only [List.length_cons]; omega, a3⟩
  intro l
  have := key l [] none .nil rfl
  simpa [knw, bst] using this
theorem known_L0 (m i r : Int) : ∀ (rest pre K : List api_FactV), (pre ++ rest).length ≤ 1000 → K.length ≤ pre.length → facts_known.L0 m i r K (pre ++ rest) ((pre ++ rest).length : Int) (pre.length : Int) = some (rest.foldl (kstep m i r) K, ()) := by
  intro rest
  induction rest with
  | nil =>
    intro pre K h hk
    rw [facts_known.L0_eq, facts_known.SL0, cd_f (by simp)]
    rfl
  | cons f rest ih =>
    intro pre K h hk
    have hl := len_mid pre f rest
    have nx : ∀ K', K'.length ≤ K.length + 1 → K' = kstep m i r K f → facts_known.L0 m i r K' (pre ++ f :: rest) ((pre ++ f :: rest).length : Int) ((pre.length + 1 : Nat) : Int) = some ((f :: rest).foldl (kstep m i r) K, ()) := by
      intro K' hk' e
      have := ih (pre ++ [f]) K' (by rw [← mid_shift]; exact h) (by simp; omega)
      rw [len_snoc, ← mid_shift] at this
      rw [this, e]
      rfl
    rw [facts_known.L0_eq, facts_known.SL0, cd_t (by rw [hl]; omega), idx_mid, bind_some', wrap_succ (by omega)]
    by_cases h1 : f.2.1 = m
    · rw [beq_iff_eq.2 h1, cond_true]
      by_cases h2 : f.2.2.1 = i
      · rw [beq_iff_eq.2 h2, cond_true]
        by_cases h3 : f.2.2.2.2.2.1 ≤ r
        · rw [cd_t h3, add_val _ _ (by omega), bind_some']
          exact nx _ (by rw [insK_length]; exact Nat.le_refl _) (by rw [kstep, if_pos (show about m i r f = true from decide_eq_true ⟨h1, h2, h3⟩)])
        · rw [cd_f h3]
          exact nx _ (by omega) (by rw [kstep, if_neg (show ¬ about m i r f = true from fun h => h3 (of_decide_eq_true h).2.2)])
      · rw [beq_eq_false_iff_ne.2 h2, cond_false]
        exact nx _ (by omega) (by rw [kstep, if_neg (show ¬ about m i r f = true from fun h => h2 (of_decide_eq_true h).2.1)])
    · rw [beq_eq_false_iff_ne.2 h1, cond_false]
      exact nx _ (by omega) (by rw [kstep, if_neg (show ¬ about m i r f = true from fun h => h1 (of_decide_eq_true h).1)])
theorem known_val (l : List api_FactV) (m i r : Int) (h : l.length ≤ 1000) : facts_known l m i r = some (knw m i r l, ()) := known_L0 m i r l [] [] (by simpa using h) (by simp)
/-- What is told of a fact that is found, or not. -/
def res : Option api_FactV → api_ValueV × Bool × Unit
  | none => ((0, 0, 0, ()), false, ())
  | some f => (f.2.2.2.1, true, ())
theorem contains_val (r : api_DateRangeV) (t : Int) : daterange_Contains r t = some (decide (prp r = true ∧ inr r t), ()) := by
  simp only [daterange_Contains, daterange_Contains.Se, valid_val, bind_some', vld, prp_iff, inr]
  by_cases h1 : 0 ≤ r.1 ∧ r.1 ≤ r.2.1 ∧ r.2.1 ≤ 109573
  · rw [decide_eq_true h1, cond_true]
    by_cases h2 : r.1 ≤ t
    · rw [cd_t h2]
      congr 2
      rw [decide_eq_decide]; omega
    · rw [cd_f h2, decide_eq_false (by omega)]
  · rw [decide_eq_false h1, cond_false, decide_eq_false (by omega)]
theorem rcontains_val (r : api_DateRangeV) (t : Int) : ref05_Contains r t = some (decide (prp r = true ∧ inr r t), ()) := by
  simp only [ref05_Contains, ref05_Contains.Se, rvalid_val, bind_some', vld, prp_iff, inr]
  by_cases h1 : 0 ≤ r.1 ∧ r.1 ≤ r.2.1 ∧ r.2.1 ≤ 109573
  · rw [decide_eq_true h1, cond_true]
    by_cases h2 : r.1 ≤ t
    · rw [cd_t h2]
      congr 2
      rw [decide_eq_decide]; omega
    · rw [cd_f h2, decide_eq_false (by omega)]
  · rw [decide_eq_false h1, cond_false, decide_eq_false (by omega)]
theorem onD_eq (t : Int) (f : api_FactV) : decide (prp f.2.2.2.2.1 = true ∧ inr f.2.2.2.2.1 t) = onD t f := by unfold onD; rfl
theorem at_L0 (t : Int) : ∀ (rest pre : List api_FactV), (pre ++ rest).length ≤ 1000 → facts_at.L0 t (0, 0, 0, ()) (pre ++ rest) ((pre ++ rest).length : Int) (pre.length : Int) = some (res (rest.find? (onD t))) := by
  intro rest
  induction rest with
  | nil =>
    intro pre h
    rw [facts_at.L0_eq, facts_at.SL0, cd_f (by simp)]
    rfl
  | cons f rest ih =>
    intro pre h
    have hl := len_mid pre f rest
    rw [facts_at.L0_eq, facts_at.SL0, cd_t (by rw [hl]; omega), idx_mid, bind_some', contains_val, bind_some', wrap_succ (by omega), List.find?_cons]
    dsimp only
    rw [onD_eq]
    cases hc : onD t f with
    | true => rfl
    | false =>
      rw [cond_false]
      have := ih (pre ++ [f]) (by rw [← mid_shift]; exact h)
      rw [len_snoc, ← mid_shift] at this
      exact this
theorem at_val (K : List api_FactV) (t : Int) (h : K.length ≤ 1000) : facts_at K t = some (res (K.find? (onD t))) := at_L0 t K [] (by simpa using h)
theorem asOf_val (l : List api_FactV) (m i t r : Int) (h : l.length ≤ 1000) : facts_AsOf l m i t r = some (res (bst m i r t l)) := by
  obtain ⟨_, k2, k3⟩ := find_knw m i r t l
  simp only [facts_AsOf, facts_AsOf.Se, known_val _ _ _ _ h, bind_some', at_val _ t (Nat.le_trans k2 h), k3]
theorem foldl_snoc {α β : Type} (g : β → α → β) (b : β) (pre : List α) (x : α) : (pre ++ [x]).foldl g b = g (pre.foldl g b) x := by simp
/-- Where the reference's best fact stands. -/
def At (l : List api_FactV) (b : Option api_FactV) (k : Int) : Prop := (b = none ∧ k = -1) ∨ ∃ f, b = some f ∧ 0 ≤ k ∧ idx l k = some f
theorem rasOf_L0 (m i t r : Int) : ∀ (rest pre : List api_FactV) (k : Int), (pre ++ rest).length ≤ 1000 → At (pre ++ rest) (bst m i r t pre) k →
    ref34_AsOf.L0 (pre ++ rest) m i t r (0, 0, 0, ()) k (pre.length : Int) = some (res (bst m i r t (pre ++ rest))) := by
  intro rest
  induction rest with
  | nil =>
    intro pre k h ha
    rw [List.append_nil] at ha ⊢
    rw [ref34_AsOf.L0_eq, ref34_AsOf.SL0, cd_f (by omega)]
    rcases ha with ⟨h1, h2⟩ | ⟨f, h1, h2, h3⟩
    · rw [h1, h2, cd_t (by omega)]; rfl
    · rw [h1, cd_f (by omega), h3]; rfl
  | cons f rest ih =>
    intro pre k h ha
    have hl := len_mid pre f rest
    have hi : idx (pre ++ f :: rest) (pre.length : Int) = some f := idx_mid _ _ _
    have nx : ∀ k', At (pre ++ f :: rest) (bstep m i r t (bst m i r t pre) f) k' → ref34_AsOf.L0 (pre ++ f :: rest) m i t r (0, 0, 0, ()) k' ((pre.length + 1 : Nat) : Int) = some (res (bst m i r t (pre ++ f :: rest))) := by
      intro k' ha'
      have := ih (pre ++ [f]) k' (by rw [← mid_shift]; exact h) (by rw [← mid_shift, bst, foldl_snoc]; exact ha')
      rw [len_snoc, ← mid_shift] at this
      exact this
    rw [ref34_AsOf.L0_eq, ref34_AsOf.SL0, cd_t (by rw [hl]; omega), hi, bind_some', wrap_succ (by omega)]
    have skip : ¬ (about m i r f = true ∧ onD t f = true) → ref34_AsOf.L0 (pre ++ f :: rest) m i t r (0, 0, 0, ()) k ((pre.length + 1 : Nat) : Int) = some (res (bst m i r t (pre ++ f :: rest))) := by
      intro hn
      exact nx k (by rw [bstep_neg hn]; exact ha)
    by_cases h1 : f.2.1 = m
    · rw [show (f.2.1 != m) = false by simp [h1], cond_false]
      by_cases h2 : f.2.2.1 = i
      · rw [show (f.2.2.1 != i) = false by simp [h2], cond_false]
        by_cases h3 : f.2.2.2.2.2.1 > r
        · rw [cd_t h3]
          exact skip (fun h => by have : f.2.2.2.2.2.1 ≤ r := (of_decide_eq_true h.1).2.2; omega)
        · rw [cd_f h3, rcontains_val, bind_some']
          dsimp only
          rw [onD_eq]
          have hab : about m i r f = true := decide_eq_true ⟨h1, h2, (show f.2.2.2.2.2.1 ≤ r by omega)⟩
          cases hc : onD t f with
          | false =>
            rw [Bool.not_false, cond_true]
            exact skip (fun h => by rw [hc] at h; cases h.2)
          | true =>
            rw [Bool.not_true, cond_false, ref34_AsOf.J1_eq, ref34_AsOf.SJ1, wrap_succ (by omega)]
            rcases ha with ⟨a1, a2⟩ | ⟨b, a1, a2, a3⟩
            · rw [cd_t (by omega)]
              exact nx _ (by rw [a1, bstep_none ⟨hab, hc⟩]; exact .inr ⟨f, rfl, by omega, hi⟩)
            · rw [cd_f (by omega), a3]
              simp only [bind_some']
              by_cases h4 : f.2.2.2.2.2.1 > b.2.2.2.2.2.1
              · rw [cd_t h4]
                exact nx _ (by rw [a1, bstep_some ⟨hab, hc⟩, if_pos (bef_iff.2 (.inl h4))]; exact .inr ⟨f, rfl, by omega, hi⟩)
              · rw [cd_f h4]
                by_cases h5 : f.2.2.2.2.2.1 = b.2.2.2.2.2.1
                · rw [beq_iff_eq.2 h5, cond_true]
                  by_cases h6 : f.1 > b.1
                  · rw [cd_t h6]
                    exact nx _ (by rw [a1, bstep_some ⟨hab, hc⟩, if_pos (bef_iff.2 (.inr ⟨h5, h6⟩))]; exact .inr ⟨f, rfl, by omega, hi⟩)
                  · rw [cd_f h6]
                    have hb : bef f b = false := Bool.eq_false_iff.2 (fun h => by rcases bef_iff.1 h with h | h; exact h4 h; exact h6 h.2)
                    exact nx _ (by rw [a1, bstep_some ⟨hab, hc⟩, if_neg (by rw [hb]; simp)]; exact .inr ⟨b, rfl, a2, a3⟩)
                · rw [beq_eq_false_iff_ne.2 h5, cond_false]
                  have hb : bef f b = false := Bool.eq_false_iff.2 (fun h => by rcases bef_iff.1 h with h | h; exact h4 h; exact h5 h.1)
                  exact nx _ (by rw [a1, bstep_some ⟨hab, hc⟩, if_neg (by rw [hb]; simp)]; exact .inr ⟨b, rfl, a2, a3⟩)
      · rw [show (f.2.2.1 != i) = true by simp [h2], cond_true]
        exact skip (fun h => h2 (of_decide_eq_true h.1).2.1)
    · rw [show (f.2.1 != m) = true by simp [h1], cond_true]
      exact skip (fun h => h1 (of_decide_eq_true h.1).1)
theorem rasOf_val (l : List api_FactV) (m i t r : Int) (h : l.length ≤ 1000) : ref34_AsOf l m i t r = some (res (bst m i r t l)) :=
  rasOf_L0 m i t r l [] (-1) (by simpa using h) (.inl ⟨rfl, rfl⟩)
theorem eqV (a : api_ValueV) : eqTy (.pair (.int .i64) (.pair (.int .i64) (.pair (.int .i64) .unit))) a a = true := (eqTy_iff (.pair (.int .i64) (.pair (.int .i64) (.pair (.int .i64) .unit))) a a rfl).2 rfl
theorem factsAsOf_true (hA : law34_awake = some (true, ())) (l : List api_FactV) (who : api_DateRangeV) (t r : Int) : law34_FactsAsOf l who t r = some (true, ()) := by
  simp only [law34_FactsAsOf, law34_FactsAsOf.Se]
  by_cases h : (l.length : Int) > 200
  · rw [cd_t h, hA, bind_some']
  rw [cd_f h, asOf_val _ _ _ _ _ (by omega), bind_some', rasOf_val _ _ _ _ _ (by omega), bind_some', eqV, cond_true, beq_self_eq_true, cond_true, hA, bind_some']
end Go.Proofs.Ytmmimgjakoacaaa
