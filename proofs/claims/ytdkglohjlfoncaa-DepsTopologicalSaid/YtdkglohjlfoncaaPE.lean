import Derived.Test.YtdkglohjlfoncaaPD
set_option maxRecDepth 100000
set_option linter.unusedVariables false
set_option linter.unusedSimpArgs false
namespace Go.Proofs.Ytdkglohjlfoncaa
open Go Go.Lift
theorem mask32 {z : Int} (h0 : 0 ≤ z) (h1 : z ≤ 18446744073709551615) : IntKind.u64.wrap (BitVec.ofInt IntKind.u64.bits z &&& BitVec.ofInt IntKind.u64.bits 4294967295).toNat = z % 4294967296 := and_low32 z h0 (by omega)
theorem Mul64_val {x y : Int} (hx0 : 0 ≤ x) (hx : x ≤ 18446744073709551615) (hy0 : 0 ≤ y) (hy : y ≤ 18446744073709551615) : math_bits_Mul64 x y = some (x * y / 18446744073709551616, x * y % 18446744073709551616, ()) := by
  have p32 : (2 : Int) ^ (min 32 IntKind.u64.bits) = 4294967296 := by decide
  have f : ∀ z : Int, Int.fdiv z 4294967296 = z / 4294967296 := fun z => Int.fdiv_eq_ediv_of_nonneg z (by omega)
  have nn : ∀ z : Int, 0 ≤ z % 18446744073709551616 ∧ z % 18446744073709551616 ≤ 18446744073709551615 := fun z => by omega
  simp only [math_bits_Mul64, math_bits_Mul64.Se, p32, f]
  simp only [mask32 hx0 hx, mask32 hy0 hy, u64_eq]
  rw [show ∀ z : Int, (((BitVec.ofInt IntKind.u64.bits (z % 18446744073709551616) &&& BitVec.ofInt IntKind.u64.bits 4294967295).toNat : Int)) % 18446744073709551616 = (z % 18446744073709551616) % 4294967296 from fun z => by
    rw [← u64_eq]; exact mask32 (nn z).1 (nn z).2]
  rw [mul64_arith x y hx0 (by omega) hy0 (by omega)]
def ones (n : Nat) : List Int := List.replicate n (-1)
theorem rep_copy (n k : Nat) (h1 : 1 ≤ k) (h : k ≤ n) : (ones k ++ List.replicate (n - k) (0 : Int)).take k ++ (((ones k ++ List.replicate (n - k) (0 : Int)).take k).take (n - k) ++ (ones k ++ List.replicate (n - k) (0 : Int)).drop (k + min (n - k) ((ones k ++ List.replicate (n - k) (0 : Int)).take k).length)) =
    ones (k + min (n - k) k) ++ List.replicate (n - (k + min (n - k) k)) 0 := by
  have lk : (ones k).length = k := by simp [ones]
  have t1 : (ones k ++ List.replicate (n - k) (0 : Int)).take k = ones k := by
    rw [List.take_append_of_le_length (by omega), List.take_of_length_le (by omega)]
  rw [t1, lk]
  have t2 : (ones k).take (n - k) = ones (min (n - k) k) := by simp [ones, List.take_replicate]
  have t3 : (ones k ++ List.replicate (n - k) (0 : Int)).drop (k + min (n - k) k) = List.replicate (n - (k + min (n - k) k)) 0 := by
    rw [List.drop_append, List.drop_of_length_le (by omega), lk, List.drop_replicate, List.nil_append]
    congr 1
    omega
  rw [t2, t3, ← List.append_assoc]
  congr 1
  simp [ones, List.replicate_append_replicate]
theorem repeat_L2 (n : Nat) (hn : n ≤ 1000) : ∀ (d k : Nat), n - k ≤ d → 1 ≤ k → k ≤ n → slices_Repeat_int_int.L2 (ones k ++ List.replicate (n - k) 0) (k : Int) = some (ones n, ()) := by
  have len : ∀ k, k ≤ n → (ones k ++ List.replicate (n - k) (0 : Int)).length = n := fun k hk => by simp [ones]; omega
  intro d
  induction d with
  | zero =>
    intro k h h1 h2
    have : k = n := by omega
    subst this
    rw [slices_Repeat_int_int.L2_eq, slices_Repeat_int_int.SL2, cd_f (by rw [len k (by omega)]; omega)]
    simp
  | succ d ih =>
    intro k h h1 h2
    by_cases g : k < n
    · rw [slices_Repeat_int_int.L2_eq, slices_Repeat_int_int.SL2, cd_t (by rw [len k (by omega)]; omega), cd_3 (by omega) (by rw [len k h2]; omega) (by omega), cd_3 (by omega) (by omega) (by rw [len k h2]; omega)]
      simp only [Int.toNat_natCast]
      rw [len k h2, rep_copy n k h1 h2]
      have e : ((ones k ++ List.replicate (n - k) (0 : Int)).take k).length = k := by
        rw [List.length_take, len k h2]; omega
      rw [e, wrap64 (by omega) (by omega), ← Int.natCast_add]
      exact ih (k + min (n - k) k) (by omega) (by omega) (by omega)
    · exact ih k (by omega) h1 h2
theorem repeat_val (n : Nat) (h1 : 1 ≤ n) (hn : n ≤ 1000) : slices_Repeat_int_int [-1] (n : Int) = some (ones n, ()) := by
  simp only [slices_Repeat_int_int, slices_Repeat_int_int.Se]
  rw [cd_f (by omega), slices_Repeat_int_int.J0_eq, slices_Repeat_int_int.SJ0]
  simp only [math_bits_Mul, math_bits_Mul.Se, List.length_singleton]
  rw [wrapU (n := ((1 : Nat) : Int)) (by omega) (by omega), wrapU (n := (n : Int)) (by omega) (by omega), Mul64_val (by omega) (by omega) (by omega) (by omega)]
  simp only [bind_some']
  rw [cd_f (by omega), cd_f (by omega), slices_Repeat_int_int.J1_eq, slices_Repeat_int_int.SJ1]
  have e : ((1 : Nat) : Int) * (n : Int) % 18446744073709551616 = (n : Int) := by omega
  rw [e, wrap64 (n := (n : Int)) (by omega) (by omega)]
  rw [decide_eq_true (show (0 : Int) ≤ (n : Int) by omega), decide_eq_true (Int.le_refl _), decide_eq_true (show (n : Int) * 8 ≤ room by rw [room_eq]; omega), decide_eq_true (show (n : Int) ≤ maxLen by rw [maxLen_eq]; omega)]
  have l := repeat_L2 n hn n 1 (by omega) (by omega) h1
  rw [← l]
  simp only [Int.toNat_natCast, List.length_replicate, List.take_zero, List.nil_append, List.length_singleton]
  show slices_Repeat_int_int.L2 (List.take n [-1] ++ List.drop (0 + min n 1) (List.replicate n 0)) ((min n 1 : Nat) : Int) = slices_Repeat_int_int.L2 (ones 1 ++ List.replicate (n - 1) 0) ((1 : Nat) : Int)
  have m : min n 1 = 1 := by omega
  have t : List.take n [(-1 : Int)] = ones 1 := by rw [List.take_of_length_le (by simpa using h1)]; rfl
  rw [m, t, Nat.zero_add, List.drop_replicate]
/-- There is a walk of n steps from a to b. -/
def Wk (s : api_ScopeV) : Nat → Int → Int → Prop
  | 0, a, b => a = b
  | n + 1, a, b => ∃ x ∈ dir s a, Wk s n x b
theorem Wk.trans {s : api_ScopeV} {m : Nat} {b c : Int} (h2 : Wk s m b c) : ∀ {n : Nat} {a : Int}, Wk s n a b → Wk s (n + m) a c := by
  intro n
  induction n with
  | zero => intro a h; have : a = b := h; subst this; rw [Nat.zero_add]; exact h2
  | succ n ih =>
    intro a h
    obtain ⟨x, h3, h4⟩ := h
    rw [Nat.succ_add]
    exact ⟨x, h3, ih h4⟩
theorem Wk.one {s : api_ScopeV} {a b : Int} (h : b ∈ dir s a) : Wk s 1 a b := ⟨b, h, rfl⟩
theorem Wk.rch {s : api_ScopeV} : ∀ {n : Nat} {a b : Int}, Wk s (n + 1) a b → Rch s a b := by
  intro n
  induction n with
  | zero => intro a b h; obtain ⟨x, h1, h2⟩ := h; have : x = b := h2; subst this; exact .base h1
  | succ n ih => intro a b h; obtain ⟨x, h1, h2⟩ := h; exact Rch.front h1 (ih h2)
theorem Rch.wk {s : api_ScopeV} {a b : Int} (h : Rch s a b) : ∃ n, Wk s (n + 1) a b := by
  induction h with
  | base h => exact ⟨0, Wk.one h⟩
  | step _ h ih => obtain ⟨n, h1⟩ := ih; exact ⟨n + 1, Wk.trans (Wk.one h) h1⟩
def og (o : List Int) (d : Int) : Int := o.getD d.toNat 0
def cn (o : List Int) : Nat := o.countP (fun x => decide (x = -1))
theorem og_set {o : List Int} {k i v : Int} (hk : 0 ≤ k) (hk2 : k < (o.length : Int)) (hi : 0 ≤ i) : og (o.set k.toNat v) i = if i = k then v else og o i := by
  unfold og
  rw [List.getD_eq_getElem?_getD, List.getD_eq_getElem?_getD, List.getElem?_set]
  by_cases e : k.toNat = i.toNat
  · have : i = k := by omega
    rw [if_pos e, if_pos (by omega), if_pos this]
    rfl
  · have : i ≠ k := by omega
    rw [if_neg e, if_neg this]
theorem cn_set : ∀ (o : List Int) (k : Nat) (v : Int), k < o.length → o.getD k 0 = -1 → v ≠ -1 → cn (o.set k v) + 1 = cn o := by
  intro o
  induction o with
  | nil => intro k v h; cases h
  | cons b l ih =>
    intro k v h h2 h3
    cases k with
    | zero =>
      simp at h2
      subst h2
      simp [cn, h3]
    | succ k =>
      have := ih k v (by simpa using h) (by simpa using h2) h3
      unfold cn at this ⊢
      rw [List.set_cons_succ, List.countP_cons, List.countP_cons]
      omega
theorem mput_self (f : Int → Int) (k v : Int) : mput f k v k = v := by simp [mput]
theorem mput_ne (f : Int → Int) {k x : Int} (v : Int) (h : x ≠ k) : mput f k v x = f x := by simp [mput, h]
structure Bfs (s : api_ScopeV) (t : Int) (f : Int → Int) (o todo : List Int) : Prop where
  len : o.length = nD s
  opn : ∀ d, okD s d → (f d = 1 ↔ og o d = -1)
  wlk : ∀ d, okD s d → og o d ≠ -1 → ∃ n : Nat, og o d = (n : Int) ∧ Wk s n d t
  bnd : ∀ d, okD s d → og o d + (cn o : Int) + 1 ≤ (nD s : Int)
  srt : todo.Pairwise (fun x y => og o x ≤ og o y)
  tok : ∀ x ∈ todo, okD s x ∧ og o x ≠ -1
  prc : ∀ x, okD s x → og o x ≠ -1 → x ∉ todo → ∀ d, x ∈ dir s d → og o d ≠ -1 ∧ og o d ≤ og o x + 1
  tar : og o t = 0
theorem Bfs.add {s : api_ScopeV} (hs : Sm s) {t : Int} {f : Int → Int} {o rest : List Int} {h d : Int} (b : Bfs s t f o (h :: rest)) (top : ∀ e, okD s e → og o e ≤ og o h + 1) (hd : okD s d) (ho : og o d = -1) (hm : h ∈ dir s d) :
    Bfs s t (mput f d 0) (o.set d.toNat (og o h + 1)) (h :: (rest ++ [d])) ∧ (∀ e, okD s e → og (o.set d.toNat (og o h + 1)) e = if e = d then og o h + 1 else og o e) ∧ cn (o.set d.toNat (og o h + 1)) + 1 = cn o ∧ h ≠ d := by
  obtain ⟨hok, hc⟩ := b.tok h List.mem_cons_self
  obtain ⟨n, hn1, hn2⟩ := b.wlk h hok hc
  have g : ∀ e, okD s e → og (o.set d.toNat (og o h + 1)) e = if e = d then og o h + 1 else og o e := fun e he => og_set hd.1 (by rw [b.len]; exact hd.2) he.1
  have c : cn (o.set d.toNat (og o h + 1)) + 1 = cn o := cn_set o d.toNat _ (by rw [b.len]; have := hd.1; have := hd.2; omega) ho (by omega)
  have hne : h ≠ d := fun e => by subst e; exact hc ho
  have hb := b.bnd h hok
  have td : ∀ x ∈ h :: rest, x ≠ d := fun x hx e => by subst e; exact (b.tok _ hx).2 ho
  refine ⟨⟨by rw [List.length_set]; exact b.len, fun e he => ?_, fun e he hne' => ?_, fun e he => ?_, ?_, fun x hx => ?_, fun x hx hnx hnt e he => ?_, ?_⟩, g, c, hne⟩
  · rw [g e he]
    by_cases q : e = d
    · subst q
      rw [mput_self, if_pos rfl]
      exact ⟨fun h => by omega, fun h => by omega⟩
    · rw [mput_ne _ _ q, if_neg q]
      exact b.opn e he
  · rw [g e he] at hne' ⊢
    by_cases q : e = d
    · subst q
      rw [if_pos rfl]
      exact ⟨n + 1, by omega, h, hm, hn2⟩
    · rw [if_neg q] at hne' ⊢
      exact b.wlk e he hne'
  · rw [g e he]
    by_cases q : e = d
    · rw [if_pos q]; omega
    · rw [if_neg q]
      have := b.bnd e he
      omega
  · have key : ((h :: rest) ++ [d]).Pairwise (fun x y => og (o.set d.toNat (og o h + 1)) x ≤ og (o.set d.toNat (og o h + 1)) y) := by
      rw [List.pairwise_append]
      refine ⟨?_, List.pairwise_singleton _ _, fun x hx y hy => ?_⟩
      · have := b.srt
        refine List.Pairwise.imp_of_mem ?_ this
        intro x y hx hy q
        rw [g x (b.tok x hx).1, g y (b.tok y hy).1, if_neg (td x hx), if_neg (td y hy)]
        exact q
      · rw [List.mem_singleton.1 hy, g x (b.tok x hx).1, g d hd, if_neg (td x hx), if_pos rfl]
        exact top x (b.tok x hx).1
    exact key
  · have hx' : x ∈ h :: rest ∨ x = d := by
      rcases List.mem_cons.1 hx with q | q
      · exact .inl (q ▸ List.mem_cons_self)
      · rcases List.mem_append.1 q with q | q
        · exact .inl (List.mem_cons_of_mem _ q)
        · exact .inr (List.mem_singleton.1 q)
    rcases hx' with q | q
    · obtain ⟨q1, q2⟩ := b.tok x q
      rw [g x q1, if_neg (td x q)]
      exact ⟨q1, q2⟩
    · subst q
      rw [g x hd, if_pos rfl]
      exact ⟨hd, by omega⟩
  · have nd : x ≠ d := fun q => hnt (by subst q; simp)
    rw [g x hx, if_neg nd] at hnx ⊢
    have hnt' : x ∉ h :: rest := fun q => hnt (by
      rcases List.mem_cons.1 q with q | q
      · subst q; exact List.mem_cons_self
      · exact List.mem_cons_of_mem _ (List.mem_append_left _ q))
    obtain ⟨q1, q2⟩ := b.prc x hx hnx hnt' e he
    have ne : e ≠ d := fun q => by subst q; exact q1 ho
    have hek : okD s e := ((direct_val hs e).2.2.2 x he).2
    rw [g e hek, if_neg ne]
    exact ⟨q1, q2⟩
  · have htne : t ≠ d := fun e => by subst e; have := b.tar; omega
    by_cases ht : 0 ≤ t
    · rw [og_set hd.1 (by rw [b.len]; exact hd.2) ht, if_neg htne]; exact b.tar
    · have h0 : t.toNat = 0 := by omega
      have e1 : og (o.set d.toNat (og o h + 1)) 0 = if (0 : Int) = d then og o h + 1 else og o 0 := og_set hd.1 (by rw [b.len]; exact hd.2) (by omega)
      have e2 : og o t = og o 0 := by unfold og; rw [h0]; rfl
      have e3 : og (o.set d.toNat (og o h + 1)) t = og (o.set d.toNat (og o h + 1)) 0 := by unfold og; rw [h0]; rfl
      have hd0 : (0 : Int) ≠ d := fun e => by
        subst e
        have := b.tar
        omega
      rw [e3, e1, if_neg hd0, ← e2]; exact b.tar
theorem bfs_L2 {s : api_ScopeV} (hs : Sm s) (t : Int) (n : Nat) (hn : n ≤ 1000) (h : Int) : ∀ (k j : Nat) (f : Int → Int) (o rest : List Int), j + k = nD s → Bfs s t f o (h :: rest) → (∀ e, okD s e → og o e ≤ og o h + 1) →
    (∀ d, okD s d → d < (j : Int) → h ∈ dir s d → og o d ≠ -1) → rest.length + cn o ≤ 1000 →
    ∃ f' o' rest', deps_distances.L2 (dtab s) f n o (h :: rest) (dtab s) (nD s : Int) (j : Int) = deps_distances.L1 (dtab s) f' n o' rest' ∧ Bfs s t f' o' rest' ∧ (∀ a l, rest' = a :: l → ∀ e, okD s e → og o' e ≤ og o' a + 1) ∧ rest'.length + cn o' = rest.length + cn o := by
  have hN := hs.d
  intro k
  induction k with
  | zero =>
    intro j f o rest hj b top sc hl
    have hhl : (h :: rest).length = rest.length + 1 := rfl
    rw [deps_distances.L2_eq, deps_distances.SL2, cd_f (by omega), cd_3 (by omega) (by rw [hhl]; omega) (by omega)]
    have e1 : List.take ((h :: rest).length - 1) (List.drop 1 (h :: rest)) = rest := by simp
    rw [e1]
    obtain ⟨hok, hc⟩ := b.tok h List.mem_cons_self
    have sr := List.pairwise_cons.1 b.srt
    refine ⟨f, o, rest, rfl, ⟨b.len, b.opn, b.wlk, b.bnd, sr.2, fun x hx => b.tok x (List.mem_cons_of_mem _ hx), fun x hx hnx hnt d hd => ?_, b.tar⟩, fun a l e d hd => ?_, rfl⟩
    · by_cases q : x = h
      · subst q
        have hdk : okD s d := ((direct_val hs d).2.2.2 _ hd).2
        exact ⟨sc d hdk (by have := hdk.2; omega) hd, top d hdk⟩
      · exact b.prc x hx hnx (fun hm => by
          rcases List.mem_cons.1 hm with e | e
          · exact q e
          · exact hnt e) d hd
    · have := sr.1 a (by rw [e]; exact List.mem_cons_self)
      have := top d hd
      omega
  | succ k ih =>
    intro j f o rest hj b top sc hl
    have hj' : okD s (j : Int) := ⟨by omega, by omega⟩
    obtain ⟨hok, hc⟩ := b.tok h List.mem_cons_self
    have hhl : (h :: rest).length = rest.length + 1 := rfl
    have g0 : (h :: rest).getD 0 0 = h := rfl
    have tg := dtab_get hj'
    have dl := dir_le hs (j : Int)
    have nx : ∀ (f' : Int → Int) (o' rest' : List Int), Bfs s t f' o' (h :: rest') → (∀ e, okD s e → og o' e ≤ og o' h + 1) → (∀ d, okD s d → d < ((j + 1 : Nat) : Int) → h ∈ dir s d → og o' d ≠ -1) → rest'.length + cn o' = rest.length + cn o →
        ∃ f'' o'' rest'', deps_distances.L2 (dtab s) f' n o' (h :: rest') (dtab s) (nD s : Int) ((j + 1 : Nat) : Int) = deps_distances.L1 (dtab s) f'' n o'' rest'' ∧ Bfs s t f'' o'' rest'' ∧ (∀ a l, rest'' = a :: l → ∀ e, okD s e → og o'' e ≤ og o'' a + 1) ∧ rest''.length + cn o'' = rest.length + cn o := by
      intro f' o' rest' q1 q2 q3 q4
      obtain ⟨a, b, c, d1, d2, d3, d4⟩ := ih (j + 1) f' o' rest' (by omega) q1 q2 q3 (by omega)
      exact ⟨a, b, c, d1, d2, d3, d4.trans q4⟩
    rw [deps_distances.L2_eq, deps_distances.SL2, cd_t (by omega), idx_gd [] (by omega) (by rw [dtab_len]; omega), bind_some', tg]
    have stay : (og o (j : Int) = -1 → h ∈ dir s (j : Int) → False) → ∀ d, okD s d → d < ((j + 1 : Nat) : Int) → h ∈ dir s d → og o d ≠ -1 := by
      intro q d hd hlt hm
      by_cases e : d = (j : Int)
      · subst e; exact fun w => q w hm
      · exact sc d hd (by omega) hm
    by_cases c : og o (j : Int) = -1
    · rw [beq_iff_eq.2 ((b.opn _ hj').2 c), cond_true, cd_b (by omega) (by rw [hhl]; omega), g0, contains_val _ _ (by omega), bind_some', deps_distances.J3_eq, deps_distances.SJ3]
      by_cases c2 : h ∈ dir s (j : Int)
      · have bh := b.bnd h hok
        obtain ⟨n0, w1, _⟩ := b.wlk h hok hc
        have eo : o.getD h.toNat 0 = og o h := rfl
        rw [decide_eq_true c2, cond_true, decide_eq_true (show n < maxLen by rw [show maxLen = 9223372036854775807 from maxLen_eq]; omega), cond_true, cd_b (by omega) (by rw [hhl]; omega), g0, cd_b hok.1 (by rw [b.len]; exact hok.2), cd_b (by omega) (by rw [b.len]; omega), rm8 (by rw [hhl]; omega), cond_true, eo, wrap64 (by omega) (by omega), wrap_succ (by omega)]
        obtain ⟨b', g, cc, hne⟩ := b.add hs top hj' c c2
        refine nx _ _ (rest ++ [(j : Int)]) b' (fun e he => ?_) (fun d hd hlt hm => ?_) ?_
        · rw [g e he, g h hok, if_neg hne]
          by_cases q : e = (j : Int)
          · rw [if_pos q]; omega
          · rw [if_neg q]; exact top e he
        · rw [g d hd]
          by_cases q : d = (j : Int)
          · rw [if_pos q]; omega
          · rw [if_neg q]; exact sc d hd (by omega) hm
        · simp only [List.length_append, List.length_singleton]; omega
      · rw [decide_eq_false c2, cond_false, wrap_succ (by omega)]
        exact nx f o rest b top (stay (fun _ q => c2 q)) rfl
    · rw [beq_eq_false_iff_ne.2 (fun q => c ((b.opn _ hj').1 q)), cond_false, deps_distances.J3_eq, deps_distances.SJ3, cond_false, wrap_succ (by omega)]
      exact nx f o rest b top (stay (fun q _ => c q)) rfl
theorem bfs_L1 {s : api_ScopeV} (hs : Sm s) (t : Int) (n : Nat) (hn : n ≤ 1000) : ∀ (m : Nat) (f : Int → Int) (o todo : List Int), todo.length + cn o ≤ m → m ≤ 1000 → Bfs s t f o todo → (∀ a l, todo = a :: l → ∀ e, okD s e → og o e ≤ og o a + 1) →
    ∃ f' o', deps_distances.L1 (dtab s) f n o todo = some (o', ()) ∧ Bfs s t f' o' [] := by
  intro m
  induction m with
  | zero =>
    intro f o todo h1 h2 b top
    have : todo = [] := List.eq_nil_of_length_eq_zero (by omega)
    subst this
    rw [deps_distances.L1_eq, deps_distances.SL1, cd_f (by simp)]
    exact ⟨f, o, rfl, b⟩
  | succ m ih =>
    intro f o todo h1 h2 b top
    cases todo with
    | nil =>
      rw [deps_distances.L1_eq, deps_distances.SL1, cd_f (by simp)]
      exact ⟨f, o, rfl, b⟩
    | cons h rest =>
      have hhl : (h :: rest).length = rest.length + 1 := rfl
      rw [hhl] at h1
      rw [deps_distances.L1_eq, deps_distances.SL1, cd_t (by rw [hhl]; omega)]
      obtain ⟨f', o', rest', e1, b', t', l'⟩ := bfs_L2 hs t n hn h (nD s) 0 f o rest (by omega) b (top h rest rfl) (fun d hd hlt _ => by have := hd.1; omega) (by omega)
      obtain ⟨f'', o'', e2, b''⟩ := ih f' o' rest' (by omega) (by omega) b' t'
      have e1' : deps_distances.L2 (dtab s) f n o (h :: rest) (dtab s) (nD s : Int) 0 = _ := e1
      rw [dtab_len, e1', e2]
      exact ⟨f'', o'', rfl, b''⟩
theorem bfs_L0 {s : api_ScopeV} (hs : Sm s) (t : Int) (ht : okD s t) : ∀ (d i : Nat) (f : Int → Int), i + d = nD s → (∀ x, 0 ≤ x → x < (i : Int) → f x = 1) →
    ∃ f', deps_distances.L0 (dtab s) t f i (nD s : Int) (i : Int) = deps_distances.L1 (dtab s) (mput f' t 0) (nD s) ((ones (nD s)).set t.toNat 0) [t] ∧ ∀ x, okD s x → f' x = 1 := by
  have hN := hs.d
  have ht1 := ht.1
  have ht2 := ht.2
  intro d
  induction d with
  | zero =>
    intro i f h hf
    have : i = nD s := by omega
    subst this
    have hlen : (ones (nD s)).length = nD s := by simp [ones]
    have mx : maxLen = 9223372036854775807 := maxLen_eq
    rw [deps_distances.L0_eq, deps_distances.SL0, cd_f (by omega), decide_eq_true (show nD s < maxLen by rw [mx]; omega), cond_true, dtab_len, repeat_val (nD s) (by omega) (by omega), bind_some', cd_b ht1 (by rw [hlen]; omega)]
    exact ⟨f, rfl, fun x hx => hf x hx.1 hx.2⟩
  | succ d ih =>
    intro i f h hf
    have mx : maxLen = 9223372036854775807 := maxLen_eq
    rw [deps_distances.L0_eq, deps_distances.SL0, cd_t (by omega), decide_eq_true (show i < maxLen by rw [mx]; omega), cond_true, wrap_succ (by omega)]
    refine ih (i + 1) (mput f (i : Int) 1) (by omega) (fun x h0 h1 => ?_)
    by_cases e : x = (i : Int)
    · subst e; exact mput_self _ _ _
    · rw [mput_ne _ _ e]; exact hf x h0 (by omega)
/-- The exact distances to t. -/
structure Dist (s : api_ScopeV) (t : Int) (o : List Int) : Prop where
  len : o.length = nD s
  none : ∀ d, okD s d → og o d = -1 → ∀ n, ¬ Wk s n d t
  some : ∀ d, okD s d → og o d ≠ -1 → ∃ n : Nat, og o d = (n : Int) ∧ n < nD s ∧ Wk s n d t ∧ ∀ m, Wk s m d t → n ≤ m
theorem distances_val {s : api_ScopeV} (hs : Sm s) (t : Int) (ht : okD s t) : ∃ o, deps_distances (dtab s) t = some (o, ()) ∧ Dist s t o := by
  have hN := hs.d
  have ht1 := ht.1
  have ht2 := ht.2
  have ol : (ones (nD s)).length = nD s := by simp [ones]
  have oge : ∀ d, okD s d → og (ones (nD s)) d = -1 := fun d hd => by
    have := hd.1; have := hd.2
    unfold og ones
    rw [List.getD_eq_getElem?_getD, List.getElem?_replicate, if_pos (by omega)]
    rfl
  have cno : cn (ones (nD s)) = nD s := by
    unfold cn ones
    rw [List.countP_replicate]
    simp
  have cns := cn_set (ones (nD s)) t.toNat 0 (by omega) (oge t ht) (by omega)
  have g : ∀ e, okD s e → og ((ones (nD s)).set t.toNat 0) e = if e = t then 0 else -1 := fun e he => by
    rw [og_set ht1 (by omega) he.1]
    by_cases q : e = t
    · rw [if_pos q, if_pos q]
    · rw [if_neg q, if_neg q, oge e he]
  obtain ⟨f', e1, hf'⟩ := bfs_L0 hs t ht (nD s) 0 (fun _ => 0) (by omega) (fun x _ _ => by omega)
  have b0 : Bfs s t (mput f' t 0) ((ones (nD s)).set t.toNat 0) [t] := by
    refine ⟨by rw [List.length_set]; exact ol, fun d hd => ?_, fun d hd hn => ?_, fun d hd => ?_, List.pairwise_singleton _ _, fun x hx => ?_, fun x hx hn hnt => ?_, ?_⟩
    · rw [g d hd]
      by_cases q : d = t
      · subst q; rw [mput_self, if_pos rfl]; exact ⟨fun h => by omega, fun h => by omega⟩
      · rw [mput_ne _ _ q, if_neg q]; exact ⟨fun _ => rfl, fun _ => hf' d hd⟩
    · rw [g d hd] at hn ⊢
      by_cases q : d = t
      · rw [if_pos q]; exact ⟨0, rfl, q⟩
      · rw [if_neg q] at hn; exact absurd rfl hn
    · rw [g d hd]
      by_cases q : d = t
      · rw [if_pos q]; omega
      · rw [if_neg q]; omega
    · rw [List.mem_singleton.1 hx, g t ht, if_pos rfl]; exact ⟨ht, by omega⟩
    · have q : x ≠ t := fun q => hnt (by rw [q]; exact List.mem_singleton.2 rfl)
      rw [g x hx, if_neg q] at hn
      exact absurd rfl hn
    · rw [g t ht, if_pos rfl]
  obtain ⟨f'', o, e2, b⟩ := bfs_L1 hs t (nD s) (by omega) 1000 _ _ [t] (by simp; omega) (by omega) b0 (fun a l e d hd => by
    have : t = a := by injection e
    subst this
    rw [g d hd, g t ht, if_pos rfl]
    split <;> omega)
  have key : ∀ (m : Nat) (d : Int), okD s d → Wk s m d t → og o d ≠ -1 ∧ og o d ≤ (m : Int) := by
    intro m
    induction m with
    | zero =>
      intro d hd h
      have : d = t := h
      subst this
      rw [b.tar]
      exact ⟨by omega, by omega⟩
    | succ m ih =>
      intro d hd h
      obtain ⟨x, h1, h2⟩ := h
      have hx : okD s x := ((direct_val hs d).2.2.2 x h1).1
      obtain ⟨a1, a2⟩ := ih x hx h2
      obtain ⟨a3, a4⟩ := b.prc x hx a1 (fun q => by cases q) d h1
      exact ⟨a3, by omega⟩
  refine ⟨o, ?_, b.len, fun d hd ho n hw => (key n d hd hw).1 ho, fun d hd ho => ?_⟩
  · simp only [deps_distances, deps_distances.Se]
    have e1' : deps_distances.L0 (dtab s) t (fun _ => 0) 0 (nD s : Int) 0 = _ := e1
    rw [dtab_len, e1', e2]
  · obtain ⟨n, a1, a2⟩ := b.wlk d hd ho
    have := b.bnd d hd
    exact ⟨n, a1, by omega, a2, fun m hm => by have := (key m d hd hm).2; omega⟩
end Go.Proofs.Ytdkglohjlfoncaa
