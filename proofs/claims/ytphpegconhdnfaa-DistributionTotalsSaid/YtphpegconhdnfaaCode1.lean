import Derived.Test.YtphpegconhdnfaaTys
import Derived.RangeFuncBox
import Derived.RangeFuncLeaves
import Derived.RangeFuncCalls
import Derived.RangeFuncKeeps
import Derived.RangeFuncNested
import Derived.Shelf.Abstract
import Derived.WalkKit
import Derived.OwnWalkIn
import Derived.TacticsInMore
import Derived.LoopNIn
import Derived.LoopIn
set_option maxRecDepth 100000
set_option linter.unusedVariables false
namespace Go.Proofs.Ytphpegconhdnfaa
open Go Go.Lift
namespace law59_few
abbrev ps : List PM := [.pure (.sl (.int .i64))]
abbrev rs : List RM := [.pure .bool]
abbrev R : Type := Option (Bool × Unit)
noncomputable def E : Env := { tt := tt, ctx := [], nt := 6, ann := [] }
noncomputable def fin : ASt → R := Kret E Try.f10.results.toList ps rs
noncomputable def Se (l : List Int) : R :=
  some (decide ((l.length : Int) ≤ 200), ())
theorem se (x : (argTy ps).den) : run E (lim E fin) fin depth (bodyOf Try.f10) .ret (entryFrom 0 ps x) = Se x.1 := by kernel_rfl
end law59_few
noncomputable def law59_few (l : List Int) : law59_few.R :=
  law59_few.Se l
namespace law59_few
noncomputable def sig : Sig := ⟨ps, rs, fun x => law59_few x.1⟩
theorem val (x : (argTy ps).den) : lim E fin (.code (bodyOf Try.f10) .ret) (entryFrom 0 ps x) = sig.run x := (lim_eq (.code (bodyOf Try.f10) .ret) (entryFrom 0 ps x)).trans (se x)
theorem ok : CallOK Try.prog 10 sig :=
  callOK_of_lim (E := E) mixed tt_ok ctxOk_nil Try.func10 (by kernel_rfl : Try.f10.body = some (bodyOf Try.f10)) Try.ntmps10 (of_decide_eq_true (by kernel_rfl)) (of_decide_eq_true (by kernel_rfl)) fun x y h => (val x).trans h
noncomputable def ctxc (n : Nat) : List (Nat × Sig) := []
noncomputable def sigc (n : Nat) : Sig := ⟨ps, rs, fun x => runs (withCtx E (ctxc n)) fin n (.code (bodyOf Try.f10) .ret) (entryFrom 0 ps x)⟩
theorem sigc_le (n : Nat) : ∀ x y, (sigc n).run x = some y → sig.run x = some y := fun x y h => (val x).symm.trans (runs_lim (E := E) (c := ctxc n) ctxLe_nil h)
end law59_few
namespace slices_Values_int_int
abbrev ps : List PM := [.pure (.sl (.int .i64))]
abbrev rs : List RM := [.rfn 36 [.sl (.int .i64)]]
abbrev R : Type := Option ((List Int × Unit) × Unit)
noncomputable def E : Env := { tt := tt, ctx := [], nt := 4, ann := [] }
noncomputable def fin : ASt → R := Kret E Try.f24.results.toList ps rs
noncomputable def Se (s : List Int) : R :=
  some ((s, ()), ())
theorem se (x : (argTy ps).den) : run E (lim E fin) fin depth (bodyOf Try.f24) .ret (entryFrom 0 ps x) = Se x.1 := by kernel_rfl
end slices_Values_int_int
noncomputable def slices_Values_int_int (s : List Int) : slices_Values_int_int.R :=
  slices_Values_int_int.Se s
namespace slices_Values_int_int
noncomputable def sig : Sig := ⟨ps, rs, fun x => slices_Values_int_int x.1⟩
theorem val (x : (argTy ps).den) : lim E fin (.code (bodyOf Try.f24) .ret) (entryFrom 0 ps x) = sig.run x := (lim_eq (.code (bodyOf Try.f24) .ret) (entryFrom 0 ps x)).trans (se x)
theorem ok : CallOK Try.prog 24 sig :=
  callOK_of_lim (E := E) mixed tt_ok ctxOk_nil Try.func24 (by kernel_rfl : Try.f24.body = some (bodyOf Try.f24)) Try.ntmps24 (of_decide_eq_true (by kernel_rfl)) (of_decide_eq_true (by kernel_rfl)) fun x y h => (val x).trans h
noncomputable def ctxc (n : Nat) : List (Nat × Sig) := []
noncomputable def sigc (n : Nat) : Sig := ⟨ps, rs, fun x => runs (withCtx E (ctxc n)) fin n (.code (bodyOf Try.f24) .ret) (entryFrom 0 ps x)⟩
theorem sigc_le (n : Nat) : ∀ x y, (sigc n).run x = some y → sig.run x = some y := fun x y h => (val x).symm.trans (runs_lim (E := E) (c := ctxc n) ctxLe_nil h)
end slices_Values_int_int
namespace slices_Collect_int_slices_Values_int_int_1
abbrev ps : List PM := [.rfn 36 [.sl (.int .i64)]]
abbrev rs : List RM := [.own (.int .i64)]
abbrev R : Type := Option (List Int × Unit)
end slices_Collect_int_slices_Values_int_int_1
section
open Go.RowKit Go.Shelf
attribute [local go_sem] Oper.semAt_some
/-- What has come when k rounds are over. -/
def upto (f : Nat → Int) (k : Nat) : List Int := (List.range k).map f
theorem upto_succ (f : Nat → Int) (k : Nat) : upto f (k + 1) = upto f k ++ [f k] := by simp [upto, List.range_succ]
theorem upto_length (f : Nat → Int) (k : Nat) : (upto f k).length = k := by simp [upto]
theorem upto_all (l : List Int) : upto (fun j => l.getD j 0) l.length = l := by
  refine List.ext_getElem (by simp [upto]) fun i h1 h2 => ?_
  simp [upto, List.getD_eq_getElem?_getD, List.getElem?_eq_getElem h2]
set_option maxHeartbeats 2000000 in
theorem vs1_in (F : Fence) (n : Nat) (h36 : F.fn 36) (hro : F.round = none) (hn : 1 ≤ n) (l Bs ofs n₀ b off len cap : Nat) (f : Nat → Int) (hlen : len ≤ 9223372036854775807) (hb : b < n₀) (J Jx : List Int → World → Prop)
    (hY : ∀ pre x W, J pre W → pre.length < len → YieldAt F (n - 1) Try.prog l #[.int .i64 x] W fun e W' =>
      (e = .returned (.bool true) ∧ J (pre ++ [x]) W' ∧ Below n₀ W W') ∨ (e = .returned (.bool false) ∧ Jx (pre ++ [x]) W'))
    (W : World) (hBs : W.cell? ⟨Bs, ofs, none⟩ = some (.slice (some ⟨b, off, none⟩) len cap)) (hc : ∀ j, j < len → W.cell? ⟨b, off + j, none⟩ = some (.int .i64 (f j))) (h0 : J [] W) :
    CallsIn F n Try.prog 36 #[.func (.yield l) #[] #[], .pointer (some ⟨Bs, ofs, none⟩)] W fun e W' => (∃ v, e = .returned v) ∧ (J (upto f len) W' ∨ ∃ k, k ≤ len ∧ Jx (upto f k) W') := by
  refine callsIn_of_wp Try.func36 rfl h36 ?_ hro
  simp only [Try.ntmps36, List.size_toArray, List.length_cons, List.length_nil, Nat.reduceAdd, Nat.reduceSub, Array.replicate_succ, Array.replicate_zero, List.push_toArray, List.append_toArray, List.nil_append, List.cons_append]
  gi_wp2
  gi_loopw [7] (fun i wr => ∃ k : Nat, k ≤ len ∧ i = .int .i64 k ∧ J (upto f k) wr ∧ Below n₀ W wr)
    (fun i _ => len - (intOf i).toNat)
  case atStart => exact ⟨0, Nat.zero_le _, rfl, h0, Below.refl _ _⟩
  case round =>
    obtain ⟨k, hk, rfl, hJs, hnx⟩ := hrel
    by_cases hlt : k < len
    · obtain ⟨fn, tmps, assign, body, hy, hR⟩ := hY _ (f k) wr hJs (by rw [upto_length]; exact hlt)
      have hcx := (hnx.cell (p := ⟨b, off + k, none⟩) hb).trans (hc k hlt)
      gi_wp2
      refine hR.mono ?_
      rintro e W3 (⟨rfl, hJ3, hk3⟩ | ⟨rfl, hJx3⟩)
      · gi_wp2
        go_roundw
        case rel => exact ⟨k + 1, by omega, by simp, by rw [upto_succ]; exact hJ3, hnx.trans hk3⟩
        case measure => simp [intOf]; omega
      · gi_wp2
        refine bodyPost_ret (results_none rfl _ _ _) rfl ?_
        exact ⟨⟨_, rfl⟩, .inr ⟨k + 1, by omega, by rw [upto_succ]; exact hJx3⟩⟩
    · obtain rfl : k = len := by omega
      gi_wp2
      go_end0
      exact ⟨⟨_, rfl⟩, .inl hJs⟩
set_option maxHeartbeats 1000000 in
theorem vs1_nil_in (F : Fence) (n : Nat) (h36 : F.fn 36) (hro : F.round = none) (l Bs ofs cap : Nat) (a : Option Addr) (J : List Int → World → Prop) (W : World) (hBs : W.cell? ⟨Bs, ofs, none⟩ = some (.slice a 0 cap)) (h0 : J [] W) :
    CallsIn F n Try.prog 36 #[.func (.yield l) #[] #[], .pointer (some ⟨Bs, ofs, none⟩)] W fun e W' => (∃ v, e = .returned v) ∧ J [] W' := by
  refine callsIn_of_wp Try.func36 rfl h36 ?_ hro
  simp only [Try.ntmps36, List.size_toArray, List.length_cons, List.length_nil, Nat.reduceAdd, Nat.reduceSub, Array.replicate_succ, Array.replicate_zero, List.push_toArray, List.append_toArray, List.nil_append, List.cons_append]
  gi_wp2
  gi_loopw [7] (fun i wr => i = .int .i64 0 ∧ J [] wr) (fun _ _ => 0)
  case atStart => exact ⟨rfl, h0⟩
  case round =>
    obtain ⟨rfl, hJs⟩ := hrel
    gi_wp2
    go_end0
    exact ⟨⟨_, rfl⟩, hJs⟩
/-- A slice of ints lies in memory below n₀. -/
def IntsAt (n₀ : Nat) (W : World) (sv : Value) (l : List Int) : Prop :=
  ∃ a cap, sv = .slice a l.length cap ∧ (l.length = 0 ∨ ∃ b off, a = some ⟨b, off, none⟩ ∧ b < n₀ ∧ ∀ j, j < l.length → W.cell? ⟨b, off + j, none⟩ = some (.int .i64 (l.getD j 0)))
theorem values_stops (F : Fence) (n : Nat) (h36 : F.fn 36) (hro : F.round = none) (hn : 1 ≤ n) (Bs ofs n₀ : Nat) (sv : Value) (l : List Int) (hlen : l.length ≤ 9223372036854775807) (w : World) (hBs : Bs < n₀) (hn₀ : n₀ ≤ w.heap.size)
    (hc : w.cell? ⟨Bs, ofs, none⟩ = some sv) (hI : IntsAt n₀ w sv l) :
    SeqStopsK F n Try.prog 36 #[.pointer (some ⟨Bs, ofs, none⟩)] (fun x : Int => #[Value.int .i64 x]) (Below n₀) (fun ys => ys = l) (fun pre => ∃ k, k ≤ l.length ∧ pre = upto (fun j => l.getD j 0) k) l.length w := fun y J Jx W hW _ _ hY h0 => by
  have hc' := (hW.cell (p := ⟨Bs, ofs, none⟩) (by show Bs < w.heap.size; omega)).trans hc
  obtain ⟨a, cap, rfl, hI⟩ := hI
  by_cases hz : l.length = 0
  · have : l = [] := List.length_eq_zero_iff.1 hz
    subst this
    exact (vs1_nil_in F n h36 hro y Bs ofs cap a J W hc' h0).mono fun e W' ⟨he, hj⟩ => ⟨he, .inl ⟨_, rfl, hj⟩⟩
  · obtain ⟨b, off, rfl, hb, hcs⟩ := hI.resolve_left hz
    refine (vs1_in F n h36 hro hn y Bs ofs n₀ b off l.length cap (fun j => l.getD j 0) hlen hb J Jx hY W hc' (fun j hj => (hW.cell (p := ⟨b, off + j, none⟩) (by show b < w.heap.size; omega)).trans (hcs j hj)) h0).mono ?_
    rintro e W' ⟨he, hj | ⟨k, hk, hj⟩⟩
    · exact ⟨he, .inl ⟨_, rfl, by rw [upto_all] at hj; exact hj⟩⟩
    · exact ⟨he, .inr ⟨_, ⟨k, hk, rfl⟩, hj⟩⟩
def iv (x : Int) : Value := .int .i64 x
theorem keepsFrom_grown {B : Nat} {W W' : World} {row : Option Nat} (h : W.grownBy W' row) (hr : ∀ r, row = some r → ∃ o : Obj, W.heap[r]? = some o ∧ o.isCells = true) : KeepsFrom B W W' :=
  ⟨h.size, fun k o _ hk hc => (h.block k (Array.getElem?_eq_some_iff.1 hk).1 (fun e => by
    obtain ⟨o', ho, hc'⟩ := hr k e.symm
    rw [hk] at ho; cases ho; rw [hc] at hc'; cases hc')).trans hk⟩
theorem ownsRow_block {w : World} {base : Nat} {e : TypeId} {size : Nat} {v : Value} {n : Nat} {xs : List Value} (h : w.ownsRow base e size v n xs) : ∀ r, v.ownBlock = some r → ∃ cur, w.heap[r]? = some (.cells cur e (0, 0)) := by
  intro r hr
  rcases h.2 with ⟨rfl, _⟩ | ⟨g, cap, cur, rfl, _, hg, _⟩
  · cases hr
  · cases hr; exact ⟨cur, hg⟩
theorem ownsRow_abides {w w' : World} {row : Option Nat} {base : Nat} {e : TypeId} {size : Nat} {v : Value} {n : Nat} {xs : List Value} (h : w.ownsRow base e size v n xs) (hg : w.grownBy w' row) (hrow : ∀ r, row = some r → ∀ cur, w.heap[r]? ≠ some (.cells cur e (0, 0))) : w'.ownsRow base e size v n xs := by
  refine h.kept hg ?_
  cases hv : v.ownBlock with
  | none => exact .inl rfl
  | some b =>
    refine .inr fun e' => ?_
    obtain ⟨cur, hc⟩ := ownsRow_block h b hv
    exact hrow b e'.symm cur hc
theorem cell_one_new' (W : World) (u : Value) (t : TypeId) : ∀ j z, [u][j]? = some z → (W.alloc (.cells #[u] t)).cell? ((⟨W.heap.size, 0, none⟩ : Addr).add j) = some z := by
  intro j z h
  match j, h with
  | 0, h =>
    cases h
    exact (Boxed.new W t u).cell
theorem ownsRow_pos {w : World} {base : Nat} {e : TypeId} {size : Nat} {v : Value} {n : Nat} {xs : List Value} (h : w.ownsRow base e size v n xs) (hn : 0 < n) :
    ∃ g cap cur, v = .slice (some ⟨g, 0, none⟩) n cap ∧ base ≤ g ∧ w.heap[g]? = some (.cells cur e (0, 0)) ∧ n ≤ cap ∧ cap ≤ maxLen ∧ cur.size = cap * size ∧ cur.toList.take (n * size) = xs := by
  rcases h.2 with ⟨_, h0⟩ | h'
  · omega
  · exact h'
theorem ownsRow_ne_box {w : World} {base : Nat} {e t : TypeId} {size : Nat} {v u : Value} {n B : Nat} {xs : List Value} (h : w.ownsRow base e size v n xs) (hB : Boxed w B t u) (ht : t ≠ e) : v.ownBlock ≠ some B := fun e' => by
  obtain ⟨cur, hc⟩ := ownsRow_block h B e'
  rw [show w.heap[B]? = _ from hB] at hc
  exact ht (Obj.cells.inj (Option.some.inj hc)).2.1
/-- Between two rounds: the box holds a slice of one's own with what has come. -/
def ApI (n₀ : Nat) (w W0 : World) (pre : List Int) (W : World) : Prop :=
  ∃ v, Boxed W n₀ 22 v ∧ W.ownsRow n₀ 3 1 v pre.length (pre.map iv) ∧ Below n₀ w W ∧ W0.heap.size ≤ W.heap.size
set_option maxHeartbeats 4000000 in
theorem appendseq_in (F : Fence) (n : Nat) (h49 : F.fn 49) (h36 : F.fn 36) (hro : F.round = none) (hn : 2 ≤ n) (l : List Int) (hlen : l.length ≤ maxLen) (hby : l.length * 8 ≤ 140737488355328) (Bs ofs : Nat) (sv : Value) (w : World) (hBs : Bs < w.heap.size)
    (hc : w.cell? ⟨Bs, ofs, none⟩ = some sv) (hI : IntsAt w.heap.size w sv l) :
    CallsIn F n Try.prog 49 #[.slice none 0 0, .func (.func 36) #[] #[.pointer (some ⟨Bs, ofs, none⟩)]] w fun e w' => ∃ v, e = .returned v ∧ w'.ownsRow w.heap.size 3 1 v l.length (l.map iv) ∧ Below w.heap.size w w' := by
  have h1 : 1 ≤ n := by omega
  refine callsIn_of_wp_marks Try.func49 rfl h49 ?_ hro
  simp only [Try.ntmps49, List.size_toArray, List.length_cons, List.length_nil, Nat.reduceAdd, Nat.reduceSub, Array.replicate_succ, Array.replicate_zero, List.push_toArray, List.append_toArray, List.nil_append, List.cons_append]
  gi_wp2
  obtain ⟨W0, hW0⟩ : ∃ W0, w.alloc (.cells #[.slice none 0 0] 22) = W0 := ⟨_, rfl⟩
  have hs0 : W0.heap.size = w.heap.size + 1 := by rw [← hW0]; simp
  have hB0 : Boxed W0 w.heap.size 22 (.slice none 0 0) := by rw [← hW0]; exact Boxed.new w _ _
  have hbl : Below w.heap.size w W0 := by rw [← hW0]; exact (Below.refl _ w).alloc (Nat.le_refl _) _
  have hc0 : W0.cell? ⟨Bs, ofs, none⟩ = some sv := (hbl.cell (p := ⟨Bs, ofs, none⟩) hBs).trans hc
  have hI0 : IntsAt w.heap.size W0 sv l := by
    obtain ⟨a, cap, e, h⟩ := hI
    exact ⟨a, cap, e, h.imp id (fun ⟨b, off, e, hb, hc⟩ => ⟨b, off, e, hb, fun j hj => (hbl.cell (p := ⟨b, off + j, none⟩) hb).trans (hc j hj)⟩)⟩
  rw [hW0]
  refine wpIn_rangeFunc_ownH hro h1 (gf := 36) (lb := #[.pointer (some ⟨Bs, ofs, none⟩)]) rfl h36 (enters_of Try.func36 (by kernel_rfl) rfl)
    (values_stops F (n - 1) h36 hro (by omega) Bs ofs w.heap.size sv l (Nat.le_trans hlen (by decide)) W0 hBs (by omega) hc0 hI0)
    belowK_t (belowK_b (by omega)) (Below.refl _ _) (fun _ => rfl)
    (ApI w.heap.size w W0) (fun _ _ _ => False)
    ?ownI ?ownIx ⟨_, hB0, ⟨rfl, .inl ⟨rfl, rfl⟩⟩, hbl, Nat.le_refl _⟩
    (fun x a' _ => a' = { tmps := #[.slice none 0 0, .func (.func 36) #[] #[.pointer (some ⟨Bs, ofs, none⟩)], .pointer (some ⟨w.heap.size, 0, none⟩), undef, .slice none 0 0, .int .i64 x, .func (.func 36) #[] #[.pointer (some ⟨Bs, ofs, none⟩)], .int .i64 x, undef, undef, undef, undef, undef], defers := [] })
    ?ownAx ?assign ?body ?done ?stop
  case ownI =>
    rintro s X Y row ⟨v, q1, q2, q3, q4⟩ hg hrow
    refine ⟨v, q1.kept hg (fun e => ?_), ownsRow_abides q2 hg (fun r e cur h => ?_), q3.grown hg q3.size (fun k e => by have := (hrow k e).1; omega), Nat.le_trans q4 hg.size⟩
    · obtain ⟨_, o, ho, hc⟩ := hrow _ e.symm
      rw [show X.heap[w.heap.size]? = _ from q1] at ho
      cases ho; cases hc
    · obtain ⟨_, o, ho, hc⟩ := hrow r e
      rw [h] at ho; cases ho; cases hc
  case ownIx =>
    rintro c s X Y row h hg hrow
    exact h
  case ownAx =>
    rintro x a' s X Y row e hg hrow
    exact e
  case assign =>
    rintro y pre x W K hp hK
    gi_wp2
    exact hK _ _ (KeepsFrom.refl _ _) (Below.refl _ _) hp rfl
  case body =>
    rintro y pre x a' W hy _ ⟨v, q1, q2, q3, q4⟩ rfl hlt
    have c1 := q1.cell
    have c2 := q1.frozen
    have hk : pre.length + 1 ≤ maxLen := by omega
    have hWB : w.heap.size < W.heap.size := by omega
    have u22 : Try.prog.underlying 22 = some (.slice 3) := by kernel_rfl
    obtain ⟨i0, hi, hz0, hz1, hz2⟩ := info_parts (P := Try.prog) (e := 3) (z := .int .i64 0) (size := 1) (bytes := 8) (by kernel_rfl)
    gi_wp2_with (gi_at_builtin; refine wpListIn_append_own _ rfl _ _ 22 rfl w.heap.size 3 i0 (.int .i64 0) 1 8 u22 hi hz0 hz1 hz2 rfl (by decide) _ _ _ rfl (q2.alloc _) ⟨W.heap.size, 0, none⟩ 1 1 [.int .i64 x] rfl rfl (cell_one_new' _ _ _) (by simp [Value.oneCell']) (by omega) (by omega) (by have := q3.size; simp; omega) ?_; intro v' w3 hown' hg3 hnil3; obtain ⟨g', cap', cur', rfl, hbase', hgb', hr1, hr2, hr3, hr4⟩ := ownsRow_pos hown' (Nat.succ_pos _); have hbx : Boxed w3 w.heap.size 22 v := (q1.alloc _).kept hg3 (fun e => ownsRow_ne_box q2 q1 (by decide) e.symm); have c3 := hbx.cell; have c4 := hbx.frozen)
    have bW3 : Below w.heap.size W w3 := ((Below.refl _ W).alloc (by omega) _).grown hg3 (by simp; omega) (fun k e => (q2.lt k e).1)
    have bW4 := bW3.grown (grownBy_setCell' w3 w.heap.size (.slice (some ⟨g', 0, none⟩) (pre.length + 1) cap')) (by have := bW3.size; omega) (fun k e => by cases e; exact Nat.le_refl _)
    have e1 : (pre ++ [x]).length = pre.length + 1 := by simp
    have e2 : (pre ++ [x]).map iv = pre.map iv ++ [.int .i64 x] := by rw [List.map_append]; rfl
    refine ⟨(((KeepsOthers.alloc _ _).from _).trans (keepsFrom_grown hg3 (fun r hr => ?_))).trans ((KeepsOthers.setCell _ _ _).from _), bW4, _, hbx.set _, ?_, q3.trans bW4, Nat.le_trans q4 bW4.size⟩
    · obtain ⟨cur, hcur⟩ := ownsRow_block (q2.alloc _) r hr
      exact ⟨_, hcur, rfl⟩
    · rw [e1, e2]
      exact hown'.kept (grownBy_setCell' w3 w.heap.size _) (.inr (ownsRow_ne_box hown' hbx (by decide)))
  case done =>
    rintro D xs W hD rfl ⟨v, q1, q2, q3, q4⟩ hK
    have c1 := q1.cell
    have c2 := q1.frozen
    gi_wp2
    refine ⟨by simp, .inl ⟨_, _, rfl, run_takeDeferred hK, ?_⟩⟩
    refine ⟨v, ?_, v, rfl, ownsRow_abides q2 (grownBy_putObj' W D (.deferred none)) (fun r e cur h => ?_), q3.grown (grownBy_putObj' W D (.deferred none)) q3.size (fun k e => by cases e; omega)⟩
    · simp [results, Try.f49, go_sem]
    · cases e
      rw [hK] at h
      cases h
  case stop =>
    rintro D c pre W hD _ hx _
    exact hx.elim
set_option maxHeartbeats 1000000 in
/-- slices.Collect(slices.Values(l)) -/
theorem collect_in (F : Fence) (n : Nat) (h34 : F.fn 34) (h49 : F.fn 49) (h36 : F.fn 36) (hro : F.round = none) (hn : 3 ≤ n) (l : List Int) (hlen : l.length ≤ maxLen) (hby : l.length * 8 ≤ 140737488355328) (Bs ofs : Nat) (sv : Value) (w : World) (hBs : Bs < w.heap.size)
    (hc : w.cell? ⟨Bs, ofs, none⟩ = some sv) (hI : IntsAt w.heap.size w sv l) :
    CallsIn F n Try.prog 34 #[.func (.func 36) #[] #[.pointer (some ⟨Bs, ofs, none⟩)]] w fun e w' => ∃ v, e = .returned v ∧ w'.ownsRow w.heap.size 3 1 v l.length (l.map iv) ∧ Below w.heap.size w w' := by
  have h1 : 1 ≤ n := by omega
  refine callsIn_of_wp Try.func34 rfl h34 ?_ hro
  simp only [Try.ntmps34, List.size_toArray, List.length_cons, List.length_nil, Nat.reduceAdd, Nat.reduceSub, Array.replicate_succ, Array.replicate_zero, List.push_toArray, List.append_toArray, List.nil_append, List.cons_append]
  gi_wp2_with (gi_at_call 49; refine (appendseq_in F (n - 1) h49 h36 hro (by omega) l hlen hby Bs ofs sv w hBs hc hI).mono ?_; rintro e w' ⟨v, rfl, hr, hb⟩)
  go_ret
  exact ⟨v, rfl, hr, hb⟩
noncomputable def slices_Collect_int_slices_Values_int_int_1 (x : List Int × Unit) : slices_Collect_int_slices_Values_int_int_1.R := if x.1.length ≤ maxLen ∧ x.1.length * 8 ≤ 140737488355328 then some (x.1, ()) else none
noncomputable def slices_Collect_int_slices_Values_int_int_1.sig : Sig := ⟨slices_Collect_int_slices_Values_int_int_1.ps, slices_Collect_int_slices_Values_int_int_1.rs, fun x => slices_Collect_int_slices_Values_int_int_1 x.1⟩
theorem ints_in {w : World} {S : Nat → Prop} (hS0 : ∀ b, S b → b < w.heap.size) {l : List Int} {v : Value} (h : RepC w S (.sl (.int .i64)) l [v]) : IntsAt w.heap.size w v l ∧ ∀ x ∈ l, (Lit.int .i64 x).wf = true := by
  obtain ⟨a, cap, e, h1, h2, h3⟩ := h
  obtain rfl := (List.cons.inj e).1
  have hel : ∀ (j : Nat) (x : Int), l[j]? = some x → ∃ b off, a = some ⟨b, off, none⟩ ∧ b < w.heap.size ∧ w.cell? ⟨b, off + j, none⟩ = some (.int .i64 x) ∧ (Lit.int .i64 x).wf = true := by
    intro j x hj
    obtain ⟨b, off, ds, ea, hS, hM, hR⟩ := h3 j x hj
    obtain ⟨rfl, hok⟩ := hR
    have := hM 0 _ rfl
    exact ⟨b, off, ea, hS0 b hS, by simpa [Ty.nc] using this, hok⟩
  refine ⟨⟨a, cap, rfl, ?_⟩, fun x hx => ?_⟩
  · rcases Nat.eq_zero_or_pos l.length with hz | hz
    · exact .inl hz
    · obtain ⟨b, off, ea, hb, _, _⟩ := hel 0 l[0] (List.getElem?_eq_getElem hz)
      refine .inr ⟨b, off, ea, hb, fun j hj => ?_⟩
      obtain ⟨b', off', ea', _, hc, _⟩ := hel j l[j] (List.getElem?_eq_getElem hj)
      rw [ea] at ea'
      cases ea'
      rw [List.getD_eq_getElem?_getD, List.getElem?_eq_getElem hj]
      exact hc
  · obtain ⟨j, hj, rfl⟩ := List.mem_iff_getElem.1 hx
    obtain ⟨_, _, _, _, _, h⟩ := hel j _ (List.getElem?_eq_getElem hj)
    exact h
theorem slices_Collect_int_slices_Values_int_int_1.ok : CallOK Try.prog 34 slices_Collect_int_slices_Values_int_int_1.sig := by
  intro w S γ vals x y hrun hrel hsz
  obtain ⟨⟨l, u'⟩, u⟩ := x
  have hrun' : (if l.length ≤ maxLen ∧ l.length * 8 ≤ 140737488355328 then some (l, ()) else none) = some y := hrun
  by_cases hg : l.length ≤ maxLen ∧ l.length * 8 ≤ 140737488355328
  case neg => rw [if_neg hg] at hrun'; cases hrun'
  rw [if_pos hg] at hrun'
  obtain rfl := Option.some.inj hrun'
  obtain ⟨v0, e0, vs, rfl, hvl, hk⟩ := hrel.slots 0 (.one (.rfn 36 [⟨.sl (.int .i64), l⟩])) rfl
  obtain ⟨b, off, ds, hv0, hSb, hM, hR⟩ := hk 0 ⟨.sl (.int .i64), l⟩ rfl
  obtain rfl : vs = [.pointer (some ⟨b, off, none⟩)] := by
    match vs, hvl, hv0 with
    | [z], _, hv0 => rw [Option.some.inj hv0]
  obtain ⟨sv, rfl⟩ : ∃ sv, ds = [sv] := by
    obtain ⟨a, cap, e, _⟩ := hR
    exact ⟨_, e⟩
  have hv : vals = #[.func (.func 36) #[] #[.pointer (some ⟨b, off, none⟩)]] := by
    obtain ⟨vs⟩ := vals
    match vs, hsz with
    | [x0], _ =>
      simp only [List.getElem?_toArray, List.getElem?_cons_zero, Option.some.injEq] at e0
      rw [e0]
  obtain ⟨hI, hwf⟩ := ints_in hrel.lt hR
  have hc : w.cell? ⟨b, off, none⟩ = some sv := by simpa using hM 0 sv rfl
  have main := collect_in Fence.wide 3 trivial trivial trivial rfl (by omega) l hg.1 hg.2 b off sv w (hrel.lt b hSb) hc hI
  rw [hv]
  refine (callsIn_wide.1 main).mono ?_
  rintro e w' ⟨v, rfl, hr, hb⟩
  have hγ : ∀ g p, v.ownBlock.map (fun g => (g, 0)) = some (g, p) → p = 0 ∧ w.heap.size ≤ g ∧ v.ownBlock = some g := fun g p h => by
    obtain ⟨g', h1, h2⟩ := Option.map_eq_some_iff.1 h
    cases h2
    exact ⟨rfl, (hr.lt g h1).1, h1⟩
  have hrow : ∀ id r, (exitSt slices_Collect_int_slices_Values_int_int_1.rs slices_Collect_int_slices_Values_int_int_1.ps (l, ())).row id = some r → id = 100000 ∧ r = ⟨.free, .int .i64, l⟩ := fun id r h => by
    have h' : (Go.Lift.look [(100000, some (⟨.free, .int .i64, l⟩ : Row))] id).join = some r := h
    rw [look_cons] at h'
    by_cases e : 100000 = id
    · rw [if_pos e] at h'
      exact ⟨e.symm, (Option.some.inj h').symm⟩
    · rw [if_neg e] at h'
      cases h'
  have hg0 : ∀ g p, (if (100000 : Nat) = 100000 then v.ownBlock.map (fun g => (g, 0)) else γ 100000) = some (g, p) → p = 0 ∧ w.heap.size ≤ g ∧ v.ownBlock = some g := fun g p h => by
    rw [if_pos rfl] at h
    exact hγ g p h
  refine ⟨v, S, fun id => if id = 100000 then v.ownBlock.map (fun g => (g, 0)) else γ id, rfl, ⟨⟨fun i av hi => ?slots, fun id r hr' => ?rows, fun i j r r' b p q hi hj _ _ => ?inj, fun b hS => Nat.lt_of_lt_of_le (hrel.lt b hS) hb.size, fun id r L hr' hL => ?vars⟩,
    ⟨hb.size, hb.os, hb.tape, hb.output, fun b hlt _ => hb.block b hlt, fun b n hB => hB.congr (hb.block b ?lt), fun _ h => h, fun _ h => .inl h, fun id r b p hr' hg' => ?frows, fun id r hr' hf => ?fix, fun b ⟨id, r, p, q1, q2, _⟩ => ⟨id, r, p, q1, q2⟩⟩⟩⟩
  case slots =>
    have hi' : Go.Lift.look [(0, AV.one (SV.own 100000))] i = some av := hi
    cases i with
    | succ i => cases hi'
    | zero =>
      cases hi'
      refine ⟨v, rfl, fun r hr' => ?_⟩
      obtain ⟨_, rfl⟩ := hrow _ _ hr'
      obtain ⟨hxs, ⟨rfl, h0⟩ | ⟨g, cap, cur, rfl, hg1, hg2, hg3, hg4, hg5, hg6⟩⟩ := hr
      · exact ⟨none, 0, by rw [h0], Nat.le_of_eq h0, by decide, .inl rfl⟩
      · exact ⟨some ⟨g, 0, none⟩, cap, rfl, hg3, hg4, .inr ⟨g, 0, by simp [Value.ownBlock], by simp, cur, 3, (0, 0), hg2, by rw [hg5]; simp [Ty.nc]⟩⟩
  case rows =>
    obtain ⟨rfl, rfl⟩ := hrow _ _ hr'
    refine ⟨fun hn => ?_, fun b p h => ?_, fun b p h => ?_⟩
    · rw [if_pos rfl] at hn
      obtain ⟨hxs, ⟨rfl, h0⟩ | ⟨g, cap, cur, rfl, _⟩⟩ := hr
      · exact List.length_eq_zero_iff.1 h0
      · simp [Value.ownBlock] at hn
    · obtain ⟨rfl, _, hob⟩ := hg0 b p h
      obtain ⟨cur, hcur⟩ := ownsRow_block hr b hob
      refine ⟨cur, 3, hcur, fun i x hx => ⟨[.int .i64 x], fun j u hj => ?_, rfl, hwf x (List.mem_of_getElem? hx)⟩⟩
      match j, hj with
      | 0, hj =>
        cases hj
        have := hr.cells hob i (.int .i64 x) (by rw [List.getElem?_map, hx]; rfl)
        by_cases hz : i = 0
        · subst hz; simpa [Addr.add, Ty.nc] using this
        · simpa [Addr.add, hz, Ty.nc] using this
    · obtain ⟨_, hge, _⟩ := hg0 b p h
      exact ⟨fun e => (by cases e), fun hS => absurd (hrel.lt b hS) (by omega)⟩
  case inj => rw [(hrow _ _ hi).1, (hrow _ _ hj).1]
  case vars => obtain ⟨rfl, rfl⟩ := hrow _ _ hr'; cases hL
  case lt =>
    obtain ⟨c, t, f, q, _⟩ := hB
    exact (Array.getElem?_eq_some_iff.1 q).1
  case frows =>
    obtain ⟨rfl, rfl⟩ := hrow _ _ hr'
    exact ⟨fun e => (by cases e), fun _ => .inl (hg0 b p hg').2.1⟩
  case fix => obtain ⟨rfl, rfl⟩ := hrow _ _ hr'; cases hf
end
noncomputable def slices_Collect_int_slices_Values_int_int_1.sigc (_ : Nat) : Sig := slices_Collect_int_slices_Values_int_int_1.sig
theorem slices_Collect_int_slices_Values_int_int_1.sigc_le (n : Nat) : ∀ x y, (slices_Collect_int_slices_Values_int_int_1.sigc n).run x = some y → slices_Collect_int_slices_Values_int_int_1.sig.run x = some y := fun x y h => h
namespace math_bits_Len64
abbrev ps : List PM := [.pure (.int .u64)]
abbrev rs : List RM := [.pure (.int .i64)]
abbrev R : Type := Option (Int × Unit)
noncomputable def E : Env := { tt := tt, ctx := [], nt := 25, ann := [(4, [(0, .keep), (2, .keep)]), (7, [(0, .keep), (2, .keep)])] }
noncomputable def c0 : Code := sub [1, 1] (bodyOf Try.f68)
noncomputable def c1 : Code := sub [1, 1, 1] (bodyOf Try.f68)
noncomputable def fin : ASt → R := Kret E Try.f68.results.toList ps rs
def tJ0 (x_0 : Int) (n_2 : Int) : ASt := ⟨[(2, .one (.val (.int .i64) n_2)), (0, .one (.val (.int .u64) x_0))], []⟩
def tJ1 (x_0 : Int) (n_2 : Int) : ASt := ⟨[(2, .one (.val (.int .i64) n_2)), (0, .one (.val (.int .u64) x_0))], []⟩
noncomputable def J0 (x_0 : Int) (n_2 : Int) : R := lim E fin (.code c0 .ret) (tJ0 x_0 n_2)
noncomputable def J1 (x_0 : Int) (n_2 : Int) : R := lim E fin (.code c1 .ret) (tJ1 x_0 n_2)
noncomputable def SJ0 (x_0 : Int) (n_2 : Int) : R :=
  cond (decide (x_0 ≥ 65536))
    (J1 (Int.fdiv x_0 (2 ^ (min 16 IntKind.u64.bits))) (IntKind.i64.wrap (n_2 + 16)))
    (J1 x_0 n_2)
noncomputable def SJ1 (x_0 : Int) (n_2 : Int) : R :=
  cond (decide (x_0 ≥ 256))
    (Option.bind (idx ([0, 1, 2, 2, 3, 3, 3, 3, 4, 4, 4, 4, 4, 4, 4, 4, 5, 5, 5, 5, 5, 5, 5, 5, 5, 5, 5, 5, 5, 5, 5, 5, 6, 6, 6, 6, 6, 6, 6, 6, 6, 6, 6, 6, 6, 6, 6, 6, 6, 6, 6, 6, 6, 6, 6, 6, 6, 6, 6, 6, 6, 6, 6, 6, 7, 7, 7, 7, 7, 7, 7, 7, 7, 7, 7, 7, 7, 7, 7, 7, 7, 7, 7, 7, 7, 7, 7, 7, 7, 7, 7, 7, 7, 7, 7, 7, 7, 7, 7, 7, 7, 7, 7, 7, 7, 7, 7, 7, 7, 7, 7, 7, 7, 7, 7, 7, 7, 7, 7, 7, 7, 7, 7, 7, 7, 7, 7, 7, 8, 8, 8, 8, 8, 8, 8, 8, 8, 8, 8, 8, 8, 8, 8, 8, 8, 8, 8, 8, 8, 8, 8, 8, 8, 8, 8, 8, 8, 8, 8, 8, 8, 8, 8, 8, 8, 8, 8, 8, 8, 8, 8, 8, 8, 8, 8, 8, 8, 8, 8, 8, 8, 8, 8, 8, 8, 8, 8, 8, 8, 8, 8, 8, 8, 8, 8, 8, 8, 8, 8, 8, 8, 8, 8, 8, 8, 8, 8, 8, 8, 8, 8, 8, 8, 8, 8, 8, 8, 8, 8, 8, 8, 8, 8, 8, 8, 8, 8, 8, 8, 8, 8, 8, 8, 8, 8, 8, 8, 8, 8, 8, 8, 8, 8, 8, 8, 8, 8, 8, 8, 8, 8, 8, 8, 8, 8, 8] : List UInt8) (IntKind.u8.wrap (Int.fdiv x_0 (2 ^ (min 8 IntKind.u64.bits))))) fun x1 =>
    some (IntKind.i64.wrap ((IntKind.i64.wrap (n_2 + 8)) + (IntKind.i64.wrap (x1.toNat : Int))), ()))
    (Option.bind (idx ([0, 1, 2, 2, 3, 3, 3, 3, 4, 4, 4, 4, 4, 4, 4, 4, 5, 5, 5, 5, 5, 5, 5, 5, 5, 5, 5, 5, 5, 5, 5, 5, 6, 6, 6, 6, 6, 6, 6, 6, 6, 6, 6, 6, 6, 6, 6, 6, 6, 6, 6, 6, 6, 6, 6, 6, 6, 6, 6, 6, 6, 6, 6, 6, 7, 7, 7, 7, 7, 7, 7, 7, 7, 7, 7, 7, 7, 7, 7, 7, 7, 7, 7, 7, 7, 7, 7, 7, 7, 7, 7, 7, 7, 7, 7, 7, 7, 7, 7, 7, 7, 7, 7, 7, 7, 7, 7, 7, 7, 7, 7, 7, 7, 7, 7, 7, 7, 7, 7, 7, 7, 7, 7, 7, 7, 7, 7, 7, 8, 8, 8, 8, 8, 8, 8, 8, 8, 8, 8, 8, 8, 8, 8, 8, 8, 8, 8, 8, 8, 8, 8, 8, 8, 8, 8, 8, 8, 8, 8, 8, 8, 8, 8, 8, 8, 8, 8, 8, 8, 8, 8, 8, 8, 8, 8, 8, 8, 8, 8, 8, 8, 8, 8, 8, 8, 8, 8, 8, 8, 8, 8, 8, 8, 8, 8, 8, 8, 8, 8, 8, 8, 8, 8, 8, 8, 8, 8, 8, 8, 8, 8, 8, 8, 8, 8, 8, 8, 8, 8, 8, 8, 8, 8, 8, 8, 8, 8, 8, 8, 8, 8, 8, 8, 8, 8, 8, 8, 8, 8, 8, 8, 8, 8, 8, 8, 8, 8, 8, 8, 8, 8, 8, 8, 8, 8, 8] : List UInt8) (IntKind.u8.wrap x_0)) fun x2 =>
    some (IntKind.i64.wrap (n_2 + (IntKind.i64.wrap (x2.toNat : Int))), ()))
noncomputable def Se (x_0 : Int) : R :=
  cond (decide (x_0 ≥ 4294967296))
    (J0 (Int.fdiv x_0 (2 ^ (min 32 IntKind.u64.bits))) 32)
    (J0 x_0 0)
theorem J0_eq (x_0 n_2) : J0 x_0 n_2 = SJ0 x_0 n_2 := (lim_eq (.code c0 .ret) (tJ0 x_0 n_2)).trans (by kernel_rfl)
theorem J1_eq (x_0 n_2) : J1 x_0 n_2 = SJ1 x_0 n_2 := (lim_eq (.code c1 .ret) (tJ1 x_0 n_2)).trans (by kernel_rfl)
theorem se (x : (argTy ps).den) : run E (lim E fin) fin depth (bodyOf Try.f68) .ret (entryFrom 0 ps x) = Se x.1 := by kernel_rfl
end math_bits_Len64
noncomputable def math_bits_Len64 (x_0 : Int) : math_bits_Len64.R :=
  math_bits_Len64.Se x_0
namespace math_bits_Len64
noncomputable def sig : Sig := ⟨ps, rs, fun x => math_bits_Len64 x.1⟩
theorem val (x : (argTy ps).den) : lim E fin (.code (bodyOf Try.f68) .ret) (entryFrom 0 ps x) = sig.run x := (lim_eq (.code (bodyOf Try.f68) .ret) (entryFrom 0 ps x)).trans (se x)
theorem ok : CallOK Try.prog 68 sig :=
  callOK_of_lim (E := E) mixed tt_ok ctxOk_nil Try.func68 (by kernel_rfl : Try.f68.body = some (bodyOf Try.f68)) Try.ntmps68 (of_decide_eq_true (by kernel_rfl)) (of_decide_eq_true (by kernel_rfl)) fun x y h => (val x).trans h
noncomputable def ctxc (n : Nat) : List (Nat × Sig) := []
noncomputable def sigc (n : Nat) : Sig := ⟨ps, rs, fun x => runs (withCtx E (ctxc n)) fin n (.code (bodyOf Try.f68) .ret) (entryFrom 0 ps x)⟩
theorem sigc_le (n : Nat) : ∀ x y, (sigc n).run x = some y → sig.run x = some y := fun x y h => (val x).symm.trans (runs_lim (E := E) (c := ctxc n) ctxLe_nil h)
end math_bits_Len64
namespace math_bits_Len
abbrev ps : List PM := [.pure (.int .u64)]
abbrev rs : List RM := [.pure (.int .i64)]
abbrev R : Type := Option (Int × Unit)
noncomputable def E : Env := { tt := tt, ctx := [(68, math_bits_Len64.sig)], nt := 8, ann := [] }
noncomputable def fin : ASt → R := Kret E Try.f51.results.toList ps rs
noncomputable def Se (x_0 : Int) : R :=
  Option.bind (math_bits_Len64 x_0) fun x1 =>
  some (x1.1, ())
theorem se (x : (argTy ps).den) : run E (lim E fin) fin depth (bodyOf Try.f51) .ret (entryFrom 0 ps x) = Se x.1 := by kernel_rfl
end math_bits_Len
noncomputable def math_bits_Len (x_0 : Int) : math_bits_Len.R :=
  math_bits_Len.Se x_0
namespace math_bits_Len
noncomputable def sig : Sig := ⟨ps, rs, fun x => math_bits_Len x.1⟩
theorem val (x : (argTy ps).den) : lim E fin (.code (bodyOf Try.f51) .ret) (entryFrom 0 ps x) = sig.run x := (lim_eq (.code (bodyOf Try.f51) .ret) (entryFrom 0 ps x)).trans (se x)
theorem ok : CallOK Try.prog 51 sig :=
  callOK_of_lim (E := E) mixed tt_ok (ctxOk_cons ctxOk_nil math_bits_Len64.ok Try.func68 (by kernel_rfl) (by kernel_rfl)) Try.func51 (by kernel_rfl : Try.f51.body = some (bodyOf Try.f51)) Try.ntmps51 (of_decide_eq_true (by kernel_rfl)) (of_decide_eq_true (by kernel_rfl)) fun x y h => (val x).trans h
noncomputable def ctxc (n : Nat) : List (Nat × Sig) := [(68, math_bits_Len64.sigc n)]
noncomputable def sigc (n : Nat) : Sig := ⟨ps, rs, fun x => runs (withCtx E (ctxc n)) fin n (.code (bodyOf Try.f51) .ret) (entryFrom 0 ps x)⟩
theorem sigc_le (n : Nat) : ∀ x y, (sigc n).run x = some y → sig.run x = some y := fun x y h => (val x).symm.trans (runs_lim (E := E) (c := ctxc n) (ctxLe_cons ctxLe_nil (math_bits_Len64.sigc_le n)) h)
end math_bits_Len
namespace cmp_isNaN_int
abbrev ps : List PM := [.pure (.int .i64)]
abbrev rs : List RM := [.pure .bool]
abbrev R : Type := Option (Bool × Unit)
noncomputable def E : Env := { tt := tt, ctx := [], nt := 6, ann := [] }
noncomputable def fin : ASt → R := Kret E Try.f52.results.toList ps rs
noncomputable def Se (x_0 : Int) : R :=
  some ((x_0 != x_0), ())
theorem se (x : (argTy ps).den) : run E (lim E fin) fin depth (bodyOf Try.f52) .ret (entryFrom 0 ps x) = Se x.1 := by kernel_rfl
end cmp_isNaN_int
noncomputable def cmp_isNaN_int (x_0 : Int) : cmp_isNaN_int.R :=
  cmp_isNaN_int.Se x_0
namespace cmp_isNaN_int
noncomputable def sig : Sig := ⟨ps, rs, fun x => cmp_isNaN_int x.1⟩
theorem val (x : (argTy ps).den) : lim E fin (.code (bodyOf Try.f52) .ret) (entryFrom 0 ps x) = sig.run x := (lim_eq (.code (bodyOf Try.f52) .ret) (entryFrom 0 ps x)).trans (se x)
theorem ok : CallOK Try.prog 52 sig :=
  callOK_of_lim (E := E) mixed tt_ok ctxOk_nil Try.func52 (by kernel_rfl : Try.f52.body = some (bodyOf Try.f52)) Try.ntmps52 (of_decide_eq_true (by kernel_rfl)) (of_decide_eq_true (by kernel_rfl)) fun x y h => (val x).trans h
noncomputable def ctxc (n : Nat) : List (Nat × Sig) := []
noncomputable def sigc (n : Nat) : Sig := ⟨ps, rs, fun x => runs (withCtx E (ctxc n)) fin n (.code (bodyOf Try.f52) .ret) (entryFrom 0 ps x)⟩
theorem sigc_le (n : Nat) : ∀ x y, (sigc n).run x = some y → sig.run x = some y := fun x y h => (val x).symm.trans (runs_lim (E := E) (c := ctxc n) ctxLe_nil h)
end cmp_isNaN_int
namespace cmp_Less_int
abbrev ps : List PM := [.pure (.int .i64), .pure (.int .i64)]
abbrev rs : List RM := [.pure .bool]
abbrev R : Type := Option (Bool × Unit)
noncomputable def E : Env := { tt := tt, ctx := [(52, cmp_isNaN_int.sig)], nt := 17, ann := [] }
noncomputable def fin : ASt → R := Kret E Try.f39.results.toList ps rs
noncomputable def Se (x_0 : Int) (y : Int) : R :=
  Option.bind (cmp_isNaN_int x_0) fun x1 =>
  cond x1.1
    (Option.bind (cmp_isNaN_int y) fun x2 =>
    cond (!x2.1)
      (some (true, ()))
      (some (decide (x_0 < y), ())))
    (some (decide (x_0 < y), ()))
theorem se (x : (argTy ps).den) : run E (lim E fin) fin depth (bodyOf Try.f39) .ret (entryFrom 0 ps x) = Se x.1 x.2.1 := by kernel_rfl
end cmp_Less_int
noncomputable def cmp_Less_int (x_0 : Int) (y : Int) : cmp_Less_int.R :=
  cmp_Less_int.Se x_0 y
namespace cmp_Less_int
noncomputable def sig : Sig := ⟨ps, rs, fun x => cmp_Less_int x.1 x.2.1⟩
theorem val (x : (argTy ps).den) : lim E fin (.code (bodyOf Try.f39) .ret) (entryFrom 0 ps x) = sig.run x := (lim_eq (.code (bodyOf Try.f39) .ret) (entryFrom 0 ps x)).trans (se x)
theorem ok : CallOK Try.prog 39 sig :=
  callOK_of_lim (E := E) mixed tt_ok (ctxOk_cons ctxOk_nil cmp_isNaN_int.ok Try.func52 (by kernel_rfl) (by kernel_rfl)) Try.func39 (by kernel_rfl : Try.f39.body = some (bodyOf Try.f39)) Try.ntmps39 (of_decide_eq_true (by kernel_rfl)) (of_decide_eq_true (by kernel_rfl)) fun x y h => (val x).trans h
noncomputable def ctxc (n : Nat) : List (Nat × Sig) := [(52, cmp_isNaN_int.sigc n)]
noncomputable def sigc (n : Nat) : Sig := ⟨ps, rs, fun x => runs (withCtx E (ctxc n)) fin n (.code (bodyOf Try.f39) .ret) (entryFrom 0 ps x)⟩
theorem sigc_le (n : Nat) : ∀ x y, (sigc n).run x = some y → sig.run x = some y := fun x y h => (val x).symm.trans (runs_lim (E := E) (c := ctxc n) (ctxLe_cons ctxLe_nil (cmp_isNaN_int.sigc_le n)) h)
end cmp_Less_int
namespace slices_insertionSortOrdered_int
abbrev ps : List PM := [.own (.int .i64), .pure (.int .i64), .pure (.int .i64)]
abbrev rs : List RM := []
abbrev R : Type := Option (List Int × Unit)
noncomputable def E : Env := { tt := tt, ctx := [(39, cmp_Less_int.sig)], nt := 49, ann := [(1000001, [(0, .keep), (1, .keep), (2, .keep), (6, .keep)]), (1000004, [(0, .keep), (1, .keep), (2, .keep), (6, .keep), (7, .keep)]), (6, [(0, .keep), (1, .keep), (2, .keep), (6, .keep), (7, .keep)])] }
noncomputable def c0 : Code := sub [1, 0, 0] (bodyOf Try.f59)
noncomputable def c1 : Code := sub [1, 0, 0, 1, 1] (bodyOf Try.f59)
noncomputable def c2 : Code := sub [1, 0, 0, 1, 0, 0, 1, 0, 0] (bodyOf Try.f59)
noncomputable def c3 : Code := sub [1, 0, 0, 1, 0, 0, 1, 0, 0, 1] (bodyOf Try.f59)
noncomputable def K2 : Kont := .blk 0 .ret
noncomputable def K3 : Kont := .loop c0 K2
noncomputable def K6 : Kont := .seq c1 K3
noncomputable def K7 : Kont := .blk 1 K6
noncomputable def K9 : Kont := .blk 2 K7
noncomputable def K10 : Kont := .loop c2 K9
noncomputable def fin : ASt → R := Kret E Try.f59.results.toList ps rs
def tL0 (a : Int) (b : Int) (i : Int) (data_P : List Int) : ASt := ⟨[(6, .one (.val (.int .i64) i)), (2, .one (.val (.int .i64) b)), (1, .one (.val (.int .i64) a)), (0, .one (.own 10000))], [(10000, some ⟨.fixed, .int .i64, data_P⟩)]⟩
def tL1 (a : Int) (b : Int) (i : Int) (j : Int) (data_P : List Int) : ASt := ⟨[(7, .one (.val (.int .i64) j)), (6, .one (.val (.int .i64) i)), (2, .one (.val (.int .i64) b)), (1, .one (.val (.int .i64) a)), (0, .one (.own 10000))], [(10000, some ⟨.fixed, .int .i64, data_P⟩)]⟩
def tJ2 (a : Int) (b : Int) (i : Int) (j : Int) (data_P : List Int) : ASt := ⟨[(7, .one (.val (.int .i64) j)), (6, .one (.val (.int .i64) i)), (2, .one (.val (.int .i64) b)), (1, .one (.val (.int .i64) a)), (0, .one (.own 10000))], [(10000, some ⟨.fixed, .int .i64, data_P⟩)]⟩
noncomputable def L0 (a : Int) (b : Int) (i : Int) (data_P : List Int) : R := lim E fin (.loop c0 K2) (tL0 a b i data_P)
noncomputable def L1 (a : Int) (b : Int) (i : Int) (j : Int) (data_P : List Int) : R := lim E fin (.loop c2 K9) (tL1 a b i j data_P)
noncomputable def J2 (a : Int) (b : Int) (i : Int) (j : Int) (data_P : List Int) : R := lim E fin (.code c3 K10) (tJ2 a b i j data_P)
noncomputable def SL0 (a : Int) (b : Int) (i : Int) (data_P : List Int) : R :=
  cond (decide (i < b))
    (L1 a b i i data_P)
    (some (data_P, ()))
noncomputable def SL1 (a : Int) (b : Int) (i : Int) (j : Int) (data_P : List Int) : R :=
  cond (decide (j > a))
    (cond (decide (0 ≤ j) && decide (j < (data_P.length : Int)))
      (cond (decide (0 ≤ IntKind.i64.wrap (j - 1)) && decide (IntKind.i64.wrap (j - 1) < (data_P.length : Int)))
        (Option.bind (cmp_Less_int (data_P.getD j.toNat 0) (data_P.getD ((IntKind.i64.wrap (j - 1)).toNat) 0)) fun x1 =>
        cond x1.1
          (J2 a b i j data_P)
          (L0 a b (IntKind.i64.wrap (i + 1)) data_P))
        none)
      none)
    (L0 a b (IntKind.i64.wrap (i + 1)) data_P)
noncomputable def SJ2 (a : Int) (b : Int) (i : Int) (j : Int) (data_P : List Int) : R :=
  cond (decide (0 ≤ IntKind.i64.wrap (j - 1)) && decide (IntKind.i64.wrap (j - 1) < (data_P.length : Int)))
    (cond (decide (0 ≤ j) && decide (j < (data_P.length : Int)))
      (cond (decide (0 ≤ j) && decide (j < (data_P.length : Int)))
        (cond (decide (0 ≤ IntKind.i64.wrap (j - 1)) && decide (IntKind.i64.wrap (j - 1) < ((data_P.set j.toNat (data_P.getD ((IntKind.i64.wrap (j - 1)).toNat) 0)).length : Int)))
          (L1 a b i (IntKind.i64.wrap (j - 1)) ((data_P.set j.toNat (data_P.getD ((IntKind.i64.wrap (j - 1)).toNat) 0)).set ((IntKind.i64.wrap (j - 1)).toNat) (data_P.getD j.toNat 0)))
          none)
        none)
      none)
    none
noncomputable def Se (data : List Int) (a : Int) (b : Int) : R :=
  L0 a b (IntKind.i64.wrap (a + 1)) data
theorem L0_eq (a b i data_P) : L0 a b i data_P = SL0 a b i data_P := (lim_eq (.loop c0 K2) (tL0 a b i data_P)).trans (by kernel_rfl)
theorem L1_eq (a b i j data_P) : L1 a b i j data_P = SL1 a b i j data_P := (lim_eq (.loop c2 K9) (tL1 a b i j data_P)).trans (by kernel_rfl)
theorem J2_eq (a b i j data_P) : J2 a b i j data_P = SJ2 a b i j data_P := (lim_eq (.code c3 K10) (tJ2 a b i j data_P)).trans (by kernel_rfl)
theorem se (x : (argTy ps).den) : run E (lim E fin) fin depth (bodyOf Try.f59) .ret (entryFrom 0 ps x) = Se x.1 x.2.1 x.2.2.1 := by kernel_rfl
end slices_insertionSortOrdered_int
noncomputable def slices_insertionSortOrdered_int (data : List Int) (a : Int) (b : Int) : slices_insertionSortOrdered_int.R :=
  slices_insertionSortOrdered_int.Se data a b
namespace slices_insertionSortOrdered_int
noncomputable def sig : Sig := ⟨ps, rs, fun x => slices_insertionSortOrdered_int x.1 x.2.1 x.2.2.1⟩
theorem val (x : (argTy ps).den) : lim E fin (.code (bodyOf Try.f59) .ret) (entryFrom 0 ps x) = sig.run x := (lim_eq (.code (bodyOf Try.f59) .ret) (entryFrom 0 ps x)).trans (se x)
theorem ok : CallOK Try.prog 59 sig :=
  callOK_of_lim (E := E) mixed tt_ok (ctxOk_cons ctxOk_nil cmp_Less_int.ok Try.func39 (by kernel_rfl) (by kernel_rfl)) Try.func59 (by kernel_rfl : Try.f59.body = some (bodyOf Try.f59)) Try.ntmps59 (of_decide_eq_true (by kernel_rfl)) (of_decide_eq_true (by kernel_rfl)) fun x y h => (val x).trans h
noncomputable def ctxc (n : Nat) : List (Nat × Sig) := [(39, cmp_Less_int.sigc n)]
noncomputable def sigc (n : Nat) : Sig := ⟨ps, rs, fun x => runs (withCtx E (ctxc n)) fin n (.code (bodyOf Try.f59) .ret) (entryFrom 0 ps x)⟩
theorem sigc_le (n : Nat) : ∀ x y, (sigc n).run x = some y → sig.run x = some y := fun x y h => (val x).symm.trans (runs_lim (E := E) (c := ctxc n) (ctxLe_cons ctxLe_nil (cmp_Less_int.sigc_le n)) h)
end slices_insertionSortOrdered_int
namespace slices_siftDownOrdered_int
abbrev ps : List PM := [.own (.int .i64), .pure (.int .i64), .pure (.int .i64), .pure (.int .i64)]
abbrev rs : List RM := []
abbrev R : Type := Option (List Int × Unit)
noncomputable def E : Env := { tt := tt, ctx := [(39, cmp_Less_int.sig)], nt := 76, ann := [(1000001, [(0, .keep), (2, .keep), (3, .keep), (8, .keep)]), (5, [(0, .keep), (2, .keep), (3, .keep), (8, .keep), (9, .keep)])] }
noncomputable def c0 : Code := sub [1, 0, 0] (bodyOf Try.f72)
noncomputable def c1 : Code := sub [1, 0, 0, 0, 1, 1, 1] (bodyOf Try.f72)
noncomputable def K2 : Kont := .blk 0 .ret
noncomputable def K3 : Kont := .loop c0 K2
noncomputable def K4 : Kont := .blk 1 K3
noncomputable def fin : ASt → R := Kret E Try.f72.results.toList ps rs
def tL0 (hi : Int) (first : Int) (root : Int) (data_P : List Int) : ASt := ⟨[(8, .one (.val (.int .i64) root)), (3, .one (.val (.int .i64) first)), (2, .one (.val (.int .i64) hi)), (0, .one (.own 10000))], [(10000, some ⟨.fixed, .int .i64, data_P⟩)]⟩
def tJ1 (hi : Int) (first : Int) (root : Int) (child : Int) (data_P : List Int) : ASt := ⟨[(9, .one (.val (.int .i64) child)), (8, .one (.val (.int .i64) root)), (3, .one (.val (.int .i64) first)), (2, .one (.val (.int .i64) hi)), (0, .one (.own 10000))], [(10000, some ⟨.fixed, .int .i64, data_P⟩)]⟩
noncomputable def L0 (hi : Int) (first : Int) (root : Int) (data_P : List Int) : R := lim E fin (.loop c0 K2) (tL0 hi first root data_P)
noncomputable def J1 (hi : Int) (first : Int) (root : Int) (child : Int) (data_P : List Int) : R := lim E fin (.code c1 K4) (tJ1 hi first root child data_P)
noncomputable def SL0 (hi : Int) (first : Int) (root : Int) (data_P : List Int) : R :=
  cond (decide ((IntKind.i64.wrap ((IntKind.i64.wrap (2 * root)) + 1)) ≥ hi))
    (some (data_P, ()))
    (cond (decide ((IntKind.i64.wrap ((IntKind.i64.wrap ((IntKind.i64.wrap (2 * root)) + 1)) + 1)) < hi))
      (cond (decide (0 ≤ IntKind.i64.wrap (first + (IntKind.i64.wrap ((IntKind.i64.wrap (2 * root)) + 1)))) && decide (IntKind.i64.wrap (first + (IntKind.i64.wrap ((IntKind.i64.wrap (2 * root)) + 1))) < (data_P.length : Int)))
        (cond (decide (0 ≤ IntKind.i64.wrap ((IntKind.i64.wrap (first + (IntKind.i64.wrap ((IntKind.i64.wrap (2 * root)) + 1)))) + 1)) && decide (IntKind.i64.wrap ((IntKind.i64.wrap (first + (IntKind.i64.wrap ((IntKind.i64.wrap (2 * root)) + 1)))) + 1) < (data_P.length : Int)))
          (Option.bind (cmp_Less_int (data_P.getD ((IntKind.i64.wrap (first + (IntKind.i64.wrap ((IntKind.i64.wrap (2 * root)) + 1)))).toNat) 0) (data_P.getD ((IntKind.i64.wrap ((IntKind.i64.wrap (first + (IntKind.i64.wrap ((IntKind.i64.wrap (2 * root)) + 1)))) + 1)).toNat) 0)) fun x1 =>
          cond x1.1
            (J1 hi first root (IntKind.i64.wrap ((IntKind.i64.wrap ((IntKind.i64.wrap (2 * root)) + 1)) + 1)) data_P)
            (J1 hi first root (IntKind.i64.wrap ((IntKind.i64.wrap (2 * root)) + 1)) data_P))
          none)
        none)
      (J1 hi first root (IntKind.i64.wrap ((IntKind.i64.wrap (2 * root)) + 1)) data_P))
noncomputable def SJ1 (hi : Int) (first : Int) (root : Int) (child : Int) (data_P : List Int) : R :=
  cond (decide (0 ≤ IntKind.i64.wrap (first + root)) && decide (IntKind.i64.wrap (first + root) < (data_P.length : Int)))
    (cond (decide (0 ≤ IntKind.i64.wrap (first + child)) && decide (IntKind.i64.wrap (first + child) < (data_P.length : Int)))
      (Option.bind (cmp_Less_int (data_P.getD ((IntKind.i64.wrap (first + root)).toNat) 0) (data_P.getD ((IntKind.i64.wrap (first + child)).toNat) 0)) fun x1 =>
      cond (!x1.1)
        (some (data_P, ()))
        (cond (decide (0 ≤ IntKind.i64.wrap (first + child)) && decide (IntKind.i64.wrap (first + child) < (data_P.length : Int)))
          (cond (decide (0 ≤ IntKind.i64.wrap (first + root)) && decide (IntKind.i64.wrap (first + root) < (data_P.length : Int)))
            (cond (decide (0 ≤ IntKind.i64.wrap (first + root)) && decide (IntKind.i64.wrap (first + root) < (data_P.length : Int)))
              (cond (decide (0 ≤ IntKind.i64.wrap (first + child)) && decide (IntKind.i64.wrap (first + child) < ((data_P.set ((IntKind.i64.wrap (first + root)).toNat) (data_P.getD ((IntKind.i64.wrap (first + child)).toNat) 0)).length : Int)))
                (L0 hi first child ((data_P.set ((IntKind.i64.wrap (first + root)).toNat) (data_P.getD ((IntKind.i64.wrap (first + child)).toNat) 0)).set ((IntKind.i64.wrap (first + child)).toNat) (data_P.getD ((IntKind.i64.wrap (first + root)).toNat) 0)))
                none)
              none)
            none)
          none))
      none)
    none
noncomputable def Se (data : List Int) (lo : Int) (hi : Int) (first : Int) : R :=
  L0 hi first lo data
theorem L0_eq (hi first root data_P) : L0 hi first root data_P = SL0 hi first root data_P := (lim_eq (.loop c0 K2) (tL0 hi first root data_P)).trans (by kernel_rfl)
theorem J1_eq (hi first root child data_P) : J1 hi first root child data_P = SJ1 hi first root child data_P := (lim_eq (.code c1 K4) (tJ1 hi first root child data_P)).trans (by kernel_rfl)
theorem se (x : (argTy ps).den) : run E (lim E fin) fin depth (bodyOf Try.f72) .ret (entryFrom 0 ps x) = Se x.1 x.2.1 x.2.2.1 x.2.2.2.1 := by kernel_rfl
end slices_siftDownOrdered_int
noncomputable def slices_siftDownOrdered_int (data : List Int) (lo : Int) (hi : Int) (first : Int) : slices_siftDownOrdered_int.R :=
  slices_siftDownOrdered_int.Se data lo hi first
namespace slices_siftDownOrdered_int
noncomputable def sig : Sig := ⟨ps, rs, fun x => slices_siftDownOrdered_int x.1 x.2.1 x.2.2.1 x.2.2.2.1⟩
theorem val (x : (argTy ps).den) : lim E fin (.code (bodyOf Try.f72) .ret) (entryFrom 0 ps x) = sig.run x := (lim_eq (.code (bodyOf Try.f72) .ret) (entryFrom 0 ps x)).trans (se x)
theorem ok : CallOK Try.prog 72 sig :=
  callOK_of_lim (E := E) mixed tt_ok (ctxOk_cons ctxOk_nil cmp_Less_int.ok Try.func39 (by kernel_rfl) (by kernel_rfl)) Try.func72 (by kernel_rfl : Try.f72.body = some (bodyOf Try.f72)) Try.ntmps72 (of_decide_eq_true (by kernel_rfl)) (of_decide_eq_true (by kernel_rfl)) fun x y h => (val x).trans h
noncomputable def ctxc (n : Nat) : List (Nat × Sig) := [(39, cmp_Less_int.sigc n)]
noncomputable def sigc (n : Nat) : Sig := ⟨ps, rs, fun x => runs (withCtx E (ctxc n)) fin n (.code (bodyOf Try.f72) .ret) (entryFrom 0 ps x)⟩
theorem sigc_le (n : Nat) : ∀ x y, (sigc n).run x = some y → sig.run x = some y := fun x y h => (val x).symm.trans (runs_lim (E := E) (c := ctxc n) (ctxLe_cons ctxLe_nil (cmp_Less_int.sigc_le n)) h)
end slices_siftDownOrdered_int
namespace slices_heapSortOrdered_int
abbrev ps : List PM := [.own (.int .i64), .pure (.int .i64), .pure (.int .i64)]
abbrev rs : List RM := []
abbrev R : Type := Option (List Int × Unit)
noncomputable def E : Env := { tt := tt, ctx := [(72, slices_siftDownOrdered_int.sig)], nt := 56, ann := [(1000004, [(0, .keep), (6, .keep), (7, .keep), (8, .keep), (9, .keep)]), (1000008, [(0, .keep), (6, .keep), (7, .keep), (10, .keep)])] }
noncomputable def c0 : Code := sub [1, 1, 1, 1] (bodyOf Try.f60)
noncomputable def c1 : Code := sub [1, 1, 1, 0, 1, 0, 0] (bodyOf Try.f60)
noncomputable def c2 : Code := sub [1, 1, 1, 1, 1, 0, 0] (bodyOf Try.f60)
noncomputable def K4 : Kont := .seq c0 .ret
noncomputable def K6 : Kont := .blk 0 K4
noncomputable def K13 : Kont := .blk 2 .ret
noncomputable def fin : ASt → R := Kret E Try.f60.results.toList ps rs
def tL0 (first : Int) (lo : Int) (hi : Int) (i : Int) (data_P : List Int) : ASt := ⟨[(9, .one (.val (.int .i64) i)), (8, .one (.val (.int .i64) hi)), (7, .one (.val (.int .i64) lo)), (6, .one (.val (.int .i64) first)), (0, .one (.own 10000))], [(10000, some ⟨.fixed, .int .i64, data_P⟩)]⟩
def tL1 (first : Int) (lo : Int) (i : Int) (data_P : List Int) : ASt := ⟨[(10, .one (.val (.int .i64) i)), (7, .one (.val (.int .i64) lo)), (6, .one (.val (.int .i64) first)), (0, .one (.own 10000))], [(10000, some ⟨.fixed, .int .i64, data_P⟩)]⟩
noncomputable def L0 (first : Int) (lo : Int) (hi : Int) (i : Int) (data_P : List Int) : R := lim E fin (.loop c1 K6) (tL0 first lo hi i data_P)
noncomputable def L1 (first : Int) (lo : Int) (i : Int) (data_P : List Int) : R := lim E fin (.loop c2 K13) (tL1 first lo i data_P)
noncomputable def SL0 (first : Int) (lo : Int) (hi : Int) (i : Int) (data_P : List Int) : R :=
  cond (decide (i ≥ 0))
    (Option.bind (slices_siftDownOrdered_int data_P i hi first) fun x1 =>
    L0 first lo hi (IntKind.i64.wrap (i - 1)) x1.1)
    (L1 first lo (IntKind.i64.wrap (hi - 1)) data_P)
noncomputable def SL1 (first : Int) (lo : Int) (i : Int) (data_P : List Int) : R :=
  cond (decide (i ≥ 0))
    (cond (decide (0 ≤ IntKind.i64.wrap (first + i)) && decide (IntKind.i64.wrap (first + i) < (data_P.length : Int)))
      (cond (decide (0 ≤ first) && decide (first < (data_P.length : Int)))
        (cond (decide (0 ≤ first) && decide (first < (data_P.length : Int)))
          (cond (decide (0 ≤ IntKind.i64.wrap (first + i)) && decide (IntKind.i64.wrap (first + i) < ((data_P.set first.toNat (data_P.getD ((IntKind.i64.wrap (first + i)).toNat) 0)).length : Int)))
            (Option.bind (slices_siftDownOrdered_int ((data_P.set first.toNat (data_P.getD ((IntKind.i64.wrap (first + i)).toNat) 0)).set ((IntKind.i64.wrap (first + i)).toNat) (data_P.getD first.toNat 0)) lo i first) fun x1 =>
            L1 first lo (IntKind.i64.wrap (i - 1)) x1.1)
            none)
          none)
        none)
      none)
    (some (data_P, ()))
noncomputable def Se (data : List Int) (a : Int) (b : Int) : R :=
  L0 a 0 (IntKind.i64.wrap (b - a)) (IntKind.i64.wrap (Int.tdiv (IntKind.i64.wrap ((IntKind.i64.wrap (b - a)) - 1)) 2)) data
theorem L0_eq (first lo hi i data_P) : L0 first lo hi i data_P = SL0 first lo hi i data_P := (lim_eq (.loop c1 K6) (tL0 first lo hi i data_P)).trans (by kernel_rfl)
theorem L1_eq (first lo i data_P) : L1 first lo i data_P = SL1 first lo i data_P := (lim_eq (.loop c2 K13) (tL1 first lo i data_P)).trans (by kernel_rfl)
theorem se (x : (argTy ps).den) : run E (lim E fin) fin depth (bodyOf Try.f60) .ret (entryFrom 0 ps x) = Se x.1 x.2.1 x.2.2.1 := by kernel_rfl
end slices_heapSortOrdered_int
noncomputable def slices_heapSortOrdered_int (data : List Int) (a : Int) (b : Int) : slices_heapSortOrdered_int.R :=
  slices_heapSortOrdered_int.Se data a b
namespace slices_heapSortOrdered_int
noncomputable def sig : Sig := ⟨ps, rs, fun x => slices_heapSortOrdered_int x.1 x.2.1 x.2.2.1⟩
theorem val (x : (argTy ps).den) : lim E fin (.code (bodyOf Try.f60) .ret) (entryFrom 0 ps x) = sig.run x := (lim_eq (.code (bodyOf Try.f60) .ret) (entryFrom 0 ps x)).trans (se x)
theorem ok : CallOK Try.prog 60 sig :=
  callOK_of_lim (E := E) mixed tt_ok (ctxOk_cons ctxOk_nil slices_siftDownOrdered_int.ok Try.func72 (by kernel_rfl) (by kernel_rfl)) Try.func60 (by kernel_rfl : Try.f60.body = some (bodyOf Try.f60)) Try.ntmps60 (of_decide_eq_true (by kernel_rfl)) (of_decide_eq_true (by kernel_rfl)) fun x y h => (val x).trans h
noncomputable def ctxc (n : Nat) : List (Nat × Sig) := [(72, slices_siftDownOrdered_int.sigc n)]
noncomputable def sigc (n : Nat) : Sig := ⟨ps, rs, fun x => runs (withCtx E (ctxc n)) fin n (.code (bodyOf Try.f60) .ret) (entryFrom 0 ps x)⟩
theorem sigc_le (n : Nat) : ∀ x y, (sigc n).run x = some y → sig.run x = some y := fun x y h => (val x).symm.trans (runs_lim (E := E) (c := ctxc n) (ctxLe_cons ctxLe_nil (slices_siftDownOrdered_int.sigc_le n)) h)
end slices_heapSortOrdered_int
namespace slices_nextPowerOfTwo
abbrev ps : List PM := [.pure (.int .i64)]
abbrev rs : List RM := [.pure (.int .u64)]
abbrev R : Type := Option (Int × Unit)
noncomputable def E : Env := { tt := tt, ctx := [(51, math_bits_Len.sig)], nt := 7, ann := [] }
noncomputable def fin : ASt → R := Kret E Try.f73.results.toList ps rs
noncomputable def Se (length_0 : Int) : R :=
  Option.bind (math_bits_Len (IntKind.u64.wrap length_0)) fun x1 =>
  cond (decide (x1.1 < 0))
    none
    (some (IntKind.u64.wrap (1 * 2 ^ (min x1.1.toNat IntKind.u64.bits)), ()))
theorem se (x : (argTy ps).den) : run E (lim E fin) fin depth (bodyOf Try.f73) .ret (entryFrom 0 ps x) = Se x.1 := by kernel_rfl
end slices_nextPowerOfTwo
noncomputable def slices_nextPowerOfTwo (length_0 : Int) : slices_nextPowerOfTwo.R :=
  slices_nextPowerOfTwo.Se length_0
namespace slices_nextPowerOfTwo
noncomputable def sig : Sig := ⟨ps, rs, fun x => slices_nextPowerOfTwo x.1⟩
theorem val (x : (argTy ps).den) : lim E fin (.code (bodyOf Try.f73) .ret) (entryFrom 0 ps x) = sig.run x := (lim_eq (.code (bodyOf Try.f73) .ret) (entryFrom 0 ps x)).trans (se x)
theorem ok : CallOK Try.prog 73 sig :=
  callOK_of_lim (E := E) mixed tt_ok (ctxOk_cons ctxOk_nil math_bits_Len.ok Try.func51 (by kernel_rfl) (by kernel_rfl)) Try.func73 (by kernel_rfl : Try.f73.body = some (bodyOf Try.f73)) Try.ntmps73 (of_decide_eq_true (by kernel_rfl)) (of_decide_eq_true (by kernel_rfl)) fun x y h => (val x).trans h
noncomputable def ctxc (n : Nat) : List (Nat × Sig) := [(51, math_bits_Len.sigc n)]
noncomputable def sigc (n : Nat) : Sig := ⟨ps, rs, fun x => runs (withCtx E (ctxc n)) fin n (.code (bodyOf Try.f73) .ret) (entryFrom 0 ps x)⟩
theorem sigc_le (n : Nat) : ∀ x y, (sigc n).run x = some y → sig.run x = some y := fun x y h => (val x).symm.trans (runs_lim (E := E) (c := ctxc n) (ctxLe_cons ctxLe_nil (math_bits_Len.sigc_le n)) h)
end slices_nextPowerOfTwo
namespace slices_xorshift_Next
abbrev ps : List PM := [.ptr (.int .u64)]
abbrev rs : List RM := [.pure (.int .u64)]
abbrev R : Type := Option (Int × Int × Unit)
noncomputable def E : Env := { tt := tt, ctx := [], nt := 33, ann := [] }
noncomputable def fin : ASt → R := Kret E Try.f74.results.toList ps rs
noncomputable def Se (r_0 : Int) : R :=
  some (IntKind.u64.wrap (BitVec.ofInt IntKind.u64.bits (IntKind.u64.wrap (BitVec.ofInt IntKind.u64.bits (IntKind.u64.wrap (BitVec.ofInt IntKind.u64.bits r_0 ^^^ BitVec.ofInt IntKind.u64.bits (IntKind.u64.wrap (r_0 * 2 ^ (min 13 IntKind.u64.bits)))).toNat) ^^^ BitVec.ofInt IntKind.u64.bits (Int.fdiv (IntKind.u64.wrap (BitVec.ofInt IntKind.u64.bits r_0 ^^^ BitVec.ofInt IntKind.u64.bits (IntKind.u64.wrap (r_0 * 2 ^ (min 13 IntKind.u64.bits)))).toNat) (2 ^ (min 7 IntKind.u64.bits)))).toNat) ^^^ BitVec.ofInt IntKind.u64.bits (IntKind.u64.wrap ((IntKind.u64.wrap (BitVec.ofInt IntKind.u64.bits (IntKind.u64.wrap (BitVec.ofInt IntKind.u64.bits r_0 ^^^ BitVec.ofInt IntKind.u64.bits (IntKind.u64.wrap (r_0 * 2 ^ (min 13 IntKind.u64.bits)))).toNat) ^^^ BitVec.ofInt IntKind.u64.bits (Int.fdiv (IntKind.u64.wrap (BitVec.ofInt IntKind.u64.bits r_0 ^^^ BitVec.ofInt IntKind.u64.bits (IntKind.u64.wrap (r_0 * 2 ^ (min 13 IntKind.u64.bits)))).toNat) (2 ^ (min 7 IntKind.u64.bits)))).toNat) * 2 ^ (min 17 IntKind.u64.bits)))).toNat, IntKind.u64.wrap (BitVec.ofInt IntKind.u64.bits (IntKind.u64.wrap (BitVec.ofInt IntKind.u64.bits (IntKind.u64.wrap (BitVec.ofInt IntKind.u64.bits r_0 ^^^ BitVec.ofInt IntKind.u64.bits (IntKind.u64.wrap (r_0 * 2 ^ (min 13 IntKind.u64.bits)))).toNat) ^^^ BitVec.ofInt IntKind.u64.bits (Int.fdiv (IntKind.u64.wrap (BitVec.ofInt IntKind.u64.bits r_0 ^^^ BitVec.ofInt IntKind.u64.bits (IntKind.u64.wrap (r_0 * 2 ^ (min 13 IntKind.u64.bits)))).toNat) (2 ^ (min 7 IntKind.u64.bits)))).toNat) ^^^ BitVec.ofInt IntKind.u64.bits (IntKind.u64.wrap ((IntKind.u64.wrap (BitVec.ofInt IntKind.u64.bits (IntKind.u64.wrap (BitVec.ofInt IntKind.u64.bits r_0 ^^^ BitVec.ofInt IntKind.u64.bits (IntKind.u64.wrap (r_0 * 2 ^ (min 13 IntKind.u64.bits)))).toNat) ^^^ BitVec.ofInt IntKind.u64.bits (Int.fdiv (IntKind.u64.wrap (BitVec.ofInt IntKind.u64.bits r_0 ^^^ BitVec.ofInt IntKind.u64.bits (IntKind.u64.wrap (r_0 * 2 ^ (min 13 IntKind.u64.bits)))).toNat) (2 ^ (min 7 IntKind.u64.bits)))).toNat) * 2 ^ (min 17 IntKind.u64.bits)))).toNat, ())
theorem se (x : (argTy ps).den) : run E (lim E fin) fin depth (bodyOf Try.f74) .ret (entryFrom 0 ps x) = Se x.1 := by kernel_rfl
end slices_xorshift_Next
noncomputable def slices_xorshift_Next (r_0 : Int) : slices_xorshift_Next.R :=
  slices_xorshift_Next.Se r_0
namespace slices_xorshift_Next
noncomputable def sig : Sig := ⟨ps, rs, fun x => slices_xorshift_Next x.1⟩
theorem val (x : (argTy ps).den) : lim E fin (.code (bodyOf Try.f74) .ret) (entryFrom 0 ps x) = sig.run x := (lim_eq (.code (bodyOf Try.f74) .ret) (entryFrom 0 ps x)).trans (se x)
theorem ok : CallOK Try.prog 74 sig :=
  callOK_of_lim (E := E) mixed tt_ok ctxOk_nil Try.func74 (by kernel_rfl : Try.f74.body = some (bodyOf Try.f74)) Try.ntmps74 (of_decide_eq_true (by kernel_rfl)) (of_decide_eq_true (by kernel_rfl)) fun x y h => (val x).trans h
noncomputable def ctxc (n : Nat) : List (Nat × Sig) := []
noncomputable def sigc (n : Nat) : Sig := ⟨ps, rs, fun x => runs (withCtx E (ctxc n)) fin n (.code (bodyOf Try.f74) .ret) (entryFrom 0 ps x)⟩
theorem sigc_le (n : Nat) : ∀ x y, (sigc n).run x = some y → sig.run x = some y := fun x y h => (val x).symm.trans (runs_lim (E := E) (c := ctxc n) ctxLe_nil h)
end slices_xorshift_Next
namespace slices_breakPatternsOrdered_int
abbrev ps : List PM := [.own (.int .i64), .pure (.int .i64), .pure (.int .i64)]
abbrev rs : List RM := []
abbrev R : Type := Option (List Int × Unit)
noncomputable def E : Env := { tt := tt, ctx := [(73, slices_nextPowerOfTwo.sig), (74, slices_xorshift_Next.sig)], nt := 65, ann := [(1000005, [(0, .keep), (1, .keep), (6, .keep), (7, .keep), (8, .keep), (9, .keep)]), (10, [(0, .keep), (1, .keep), (6, .keep), (7, .keep), (8, .keep), (9, .keep), (10, .keep)])] }
noncomputable def c0 : Code := sub [1, 1, 0, 1, 1, 1, 0, 0] (bodyOf Try.f61)
noncomputable def c1 : Code := sub [1, 1, 0, 1, 1, 1, 0, 0, 1, 1] (bodyOf Try.f61)
noncomputable def c2 : Code := sub [1, 1, 0, 1, 1, 1, 0, 0, 1, 0, 0, 1, 1] (bodyOf Try.f61)
noncomputable def K6 : Kont := .blk 0 .ret
noncomputable def K7 : Kont := .loop c0 K6
noncomputable def K10 : Kont := .seq c1 K7
noncomputable def K11 : Kont := .blk 1 K10
noncomputable def fin : ASt → R := Kret E Try.f61.results.toList ps rs
def tL0 (a : Int) (length_6 : Int) (random : Int) (modulus : Int) (idx_9 : Int) (data_P : List Int) : ASt := ⟨[(9, .one (.val (.int .i64) idx_9)), (8, .one (.val (.int .u64) modulus)), (7, .one (.optr 7 0 [])), (6, .one (.val (.int .i64) length_6)), (1, .one (.val (.int .i64) a)), (0, .one (.own 10000))], [(7, some ⟨.free, .int .u64, [random]⟩), (10000, some ⟨.fixed, .int .i64, data_P⟩)]⟩
def tJ1 (a : Int) (length_6 : Int) (random : Int) (modulus : Int) (idx_9 : Int) (other : Int) (data_P : List Int) : ASt := ⟨[(10, .one (.val (.int .i64) other)), (9, .one (.val (.int .i64) idx_9)), (8, .one (.val (.int .u64) modulus)), (7, .one (.optr 7 0 [])), (6, .one (.val (.int .i64) length_6)), (1, .one (.val (.int .i64) a)), (0, .one (.own 10000))], [(7, some ⟨.free, .int .u64, [random]⟩), (10000, some ⟨.fixed, .int .i64, data_P⟩)]⟩
noncomputable def L0 (a : Int) (length_6 : Int) (random : Int) (modulus : Int) (idx_9 : Int) (data_P : List Int) : R := lim E fin (.loop c0 K6) (tL0 a length_6 random modulus idx_9 data_P)
noncomputable def J1 (a : Int) (length_6 : Int) (random : Int) (modulus : Int) (idx_9 : Int) (other : Int) (data_P : List Int) : R := lim E fin (.code c2 K11) (tJ1 a length_6 random modulus idx_9 other data_P)
noncomputable def SL0 (a : Int) (length_6 : Int) (random : Int) (modulus : Int) (idx_9 : Int) (data_P : List Int) : R :=
  cond (decide (idx_9 ≤ (IntKind.i64.wrap ((IntKind.i64.wrap (a + (IntKind.i64.wrap ((IntKind.i64.wrap (Int.tdiv length_6 4)) * 2)))) + 1))))
    (Option.bind (slices_xorshift_Next random) fun x1 =>
    cond (decide ((IntKind.i64.wrap (IntKind.u64.wrap (BitVec.ofInt IntKind.u64.bits x1.1 &&& BitVec.ofInt IntKind.u64.bits (IntKind.u64.wrap (modulus - 1))).toNat)) ≥ length_6))
      (J1 a length_6 x1.2.1 modulus idx_9 (IntKind.i64.wrap ((IntKind.i64.wrap (IntKind.u64.wrap (BitVec.ofInt IntKind.u64.bits x1.1 &&& BitVec.ofInt IntKind.u64.bits (IntKind.u64.wrap (modulus - 1))).toNat)) - length_6)) data_P)
      (J1 a length_6 x1.2.1 modulus idx_9 (IntKind.i64.wrap (IntKind.u64.wrap (BitVec.ofInt IntKind.u64.bits x1.1 &&& BitVec.ofInt IntKind.u64.bits (IntKind.u64.wrap (modulus - 1))).toNat)) data_P))
    (some (data_P, ()))
noncomputable def SJ1 (a : Int) (length_6 : Int) (random : Int) (modulus : Int) (idx_9 : Int) (other : Int) (data_P : List Int) : R :=
  cond (decide (0 ≤ IntKind.i64.wrap (a + other)) && decide (IntKind.i64.wrap (a + other) < (data_P.length : Int)))
    (cond (decide (0 ≤ idx_9) && decide (idx_9 < (data_P.length : Int)))
      (cond (decide (0 ≤ idx_9) && decide (idx_9 < (data_P.length : Int)))
        (cond (decide (0 ≤ IntKind.i64.wrap (a + other)) && decide (IntKind.i64.wrap (a + other) < ((data_P.set idx_9.toNat (data_P.getD ((IntKind.i64.wrap (a + other)).toNat) 0)).length : Int)))
          (L0 a length_6 random modulus (IntKind.i64.wrap (idx_9 + 1)) ((data_P.set idx_9.toNat (data_P.getD ((IntKind.i64.wrap (a + other)).toNat) 0)).set ((IntKind.i64.wrap (a + other)).toNat) (data_P.getD idx_9.toNat 0)))
          none)
        none)
      none)
    none
noncomputable def Se (data : List Int) (a : Int) (b : Int) : R :=
  cond (decide ((IntKind.i64.wrap (b - a)) ≥ 8))
    (Option.bind (slices_nextPowerOfTwo (IntKind.i64.wrap (b - a))) fun x1 =>
    L0 a (IntKind.i64.wrap (b - a)) (IntKind.u64.wrap (IntKind.i64.wrap (b - a))) x1.1 (IntKind.i64.wrap ((IntKind.i64.wrap (a + (IntKind.i64.wrap ((IntKind.i64.wrap (Int.tdiv (IntKind.i64.wrap (b - a)) 4)) * 2)))) - 1)) data)
    (some (data, ()))
theorem L0_eq (a length_6 random modulus idx_9 data_P) : L0 a length_6 random modulus idx_9 data_P = SL0 a length_6 random modulus idx_9 data_P := (lim_eq (.loop c0 K6) (tL0 a length_6 random modulus idx_9 data_P)).trans (by kernel_rfl)
theorem J1_eq (a length_6 random modulus idx_9 other data_P) : J1 a length_6 random modulus idx_9 other data_P = SJ1 a length_6 random modulus idx_9 other data_P := (lim_eq (.code c2 K11) (tJ1 a length_6 random modulus idx_9 other data_P)).trans (by kernel_rfl)
theorem se (x : (argTy ps).den) : run E (lim E fin) fin depth (bodyOf Try.f61) .ret (entryFrom 0 ps x) = Se x.1 x.2.1 x.2.2.1 := by kernel_rfl
end slices_breakPatternsOrdered_int
noncomputable def slices_breakPatternsOrdered_int (data : List Int) (a : Int) (b : Int) : slices_breakPatternsOrdered_int.R :=
  slices_breakPatternsOrdered_int.Se data a b
namespace slices_breakPatternsOrdered_int
noncomputable def sig : Sig := ⟨ps, rs, fun x => slices_breakPatternsOrdered_int x.1 x.2.1 x.2.2.1⟩
theorem val (x : (argTy ps).den) : lim E fin (.code (bodyOf Try.f61) .ret) (entryFrom 0 ps x) = sig.run x := (lim_eq (.code (bodyOf Try.f61) .ret) (entryFrom 0 ps x)).trans (se x)
theorem ok : CallOK Try.prog 61 sig :=
  callOK_of_lim (E := E) mixed tt_ok (ctxOk_cons (ctxOk_cons ctxOk_nil slices_xorshift_Next.ok Try.func74 (by kernel_rfl) (by kernel_rfl)) slices_nextPowerOfTwo.ok Try.func73 (by kernel_rfl) (by kernel_rfl)) Try.func61 (by kernel_rfl : Try.f61.body = some (bodyOf Try.f61)) Try.ntmps61 (of_decide_eq_true (by kernel_rfl)) (of_decide_eq_true (by kernel_rfl)) fun x y h => (val x).trans h
noncomputable def ctxc (n : Nat) : List (Nat × Sig) := [(73, slices_nextPowerOfTwo.sigc n), (74, slices_xorshift_Next.sigc n)]
noncomputable def sigc (n : Nat) : Sig := ⟨ps, rs, fun x => runs (withCtx E (ctxc n)) fin n (.code (bodyOf Try.f61) .ret) (entryFrom 0 ps x)⟩
theorem sigc_le (n : Nat) : ∀ x y, (sigc n).run x = some y → sig.run x = some y := fun x y h => (val x).symm.trans (runs_lim (E := E) (c := ctxc n) (ctxLe_cons (ctxLe_cons ctxLe_nil (slices_xorshift_Next.sigc_le n)) (slices_nextPowerOfTwo.sigc_le n)) h)
end slices_breakPatternsOrdered_int
namespace slices_order2Ordered_int
abbrev ps : List PM := [.pure (.sl (.int .i64)), .pure (.int .i64), .pure (.int .i64), .ptr (.int .i64)]
abbrev rs : List RM := [.pure (.int .i64), .pure (.int .i64)]
abbrev R : Type := Option (Int × Int × Int × Unit)
noncomputable def E : Env := { tt := tt, ctx := [(39, cmp_Less_int.sig)], nt := 28, ann := [] }
noncomputable def fin : ASt → R := Kret E Try.f79.results.toList ps rs
noncomputable def Se (data : List Int) (a : Int) (b : Int) (swaps : Int) : R :=
  Option.bind (idx data b) fun x1 =>
  Option.bind (idx data a) fun x2 =>
  Option.bind (cmp_Less_int x1 x2) fun x3 =>
  cond x3.1
    (some (b, a, IntKind.i64.wrap (swaps + 1), ()))
    (some (a, b, swaps, ()))
theorem se (x : (argTy ps).den) : run E (lim E fin) fin depth (bodyOf Try.f79) .ret (entryFrom 0 ps x) = Se x.1 x.2.1 x.2.2.1 x.2.2.2.1 := by kernel_rfl
end slices_order2Ordered_int
noncomputable def slices_order2Ordered_int (data : List Int) (a : Int) (b : Int) (swaps : Int) : slices_order2Ordered_int.R :=
  slices_order2Ordered_int.Se data a b swaps
namespace slices_order2Ordered_int
noncomputable def sig : Sig := ⟨ps, rs, fun x => slices_order2Ordered_int x.1 x.2.1 x.2.2.1 x.2.2.2.1⟩
theorem val (x : (argTy ps).den) : lim E fin (.code (bodyOf Try.f79) .ret) (entryFrom 0 ps x) = sig.run x := (lim_eq (.code (bodyOf Try.f79) .ret) (entryFrom 0 ps x)).trans (se x)
theorem ok : CallOK Try.prog 79 sig :=
  callOK_of_lim (E := E) mixed tt_ok (ctxOk_cons ctxOk_nil cmp_Less_int.ok Try.func39 (by kernel_rfl) (by kernel_rfl)) Try.func79 (by kernel_rfl : Try.f79.body = some (bodyOf Try.f79)) Try.ntmps79 (of_decide_eq_true (by kernel_rfl)) (of_decide_eq_true (by kernel_rfl)) fun x y h => (val x).trans h
noncomputable def ctxc (n : Nat) : List (Nat × Sig) := [(39, cmp_Less_int.sigc n)]
noncomputable def sigc (n : Nat) : Sig := ⟨ps, rs, fun x => runs (withCtx E (ctxc n)) fin n (.code (bodyOf Try.f79) .ret) (entryFrom 0 ps x)⟩
theorem sigc_le (n : Nat) : ∀ x y, (sigc n).run x = some y → sig.run x = some y := fun x y h => (val x).symm.trans (runs_lim (E := E) (c := ctxc n) (ctxLe_cons ctxLe_nil (cmp_Less_int.sigc_le n)) h)
end slices_order2Ordered_int
namespace slices_medianOrdered_int
abbrev ps : List PM := [.pure (.sl (.int .i64)), .pure (.int .i64), .pure (.int .i64), .pure (.int .i64), .ptr (.int .i64)]
abbrev rs : List RM := [.pure (.int .i64)]
abbrev R : Type := Option (Int × Int × Unit)
noncomputable def E : Env := { tt := tt, ctx := [(79, slices_order2Ordered_int.sig)], nt := 36, ann := [] }
noncomputable def fin : ASt → R := Kret E Try.f76.results.toList ps rs
noncomputable def Se (data : List Int) (a : Int) (b : Int) (c_3 : Int) (swaps : Int) : R :=
  Option.bind (slices_order2Ordered_int data a b swaps) fun x1 =>
  Option.bind (slices_order2Ordered_int data x1.2.1 c_3 x1.2.2.1) fun x2 =>
  Option.bind (slices_order2Ordered_int data x1.1 x2.1 x2.2.2.1) fun x3 =>
  some (x3.2.1, x3.2.2.1, ())
theorem se (x : (argTy ps).den) : run E (lim E fin) fin depth (bodyOf Try.f76) .ret (entryFrom 0 ps x) = Se x.1 x.2.1 x.2.2.1 x.2.2.2.1 x.2.2.2.2.1 := by kernel_rfl
end slices_medianOrdered_int
noncomputable def slices_medianOrdered_int (data : List Int) (a : Int) (b : Int) (c_3 : Int) (swaps : Int) : slices_medianOrdered_int.R :=
  slices_medianOrdered_int.Se data a b c_3 swaps
namespace slices_medianOrdered_int
noncomputable def sig : Sig := ⟨ps, rs, fun x => slices_medianOrdered_int x.1 x.2.1 x.2.2.1 x.2.2.2.1 x.2.2.2.2.1⟩
theorem val (x : (argTy ps).den) : lim E fin (.code (bodyOf Try.f76) .ret) (entryFrom 0 ps x) = sig.run x := (lim_eq (.code (bodyOf Try.f76) .ret) (entryFrom 0 ps x)).trans (se x)
theorem ok : CallOK Try.prog 76 sig :=
  callOK_of_lim (E := E) mixed tt_ok (ctxOk_cons ctxOk_nil slices_order2Ordered_int.ok Try.func79 (by kernel_rfl) (by kernel_rfl)) Try.func76 (by kernel_rfl : Try.f76.body = some (bodyOf Try.f76)) Try.ntmps76 (of_decide_eq_true (by kernel_rfl)) (of_decide_eq_true (by kernel_rfl)) fun x y h => (val x).trans h
noncomputable def ctxc (n : Nat) : List (Nat × Sig) := [(79, slices_order2Ordered_int.sigc n)]
noncomputable def sigc (n : Nat) : Sig := ⟨ps, rs, fun x => runs (withCtx E (ctxc n)) fin n (.code (bodyOf Try.f76) .ret) (entryFrom 0 ps x)⟩
theorem sigc_le (n : Nat) : ∀ x y, (sigc n).run x = some y → sig.run x = some y := fun x y h => (val x).symm.trans (runs_lim (E := E) (c := ctxc n) (ctxLe_cons ctxLe_nil (slices_order2Ordered_int.sigc_le n)) h)
end slices_medianOrdered_int
namespace slices_medianAdjacentOrdered_int
abbrev ps : List PM := [.pure (.sl (.int .i64)), .pure (.int .i64), .ptr (.int .i64)]
abbrev rs : List RM := [.pure (.int .i64)]
abbrev R : Type := Option (Int × Int × Unit)
noncomputable def E : Env := { tt := tt, ctx := [(76, slices_medianOrdered_int.sig)], nt := 15, ann := [] }
noncomputable def fin : ASt → R := Kret E Try.f75.results.toList ps rs
noncomputable def Se (data : List Int) (a : Int) (swaps : Int) : R :=
  Option.bind (slices_medianOrdered_int data (IntKind.i64.wrap (a - 1)) a (IntKind.i64.wrap (a + 1)) swaps) fun x1 =>
  some (x1.1, x1.2.1, ())
theorem se (x : (argTy ps).den) : run E (lim E fin) fin depth (bodyOf Try.f75) .ret (entryFrom 0 ps x) = Se x.1 x.2.1 x.2.2.1 := by kernel_rfl
end slices_medianAdjacentOrdered_int
noncomputable def slices_medianAdjacentOrdered_int (data : List Int) (a : Int) (swaps : Int) : slices_medianAdjacentOrdered_int.R :=
  slices_medianAdjacentOrdered_int.Se data a swaps
namespace slices_medianAdjacentOrdered_int
noncomputable def sig : Sig := ⟨ps, rs, fun x => slices_medianAdjacentOrdered_int x.1 x.2.1 x.2.2.1⟩
theorem val (x : (argTy ps).den) : lim E fin (.code (bodyOf Try.f75) .ret) (entryFrom 0 ps x) = sig.run x := (lim_eq (.code (bodyOf Try.f75) .ret) (entryFrom 0 ps x)).trans (se x)
theorem ok : CallOK Try.prog 75 sig :=
  callOK_of_lim (E := E) mixed tt_ok (ctxOk_cons ctxOk_nil slices_medianOrdered_int.ok Try.func76 (by kernel_rfl) (by kernel_rfl)) Try.func75 (by kernel_rfl : Try.f75.body = some (bodyOf Try.f75)) Try.ntmps75 (of_decide_eq_true (by kernel_rfl)) (of_decide_eq_true (by kernel_rfl)) fun x y h => (val x).trans h
noncomputable def ctxc (n : Nat) : List (Nat × Sig) := [(76, slices_medianOrdered_int.sigc n)]
noncomputable def sigc (n : Nat) : Sig := ⟨ps, rs, fun x => runs (withCtx E (ctxc n)) fin n (.code (bodyOf Try.f75) .ret) (entryFrom 0 ps x)⟩
theorem sigc_le (n : Nat) : ∀ x y, (sigc n).run x = some y → sig.run x = some y := fun x y h => (val x).symm.trans (runs_lim (E := E) (c := ctxc n) (ctxLe_cons ctxLe_nil (slices_medianOrdered_int.sigc_le n)) h)
end slices_medianAdjacentOrdered_int
namespace slices_choosePivotOrdered_int
abbrev ps : List PM := [.pure (.sl (.int .i64)), .pure (.int .i64), .pure (.int .i64)]
abbrev rs : List RM := [.pure (.int .i64), .pure (.int .i64)]
abbrev R : Type := Option (Int × Int × Unit)
noncomputable def E : Env := { tt := tt, ctx := [(75, slices_medianAdjacentOrdered_int.sig), (76, slices_medianOrdered_int.sig)], nt := 57, ann := [(12, [(9, .keep), (11, .keep)])] }
noncomputable def c0 : Code := sub [1, 1, 1, 1, 1, 1, 1] (bodyOf Try.f62)
noncomputable def fin : ASt → R := Kret E Try.f62.results.toList ps rs
def tJ0 (swaps : Int) (j : Int) : ASt := ⟨[(11, .one (.val (.int .i64) j)), (9, .one (.optr 9 0 []))], [(9, some ⟨.free, .int .i64, [swaps]⟩)]⟩
noncomputable def J0 (swaps : Int) (j : Int) : R := lim E fin (.code c0 .ret) (tJ0 swaps j)
noncomputable def SJ0 (swaps : Int) (j : Int) : R :=
  cond (swaps == 0)
    (some (j, 1, ()))
    (cond (swaps == 12)
      (some (j, 2, ()))
      (some (j, 0, ())))
noncomputable def Se (data : List Int) (a : Int) (b : Int) : R :=
  cond (decide ((IntKind.i64.wrap (b - a)) ≥ 8))
    (cond (decide ((IntKind.i64.wrap (b - a)) ≥ 50))
      (Option.bind (slices_medianAdjacentOrdered_int data (IntKind.i64.wrap (a + (IntKind.i64.wrap ((IntKind.i64.wrap (Int.tdiv (IntKind.i64.wrap (b - a)) 4)) * 1)))) 0) fun x1 =>
      Option.bind (slices_medianAdjacentOrdered_int data (IntKind.i64.wrap (a + (IntKind.i64.wrap ((IntKind.i64.wrap (Int.tdiv (IntKind.i64.wrap (b - a)) 4)) * 2)))) x1.2.1) fun x2 =>
      Option.bind (slices_medianAdjacentOrdered_int data (IntKind.i64.wrap (a + (IntKind.i64.wrap ((IntKind.i64.wrap (Int.tdiv (IntKind.i64.wrap (b - a)) 4)) * 3)))) x2.2.1) fun x3 =>
      Option.bind (slices_medianOrdered_int data x1.1 x2.1 x3.1 x3.2.1) fun x4 =>
      J0 x4.2.1 x4.1)
      (Option.bind (slices_medianOrdered_int data (IntKind.i64.wrap (a + (IntKind.i64.wrap ((IntKind.i64.wrap (Int.tdiv (IntKind.i64.wrap (b - a)) 4)) * 1)))) (IntKind.i64.wrap (a + (IntKind.i64.wrap ((IntKind.i64.wrap (Int.tdiv (IntKind.i64.wrap (b - a)) 4)) * 2)))) (IntKind.i64.wrap (a + (IntKind.i64.wrap ((IntKind.i64.wrap (Int.tdiv (IntKind.i64.wrap (b - a)) 4)) * 3)))) 0) fun x5 =>
      J0 x5.2.1 x5.1))
    (J0 0 (IntKind.i64.wrap (a + (IntKind.i64.wrap ((IntKind.i64.wrap (Int.tdiv (IntKind.i64.wrap (b - a)) 4)) * 2)))))
theorem J0_eq (swaps j) : J0 swaps j = SJ0 swaps j := (lim_eq (.code c0 .ret) (tJ0 swaps j)).trans (by kernel_rfl)
theorem se (x : (argTy ps).den) : run E (lim E fin) fin depth (bodyOf Try.f62) .ret (entryFrom 0 ps x) = Se x.1 x.2.1 x.2.2.1 := by kernel_rfl
end slices_choosePivotOrdered_int
noncomputable def slices_choosePivotOrdered_int (data : List Int) (a : Int) (b : Int) : slices_choosePivotOrdered_int.R :=
  slices_choosePivotOrdered_int.Se data a b
namespace slices_choosePivotOrdered_int
noncomputable def sig : Sig := ⟨ps, rs, fun x => slices_choosePivotOrdered_int x.1 x.2.1 x.2.2.1⟩
theorem val (x : (argTy ps).den) : lim E fin (.code (bodyOf Try.f62) .ret) (entryFrom 0 ps x) = sig.run x := (lim_eq (.code (bodyOf Try.f62) .ret) (entryFrom 0 ps x)).trans (se x)
theorem ok : CallOK Try.prog 62 sig :=
  callOK_of_lim (E := E) mixed tt_ok (ctxOk_cons (ctxOk_cons ctxOk_nil slices_medianOrdered_int.ok Try.func76 (by kernel_rfl) (by kernel_rfl)) slices_medianAdjacentOrdered_int.ok Try.func75 (by kernel_rfl) (by kernel_rfl)) Try.func62 (by kernel_rfl : Try.f62.body = some (bodyOf Try.f62)) Try.ntmps62 (of_decide_eq_true (by kernel_rfl)) (of_decide_eq_true (by kernel_rfl)) fun x y h => (val x).trans h
noncomputable def ctxc (n : Nat) : List (Nat × Sig) := [(75, slices_medianAdjacentOrdered_int.sigc n), (76, slices_medianOrdered_int.sigc n)]
noncomputable def sigc (n : Nat) : Sig := ⟨ps, rs, fun x => runs (withCtx E (ctxc n)) fin n (.code (bodyOf Try.f62) .ret) (entryFrom 0 ps x)⟩
theorem sigc_le (n : Nat) : ∀ x y, (sigc n).run x = some y → sig.run x = some y := fun x y h => (val x).symm.trans (runs_lim (E := E) (c := ctxc n) (ctxLe_cons (ctxLe_cons ctxLe_nil (slices_medianOrdered_int.sigc_le n)) (slices_medianAdjacentOrdered_int.sigc_le n)) h)
end slices_choosePivotOrdered_int
namespace slices_reverseRangeOrdered_int
abbrev ps : List PM := [.own (.int .i64), .pure (.int .i64), .pure (.int .i64)]
abbrev rs : List RM := []
abbrev R : Type := Option (List Int × Unit)
noncomputable def E : Env := { tt := tt, ctx := [], nt := 32, ann := [(1000002, [(0, .keep), (6, .keep), (7, .keep)])] }
noncomputable def c0 : Code := sub [1, 1, 0, 0] (bodyOf Try.f63)
noncomputable def K3 : Kont := .blk 0 .ret
noncomputable def fin : ASt → R := Kret E Try.f63.results.toList ps rs
def tL0 (i : Int) (j : Int) (data_P : List Int) : ASt := ⟨[(7, .one (.val (.int .i64) j)), (6, .one (.val (.int .i64) i)), (0, .one (.own 10000))], [(10000, some ⟨.fixed, .int .i64, data_P⟩)]⟩
noncomputable def L0 (i : Int) (j : Int) (data_P : List Int) : R := lim E fin (.loop c0 K3) (tL0 i j data_P)
noncomputable def SL0 (i : Int) (j : Int) (data_P : List Int) : R :=
  cond (decide (i < j))
    (cond (decide (0 ≤ j) && decide (j < (data_P.length : Int)))
      (cond (decide (0 ≤ i) && decide (i < (data_P.length : Int)))
        (cond (decide (0 ≤ i) && decide (i < (data_P.length : Int)))
          (cond (decide (0 ≤ j) && decide (j < ((data_P.set i.toNat (data_P.getD j.toNat 0)).length : Int)))
            (L0 (IntKind.i64.wrap (i + 1)) (IntKind.i64.wrap (j - 1)) ((data_P.set i.toNat (data_P.getD j.toNat 0)).set j.toNat (data_P.getD i.toNat 0)))
            none)
          none)
        none)
      none)
    (some (data_P, ()))
noncomputable def Se (data : List Int) (a : Int) (b : Int) : R :=
  L0 a (IntKind.i64.wrap (b - 1)) data
theorem L0_eq (i j data_P) : L0 i j data_P = SL0 i j data_P := (lim_eq (.loop c0 K3) (tL0 i j data_P)).trans (by kernel_rfl)
theorem se (x : (argTy ps).den) : run E (lim E fin) fin depth (bodyOf Try.f63) .ret (entryFrom 0 ps x) = Se x.1 x.2.1 x.2.2.1 := by kernel_rfl
end slices_reverseRangeOrdered_int
noncomputable def slices_reverseRangeOrdered_int (data : List Int) (a : Int) (b : Int) : slices_reverseRangeOrdered_int.R :=
  slices_reverseRangeOrdered_int.Se data a b
namespace slices_reverseRangeOrdered_int
noncomputable def sig : Sig := ⟨ps, rs, fun x => slices_reverseRangeOrdered_int x.1 x.2.1 x.2.2.1⟩
theorem val (x : (argTy ps).den) : lim E fin (.code (bodyOf Try.f63) .ret) (entryFrom 0 ps x) = sig.run x := (lim_eq (.code (bodyOf Try.f63) .ret) (entryFrom 0 ps x)).trans (se x)
theorem ok : CallOK Try.prog 63 sig :=
  callOK_of_lim (E := E) mixed tt_ok ctxOk_nil Try.func63 (by kernel_rfl : Try.f63.body = some (bodyOf Try.f63)) Try.ntmps63 (of_decide_eq_true (by kernel_rfl)) (of_decide_eq_true (by kernel_rfl)) fun x y h => (val x).trans h
noncomputable def ctxc (n : Nat) : List (Nat × Sig) := []
noncomputable def sigc (n : Nat) : Sig := ⟨ps, rs, fun x => runs (withCtx E (ctxc n)) fin n (.code (bodyOf Try.f63) .ret) (entryFrom 0 ps x)⟩
theorem sigc_le (n : Nat) : ∀ x y, (sigc n).run x = some y → sig.run x = some y := fun x y h => (val x).symm.trans (runs_lim (E := E) (c := ctxc n) ctxLe_nil h)
end slices_reverseRangeOrdered_int
namespace slices_partialInsertionSortOrdered_int
abbrev ps : List PM := [.own (.int .i64), .pure (.int .i64), .pure (.int .i64)]
abbrev rs : List RM := [.pure .bool]
abbrev R : Type := Option (Bool × List Int × Unit)
noncomputable def E : Env := { tt := tt, ctx := [(39, cmp_Less_int.sig)], nt := 133, ann := [(1000003, [(0, .keep), (1, .keep), (2, .keep), (7, .keep), (8, .keep)]), (7, [(0, .keep), (1, .keep), (2, .keep), (7, .keep), (8, .keep)]), (1000005, [(0, .keep), (1, .keep), (2, .keep), (7, .keep), (8, .keep)]), (18, [(0, .keep), (1, .keep), (2, .keep), (7, .keep), (8, .keep)]), (1000014, [(0, .keep), (1, .keep), (2, .keep), (7, .keep), (8, .keep), (9, .keep)]), (1000020, [(0, .keep), (1, .keep), (2, .keep), (7, .keep), (8, .keep), (10, .keep)])] }
noncomputable def c0 : Code := sub [1, 1, 1] (bodyOf Try.f64)
noncomputable def c1 : Code := sub [1, 1, 0, 1, 0, 0] (bodyOf Try.f64)
noncomputable def c2 : Code := sub [1, 1, 0, 1, 0, 0, 1, 1] (bodyOf Try.f64)
noncomputable def c3 : Code := sub [1, 1, 0, 1, 0, 0, 1, 0, 0, 1] (bodyOf Try.f64)
noncomputable def c4 : Code := sub [1, 1, 0, 1, 0, 0, 1, 0, 0, 1, 1, 1, 1, 1] (bodyOf Try.f64)
noncomputable def c5 : Code := sub [1, 1, 0, 1, 0, 0, 1, 0, 0, 0, 0, 0] (bodyOf Try.f64)
noncomputable def c6 : Code := sub [1, 1, 0, 1, 0, 0, 1, 0, 0, 1, 1, 1, 1, 0, 1, 0, 1, 0, 0] (bodyOf Try.f64)
noncomputable def c7 : Code := sub [1, 1, 0, 1, 0, 0, 1, 0, 0, 1, 1, 1, 1, 1, 1, 0, 1, 0, 0] (bodyOf Try.f64)
noncomputable def K3 : Kont := .seq c0 .ret
noncomputable def K5 : Kont := .blk 0 K3
noncomputable def K6 : Kont := .loop c1 K5
noncomputable def K9 : Kont := .seq c2 K6
noncomputable def K10 : Kont := .blk 1 K9
noncomputable def K11 : Kont := .seq c3 K10
noncomputable def K12 : Kont := .blk 2 K11
noncomputable def K25 : Kont := .seq c4 K10
noncomputable def K28 : Kont := .blk 4 K25
noncomputable def K32 : Kont := .blk 6 K10
noncomputable def fin : ASt → R := Kret E Try.f64.results.toList ps rs
def tL0 (a : Int) (b : Int) (i : Int) (j : Int) (data_P : List Int) : ASt := ⟨[(8, .one (.val (.int .i64) j)), (7, .one (.val (.int .i64) i)), (2, .one (.val (.int .i64) b)), (1, .one (.val (.int .i64) a)), (0, .one (.own 10000))], [(10000, some ⟨.fixed, .int .i64, data_P⟩)]⟩
def tJ1 (a : Int) (b : Int) (i : Int) (j : Int) (data_P : List Int) : ASt := ⟨[(8, .one (.val (.int .i64) j)), (7, .one (.val (.int .i64) i)), (2, .one (.val (.int .i64) b)), (1, .one (.val (.int .i64) a)), (0, .one (.own 10000))], [(10000, some ⟨.fixed, .int .i64, data_P⟩)]⟩
def tL2 (a : Int) (b : Int) (i : Int) (j : Int) (data_P : List Int) : ASt := ⟨[(8, .one (.val (.int .i64) j)), (7, .one (.val (.int .i64) i)), (2, .one (.val (.int .i64) b)), (1, .one (.val (.int .i64) a)), (0, .one (.own 10000))], [(10000, some ⟨.fixed, .int .i64, data_P⟩)]⟩
def tJ3 (a : Int) (b : Int) (i : Int) (j : Int) (data_P : List Int) : ASt := ⟨[(8, .one (.val (.int .i64) j)), (7, .one (.val (.int .i64) i)), (2, .one (.val (.int .i64) b)), (1, .one (.val (.int .i64) a)), (0, .one (.own 10000))], [(10000, some ⟨.fixed, .int .i64, data_P⟩)]⟩
def tL4 (a : Int) (b : Int) (i : Int) (j : Int) (j_9 : Int) (data_P : List Int) : ASt := ⟨[(9, .one (.val (.int .i64) j_9)), (8, .one (.val (.int .i64) j)), (7, .one (.val (.int .i64) i)), (2, .one (.val (.int .i64) b)), (1, .one (.val (.int .i64) a)), (0, .one (.own 10000))], [(10000, some ⟨.fixed, .int .i64, data_P⟩)]⟩
def tL5 (a : Int) (b : Int) (i : Int) (j : Int) (j_10 : Int) (data_P : List Int) : ASt := ⟨[(10, .one (.val (.int .i64) j_10)), (8, .one (.val (.int .i64) j)), (7, .one (.val (.int .i64) i)), (2, .one (.val (.int .i64) b)), (1, .one (.val (.int .i64) a)), (0, .one (.own 10000))], [(10000, some ⟨.fixed, .int .i64, data_P⟩)]⟩
noncomputable def L0 (a : Int) (b : Int) (i : Int) (j : Int) (data_P : List Int) : R := lim E fin (.loop c1 K5) (tL0 a b i j data_P)
noncomputable def J1 (a : Int) (b : Int) (i : Int) (j : Int) (data_P : List Int) : R := lim E fin (.code c3 K10) (tJ1 a b i j data_P)
noncomputable def L2 (a : Int) (b : Int) (i : Int) (j : Int) (data_P : List Int) : R := lim E fin (.loop c5 K12) (tL2 a b i j data_P)
noncomputable def J3 (a : Int) (b : Int) (i : Int) (j : Int) (data_P : List Int) : R := lim E fin (.code c4 K10) (tJ3 a b i j data_P)
noncomputable def L4 (a : Int) (b : Int) (i : Int) (j : Int) (j_9 : Int) (data_P : List Int) : R := lim E fin (.loop c6 K28) (tL4 a b i j j_9 data_P)
noncomputable def L5 (a : Int) (b : Int) (i : Int) (j : Int) (j_10 : Int) (data_P : List Int) : R := lim E fin (.loop c7 K32) (tL5 a b i j j_10 data_P)
noncomputable def SL0 (a : Int) (b : Int) (i : Int) (j : Int) (data_P : List Int) : R :=
  cond (decide (j < 5))
    (L2 a b i j data_P)
    (some (false, data_P, ()))
noncomputable def SJ1 (a : Int) (b : Int) (i : Int) (j : Int) (data_P : List Int) : R :=
  cond (i == b)
    (some (true, data_P, ()))
    (cond (decide ((IntKind.i64.wrap (b - a)) < 50))
      (some (false, data_P, ()))
      (cond (decide (0 ≤ IntKind.i64.wrap (i - 1)) && decide (IntKind.i64.wrap (i - 1) < (data_P.length : Int)))
        (cond (decide (0 ≤ i) && decide (i < (data_P.length : Int)))
          (cond (decide (0 ≤ i) && decide (i < (data_P.length : Int)))
            (cond (decide (0 ≤ IntKind.i64.wrap (i - 1)) && decide (IntKind.i64.wrap (i - 1) < ((data_P.set i.toNat (data_P.getD ((IntKind.i64.wrap (i - 1)).toNat) 0)).length : Int)))
              (cond (decide ((IntKind.i64.wrap (i - a)) ≥ 2))
                (L4 a b i j (IntKind.i64.wrap (i - 1)) ((data_P.set i.toNat (data_P.getD ((IntKind.i64.wrap (i - 1)).toNat) 0)).set ((IntKind.i64.wrap (i - 1)).toNat) (data_P.getD i.toNat 0)))
                (J3 a b i j ((data_P.set i.toNat (data_P.getD ((IntKind.i64.wrap (i - 1)).toNat) 0)).set ((IntKind.i64.wrap (i - 1)).toNat) (data_P.getD i.toNat 0))))
              none)
            none)
          none)
        none))
noncomputable def SL2 (a : Int) (b : Int) (i : Int) (j : Int) (data_P : List Int) : R :=
  cond (decide (i < b))
    (cond (decide (0 ≤ i) && decide (i < (data_P.length : Int)))
      (cond (decide (0 ≤ IntKind.i64.wrap (i - 1)) && decide (IntKind.i64.wrap (i - 1) < (data_P.length : Int)))
        (Option.bind (cmp_Less_int (data_P.getD i.toNat 0) (data_P.getD ((IntKind.i64.wrap (i - 1)).toNat) 0)) fun x1 =>
        cond (!x1.1)
          (L2 a b (IntKind.i64.wrap (i + 1)) j data_P)
          (J1 a b i j data_P))
        none)
      none)
    (J1 a b i j data_P)
noncomputable def SJ3 (a : Int) (b : Int) (i : Int) (j : Int) (data_P : List Int) : R :=
  cond (decide ((IntKind.i64.wrap (b - i)) ≥ 2))
    (L5 a b i j (IntKind.i64.wrap (i + 1)) data_P)
    (L0 a b i (IntKind.i64.wrap (j + 1)) data_P)
noncomputable def SL4 (a : Int) (b : Int) (i : Int) (j : Int) (j_9 : Int) (data_P : List Int) : R :=
  cond (decide (j_9 ≥ 1))
    (cond (decide (0 ≤ j_9) && decide (j_9 < (data_P.length : Int)))
      (cond (decide (0 ≤ IntKind.i64.wrap (j_9 - 1)) && decide (IntKind.i64.wrap (j_9 - 1) < (data_P.length : Int)))
        (Option.bind (cmp_Less_int (data_P.getD j_9.toNat 0) (data_P.getD ((IntKind.i64.wrap (j_9 - 1)).toNat) 0)) fun x1 =>
        cond (!x1.1)
          (J3 a b i j data_P)
          (cond (decide (0 ≤ IntKind.i64.wrap (j_9 - 1)) && decide (IntKind.i64.wrap (j_9 - 1) < (data_P.length : Int)))
            (cond (decide (0 ≤ j_9) && decide (j_9 < (data_P.length : Int)))
              (cond (decide (0 ≤ j_9) && decide (j_9 < (data_P.length : Int)))
                (cond (decide (0 ≤ IntKind.i64.wrap (j_9 - 1)) && decide (IntKind.i64.wrap (j_9 - 1) < ((data_P.set j_9.toNat (data_P.getD ((IntKind.i64.wrap (j_9 - 1)).toNat) 0)).length : Int)))
                  (L4 a b i j (IntKind.i64.wrap (j_9 - 1)) ((data_P.set j_9.toNat (data_P.getD ((IntKind.i64.wrap (j_9 - 1)).toNat) 0)).set ((IntKind.i64.wrap (j_9 - 1)).toNat) (data_P.getD j_9.toNat 0)))
                  none)
                none)
              none)
            none))
        none)
      none)
    (J3 a b i j data_P)
noncomputable def SL5 (a : Int) (b : Int) (i : Int) (j : Int) (j_10 : Int) (data_P : List Int) : R :=
  cond (decide (j_10 < b))
    (cond (decide (0 ≤ j_10) && decide (j_10 < (data_P.length : Int)))
      (cond (decide (0 ≤ IntKind.i64.wrap (j_10 - 1)) && decide (IntKind.i64.wrap (j_10 - 1) < (data_P.length : Int)))
        (Option.bind (cmp_Less_int (data_P.getD j_10.toNat 0) (data_P.getD ((IntKind.i64.wrap (j_10 - 1)).toNat) 0)) fun x1 =>
        cond (!x1.1)
          (L0 a b i (IntKind.i64.wrap (j + 1)) data_P)
          (cond (decide (0 ≤ IntKind.i64.wrap (j_10 - 1)) && decide (IntKind.i64.wrap (j_10 - 1) < (data_P.length : Int)))
            (cond (decide (0 ≤ j_10) && decide (j_10 < (data_P.length : Int)))
              (cond (decide (0 ≤ j_10) && decide (j_10 < (data_P.length : Int)))
                (cond (decide (0 ≤ IntKind.i64.wrap (j_10 - 1)) && decide (IntKind.i64.wrap (j_10 - 1) < ((data_P.set j_10.toNat (data_P.getD ((IntKind.i64.wrap (j_10 - 1)).toNat) 0)).length : Int)))
                  (L5 a b i j (IntKind.i64.wrap (j_10 + 1)) ((data_P.set j_10.toNat (data_P.getD ((IntKind.i64.wrap (j_10 - 1)).toNat) 0)).set ((IntKind.i64.wrap (j_10 - 1)).toNat) (data_P.getD j_10.toNat 0)))
                  none)
                none)
              none)
            none))
        none)
      none)
    (L0 a b i (IntKind.i64.wrap (j + 1)) data_P)
noncomputable def Se (data : List Int) (a : Int) (b : Int) : R :=
  L0 a b (IntKind.i64.wrap (a + 1)) 0 data
theorem L0_eq (a b i j data_P) : L0 a b i j data_P = SL0 a b i j data_P := (lim_eq (.loop c1 K5) (tL0 a b i j data_P)).trans (by kernel_rfl)
theorem J1_eq (a b i j data_P) : J1 a b i j data_P = SJ1 a b i j data_P := (lim_eq (.code c3 K10) (tJ1 a b i j data_P)).trans (by kernel_rfl)
theorem L2_eq (a b i j data_P) : L2 a b i j data_P = SL2 a b i j data_P := (lim_eq (.loop c5 K12) (tL2 a b i j data_P)).trans (by kernel_rfl)
theorem J3_eq (a b i j data_P) : J3 a b i j data_P = SJ3 a b i j data_P := (lim_eq (.code c4 K10) (tJ3 a b i j data_P)).trans (by kernel_rfl)
theorem L4_eq (a b i j j_9 data_P) : L4 a b i j j_9 data_P = SL4 a b i j j_9 data_P := (lim_eq (.loop c6 K28) (tL4 a b i j j_9 data_P)).trans (by kernel_rfl)
theorem L5_eq (a b i j j_10 data_P) : L5 a b i j j_10 data_P = SL5 a b i j j_10 data_P := (lim_eq (.loop c7 K32) (tL5 a b i j j_10 data_P)).trans (by kernel_rfl)
theorem se (x : (argTy ps).den) : run E (lim E fin) fin depth (bodyOf Try.f64) .ret (entryFrom 0 ps x) = Se x.1 x.2.1 x.2.2.1 := by kernel_rfl
end slices_partialInsertionSortOrdered_int
noncomputable def slices_partialInsertionSortOrdered_int (data : List Int) (a : Int) (b : Int) : slices_partialInsertionSortOrdered_int.R :=
  slices_partialInsertionSortOrdered_int.Se data a b
namespace slices_partialInsertionSortOrdered_int
noncomputable def sig : Sig := ⟨ps, rs, fun x => slices_partialInsertionSortOrdered_int x.1 x.2.1 x.2.2.1⟩
theorem val (x : (argTy ps).den) : lim E fin (.code (bodyOf Try.f64) .ret) (entryFrom 0 ps x) = sig.run x := (lim_eq (.code (bodyOf Try.f64) .ret) (entryFrom 0 ps x)).trans (se x)
theorem ok : CallOK Try.prog 64 sig :=
  callOK_of_lim (E := E) mixed tt_ok (ctxOk_cons ctxOk_nil cmp_Less_int.ok Try.func39 (by kernel_rfl) (by kernel_rfl)) Try.func64 (by kernel_rfl : Try.f64.body = some (bodyOf Try.f64)) Try.ntmps64 (of_decide_eq_true (by kernel_rfl)) (of_decide_eq_true (by kernel_rfl)) fun x y h => (val x).trans h
noncomputable def ctxc (n : Nat) : List (Nat × Sig) := [(39, cmp_Less_int.sigc n)]
noncomputable def sigc (n : Nat) : Sig := ⟨ps, rs, fun x => runs (withCtx E (ctxc n)) fin n (.code (bodyOf Try.f64) .ret) (entryFrom 0 ps x)⟩
theorem sigc_le (n : Nat) : ∀ x y, (sigc n).run x = some y → sig.run x = some y := fun x y h => (val x).symm.trans (runs_lim (E := E) (c := ctxc n) (ctxLe_cons ctxLe_nil (cmp_Less_int.sigc_le n)) h)
end slices_partialInsertionSortOrdered_int
namespace slices_partitionEqualOrdered_int
abbrev ps : List PM := [.own (.int .i64), .pure (.int .i64), .pure (.int .i64), .pure (.int .i64)]
abbrev rs : List RM := [.pure (.int .i64)]
abbrev R : Type := Option (Int × List Int × Unit)
noncomputable def E : Env := { tt := tt, ctx := [(39, cmp_Less_int.sig)], nt := 84, ann := [(1000003, [(0, .keep), (1, .keep), (9, .keep), (10, .keep)]), (5, [(0, .keep), (1, .keep), (9, .keep), (10, .keep)]), (1000003, [(0, .keep), (1, .keep), (9, .keep), (10, .keep)]), (7, [(0, .keep), (1, .keep), (9, .keep), (10, .keep)]), (1000005, [(0, .keep), (1, .keep), (9, .keep), (10, .keep)])] }
noncomputable def c0 : Code := sub [1, 1, 1, 1] (bodyOf Try.f65)
noncomputable def c1 : Code := sub [1, 1, 1, 0, 0, 0] (bodyOf Try.f65)
noncomputable def c2 : Code := sub [1, 1, 1, 0, 0, 0, 0, 1] (bodyOf Try.f65)
noncomputable def c3 : Code := sub [1, 1, 1, 0, 0, 0, 0, 1, 1] (bodyOf Try.f65)
noncomputable def c4 : Code := sub [1, 1, 1, 0, 0, 0, 0, 0, 0, 0] (bodyOf Try.f65)
noncomputable def c5 : Code := sub [1, 1, 1, 0, 0, 0, 0, 1, 0, 0, 0] (bodyOf Try.f65)
noncomputable def K4 : Kont := .seq c0 .ret
noncomputable def K5 : Kont := .blk 0 K4
noncomputable def K6 : Kont := .loop c1 K5
noncomputable def K7 : Kont := .blk 1 K6
noncomputable def K8 : Kont := .seq c2 K7
noncomputable def K9 : Kont := .blk 2 K8
noncomputable def K14 : Kont := .seq c3 K7
noncomputable def K15 : Kont := .blk 4 K14
noncomputable def fin : ASt → R := Kret E Try.f65.results.toList ps rs
def tL0 (a : Int) (i : Int) (j : Int) (data_P : List Int) : ASt := ⟨[(10, .one (.val (.int .i64) j)), (9, .one (.val (.int .i64) i)), (1, .one (.val (.int .i64) a)), (0, .one (.own 10000))], [(10000, some ⟨.fixed, .int .i64, data_P⟩)]⟩
def tJ1 (a : Int) (i : Int) (j : Int) (data_P : List Int) : ASt := ⟨[(10, .one (.val (.int .i64) j)), (9, .one (.val (.int .i64) i)), (1, .one (.val (.int .i64) a)), (0, .one (.own 10000))], [(10000, some ⟨.fixed, .int .i64, data_P⟩)]⟩
def tL2 (a : Int) (i : Int) (j : Int) (data_P : List Int) : ASt := ⟨[(10, .one (.val (.int .i64) j)), (9, .one (.val (.int .i64) i)), (1, .one (.val (.int .i64) a)), (0, .one (.own 10000))], [(10000, some ⟨.fixed, .int .i64, data_P⟩)]⟩
def tJ3 (a : Int) (i : Int) (j : Int) (data_P : List Int) : ASt := ⟨[(10, .one (.val (.int .i64) j)), (9, .one (.val (.int .i64) i)), (1, .one (.val (.int .i64) a)), (0, .one (.own 10000))], [(10000, some ⟨.fixed, .int .i64, data_P⟩)]⟩
def tL4 (a : Int) (i : Int) (j : Int) (data_P : List Int) : ASt := ⟨[(10, .one (.val (.int .i64) j)), (9, .one (.val (.int .i64) i)), (1, .one (.val (.int .i64) a)), (0, .one (.own 10000))], [(10000, some ⟨.fixed, .int .i64, data_P⟩)]⟩
noncomputable def L0 (a : Int) (i : Int) (j : Int) (data_P : List Int) : R := lim E fin (.loop c1 K5) (tL0 a i j data_P)
noncomputable def J1 (a : Int) (i : Int) (j : Int) (data_P : List Int) : R := lim E fin (.code c2 K7) (tJ1 a i j data_P)
noncomputable def L2 (a : Int) (i : Int) (j : Int) (data_P : List Int) : R := lim E fin (.loop c4 K9) (tL2 a i j data_P)
noncomputable def J3 (a : Int) (i : Int) (j : Int) (data_P : List Int) : R := lim E fin (.code c3 K7) (tJ3 a i j data_P)
noncomputable def L4 (a : Int) (i : Int) (j : Int) (data_P : List Int) : R := lim E fin (.loop c5 K15) (tL4 a i j data_P)
noncomputable def SL0 (a : Int) (i : Int) (j : Int) (data_P : List Int) : R :=
  L2 a i j data_P
noncomputable def SJ1 (a : Int) (i : Int) (j : Int) (data_P : List Int) : R :=
  L4 a i j data_P
noncomputable def SL2 (a : Int) (i : Int) (j : Int) (data_P : List Int) : R :=
  cond (decide (i ≤ j))
    (cond (decide (0 ≤ a) && decide (a < (data_P.length : Int)))
      (cond (decide (0 ≤ i) && decide (i < (data_P.length : Int)))
        (Option.bind (cmp_Less_int (data_P.getD a.toNat 0) (data_P.getD i.toNat 0)) fun x1 =>
        cond (!x1.1)
          (L2 a (IntKind.i64.wrap (i + 1)) j data_P)
          (J1 a i j data_P))
        none)
      none)
    (J1 a i j data_P)
noncomputable def SJ3 (a : Int) (i : Int) (j : Int) (data_P : List Int) : R :=
  cond (decide (i > j))
    (some (i, data_P, ()))
    (cond (decide (0 ≤ j) && decide (j < (data_P.length : Int)))
      (cond (decide (0 ≤ i) && decide (i < (data_P.length : Int)))
        (cond (decide (0 ≤ i) && decide (i < (data_P.length : Int)))
          (cond (decide (0 ≤ j) && decide (j < ((data_P.set i.toNat (data_P.getD j.toNat 0)).length : Int)))
            (L0 a (IntKind.i64.wrap (i + 1)) (IntKind.i64.wrap (j - 1)) ((data_P.set i.toNat (data_P.getD j.toNat 0)).set j.toNat (data_P.getD i.toNat 0)))
            none)
          none)
        none)
      none)
noncomputable def SL4 (a : Int) (i : Int) (j : Int) (data_P : List Int) : R :=
  cond (decide (i ≤ j))
    (cond (decide (0 ≤ a) && decide (a < (data_P.length : Int)))
      (cond (decide (0 ≤ j) && decide (j < (data_P.length : Int)))
        (Option.bind (cmp_Less_int (data_P.getD a.toNat 0) (data_P.getD j.toNat 0)) fun x1 =>
        cond x1.1
          (L4 a i (IntKind.i64.wrap (j - 1)) data_P)
          (J3 a i j data_P))
        none)
      none)
    (J3 a i j data_P)
noncomputable def Se (data : List Int) (a : Int) (b : Int) (pivot : Int) : R :=
  cond (decide (0 ≤ pivot) && decide (pivot < (data.length : Int)))
    (cond (decide (0 ≤ a) && decide (a < (data.length : Int)))
      (cond (decide (0 ≤ a) && decide (a < (data.length : Int)))
        (cond (decide (0 ≤ pivot) && decide (pivot < ((data.set a.toNat (data.getD pivot.toNat 0)).length : Int)))
          (L0 a (IntKind.i64.wrap (a + 1)) (IntKind.i64.wrap (b - 1)) ((data.set a.toNat (data.getD pivot.toNat 0)).set pivot.toNat (data.getD a.toNat 0)))
          none)
        none)
      none)
    none
theorem L0_eq (a i j data_P) : L0 a i j data_P = SL0 a i j data_P := (lim_eq (.loop c1 K5) (tL0 a i j data_P)).trans (by kernel_rfl)
theorem J1_eq (a i j data_P) : J1 a i j data_P = SJ1 a i j data_P := (lim_eq (.code c2 K7) (tJ1 a i j data_P)).trans (by kernel_rfl)
theorem L2_eq (a i j data_P) : L2 a i j data_P = SL2 a i j data_P := (lim_eq (.loop c4 K9) (tL2 a i j data_P)).trans (by kernel_rfl)
theorem J3_eq (a i j data_P) : J3 a i j data_P = SJ3 a i j data_P := (lim_eq (.code c3 K7) (tJ3 a i j data_P)).trans (by kernel_rfl)
theorem L4_eq (a i j data_P) : L4 a i j data_P = SL4 a i j data_P := (lim_eq (.loop c5 K15) (tL4 a i j data_P)).trans (by kernel_rfl)
theorem se (x : (argTy ps).den) : run E (lim E fin) fin depth (bodyOf Try.f65) .ret (entryFrom 0 ps x) = Se x.1 x.2.1 x.2.2.1 x.2.2.2.1 := by kernel_rfl
end slices_partitionEqualOrdered_int
noncomputable def slices_partitionEqualOrdered_int (data : List Int) (a : Int) (b : Int) (pivot : Int) : slices_partitionEqualOrdered_int.R :=
  slices_partitionEqualOrdered_int.Se data a b pivot
namespace slices_partitionEqualOrdered_int
noncomputable def sig : Sig := ⟨ps, rs, fun x => slices_partitionEqualOrdered_int x.1 x.2.1 x.2.2.1 x.2.2.2.1⟩
theorem val (x : (argTy ps).den) : lim E fin (.code (bodyOf Try.f65) .ret) (entryFrom 0 ps x) = sig.run x := (lim_eq (.code (bodyOf Try.f65) .ret) (entryFrom 0 ps x)).trans (se x)
theorem ok : CallOK Try.prog 65 sig :=
  callOK_of_lim (E := E) mixed tt_ok (ctxOk_cons ctxOk_nil cmp_Less_int.ok Try.func39 (by kernel_rfl) (by kernel_rfl)) Try.func65 (by kernel_rfl : Try.f65.body = some (bodyOf Try.f65)) Try.ntmps65 (of_decide_eq_true (by kernel_rfl)) (of_decide_eq_true (by kernel_rfl)) fun x y h => (val x).trans h
noncomputable def ctxc (n : Nat) : List (Nat × Sig) := [(39, cmp_Less_int.sigc n)]
noncomputable def sigc (n : Nat) : Sig := ⟨ps, rs, fun x => runs (withCtx E (ctxc n)) fin n (.code (bodyOf Try.f65) .ret) (entryFrom 0 ps x)⟩
theorem sigc_le (n : Nat) : ∀ x y, (sigc n).run x = some y → sig.run x = some y := fun x y h => (val x).symm.trans (runs_lim (E := E) (c := ctxc n) (ctxLe_cons ctxLe_nil (cmp_Less_int.sigc_le n)) h)
end slices_partitionEqualOrdered_int
namespace slices_partitionOrdered_int
abbrev ps : List PM := [.own (.int .i64), .pure (.int .i64), .pure (.int .i64), .pure (.int .i64)]
abbrev rs : List RM := [.pure (.int .i64), .pure .bool]
abbrev R : Type := Option (Int × Bool × List Int × Unit)
noncomputable def E : Env := { tt := tt, ctx := [(39, cmp_Less_int.sig)], nt := 168, ann := [(5, [(0, .keep), (1, .keep), (10, .keep), (11, .keep)]), (1000003, [(0, .keep), (1, .keep), (10, .keep), (11, .keep)]), (7, [(0, .keep), (1, .keep), (10, .keep), (11, .keep)]), (1000005, [(0, .keep), (1, .keep), (10, .keep), (11, .keep)]), (1000013, [(0, .keep), (1, .keep), (10, .keep), (11, .keep)]), (15, [(0, .keep), (1, .keep), (10, .keep), (11, .keep)]), (1000013, [(0, .keep), (1, .keep), (10, .keep), (11, .keep)]), (17, [(0, .keep), (1, .keep), (10, .keep), (11, .keep)]), (1000015, [(0, .keep), (1, .keep), (10, .keep), (11, .keep)])] }
noncomputable def c0 : Code := sub [1, 1, 1, 1] (bodyOf Try.f66)
noncomputable def c1 : Code := sub [1, 1, 1, 1, 1] (bodyOf Try.f66)
noncomputable def c2 : Code := sub [1, 1, 1, 1, 1, 1, 1, 1, 1, 1] (bodyOf Try.f66)
noncomputable def c3 : Code := sub [1, 1, 1, 1, 1, 1, 1, 1, 1, 0, 0, 0] (bodyOf Try.f66)
noncomputable def c4 : Code := sub [1, 1, 1, 1, 1, 1, 1, 1, 1, 0, 0, 0, 0, 1] (bodyOf Try.f66)
noncomputable def c5 : Code := sub [1, 1, 1, 1, 1, 1, 1, 1, 1, 0, 0, 0, 0, 1, 1] (bodyOf Try.f66)
noncomputable def c6 : Code := sub [1, 1, 1, 0, 0, 0] (bodyOf Try.f66)
noncomputable def c7 : Code := sub [1, 1, 1, 1, 0, 0, 0] (bodyOf Try.f66)
noncomputable def c8 : Code := sub [1, 1, 1, 1, 1, 1, 1, 1, 1, 0, 0, 0, 0, 0, 0, 0] (bodyOf Try.f66)
noncomputable def c9 : Code := sub [1, 1, 1, 1, 1, 1, 1, 1, 1, 0, 0, 0, 0, 1, 0, 0, 0] (bodyOf Try.f66)
noncomputable def K4 : Kont := .seq c0 .ret
noncomputable def K5 : Kont := .blk 0 K4
noncomputable def K10 : Kont := .seq c1 .ret
noncomputable def K11 : Kont := .blk 2 K10
noncomputable def K23 : Kont := .seq c2 .ret
noncomputable def K24 : Kont := .blk 4 K23
noncomputable def K25 : Kont := .loop c3 K24
noncomputable def K26 : Kont := .blk 5 K25
noncomputable def K27 : Kont := .seq c4 K26
noncomputable def K28 : Kont := .blk 6 K27
noncomputable def K33 : Kont := .seq c5 K26
noncomputable def K34 : Kont := .blk 8 K33
noncomputable def fin : ASt → R := Kret E Try.f66.results.toList ps rs
def tJ0 (a : Int) (i : Int) (j : Int) (data_P : List Int) : ASt := ⟨[(11, .one (.val (.int .i64) j)), (10, .one (.val (.int .i64) i)), (1, .one (.val (.int .i64) a)), (0, .one (.own 10000))], [(10000, some ⟨.fixed, .int .i64, data_P⟩)]⟩
def tL1 (a : Int) (i : Int) (j : Int) (data_P : List Int) : ASt := ⟨[(11, .one (.val (.int .i64) j)), (10, .one (.val (.int .i64) i)), (1, .one (.val (.int .i64) a)), (0, .one (.own 10000))], [(10000, some ⟨.fixed, .int .i64, data_P⟩)]⟩
def tJ2 (a : Int) (i : Int) (j : Int) (data_P : List Int) : ASt := ⟨[(11, .one (.val (.int .i64) j)), (10, .one (.val (.int .i64) i)), (1, .one (.val (.int .i64) a)), (0, .one (.own 10000))], [(10000, some ⟨.fixed, .int .i64, data_P⟩)]⟩
def tL3 (a : Int) (i : Int) (j : Int) (data_P : List Int) : ASt := ⟨[(11, .one (.val (.int .i64) j)), (10, .one (.val (.int .i64) i)), (1, .one (.val (.int .i64) a)), (0, .one (.own 10000))], [(10000, some ⟨.fixed, .int .i64, data_P⟩)]⟩
def tL4 (a : Int) (i : Int) (j : Int) (data_P : List Int) : ASt := ⟨[(11, .one (.val (.int .i64) j)), (10, .one (.val (.int .i64) i)), (1, .one (.val (.int .i64) a)), (0, .one (.own 10000))], [(10000, some ⟨.fixed, .int .i64, data_P⟩)]⟩
def tJ5 (a : Int) (i : Int) (j : Int) (data_P : List Int) : ASt := ⟨[(11, .one (.val (.int .i64) j)), (10, .one (.val (.int .i64) i)), (1, .one (.val (.int .i64) a)), (0, .one (.own 10000))], [(10000, some ⟨.fixed, .int .i64, data_P⟩)]⟩
def tL6 (a : Int) (i : Int) (j : Int) (data_P : List Int) : ASt := ⟨[(11, .one (.val (.int .i64) j)), (10, .one (.val (.int .i64) i)), (1, .one (.val (.int .i64) a)), (0, .one (.own 10000))], [(10000, some ⟨.fixed, .int .i64, data_P⟩)]⟩
def tJ7 (a : Int) (i : Int) (j : Int) (data_P : List Int) : ASt := ⟨[(11, .one (.val (.int .i64) j)), (10, .one (.val (.int .i64) i)), (1, .one (.val (.int .i64) a)), (0, .one (.own 10000))], [(10000, some ⟨.fixed, .int .i64, data_P⟩)]⟩
def tL8 (a : Int) (i : Int) (j : Int) (data_P : List Int) : ASt := ⟨[(11, .one (.val (.int .i64) j)), (10, .one (.val (.int .i64) i)), (1, .one (.val (.int .i64) a)), (0, .one (.own 10000))], [(10000, some ⟨.fixed, .int .i64, data_P⟩)]⟩
noncomputable def J0 (a : Int) (i : Int) (j : Int) (data_P : List Int) : R := lim E fin (.code c0 .ret) (tJ0 a i j data_P)
noncomputable def L1 (a : Int) (i : Int) (j : Int) (data_P : List Int) : R := lim E fin (.loop c6 K5) (tL1 a i j data_P)
noncomputable def J2 (a : Int) (i : Int) (j : Int) (data_P : List Int) : R := lim E fin (.code c1 .ret) (tJ2 a i j data_P)
noncomputable def L3 (a : Int) (i : Int) (j : Int) (data_P : List Int) : R := lim E fin (.loop c7 K11) (tL3 a i j data_P)
noncomputable def L4 (a : Int) (i : Int) (j : Int) (data_P : List Int) : R := lim E fin (.loop c3 K24) (tL4 a i j data_P)
noncomputable def J5 (a : Int) (i : Int) (j : Int) (data_P : List Int) : R := lim E fin (.code c4 K26) (tJ5 a i j data_P)
noncomputable def L6 (a : Int) (i : Int) (j : Int) (data_P : List Int) : R := lim E fin (.loop c8 K28) (tL6 a i j data_P)
noncomputable def J7 (a : Int) (i : Int) (j : Int) (data_P : List Int) : R := lim E fin (.code c5 K26) (tJ7 a i j data_P)
noncomputable def L8 (a : Int) (i : Int) (j : Int) (data_P : List Int) : R := lim E fin (.loop c9 K34) (tL8 a i j data_P)
noncomputable def SJ0 (a : Int) (i : Int) (j : Int) (data_P : List Int) : R :=
  L3 a i j data_P
noncomputable def SL1 (a : Int) (i : Int) (j : Int) (data_P : List Int) : R :=
  cond (decide (i ≤ j))
    (cond (decide (0 ≤ i) && decide (i < (data_P.length : Int)))
      (cond (decide (0 ≤ a) && decide (a < (data_P.length : Int)))
        (Option.bind (cmp_Less_int (data_P.getD i.toNat 0) (data_P.getD a.toNat 0)) fun x1 =>
        cond x1.1
          (L1 a (IntKind.i64.wrap (i + 1)) j data_P)
          (J0 a i j data_P))
        none)
      none)
    (J0 a i j data_P)
noncomputable def SJ2 (a : Int) (i : Int) (j : Int) (data_P : List Int) : R :=
  cond (decide (i > j))
    (cond (decide (0 ≤ a) && decide (a < (data_P.length : Int)))
      (cond (decide (0 ≤ j) && decide (j < (data_P.length : Int)))
        (cond (decide (0 ≤ j) && decide (j < (data_P.length : Int)))
          (cond (decide (0 ≤ a) && decide (a < ((data_P.set j.toNat (data_P.getD a.toNat 0)).length : Int)))
            (some (j, true, ((data_P.set j.toNat (data_P.getD a.toNat 0)).set a.toNat (data_P.getD j.toNat 0)), ()))
            none)
          none)
        none)
      none)
    (cond (decide (0 ≤ j) && decide (j < (data_P.length : Int)))
      (cond (decide (0 ≤ i) && decide (i < (data_P.length : Int)))
        (cond (decide (0 ≤ i) && decide (i < (data_P.length : Int)))
          (cond (decide (0 ≤ j) && decide (j < ((data_P.set i.toNat (data_P.getD j.toNat 0)).length : Int)))
            (L4 a (IntKind.i64.wrap (i + 1)) (IntKind.i64.wrap (j - 1)) ((data_P.set i.toNat (data_P.getD j.toNat 0)).set j.toNat (data_P.getD i.toNat 0)))
            none)
          none)
        none)
      none)
noncomputable def SL3 (a : Int) (i : Int) (j : Int) (data_P : List Int) : R :=
  cond (decide (i ≤ j))
    (cond (decide (0 ≤ j) && decide (j < (data_P.length : Int)))
      (cond (decide (0 ≤ a) && decide (a < (data_P.length : Int)))
        (Option.bind (cmp_Less_int (data_P.getD j.toNat 0) (data_P.getD a.toNat 0)) fun x1 =>
        cond (!x1.1)
          (L3 a i (IntKind.i64.wrap (j - 1)) data_P)
          (J2 a i j data_P))
        none)
      none)
    (J2 a i j data_P)
noncomputable def SL4 (a : Int) (i : Int) (j : Int) (data_P : List Int) : R :=
  L6 a i j data_P
noncomputable def SJ5 (a : Int) (i : Int) (j : Int) (data_P : List Int) : R :=
  L8 a i j data_P
noncomputable def SL6 (a : Int) (i : Int) (j : Int) (data_P : List Int) : R :=
  cond (decide (i ≤ j))
    (cond (decide (0 ≤ i) && decide (i < (data_P.length : Int)))
      (cond (decide (0 ≤ a) && decide (a < (data_P.length : Int)))
        (Option.bind (cmp_Less_int (data_P.getD i.toNat 0) (data_P.getD a.toNat 0)) fun x1 =>
        cond x1.1
          (L6 a (IntKind.i64.wrap (i + 1)) j data_P)
          (J5 a i j data_P))
        none)
      none)
    (J5 a i j data_P)
noncomputable def SJ7 (a : Int) (i : Int) (j : Int) (data_P : List Int) : R :=
  cond (decide (i > j))
    (cond (decide (0 ≤ a) && decide (a < (data_P.length : Int)))
      (cond (decide (0 ≤ j) && decide (j < (data_P.length : Int)))
        (cond (decide (0 ≤ j) && decide (j < (data_P.length : Int)))
          (cond (decide (0 ≤ a) && decide (a < ((data_P.set j.toNat (data_P.getD a.toNat 0)).length : Int)))
            (some (j, false, ((data_P.set j.toNat (data_P.getD a.toNat 0)).set a.toNat (data_P.getD j.toNat 0)), ()))
            none)
          none)
        none)
      none)
    (cond (decide (0 ≤ j) && decide (j < (data_P.length : Int)))
      (cond (decide (0 ≤ i) && decide (i < (data_P.length : Int)))
        (cond (decide (0 ≤ i) && decide (i < (data_P.length : Int)))
          (cond (decide (0 ≤ j) && decide (j < ((data_P.set i.toNat (data_P.getD j.toNat 0)).length : Int)))
            (L4 a (IntKind.i64.wrap (i + 1)) (IntKind.i64.wrap (j - 1)) ((data_P.set i.toNat (data_P.getD j.toNat 0)).set j.toNat (data_P.getD i.toNat 0)))
            none)
          none)
        none)
      none)
noncomputable def SL8 (a : Int) (i : Int) (j : Int) (data_P : List Int) : R :=
  cond (decide (i ≤ j))
    (cond (decide (0 ≤ j) && decide (j < (data_P.length : Int)))
      (cond (decide (0 ≤ a) && decide (a < (data_P.length : Int)))
        (Option.bind (cmp_Less_int (data_P.getD j.toNat 0) (data_P.getD a.toNat 0)) fun x1 =>
        cond (!x1.1)
          (L8 a i (IntKind.i64.wrap (j - 1)) data_P)
          (J7 a i j data_P))
        none)
      none)
    (J7 a i j data_P)
noncomputable def Se (data : List Int) (a : Int) (b : Int) (pivot : Int) : R :=
  cond (decide (0 ≤ pivot) && decide (pivot < (data.length : Int)))
    (cond (decide (0 ≤ a) && decide (a < (data.length : Int)))
      (cond (decide (0 ≤ a) && decide (a < (data.length : Int)))
        (cond (decide (0 ≤ pivot) && decide (pivot < ((data.set a.toNat (data.getD pivot.toNat 0)).length : Int)))
          (L1 a (IntKind.i64.wrap (a + 1)) (IntKind.i64.wrap (b - 1)) ((data.set a.toNat (data.getD pivot.toNat 0)).set pivot.toNat (data.getD a.toNat 0)))
          none)
        none)
      none)
    none
theorem J0_eq (a i j data_P) : J0 a i j data_P = SJ0 a i j data_P := (lim_eq (.code c0 .ret) (tJ0 a i j data_P)).trans (by kernel_rfl)
theorem L1_eq (a i j data_P) : L1 a i j data_P = SL1 a i j data_P := (lim_eq (.loop c6 K5) (tL1 a i j data_P)).trans (by kernel_rfl)
theorem J2_eq (a i j data_P) : J2 a i j data_P = SJ2 a i j data_P := (lim_eq (.code c1 .ret) (tJ2 a i j data_P)).trans (by kernel_rfl)
theorem L3_eq (a i j data_P) : L3 a i j data_P = SL3 a i j data_P := (lim_eq (.loop c7 K11) (tL3 a i j data_P)).trans (by kernel_rfl)
theorem L4_eq (a i j data_P) : L4 a i j data_P = SL4 a i j data_P := (lim_eq (.loop c3 K24) (tL4 a i j data_P)).trans (by kernel_rfl)
theorem J5_eq (a i j data_P) : J5 a i j data_P = SJ5 a i j data_P := (lim_eq (.code c4 K26) (tJ5 a i j data_P)).trans (by kernel_rfl)
theorem L6_eq (a i j data_P) : L6 a i j data_P = SL6 a i j data_P := (lim_eq (.loop c8 K28) (tL6 a i j data_P)).trans (by kernel_rfl)
theorem J7_eq (a i j data_P) : J7 a i j data_P = SJ7 a i j data_P := (lim_eq (.code c5 K26) (tJ7 a i j data_P)).trans (by kernel_rfl)
theorem L8_eq (a i j data_P) : L8 a i j data_P = SL8 a i j data_P := (lim_eq (.loop c9 K34) (tL8 a i j data_P)).trans (by kernel_rfl)
theorem se (x : (argTy ps).den) : run E (lim E fin) fin depth (bodyOf Try.f66) .ret (entryFrom 0 ps x) = Se x.1 x.2.1 x.2.2.1 x.2.2.2.1 := by kernel_rfl
end slices_partitionOrdered_int
noncomputable def slices_partitionOrdered_int (data : List Int) (a : Int) (b : Int) (pivot : Int) : slices_partitionOrdered_int.R :=
  slices_partitionOrdered_int.Se data a b pivot
namespace slices_partitionOrdered_int
noncomputable def sig : Sig := ⟨ps, rs, fun x => slices_partitionOrdered_int x.1 x.2.1 x.2.2.1 x.2.2.2.1⟩
theorem val (x : (argTy ps).den) : lim E fin (.code (bodyOf Try.f66) .ret) (entryFrom 0 ps x) = sig.run x := (lim_eq (.code (bodyOf Try.f66) .ret) (entryFrom 0 ps x)).trans (se x)
theorem ok : CallOK Try.prog 66 sig :=
  callOK_of_lim (E := E) mixed tt_ok (ctxOk_cons ctxOk_nil cmp_Less_int.ok Try.func39 (by kernel_rfl) (by kernel_rfl)) Try.func66 (by kernel_rfl : Try.f66.body = some (bodyOf Try.f66)) Try.ntmps66 (of_decide_eq_true (by kernel_rfl)) (of_decide_eq_true (by kernel_rfl)) fun x y h => (val x).trans h
noncomputable def ctxc (n : Nat) : List (Nat × Sig) := [(39, cmp_Less_int.sigc n)]
noncomputable def sigc (n : Nat) : Sig := ⟨ps, rs, fun x => runs (withCtx E (ctxc n)) fin n (.code (bodyOf Try.f66) .ret) (entryFrom 0 ps x)⟩
theorem sigc_le (n : Nat) : ∀ x y, (sigc n).run x = some y → sig.run x = some y := fun x y h => (val x).symm.trans (runs_lim (E := E) (c := ctxc n) (ctxLe_cons ctxLe_nil (cmp_Less_int.sigc_le n)) h)
end slices_partitionOrdered_int
end Go.Proofs.Ytphpegconhdnfaa
