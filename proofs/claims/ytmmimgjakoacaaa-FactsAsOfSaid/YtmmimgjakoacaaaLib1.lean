import Derived.Orders
import Derived.Deep.Draws
import Derived.Below
import Derived.Deep.MidRow
import Derived.Deep.AppendSrc
import Derived.Deep.Upon
import Derived.KernelRfl
import Derived.Maps.OwnSet
import Derived.Laws.StructEq
import Derived.Laws.Entries
import Derived.OpenShut
import Derived.IntWalk
namespace Go.Lift
open Go
/-- Types of plain data. A struct is a chain of 'pair field rest', ended by 'unit'. 'fnc': a function, of which a typed value tells nothing. -/
inductive Ty where
  | int (k : IntKind)
  | bool
  | str
  | sl (t : Ty)
  | unit
  | pair (a b : Ty)
  | fnc
  deriving DecidableEq
@[reducible] def Ty.den : Ty → Type
  | .int _ => Int
  | .bool => Bool
  | .str => List UInt8
  | .sl t => List t.den
  | .unit => Unit
  | .fnc => Unit
  | .pair a b => a.den × b.den
def Ty.zero : (t : Ty) → t.den
  | .int _ => (0 : Int)
  | .bool => false
  | .str => ([] : List UInt8)
  | .sl _ => []
  | .unit => ()
  | .fnc => ()
  | .pair a b => (a.zero, b.zero)
/-- How many cells a value takes. -/
def Ty.nc : Ty → Nat
  | .int _ | .bool | .str | .sl _ | .fnc => 1
  | .unit => 0
  | .pair a b => a.nc + b.nc
def Ty.isAgg : Ty → Bool
  | .unit | .pair _ _ => true
  | _ => false
def castTy (a b : Ty) (x : a.den) : Option b.den :=
  if h : a = b then some (h ▸ x) else none
theorem castTy_some {a b : Ty} {x : a.den} {y : b.den} (h : castTy a b x = some y) : ∃ e : a = b, e ▸ x = y := by
  unfold castTy at h
  split at h
  · rename_i e
    exact ⟨e, by simpa using h⟩
  · cases h
/-- Cells in memory, from offset 'off' of block 'b' on. -/
def Mem (w : World) (b off : Nat) (cs : List Value) : Prop :=
  ∀ j v, cs[j]? = some v → w.cell? ⟨b, off + j, none⟩ = some v
/-- A list of cells that holds a value. 'S': the blocks that nobody writes any more. -/
def RepC (w : World) (S : Nat → Prop) : (t : Ty) → t.den → List Value → Prop
  | .int k, n, cs => cs = [.int k n] ∧ (Lit.int k n).wf = true
  | .bool, b, cs => cs = [.bool b]
  | .str, s, cs => ∃ ba : ByteArray, cs = [.string ba] ∧ ba.data.toList = s ∧ s.length ≤ maxLen
  | .sl t, l, cs => ∃ a cap, cs = [.slice a l.length cap] ∧ l.length ≤ cap ∧ cap ≤ maxLen ∧
      ∀ i x, l[i]? = some x → ∃ b off ds, a = some ⟨b, off, none⟩ ∧ S b ∧ Mem w b (off + i * t.nc) ds ∧ RepC w S t x ds
  | .unit, _, cs => cs = []
  | .fnc, _, cs => ∃ v : Value, cs = [v] ∧ v.oneCell' = true
  | .pair a b, x, cs => ∃ c1 c2, cs = c1 ++ c2 ∧ RepC w S a x.1 c1 ∧ RepC w S b x.2 c2
def pack (t : Ty) (cs : List Value) : Value :=
  if t.isAgg then .agg cs.toArray else cs.headD (.tuple #[])
def RepV (w : World) (S : Nat → Prop) (t : Ty) (x : t.den) (v : Value) : Prop :=
  ∃ cs, RepC w S t x cs ∧ v = pack t cs
theorem RepC.length {w : World} {S : Nat → Prop} : ∀ {t : Ty} {x : t.den} {cs : List Value}, RepC w S t x cs → cs.length = t.nc := by
  intro t
  induction t with
  | int k => rintro x cs ⟨rfl, _⟩; rfl
  | bool => rintro x cs rfl; rfl
  | str => rintro x cs ⟨ba, rfl, _⟩; rfl
  | sl t _ => rintro x cs ⟨a, cap, rfl, _⟩; rfl
  | unit => rintro x cs rfl; rfl
  | fnc => rintro x cs ⟨v, rfl, _⟩; rfl
  | pair a b iha ihb =>
    rintro x cs ⟨c1, c2, rfl, h1, h2⟩
    simp [Ty.nc, iha h1, ihb h2]
theorem RepC.one {w : World} {S : Nat → Prop} : ∀ {t : Ty} {x : t.den} {cs : List Value}, RepC w S t x cs → ∀ v ∈ cs, v.oneCell' = true := by
  intro t
  induction t with
  | int k => rintro x cs ⟨rfl, _⟩; simp [Value.oneCell']
  | bool => rintro x cs rfl; simp [Value.oneCell']
  | str => rintro x cs ⟨ba, rfl, _⟩; simp [Value.oneCell']
  | sl t _ => rintro x cs ⟨a, cap, rfl, _⟩; simp [Value.oneCell']
  | unit => rintro x cs rfl; simp
  | fnc => rintro x cs ⟨v, rfl, h⟩ u hu; rw [List.mem_singleton.1 hu]; exact h
  | pair a b iha ihb =>
    rintro x cs ⟨c1, c2, rfl, h1, h2⟩ v hv
    rcases List.mem_append.1 hv with h | h
    · exact iha h1 v h
    · exact ihb h2 v h
theorem Mem.congr {w w' : World} {b off : Nat} {cs : List Value} (hm : Mem w b off cs) (h : w'.heap[b]? = w.heap[b]?) : Mem w' b off cs :=
  fun j v hj => by have := hm j v hj; simp only [World.cell?, h] at this ⊢; exact this
theorem RepC.mono {w w' : World} {S S' : Nat → Prop} (hS : ∀ b, S b → S' b) (hw : ∀ b, S b → w'.heap[b]? = w.heap[b]?) :
    ∀ {t : Ty} {x : t.den} {cs : List Value}, RepC w S t x cs → RepC w' S' t x cs := by
  intro t
  induction t with
  | int k => exact fun h => h
  | bool => exact fun h => h
  | str => exact fun h => h
  | sl t ih =>
    rintro x cs ⟨a, cap, rfl, h1, h2, h3⟩
    refine ⟨a, cap, rfl, h1, h2, fun i y hy => ?_⟩
    obtain ⟨b, off, ds, ha, hb, hm, hr⟩ := h3 i y hy
    exact ⟨b, off, ds, ha, hS b hb, hm.congr (hw b hb), ih hr⟩
  | unit => exact fun h => h
  | fnc => exact fun h => h
  | pair a b iha ihb =>
    rintro x cs ⟨c1, c2, rfl, h1, h2⟩
    exact ⟨c1, c2, rfl, iha h1, ihb h2⟩
theorem RepV.mono {w w' : World} {S S' : Nat → Prop} (hS : ∀ b, S b → S' b) (hw : ∀ b, S b → w'.heap[b]? = w.heap[b]?)
    {t : Ty} {x : t.den} {v : Value} (h : RepV w S t x v) : RepV w' S' t x v :=
  let ⟨cs, h1, h2⟩ := h; ⟨cs, h1.mono hS hw, h2⟩
/-- No slice within. -/
def Ty.flat : Ty → Bool
  | .sl _ | .fnc => false
  | .pair a b => a.flat && b.flat
  | _ => true
/-- How deep structs lie in structs. -/
def Ty.dep : Ty → Nat
  | .pair a b => max (a.dep + 1) b.dep
  | _ => 1
theorem RepC.flat {w w' : World} {S S' : Nat → Prop} : ∀ {t : Ty} {x : t.den} {cs : List Value}, t.flat = true → RepC w S t x cs → RepC w' S' t x cs := by
  intro t
  induction t with
  | int k => exact fun _ h => h
  | bool => exact fun _ h => h
  | str => exact fun _ h => h
  | sl t ih => intro x cs h; simp [Ty.flat] at h
  | unit => exact fun _ h => h
  | fnc => intro x cs h; simp [Ty.flat] at h
  | pair a b iha ihb =>
    rintro x cs hf ⟨c1, c2, rfl, h1, h2⟩
    simp only [Ty.flat, Bool.and_eq_true] at hf
    exact ⟨c1, c2, rfl, iha hf.1 h1, ihb hf.2 h2⟩
theorem pack_inj_cells {t : Ty} {cs : List Value} (h1 : cs.length = t.nc) (h2 : ∀ v ∈ cs, v.oneCell' = true) : (pack t cs).cells.toList = cs := by
  unfold pack
  split
  · simp [Value.cells]
  · rename_i h
    have : t.nc = 1 := by cases t <;> simp_all [Ty.isAgg, Ty.nc]
    rw [this] at h1
    match cs, h1 with
    | [v], _ =>
      have := h2 v (by simp)
      simp only [List.headD_cons]
      cases v <;> simp_all [Value.cells, Value.oneCell']
theorem RepV.cells {w : World} {S : Nat → Prop} {t : Ty} {x : t.den} {v : Value} (h : RepV w S t x v) : RepC w S t x v.cells.toList := by
  obtain ⟨cs, h1, rfl⟩ := h
  rw [pack_inj_cells h1.length h1.one]
  exact h1
/-- Comparison of two values of a type without slices. -/
def eqTy : (t : Ty) → t.den → t.den → Bool
  | .int _, x, y => x == y
  | .bool, x, y => x == y
  | .str, x, y => x == y
  | .sl _, _, _ => false
  | .unit, _, _ => true
  | .fnc, _, _ => false
  | .pair a b, x, y => eqTy a x.1 y.1 && eqTy b x.2 y.2
theorem eqTy_iff : ∀ (t : Ty) (x y : t.den), t.flat = true → (eqTy t x y = true ↔ x = y) := by
  intro t
  induction t with
  | int k => intro x y _; simp [eqTy]
  | bool => intro x y _; simp [eqTy]
  | str => intro x y _; simp [eqTy]
  | sl t _ => intro x y h; simp [Ty.flat] at h
  | unit => intro x y _; simp [eqTy]
  | fnc => intro x y h; simp [Ty.flat] at h
  | pair a b iha ihb =>
    intro x y h
    simp only [Ty.flat, Bool.and_eq_true] at h
    simp only [eqTy, Bool.and_eq_true, iha _ _ h.1, ihb _ _ h.2, Prod.ext_iff]
end Go.Lift
namespace Go.Lift
open Go
/-- A typed value. -/
structure DV where
  t : Ty
  x : t.den
/-- A single abstract value. 'own': a slice over a whole row of the call's own; 'osub': a part of one; 'optr': a pointer into one; 'vptr': a pointer to a part, of type t, of a variable that is kept cell by cell; 'rfn': a closure whose captured cells nobody writes any more; 'bnil': a bool, which is n unless e; 'any': nothing is known; 'mref': a map of the call's own, from int to int; 'mp': what it holds (it stands in the map's row alone), and how many keys it has at most. -/
inductive SV where
  | val (t : Ty) (x : t.den)
  | rptr (t : Ty) (x : t.den)
  | nilsl
  | own (id : Nat)
  | osub (id lo len : Nat)
  | optr (id idx : Nat) (path : List Nat)
  | fn (f : Nat) (caps : List Nat)
  | und
  | vptr (id : Nat) (t : Ty) (off : Nat)
  | rfn (f : Nat) (l : List DV)
  | bnil (e n : Bool)
  | any
  | mref (id : Nat)
  | mp (f : Int → Int) (n : Nat)
/-- A map with another element at a key. -/
def mput (f : Int → Int) (a v : Int) : Int → Int := fun x => cond (decide (x = a)) v (f x)
/-- 'agg': a struct, cell by cell. -/
inductive AV where
  | one (s : SV)
  | tup (l : List SV)
  | agg (t : Ty) (L : List (Nat × SV))
/-- 'var': a variable that is kept cell by cell. -/
inductive RK where
  | free | fixed | frozen
  | var (L : List (Nat × SV))
instance (k : RK) : Decidable (k = .free) := match k with
  | .free => .isTrue rfl
  | .fixed | .frozen | .var _ => .isFalse (fun h => by cases h)
instance (k : RK) : Decidable (k = .fixed) := match k with
  | .fixed => .isTrue rfl
  | .free | .frozen | .var _ => .isFalse (fun h => by cases h)
instance (k : RK) : Decidable (k = .frozen) := match k with
  | .frozen => .isTrue rfl
  | .free | .fixed | .var _ => .isFalse (fun h => by cases h)
structure Row where
  k : RK
  t : Ty
  l : List t.den
def look {α : Type} : List (Nat × α) → Nat → Option α
  | [], _ => none
  | (k, a) :: r, i => cond (Nat.beq k i) (some a) (look r i)
structure ASt where
  slots : List (Nat × AV)
  rows : List (Nat × Option Row)
def ASt.slot (st : ASt) (i : Nat) : Option AV := look st.slots i
def ASt.row (st : ASt) (id : Nat) : Option Row := (look st.rows id).join
def ASt.put (st : ASt) (d : Option Nat) (v : AV) : ASt :=
  match d with
  | some d => { st with slots := (d, v) :: st.slots }
  | none => st
def ASt.upd (st : ASt) (u : List (Nat × Option Row)) : ASt := { st with rows := u ++ st.rows }
def getF : (t : Ty) → t.den → Nat → Option DV
  | .pair a _, x, 0 => some ⟨a, x.1⟩
  | .pair _ b, x, n + 1 => getF b x.2 n
  | .int _, _, _ | .bool, _, _ | .str, _, _ | .sl _, _, _ | .unit, _, _ | .fnc, _, _ => none
def getP (t : Ty) (x : t.den) : List Nat → Option DV
  | [] => some ⟨t, x⟩
  | f :: p => match getF t x f with
    | some d => getP d.t d.x p
    | none => none
def setF : (t : Ty) → t.den → Nat → DV → Option t.den
  | .pair a _, x, 0, d => match castTy d.t a d.x with
    | some y => some (y, x.2)
    | none => none
  | .pair _ b, x, n + 1, d => match setF b x.2 n d with
    | some y => some (x.1, y)
    | none => none
  | .int _, _, _, _ | .bool, _, _, _ | .str, _, _, _ | .sl _, _, _, _ | .unit, _, _, _ | .fnc, _, _, _ => none
def setP (t : Ty) (x : t.den) : List Nat → DV → Option t.den
  | [], d => castTy d.t t d.x
  | f :: p, d => match getF t x f with
    | some e => match setP e.t e.x p d with
      | some y => setF t x f ⟨e.t, y⟩
      | none => none
    | none => none
/-- The type of a field, and its offset in cells. -/
def Ty.comp : Ty → Nat → Option (Ty × Nat)
  | .pair a _, 0 => some (a, 0)
  | .pair a b, n + 1 => match b.comp n with
    | some (t, o) => some (t, a.nc + o)
    | none => none
  | .int _, _ | .bool, _ | .str, _ | .sl _, _ | .unit, _ | .fnc, _ => none
def Ty.at : Ty → List Nat → Option (Ty × Nat)
  | t, [] => some (t, 0)
  | t, f :: p => match t.comp f with
    | some (u, o) => match u.at p with
      | some (v, o') => some (v, o + o')
      | none => none
    | none => none
structure TI where
  ty : Ty
  eb : Nat := 0
  /-- a map from int to int -/
  mp : Bool := false
/-- How a parameter is handed over. 'rd': a pointer to a cell that is only read; 'rfn': a closure of f whose captured cells are only read; 'nil': the nil slice. -/
inductive PM where
  | pure (t : Ty) | own (t : Ty) | ptr (t : Ty) (f : Option Nat := none) | fn (f : Nat) | give (t : Ty) | rd (t : Ty) | rfn (f : Nat) (ts : List Ty) | nil
inductive RM where
  | pure (t : Ty) | own (t : Ty) | rfn (f : Nat) (ts : List Ty)
def tupTy : List Ty → Ty | [] => .unit | t :: r => .pair t (tupTy r)
def PM.ty : PM → Ty | .pure t => t | .own t => .sl t | .ptr t _ => t | .fn _ => .unit | .give t => .sl t | .rd t => t | .rfn _ ts => tupTy ts | .nil => .unit
def RM.ty : RM → Ty | .pure t => t | .own t => .sl t | .rfn _ ts => tupTy ts
/-- Typed values out of a tuple. -/
def dvs : (ts : List Ty) → (tupTy ts).den → List DV
  | [], _ => []
  | t :: ts, x => ⟨t, x.1⟩ :: dvs ts x.2
def argTy : List PM → Ty | [] => .unit | p :: r => .pair p.ty (argTy r)
def outTy : List PM → Ty
  | [] => .unit
  | .own t :: r => .pair (.sl t) (outTy r)
  | .ptr t _ :: r => .pair t (outTy r)
  | .pure _ :: r | .fn _ :: r | .give _ :: r | .rd _ :: r | .rfn _ _ :: r | .nil :: r => outTy r
def resTy : List RM → List PM → Ty | [], ps => outTy ps | r :: rs, ps => .pair r.ty (resTy rs ps)
/-- What is known of a function: how its parameters and results are handed over, and the Lean function that it computes. -/
structure Sig where
  ps : List PM
  rs : List RM
  run : (argTy ps).den → Option (resTy rs ps).den
/-- What is known of a function that is handed a pointer to a variable of two cells, a slice of the call's own and the function f, and a value: the slice's new content. -/
structure SSig where
  t : Ty
  u : Ty
  f : Nat
  run : List t.den → u.den → Option (List t.den)
def svTy (t : Ty) : Ty := .pair (.sl t) (.pair .fnc .unit)
/-- How a slot is kept where ways meet: as it is; a nil slice becomes an empty row; whatever it is becomes a pure value. -/
inductive KM where
  | keep | own (t : Ty) | pure (t : Ty) | var (l : List (Nat × KM))
structure Env where
  tt : List (Nat × TI)
  ctx : List (Nat × Sig)
  nt : Nat
  ann : List (Nat × List (Nat × KM))
  sv : List (Nat × SSig) := []
def Env.ty (E : Env) (t : Nat) : Option Ty := match look E.tt t with
  | some ⟨τ, _, false⟩ => some τ
  | _ => none
/-- A map's key type. -/
def Env.mapKey (E : Env) (t : Nat) : Option Nat := match look E.tt t with
  | some ⟨.unit, k, true⟩ => some k
  | _ => none
/-- An array of integers: their kind, how many. -/
def Env.arr (E : Env) (t : Nat) : Option (IntKind × Nat) := match look E.tt t with
  | some ⟨.int q, n, true⟩ => some (q, n)
  | _ => none
/-- n integers, one after the other. -/
def powI (q : IntKind) : Nat → Ty
  | 0 => .unit
  | n + 1 => .pair (.int q) (powI q n)
/-- The type of a variable that is made of a value: an array too. -/
def Env.bty (E : Env) (t : Nat) : Option Ty := match E.ty t with
  | some u => some u
  | none => match E.arr t with
    | some (q, n) => some (powI q n)
    | none => none
def Env.isMap (E : Env) (t : Nat) : Bool := (E.mapKey t).isSome
def constAV : Value → Option AV
  | .int k n => if (Lit.int k n).wf then some (.one (.val (.int k) n)) else none
  | .bool b => some (.one (.val .bool b))
  | .string s => if s.data.toList.length ≤ maxLen then some (.one (.val .str s.data.toList)) else none
  | .slice none 0 0 => some (.one .nilsl)
  | .nilFunc => some (.one .any)
  | _ => none
def ASt.ev (st : ASt) : Operand → Option AV
  | .tmp t => st.slot t
  | .const v => constAV v
  | .func f => some (.one (.fn f []))
  | .global _ => none
def SV.ids : SV → List Nat
  | .own id | .osub id _ _ | .optr id _ _ => [id]
  | .fn _ caps => caps
  | .vptr id _ _ => [id]
  | .mref id => [id]
  | .val _ _ | .rptr _ _ | .nilsl | .und | .rfn _ _ | .bnil _ _ | .any | .mp _ _ => []
/-- The ids that the cells of a variable lead to. -/
def leafIds (L : List (Nat × SV)) : List Nat := L.flatMap fun x => x.2.ids
def AV.ids : Option AV → List Nat
  | some (.one s) => s.ids
  | some (.tup l) => l.flatMap SV.ids
  | some (.agg _ L) => leafIds L
  | none => []
abbrev RT := Nat → Option Row
abbrev Upd := List (Nat × Option Row)
/-- A value of the type 't', and the rows that have to be frozen for it. -/
def toPure (rows : RT) (t : Ty) : SV → Option (t.den × List Nat)
  | .val t' x => match castTy t' t x with
    | some y => some (y, [])
    | none => none
  | .nilsl => match t with
    | .sl _ => some ([], [])
    | _ => none
  | .own id => match rows id with
    | some r => match castTy (.sl r.t) t r.l with
      | some y => some (y, [id])
      | none => none
    | none => none
  | .osub id lo len => match rows id with
    | some r => match castTy (.sl r.t) t ((r.l.drop lo).take len) with
      | some y => some (y, [id])
      | none => none
    | none => none
  | _ => none
def freeze (rows : RT) : List Nat → Option Upd
  | [] => some []
  | id :: r => match rows id with
    | some w => match w.k with
      | .free => match freeze rows r with
        | some u => some ((id, some { w with k := .frozen }) :: u)
        | none => none
      | .frozen => freeze rows r
      | .fixed => none
      | .var _ => none
    | none => none
/-- What an operation comes to: a value; a failure; a choice by a truth value; a choice by a partial function. -/
inductive Tree (α : Type) : Type 1 where
  | ret (a : α)
  | fail
  | br (b : Bool) (t e : Tree α)
  | bnd {β : Type} (o : Option β) (f : β → Tree α)
def Tree.val {α : Type} : Tree α → Option α
  | .ret a => some a
  | .fail => none
  | .br b t e => cond b t.val e.val
  | .bnd o f => o.bind fun x => (f x).val
def Tree.runK {α R : Type} : Tree α → (α → Option R) → Option R
  | .ret a, k => k a
  | .fail, _ => none
  | .br b t e, k => cond b (t.runK k) (e.runK k)
  | .bnd o f, k => o.bind fun x => (f x).runK k
theorem Tree.runK_eq {α R : Type} (t : Tree α) (k : α → Option R) : t.runK k = t.val.bind k := by
  induction t with
  | ret a => rfl
  | fail => rfl
  | br b t e iht ihe => cases b <;> simp [Tree.runK, Tree.val, iht, ihe]
  | bnd o f ih => cases o <;> simp [Tree.runK, Tree.val, ih]
def idx {α : Type} (l : List α) (i : Int) : Option α := cond (decide (0 ≤ i)) l[i.toNat]? none
section K
variable {R : Type}
/-- Integer arithmetic. -/
def arithK (op : BinOp) (k : IntKind) (a b : Int) (c : AV → Tree R) : Tree R :=
  match op with
  | .add => c (.one (.val (.int k) (k.wrap (a + b))))
  | .sub => c (.one (.val (.int k) (k.wrap (a - b))))
  | .mul => c (.one (.val (.int k) (k.wrap (a * b))))
  | .quo => .br (decide (b = 0)) .fail (c (.one (.val (.int k) (k.wrap (a.tdiv b)))))
  | .rem => .br (decide (b = 0)) .fail (c (.one (.val (.int k) (a.tmod b))))
  | .and => c (.one (.val (.int k) (k.wrap (BitVec.ofInt k.bits a &&& BitVec.ofInt k.bits b).toNat)))
  | .or => c (.one (.val (.int k) (k.wrap (BitVec.ofInt k.bits a ||| BitVec.ofInt k.bits b).toNat)))
  | .xor => c (.one (.val (.int k) (k.wrap (BitVec.ofInt k.bits a ^^^ BitVec.ofInt k.bits b).toNat)))
  | .andNot => c (.one (.val (.int k) (k.wrap (BitVec.ofInt k.bits a &&& ~~~BitVec.ofInt k.bits b).toNat)))
  | .eql => c (.one (.val .bool (a == b)))
  | .neq => c (.one (.val .bool (a != b)))
  | .lss => c (.one (.val .bool (decide (a < b))))
  | .leq => c (.one (.val .bool (decide (a ≤ b))))
  | .gtr => c (.one (.val .bool (decide (a > b))))
  | .geq => c (.one (.val .bool (decide (a ≥ b))))
  | _ => .fail
def shiftK (op : BinOp) (k : IntKind) (a y : Int) (c : AV → Tree R) : Tree R :=
  .br (decide (y < 0)) .fail (match op with
    | .shl => c (.one (.val (.int k) (k.wrap (a * 2 ^ (min y.toNat k.bits)))))
    | .shr => c (.one (.val (.int k) (a.fdiv (2 ^ (min y.toNat k.bits)))))
    | _ => .fail)
def strK (op : BinOp) (a b : List UInt8) (c : AV → Tree R) : Tree R :=
  match op with
  | .add => .br (decide (a.length + b.length ≤ maxLen)) (c (.one (.val .str (a ++ b)))) .fail
  | .eql => c (.one (.val .bool (a == b)))
  | .neq => c (.one (.val .bool (!(a == b))))
  | .lss => c (.one (.val .bool (Op.bytesLess a b)))
  | .leq => c (.one (.val .bool (Op.bytesLess a b || a == b)))
  | .gtr => c (.one (.val .bool (!(Op.bytesLess a b || a == b))))
  | .geq => c (.one (.val .bool (!Op.bytesLess a b)))
  | _ => .fail
def binK (E : Env) (op : BinOp) (xT : Nat) (a b : SV) (c : AV → Tree R) : Tree R :=
  match a, b with
  | .val (.int k) x, .val (.int k') y =>
    match op with
    | .shl | .shr => shiftK op k x y c
    | _ => .br (decide (k = k')) (arithK op k x y c) .fail
  | .val .str x, .val .str y => strK op x y c
  | .val .bool x, .val .bool y =>
    match E.ty xT, op with
    | some .bool, .eql => c (.one (.val .bool (x == y)))
    | some .bool, .neq => c (.one (.val .bool (!(x == y))))
    | _, _ => .fail
  | .val (.pair t u) x, .val t' y =>
    match E.ty xT, castTy t' (.pair t u) y with
    | some w, some y =>
      .br (decide (w = .pair t u) && ((Ty.pair t u).flat && decide ((Ty.pair t u).dep ≤ 10000))) (match op with
        | .eql => c (.one (.val .bool (eqTy (.pair t u) x y)))
        | .neq => c (.one (.val .bool (!eqTy (.pair t u) x y)))
        | _ => .fail) .fail
    | _, _ => .fail
  | _, _ => .fail
/-- The nil slice, written down. -/
def isNilC : Operand → Bool
  | .const (.slice none 0 0) => true
  | _ => false
/-- Is a slice empty? -/
def emptyOf : SV → Option Bool
  | .val (.sl _) l => some (List.isEmpty l)
  | .nilsl => some true
  | _ => none
/-- A slice compared with nil: an empty one may be nil or not. -/
def nilK (E : Env) (op : BinOp) (t : Nat) (a : SV) (c : AV → Tree R) : Tree R :=
  match E.ty t, op, emptyOf a with
  | some (.sl _), .eql, some e => c (.one (.bnil e false))
  | some (.sl _), .neq, some e => c (.one (.bnil e true))
  | _, _, _ => .fail
def unK (op : UnOp) (a : SV) (c : AV → Tree R) : Tree R :=
  match op, a with
  | .neg, .val (.int k) x => c (.one (.val (.int k) (k.wrap (0 - x))))
  | .xor, .val (.int k) x => c (.one (.val (.int k) (k.wrap (BitVec.ofInt k.bits (if k.signed then -1 else k.max) ^^^ BitVec.ofInt k.bits x).toNat)))
  | .not, .val .bool x => c (.one (.val .bool (!x)))
  | _, _ => .fail
def convK (E : Env) (dst : Nat) (src : Nat) (a : SV) (c : AV → Tree R) : Tree R :=
  match E.ty src, E.ty dst, a with
  | some (.int _), some (.int k), .val (.int _) x => c (.one (.val (.int k) (k.wrap x)))
  | some .str, some .str, .val .str x => c (.one (.val .str x))
  | _, _, _ => .fail
def room : Nat := 140737488355328
def lenOf (rows : RT) : SV → Option Nat
  | .val (.sl _) l => some l.length
  | .val .str l => some l.length
  | .nilsl => some 0
  | .own id => match rows id with
    | some r => some r.l.length
    | none => none
  | .osub id _ len => match rows id with
    | some _ => some len
    | none => none
  | _ => none
/-- What is appended: typed cells. -/
def srcOf (rows : RT) (t : Ty) (s : SV) : Option (List t.den) :=
  match toPure rows (.sl t) s with
  | some (l, _) => some l
  | none => none
/-- The row behind a slice that may be appended to: its content; the row that goes. -/
def baseOf (rows : RT) (t : Ty) : SV → Option (List t.den × Upd)
  | .nilsl => some ([], [])
  | .own id => match rows id with
    | some r => match r.k, castTy (.sl r.t) (.sl t) r.l with
      | .free, some l => some (l, [(id, none)])
      | _, _ => none
    | none => none
  | .osub id lo len => match rows id with
    | some r => match r.k, castTy (.sl r.t) (.sl t) ((r.l.drop lo).take len) with
      | .free, some l => some (l, [(id, none)])
      | _, _ => none
    | none => none
  | _ => none
def appendK (E : Env) (d : Nat) (sT : Nat) (rows : RT) (s x : SV) (c : AV → Upd → Tree R) : Tree R :=
  match look E.tt sT with
  | some ⟨.sl t, eb, false⟩ => match srcOf rows t x, baseOf rows t s with
    | some xs, some (l, u) => .br (decide ((l.length + xs.length) * eb ≤ room) && decide (0 < t.nc)) (c (.one (.own d)) ((d, some ⟨.free, t, l ++ xs⟩) :: u)) .fail
    | _, _ => .fail
  | _ => .fail
/-- Parts of a struct, filled into a value. -/
def fillP (rows : RT) (t : Ty) : (x : t.den) → List (Nat × SV) → Option (t.den × List Nat)
  | x, [] => some (x, [])
  | x, (f, s) :: r => match t.comp f with
    | some (u, _) => match toPure rows u s with
      | some (y, ids) => match setF t x f ⟨u, y⟩ with
        | some x' => match fillP rows t x' r with
          | some (z, ids') => some (z, ids ++ ids')
          | none => none
        | none => none
      | none => none
    | none => none
def fillL (rows : RT) (t : Ty) : (l : List t.den) → List (Nat × SV) → Option (List t.den × List Nat)
  | l, [] => some (l, [])
  | l, (i, s) :: r => match toPure rows t s with
    | some (y, ids) => cond (decide (i < l.length)) (match fillL rows t (l.set i y) r with
      | some (z, ids') => some (z, ids ++ ids')
      | none => none) none
    | none => none
/-- How an argument is handed over: the value; the rows that are only read; the rows that come back. -/
structure Bound (t : Ty) where
  x : t.den
  reads : List Nat
  outs : List Nat
/-- The cell that is handed over: by a pointer to it, or as what a closure of f has captured. -/
def cellOf : Option Nat → SV → Option Nat
  | none, .optr id 0 [] => some id
  | some g, .fn f [id] => cond (Nat.beq g f) (some id) none
  | _, _ => none
def cellSV : Option Nat → Nat → SV
  | none, id => .optr id 0 []
  | some g, id => .fn g [id]
/-- The typed value that the cells of a variable hold, from cell o on; the rows that it reads. -/
def gather (rows : RT) (L : List (Nat × SV)) : (t : Ty) → Nat → Option (t.den × List Nat)
  | .unit, _ => some ((), [])
  | .pair a b, o => match gather rows L a o with
    | some (x, i) => match gather rows L b (o + a.nc) with
      | some (y, j) => some ((x, y), i ++ j)
      | none => none
    | none => none
  | .int k, o => match look L o with
    | some s => toPure rows (.int k) s
    | none => none
  | .bool, o => match look L o with
    | some s => toPure rows .bool s
    | none => none
  | .str, o => match look L o with
    | some s => toPure rows .str s
    | none => none
  | .sl t, o => match look L o with
    | some s => toPure rows (.sl t) s
    | none => none
  | .fnc, o => match look L o with
    | some s => toPure rows .fnc s
    | none => none
/-- What the whole of a row's variable holds. -/
def rowC (rows : RT) (t : Ty) (id : Nat) : Option (t.den × List Nat) :=
  match rows id with
  | some r => match r.k with
    | .var L => cond (decide (r.t = t)) (match gather rows L t 0 with
      | some (x, ids) => some (x, id :: ids)
      | none => none) none
    | _ => match castTy (.sl r.t) (.sl t) r.l with
      | some [x] => some (x, [id])
      | _ => none
  | none => none
/-- What a pointer to a cell leads to, where it is only read. -/
def cellC (rows : RT) (t : Ty) : SV → Option (t.den × List Nat)
  | .rptr t' x => match castTy t' t x with
    | some y => some (y, [])
    | none => none
  | .optr id 0 [] => rowC rows t id
  | .vptr id t' 0 => cond (decide (t' = t)) (rowC rows t id) none
  | _ => none
def capsC (rows : RT) : (ts : List Ty) → List Nat → Option ((tupTy ts).den × List Nat)
  | [], [] => some ((), [])
  | t :: ts, id :: ids => match rowC rows t id with
    | some (x, i) => match capsC rows ts ids with
      | some (y, j) => some ((x, y), i ++ j)
      | none => none
    | none => none
  | _, _ => none
def castDs : (ts : List Ty) → List DV → Option (tupTy ts).den
  | [], [] => some ()
  | t :: ts, d :: l => match castTy d.t t d.x with
    | some x => match castDs ts l with
      | some y => some (x, y)
      | none => none
    | none => none
  | _, _ => none
def bind1 (rows : RT) : (p : PM) → SV → Option (Bound p.ty)
  | .pure t, s => match toPure rows t s with
    | some (x, ids) => some ⟨x, ids, []⟩
    | none => none
  | .own t, .own id => match rows id with
    | some r => match r.k, castTy (.sl r.t) (.sl t) r.l with
      | .frozen, _ => none
      | .var _, _ => none
      | _, some l => some ⟨l, [], [id]⟩
      | _, none => none
    | none => none
  | .ptr t f, s => match cellOf f s with
    | some id => match rows id with
      | some r => match r.k, castTy (.sl r.t) (.sl t) r.l with
        | .frozen, _ => none
        | .var _, _ => none
        | _, some [x] => some ⟨x, [], [id]⟩
        | _, _ => none
      | none => none
    | none => none
  | .rd t, s => match cellC rows t s with
    | some (x, ids) => some ⟨x, ids, []⟩
    | none => none
  | .rfn f ts, .fn g caps => cond (Nat.beq f g) (match capsC rows ts caps with
    | some (x, ids) => some ⟨x, ids, []⟩
    | none => none) none
  | .rfn f ts, .rfn g l => cond (Nat.beq f g) (match castDs ts l with
    | some x => some ⟨x, [], []⟩
    | none => none) none
  | .nil, .nilsl => some ⟨(), [], []⟩
  | .fn f, .fn g caps => cond (Nat.beq f g && caps.isEmpty) (some ⟨(), [], []⟩) none
  | .give t, .own id => match rows id with
    | some r => match r.k, castTy (.sl r.t) (.sl t) r.l with
      | .free, some l => some ⟨l, [], [id]⟩
      | _, _ => none
    | none => none
  | _, _ => none
def bindL (rows : RT) : (ps : List PM) → List SV → Option (Bound (argTy ps))
  | [], [] => some ⟨(), [], []⟩
  | p :: ps, s :: r => match bind1 rows p s with
    | some b => match bindL rows ps r with
      | some bs => some ⟨(b.x, bs.x), b.reads ++ bs.reads, b.outs ++ bs.outs⟩
      | none => none
    | none => none
  | _, _ => none
/-- Content behind a call, laid back into its row. -/
def outs1 (rows : RT) : (ps : List PM) → (outTy ps).den → List Nat → Option Upd
  | [], _, [] => some []
  | .own t :: ps, y, id :: os => match rows id with
    | some r => match castTy (.sl t) (.sl r.t) y.1 with
      | some m => match outs1 rows ps y.2 os with
        | some u => some ((id, some { r with l := m }) :: u)
        | none => none
      | none => none
    | none => none
  | .ptr t _ :: ps, y, id :: os => match rows id with
    | some r => match castTy (.sl t) (.sl r.t) [y.1] with
      | some m => match outs1 rows ps y.2 os with
        | some u => some ((id, some { r with l := m }) :: u)
        | none => none
      | none => none
    | none => none
  | .pure _ :: ps, y, os => outs1 rows ps y os
  | .fn _ :: ps, y, os => outs1 rows ps y os
  | .rd _ :: ps, y, os => outs1 rows ps y os
  | .rfn _ _ :: ps, y, os => outs1 rows ps y os
  | .nil :: ps, y, os => outs1 rows ps y os
  | .give _ :: ps, y, id :: os => match outs1 rows ps y os with
    | some u => some ((id, none) :: u)
    | none => none
  | _, _, _ => none
def res1 (d : Nat) : (i : Nat) → (rs : List RM) → (ps : List PM) → (resTy rs ps).den → List SV × Upd × (outTy ps).den
  | _, [], _, y => ([], [], y)
  | i, .pure t :: rs, ps, y => match res1 d (i + 1) rs ps y.2 with
    | (a, u, z) => (.val t y.1 :: a, u, z)
  | i, .own t :: rs, ps, y => match res1 d (i + 1) rs ps y.2 with
    | (a, u, z) => (.own (d + 4096 * i) :: a, (d + 4096 * i, some ⟨.free, t, y.1⟩) :: u, z)
  | i, .rfn f ts :: rs, ps, y => match res1 d (i + 1) rs ps y.2 with
    | (a, u, z) => (.rfn f (dvs ts y.1) :: a, u, z)
def RM.alias : RM → Bool
  | .pure t => !t.flat
  | .own t => !t.flat
  | .rfn _ _ => true
def PM.alias : PM → Bool
  | .own t => !t.flat
  | .ptr t _ => !t.flat
  | .pure _ | .fn _ | .give _ | .rd _ | .rfn _ _ | .nil => false
/-- May what comes back lead to memory that was only read? -/
def Sig.alias (s : Sig) : Bool := s.rs.any RM.alias || s.ps.any PM.alias
def distinctB : List Nat → Bool
  | [] => true
  | a :: r => !r.elem a && distinctB r
def packAV : List SV → AV
  | [v] => .one v
  | vs => .tup vs
/-- An argument that is a struct cell by cell: read, as a value. -/
def aggArg (rows : RT) : Option AV → Option (Option AV × List Nat)
  | some (.agg t L) => match t.isAgg, gather rows L t 0 with
    | true, some (x, ids) => some (some (.one (.val t x)), ids)
    | _, _ => none
  | none => some (none, [])
  | some (.one s) => some (some (.one s), [])
  | some (.tup l) => some (some (.tup l), [])
def aggArgs (rows : RT) : List (Option AV) → Option (List (Option AV) × List Nat)
  | [] => some ([], [])
  | a :: l => match aggArg rows a with
    | some (x, i) => match aggArgs rows l with
      | some (y, j) => some (x :: y, i ++ j)
      | none => none
    | none => none
/-- A call with a pointer to a variable of two cells. -/
def svK (s : SSig) (d : Nat) (rows : RT) (args : List SV) (c : AV → Upd → Tree R) : Tree R :=
  match args with
  | [.vptr id τ 0, .val u x] => match rows id, castTy u s.u x with
    | some r, some y => match r.k, r.l with
      | .var L, [] => match look L 0, look L 1 with
        | some (.own j), some (.fn g []) => match rows j with
          | some rj => match rj.k, castTy (.sl rj.t) (.sl s.t) rj.l with
            | .free, some l => .br (Nat.beq g s.f && (s.t.flat && decide (τ = svTy s.t))) (.bnd (s.run l y) fun m =>
                c (.tup []) [(id, some ⟨.var [(0, .own d), (1, .fn s.f [])], r.t, []⟩), (d, some ⟨.free, s.t, m⟩), (j, none)]) .fail
            | _, _ => .fail
          | none => .fail
        | _, _ => .fail
      | _, _ => .fail
    | _, _ => .fail
  | _ => .fail
/-- A call; the rows 'more' are read too. -/
def callK (E : Env) (d : Nat) (f : Nat) (rows : RT) (more : List Nat) (args : List SV) (c : AV → Upd → Tree R) : Tree R :=
  match look E.sv f with
  | some s => cond more.isEmpty (svK s d rows args c) .fail
  | none => match look E.ctx f with
  | some sig => match bindL rows sig.ps args with
    | some b =>
      .br (distinctB b.outs && (b.outs.all (fun x => !(b.reads ++ more).elem x) && (decide (sig.rs.length ≤ 8) && decide (sig.ps.length ≤ 1000)))) (
        match (cond sig.alias (freeze rows (b.reads ++ more)) (some [])) with
        | some fr =>
          .bnd (sig.run b.x) fun y =>
            match outs1 rows sig.ps (res1 d 0 sig.rs sig.ps y).2.2 b.outs with
            | some o => c (packAV (res1 d 0 sig.rs sig.ps y).1) ((res1 d 0 sig.rs sig.ps y).2.1 ++ o ++ fr)
            | none => .fail
        | none => .fail) .fail
    | none => .fail
  | none => .fail
def intOfSV : SV → Option Int
  | .val (.int _) n => some n
  | _ => none
def ones : List (Option AV) → Option (List SV)
  | [] => some []
  | some (.one s) :: r => match ones r with
    | some l => some (s :: l)
    | none => none
  | _ => none
def sliceK (rows : RT) (s : SV) (lo hi : Option Int) (c : AV → Tree R) : Tree R :=
  match lenOf rows s with
  | some n =>
    let l : Int := lo.getD 0
    let h : Int := hi.getD n
    .br (decide (0 ≤ l) && (decide (l ≤ h) && decide (h ≤ (n : Int)))) (match s with
      | .val .str x => c (.one (.val .str ((x.drop l.toNat).take (h.toNat - l.toNat))))
      | .val (.sl t) x => c (.one (.val (.sl t) ((x.drop l.toNat).take (h.toNat - l.toNat))))
      | .nilsl => c (.one .nilsl)
      | .own id => c (.one (.osub id l.toNat (h.toNat - l.toNat)))
      | .osub id lo' _ => c (.one (.osub id (lo' + l.toNat) (h.toNat - l.toNat)))
      | _ => .fail) .fail
  | none => .fail
def operandsL : Op → List Operand
  | .move x | .assign x | .box _ x | .load _ x | .nilCheck x | .unOp _ _ x | .convert _ _ x | .fieldAddr _ x _ | .field _ x _ | .extract x _ => [x]
  | .pick c a b => [c, a, b]
  | .build _ ps | .buildSlice _ _ ps => ps.toList.map (·.2)
  | .store _ a v | .binOp _ _ a v _ | .makeSlice _ a v | .indexAddr _ a v | .index _ a v | .lookup _ a v _ => [a, v]
  | .mapUpdate _ m k v => [m, k, v]
  | .slice _ x l h m => x :: (l.toList ++ (h.toList ++ m.toList))
  | .makeFunc _ first captured => first.toList ++ captured.toList
  | .call c => match c.callee with
    | .value f => f :: c.args.toList
    | .builtin _ => c.args.toList
    | .invoke r _ => r :: c.args.toList
  | _ => []
def isSlice : SV → Bool
  | .val (.sl _) _ | .nilsl | .own _ | .osub _ _ _ => true
  | _ => false
def loadK (E : Env) (rows : RT) (t : Nat) (a : SV) (c : AV → Tree R) : Tree R :=
  match E.ty t, a with
  | some u, .rptr u' x => .br (decide (u = u')) (c (.one (.val u' x))) .fail
  | some u, .optr id i p => match rows id with
    | some r => match getP r.t (r.l.getD i r.t.zero) p with
      | some e => .br (decide (u = e.t)) (c (.one (.val e.t e.x))) .fail
      | none => .fail
    | none => .fail
  | _, _ => .fail
def storeK (E : Env) (rows : RT) (t : Nat) (id i : Nat) (p : List Nat) (s : SV) (c : AV → Upd → Tree R) : Tree R :=
  match E.ty t, rows id with
  | some u, some r => match r.k, toPure rows u s with
    | .frozen, _ => .fail
    | .var _, _ => .fail
    | _, some (x, ids) => match setP r.t (r.l.getD i r.t.zero) p ⟨u, x⟩ with
      | some y => .br (ids.elem id) .fail (match freeze rows ids with
        | some fr => c (.tup []) ((id, some { r with l := r.l.set i y }) :: fr)
        | none => .fail)
      | none => .fail
    | _, none => .fail
  | _, _ => .fail
def fieldAddrK (E : Env) (rows : RT) (t : Nat) (a : SV) (f : Nat) (c : AV → Tree R) : Tree R :=
  match E.ty t, a with
  | some u, .rptr u' x => .br (decide (u = u')) (match getF u' x f with
    | some e => .br (decide (0 < e.t.nc)) (c (.one (.rptr e.t e.x))) .fail
    | none => .fail) .fail
  | some u, .optr id i p => match rows id with
    | some r => match r.t.at p with
      | some (u', _) => .br (decide (u = u')) (match u'.comp f with
        | some (v, _) => .br (decide (0 < v.nc)) (c (.one (.optr id i (p ++ [f])))) .fail
        | none => .fail) .fail
      | none => .fail
    | none => .fail
  | some u, .vptr id u' off => match rows id with
    | some _ => .br (decide (u = u')) (match u'.comp f with
      | some (v, o) => .br (decide (0 < v.nc)) (c (.one (.vptr id v (off + o)))) .fail
      | none => .fail) .fail
    | none => .fail
  | _, _ => .fail
def indexAddrK (E : Env) (rows : RT) (t : Nat) (s : SV) (i : Int) (c : AV → Tree R) : Tree R :=
  match E.ty t, s with
  | some (.sl u), .val (.sl u') l => .br (decide (u = u') && decide (0 < u'.nc)) (.bnd (idx l i) fun x => c (.one (.rptr u' x))) .fail
  | some (.sl u), .own id => match rows id with
    | some r => .br (decide (u = r.t) && decide (0 < u.nc)) (.br (decide (0 ≤ i) && decide (i < (r.l.length : Int))) (c (.one (.optr id i.toNat []))) .fail) .fail
    | none => .fail
  | some (.sl u), .osub id lo len => match rows id with
    | some r => .br (decide (u = r.t) && decide (0 < u.nc)) (.br (decide (0 ≤ i) && decide (i < (len : Int))) (c (.one (.optr id (lo + i.toNat) []))) .fail) .fail
    | none => .fail
  | none, .optr id j [] => match E.arr t, rows id with
    | some (q, n), some r => .br (decide (r.t = powI q n)) (.br (decide (0 ≤ i) && decide (i < (n : Int))) (c (.one (.optr id j [i.toNat]))) .fail) .fail
    | _, _ => .fail
  | _, _ => .fail
def buildK (E : Env) (rows : RT) (t : Nat) (ps : List Nat) (avs : List (Option AV)) (c : AV → Upd → Tree R) : Tree R :=
  match E.ty t, ones avs with
  | some u, some vs => .br u.isAgg (match fillP rows u u.zero (ps.zip vs) with
    | some (x, ids) => match freeze rows ids with
      | some fr => c (.one (.val u x)) fr
      | none => .fail
    | none => .fail) .fail
  | _, _ => .fail
/-- A value's cells. -/
def leaves : (t : Ty) → t.den → Nat → List (Nat × SV)
  | .unit, _, _ => []
  | .pair a b, x, o => leaves a x.1 o ++ leaves b x.2 (o + a.nc)
  | .int k, x, o => [(o, .val (.int k) x)]
  | .bool, x, o => [(o, .val .bool x)]
  | .str, x, o => [(o, .val .str x)]
  | .sl t, x, o => [(o, .val (.sl t) x)]
  | .fnc, _, o => [(o, .any)]
/-- The cells of a variable as it is made. -/
def zeroL : (t : Ty) → Nat → List (Nat × SV)
  | .unit, _ => []
  | .pair a b, o => zeroL a o ++ zeroL b (o + a.nc)
  | .int k, o => [(o, .val (.int k) 0)]
  | .bool, o => [(o, .val .bool false)]
  | .str, o => [(o, .val .str [])]
  | .sl _, o => [(o, .nilsl)]
  | .fnc, o => [(o, .any)]
/-- A value that takes one cell. -/
def SV.single (rows : RT) : SV → Bool
  | .val t _ => !t.isAgg
  | .und | .bnil _ _ | .any | .mref _ | .mp _ _ => false
  | .own id | .osub id _ _ | .optr id _ _ | .vptr id _ _ => (rows id).isSome
  | .rptr _ _ | .nilsl | .fn _ _ | .rfn _ _ => true
def shiftL (o : Nat) (L : List (Nat × SV)) : List (Nat × SV) := L.map fun x => (o + x.1, x.2)
/-- The cells ahead of a and behind b. -/
def outL (a b : Nat) : List (Nat × SV) → List (Nat × SV)
  | [] => []
  | x :: L => cond (Nat.blt x.1 a || Nat.ble b x.1) (x :: outL a b L) (outL a b L)
/-- Are the n cells from o on known? -/
def inL (L : List (Nat × SV)) (o : Nat) : Nat → Bool
  | 0 => true
  | n + 1 => (look L (o + n)).isSome && inL L o n
/-- Cells, with a value put in from cell o on. -/
def putAV (rows : RT) (L : List (Nat × SV)) (o : Nat) (t : Ty) : AV → Option (List (Nat × SV))
  | .one s => cond t.isAgg (match s with
    | .val t' x => match castTy t' t x with
      | some y => some (leaves t y o ++ L)
      | none => none
    | _ => none) (cond (s.single rows) (some ((o, s) :: L)) none)
  | .agg t' M => cond (decide (t' = t)) (some (shiftL o M ++ outL o (o + t.nc) L)) none
  | .tup _ => none
def fillA (rows : RT) (u : Ty) : List (Nat × SV) → List (Nat × SV) → Option (List (Nat × SV))
  | L, [] => some L
  | L, (f, s) :: r => match u.comp f with
    | some (v, o) => match putAV rows L o v (.one s) with
      | some L' => fillA rows u L' r
      | none => none
    | none => none
/-- Is the variable, or the struct, that the operation makes kept cell by cell? -/
def Env.cells (E : Env) (d : Nat) : Bool :=
  match look E.ann (2000000 + d) with
  | some _ => true
  | none => false
def buildAK (E : Env) (rows : RT) (t : Nat) (ps : List Nat) (avs : List (Option AV)) (c : AV → Tree R) : Tree R :=
  match E.ty t, ones avs with
  | some u, some vs => .br u.isAgg (match fillA rows u (zeroL u 0) (ps.zip vs) with
    | some L => c (.agg u L)
    | none => .fail) .fail
  | _, _ => .fail
def SV.isMp : SV → Bool
  | .mp _ _ => true
  | .val _ _ | .rptr _ _ | .nilsl | .own _ | .osub _ _ _ | .optr _ _ _ | .fn _ _ | .und | .vptr _ _ _ | .rfn _ _ | .bnil _ _ | .any | .mref _ => false
/-- No cell of a variable stands for a map's content. -/
def noMp : List (Nat × SV) → Bool
  | [] => true
  | x :: L => !x.2.isMp && noMp L
def keysLt (n : Nat) : List (Nat × SV) → Bool
  | [] => true
  | x :: L => Nat.blt x.1 n && keysLt n L
def aggAll (rows : RT) (L : List (Nat × SV)) : Nat → Bool
  | 0 => true
  | n + 1 => (match look L n with
    | some s => s.single rows
    | none => false) && aggAll rows L n
/-- Cells of a value of n cells, each a single value. -/
def aggOk (rows : RT) (n : Nat) (L : List (Nat × SV)) : Bool := keysLt n L && aggAll rows L n
def vloadK (E : Env) (d : Nat) (rows : RT) (t : Nat) (id : Nat) (u : Ty) (off : Nat) (c : AV → Upd → Tree R) : Tree R :=
  match E.ty t, rows id with
  | some u', some r => .br (decide (u' = u)) (match r.k with
    | .var L => cond u.isAgg (cond (E.cells d) (.br (decide (off = 0) && (inL L 0 u.nc && aggOk rows u.nc L)) (c (.agg u L) []) .fail) (match gather rows L u off with
        | some (x, ids) => match freeze rows ids with
          | some fr => c (.one (.val u x)) fr
          | none => .fail
        | none => .fail)) (match look L off with
        | some (.mp _ _) => .fail
        | some s => c (.one s) []
        | none => .fail)
    | _ => .fail) .fail
  | _, _ => .fail
def vstoreK (E : Env) (rows : RT) (t : Nat) (id : Nat) (u : Ty) (off : Nat) (av : AV) (c : AV → Upd → Tree R) : Tree R :=
  match E.ty t, rows id with
  | some u', some r => .br (decide (u' = u)) (match r.k, r.l with
    | .var L, [] => match putAV rows L off u av with
      | some L' => .br (inL L off u.nc && (decide (0 < u.nc) && noMp L)) (c (.tup []) [(id, some { r with k := .var L' })]) .fail
      | none => .fail
    | _, _ => .fail) .fail
  | _, _ => .fail
def buildSliceK (E : Env) (rows : RT) (d t n : Nat) (ps : List Nat) (avs : List (Option AV)) (c : AV → Upd → Tree R) : Tree R :=
  match E.ty t, ones avs with
  | some (.sl u), some vs => .br (decide (n * u.nc ≤ 16777216) && decide (0 < u.nc)) (match fillL rows u (List.replicate n u.zero) (ps.zip vs) with
    | some (l, ids) => match freeze rows ids with
      | some fr => c (.one (.own d)) ((d, some ⟨.free, u, l⟩) :: fr)
      | none => .fail
    | none => .fail) .fail
  | _, _ => .fail
def makeSliceK (E : Env) (d t : Nat) (n m : Int) (c : AV → Upd → Tree R) : Tree R :=
  match look E.tt t with
  | some ⟨.sl u, eb, false⟩ => .br (decide (0 ≤ n) && (decide (n ≤ m) && (decide (m * eb ≤ room) && (decide (m ≤ maxLen) && decide (0 < u.nc)))))
      (c (.one (.own d)) [(d, some ⟨.free, u, List.replicate n.toNat u.zero⟩)]) .fail
  | _ => .fail
def sliceOpK (rows : RT) (lo hi mx : Bool) (s : SV) (vs : List SV) (c : AV → Tree R) : Tree R :=
  match lo, hi, mx, vs.map intOfSV with
  | false, false, false, [] => sliceK rows s none none c
  | true, false, false, [some a] => sliceK rows s (some a) none c
  | false, true, false, [some b] => sliceK rows s none (some b) c
  | true, true, false, [some a, some b] => sliceK rows s (some a) (some b) c
  | false, true, true, [some a, some b] => .br (decide (a = 0) && (decide (b = 0) && (isSlice s && (lenOf rows s).isSome))) (c (.one .nilsl)) .fail
  | _, _, _, _ => .fail
def pickK (avs : List (Option AV)) (k : AV → Tree R) : Tree R :=
  match avs with
  | [some (.one (.val .bool b)), some (.one (.val .bool p)), some (.one (.val .bool q))] => k (.one (.val .bool (cond b p q)))
  | [some (.one (.val .bool b)), some x, some y] => .br b (k x) (k y)
  | _ => .fail
def boxK (E : Env) (rows : RT) (d t : Nat) (avs : List (Option AV)) (c : AV → Upd → Tree R) : Tree R :=
  match E.bty t, avs with
  | some u, [some (.one s)] => match toPure rows u s with
    | some (x, ids) => match freeze rows ids with
      | some fr => c (.one (.optr d 0 [])) ((d, some ⟨.free, u, [x]⟩) :: fr)
      | none => .fail
    | none => .fail
  | _, _ => .fail
def allocK (E : Env) (d t : Nat) (c : AV → Upd → Tree R) : Tree R :=
  match E.ty t with
  | some u => cond (E.cells d) (c (.one (.vptr d u 0)) [(d, some ⟨.var (zeroL u 0), u, []⟩)]) (c (.one (.optr d 0 [])) [(d, some ⟨.free, u, [u.zero]⟩)])
  | none => .fail
def nilCheckK (rows : RT) (s : SV) (k : AV → Tree R) : Tree R :=
  match s with
  | .rptr t x => k (.one (.rptr t x))
  | .fn f l => k (.one (.fn f l))
  | .optr id i p => match rows id with
    | some _ => k (.one (.optr id i p))
    | none => .fail
  | .vptr id t o => match rows id with
    | some _ => k (.one (.vptr id t o))
    | none => .fail
  | .rfn f l => k (.one (.rfn f l))
  | _ => .fail
/-- The captured cells: pointers to whole rows. -/
def capsOf : List (Option AV) → Option (List Nat)
  | [] => some []
  | some (.one (.optr id 0 [])) :: r => match capsOf r with
    | some l => some (id :: l)
    | none => none
  | some (.one (.vptr id _ 0)) :: r => match capsOf r with
    | some l => some (id :: l)
    | none => none
  | _ => none
def makeFuncK (f : Fn) (first : List Operand) (avs : List (Option AV)) (k : AV → Tree R) : Tree R :=
  match f, first, capsOf avs with
  | .func f, [], some ids => k (.one (.fn f ids))
  | _, _, _ => .fail
def fieldK (E : Env) (t f : Nat) (avs : List (Option AV)) (k : AV → Tree R) : Tree R :=
  match E.ty t, avs with
  | some u', [some (.one (.val u x))] => .br (decide (u' = u)) (match getF u x f with
    | some e => k (.one (.val e.t e.x))
    | none => .fail) .fail
  | _, _ => .fail
def indexK (E : Env) (t : Nat) (avs : List (Option AV)) (k : AV → Tree R) : Tree R :=
  match E.ty t, avs with
  | some .str, [some (.one (.val .str s)), some (.one (.val (.int _) i))] => .bnd (idx s i) fun b => k (.one (.val (.int .u8) (b.toNat : Int)))
  | _, _ => .fail
def extractK (i : Nat) (avs : List (Option AV)) (k : AV → Tree R) : Tree R :=
  match avs with
  | [some (.tup l)] => match l[i]? with
    | some s => k (.one s)
    | none => .fail
  | _ => .fail
def one1 (avs : List (Option AV)) (k : SV → Tree R) : Tree R :=
  match avs with
  | [some (.one s)] => k s
  | _ => .fail
def one2 (avs : List (Option AV)) (k : SV → SV → Tree R) : Tree R :=
  match avs with
  | [some (.one s), some (.one s')] => k s s'
  | _ => .fail
def intK (s : SV) (k : Int → Tree R) : Tree R :=
  match s with
  | .val (.int _) n => k n
  | _ => .fail
/-- The greater, or the lesser, of two numbers. -/
def mmK (mx : Bool) (a b : SV) (c : AV → Tree R) : Tree R :=
  match a, b with
  | .val (.int k) x, .val (.int k') y => .br (decide (k = k')) (c (.one (.val (.int k) (cond mx (cond (decide (y > x)) y x) (cond (decide (y < x)) y x))))) .fail
  | _, _ => .fail
/-- Zero values in the place of a part of a row. -/
def clearK (E : Env) (t : Nat) (rows : RT) (s : SV) (c : AV → Upd → Tree R) : Tree R :=
  match E.ty t, s with
  | some (.sl u), .osub id lo len => match rows id with
    | some r => match r.k with
      | .frozen => .fail
      | .var _ => .fail
      | _ => .br (decide (u = r.t) && decide (0 < u.nc) && decide (0 < len)) (c (.tup []) [(id, some { r with l := r.l.take lo ++ (List.replicate len r.t.zero ++ r.l.drop (lo + len)) })]) .fail
    | none => .fail
  | _, _ => .fail
/-- A part of a row overwritten: from cell lo on, with as much of xs as there is room for up to lo + len. -/
def copyGo (E : Env) (t : Nat) (rows : RT) (x : SV) (id lo len : Nat) (c : AV → Upd → Tree R) : Tree R :=
  match E.ty t, rows id with
  | some (.sl u), some r => match r.k with
    | .frozen => .fail
    | .var _ => .fail
    | _ => match srcOf rows r.t x with
      | some xs => .br (decide (u = r.t) && decide (0 < u.nc)) (c (.one (.val (.int .i64) ((min len xs.length : Nat) : Int))) [(id, some { r with l := r.l.take lo ++ (xs.take len ++ r.l.drop (lo + min len xs.length)) })]) .fail
      | none => .fail
  | _, _ => .fail
def copyK (E : Env) (t : Nat) (rows : RT) (s x : SV) (c : AV → Upd → Tree R) : Tree R :=
  match s with
  | .own id => match rows id with
    | some r => copyGo E t rows x id 0 r.l.length c
    | none => .fail
  | .osub id lo len => copyGo E t rows x id lo len c
  | _ => .fail
/-- A new map. -/
def makeMapK (E : Env) (d t : Nat) (c : AV → Upd → Tree R) : Tree R :=
  .br (E.isMap t) (c (.one (.mref d)) [(d, some ⟨.var [(0, .mp (fun _ => 0) 0)], .unit, []⟩)]) .fail
/-- What a map holds. -/
def mapOf (rows : RT) (id : Nat) : Option ((Int → Int) × Nat) :=
  match rows id with
  | some ⟨.var [(0, .mp f n)], .unit, []⟩ => some (f, n)
  | _ => none
/-- The element at a key. -/
def lookupK (E : Env) (t : Nat) (rows : RT) (m k : SV) (c : AV → Tree R) : Tree R :=
  match m, k with
  | .mref id, .val (.int .i64) a => match mapOf rows id with
    | some (f, _) => .br (E.isMap t) (c (.one (.val (.int .i64) (f a)))) .fail
    | none => .fail
  | _, _ => .fail
/-- An element put at a key; a key that is struck has the element 0. -/
def mapPutK (E : Env) (t : Nat) (rows : RT) (m : SV) (a x : Int) (more : Nat) (c : AV → Upd → Tree R) : Tree R :=
  match m with
  | .mref id => match mapOf rows id with
    | some (f, n) => .br (E.isMap t && decide (n < maxLen)) (c (.tup []) [(id, some ⟨.var [(0, .mp (mput f a x) (n + more))], .unit, []⟩)]) .fail
    | none => .fail
  | _ => .fail
def mapUpdateK (E : Env) (t : Nat) (rows : RT) (avs : List (Option AV)) (c : AV → Upd → Tree R) : Tree R :=
  match avs with
  | [some (.one m), some (.one (.val (.int .i64) a)), some (.one (.val (.int .i64) x))] => mapPutK E t rows m a x 1 c
  | _ => .fail
def deleteK (E : Env) (t : Nat) (rows : RT) (m k : SV) (c : AV → Upd → Tree R) : Tree R :=
  match k with
  | .val (.int .i64) a => mapPutK E t rows m a 0 0 c
  | _ => .fail
def lenK (rows : RT) (s : SV) (k : AV → Tree R) : Tree R :=
  match lenOf rows s with
  | some n => k (.one (.val (.int .i64) (n : Int)))
  | none => .fail
def storeOpK (E : Env) (rows : RT) (t : Nat) (a s : SV) (c : AV → Upd → Tree R) : Tree R :=
  match a with
  | .optr id i p => storeK E rows t id i p s c
  | _ => .fail
/-- The value is of the type's kind, and its elements are of the type's. -/
def fits (E : Env) (rows : RT) (t : Nat) (s : SV) : Bool :=
  match E.ty t, s with
  | some .str, .val .str _ => true
  | some (.sl u), .val (.sl t') _ => decide (u = t')
  | some (.sl _), .nilsl => true
  | some (.sl u), .own id => match rows id with
    | some r => decide (u = r.t)
    | none => false
  | some (.sl u), .osub id _ _ => match rows id with
    | some r => decide (u = r.t)
    | none => false
  | _, _ => false
def sliceOpT (E : Env) (t : Nat) (rows : RT) (lo hi mx : Bool) (avs : List (Option AV)) (k : AV → Tree R) : Tree R :=
  match ones avs with
  | some (s :: vs) => .br (fits E rows t s) (sliceOpK rows lo hi mx s vs k) .fail
  | _ => .fail
/-- A captured cell, handed over. -/
def capSV (rows : RT) (id : Nat) : SV :=
  match rows id with
  | some r => match r.l with
    | [] => .vptr id r.t 0
    | _ :: _ => .optr id 0 []
  | none => .vptr id .unit 0
def callOpK (E : Env) (d : Nat) (cl : Call) (avs : List (Option AV)) (rows : RT) (c : AV → Upd → Tree R) : Tree R :=
  match cl.callee with
  | .builtin .len => one1 avs fun s => .br (decide (cl.argTypes.toList = [cl.argTypes.toList.headD 0]) && fits E rows (cl.argTypes.toList.headD 0) s) (lenK rows s fun v => c v []) .fail
  | .builtin .max => one2 avs fun a b => mmK true a b fun v => c v []
  | .builtin .min => one2 avs fun a b => mmK false a b fun v => c v []
  | .builtin .clear => one1 avs fun s => .br (decide (cl.argTypes.toList = [cl.argTypes.toList.headD 0])) (clearK E (cl.argTypes.toList.headD 0) rows s c) .fail
  | .builtin .append => one2 avs fun s x => .br (decide (cl.argTypes.toList = [cl.argTypes.toList.headD 0, cl.argTypes.toList.headD 0])) (appendK E d (cl.argTypes.toList.headD 0) rows s x c) .fail
  | .builtin .delete => one2 avs fun m k => .br (decide (some cl.argTypes.toList = (E.mapKey (cl.argTypes.toList.headD 0)).map fun k => [cl.argTypes.toList.headD 0, k])) (deleteK E (cl.argTypes.toList.headD 0) rows m k c) .fail
  | .builtin .copy => one2 avs fun s x => .br (decide (cl.argTypes.toList = [cl.argTypes.toList.headD 0, cl.argTypes.toList.headD 0])) (copyK E (cl.argTypes.toList.headD 0) rows s x c) .fail
  | .value _ => match aggArgs rows avs with
    | some (avs', more) => match ones avs' with
      | some (.fn f caps :: vs) => callK E d f rows more (vs ++ caps.map (capSV rows)) c
      | some (.rfn f l :: vs) => callK E d f rows more (vs ++ l.map (fun x => .rptr x.t x.x)) c
      | _ => .fail
    | none => .fail
  | _ => .fail
/-- One operation: its operands' values, the rows that they name. -/
def opT (E : Env) (o : Oper) (avs : List (Option AV)) (rows : RT) : Tree (AV × Upd) :=
  let d := o.dst.getD 1000000
  let k (v : AV) : Tree (AV × Upd) := .ret (v, [])
  let ku (v : AV) (u : Upd) : Tree (AV × Upd) := .ret (v, u)
  match o.op with
  | .move _ | .assign _ => match avs with
    | [some v] => k v
    | _ => .fail
  | .pick _ _ _ => pickK avs k
  | .alloc t => allocK E d t ku
  | .box t _ => boxK E rows d t avs ku
  | .load t _ => match avs with
    | [some (.one (.vptr id u off))] => vloadK E d rows t id u off ku
    | _ => one1 avs fun a => loadK E rows t a k
  | .store t _ _ => match avs with
    | [some (.one (.vptr id u off)), some av] => vstoreK E rows t id u off av ku
    | _ => one2 avs fun a s => storeOpK E rows t a s ku
  | .nilCheck _ => one1 avs fun a => nilCheckK rows a k
  | .makeFunc f first _ => makeFuncK f first.toList avs k
  | .fieldAddr t _ f => one1 avs fun a => fieldAddrK E rows t a f k
  | .field t _ f => fieldK E t f avs k
  | .indexAddr t _ _ => one2 avs fun s i => intK i fun i => indexAddrK E rows t s i k
  | .index t _ _ => indexK E t avs k
  | .extract _ i => extractK i avs k
  | .binOp op t _ y _ => cond (isNilC y) (one2 avs fun a _ => nilK E op t a k) (one2 avs fun a b => binK E op t a b k)
  | .unOp op _ _ => one1 avs fun a => unK op a k
  | .convert src dst _ => one1 avs fun a => convK E dst src a k
  | .build t ps => cond (E.cells d) (buildAK E rows t (ps.toList.map (·.1)) avs k) (buildK E rows t (ps.toList.map (·.1)) avs ku)
  | .buildSlice t n ps => buildSliceK E rows d t n (ps.toList.map (·.1)) avs ku
  | .makeSlice t _ _ => one2 avs fun n m => intK n fun n => intK m fun m => makeSliceK E d t n m ku
  | .makeMap t none => makeMapK E d t ku
  | .lookup t _ _ false => one2 avs fun m x => lookupK E t rows m x k
  | .mapUpdate t _ _ _ => mapUpdateK E t rows avs ku
  | .slice t _ lo hi mx => sliceOpT E t rows lo.isSome hi.isSome mx.isSome avs k
  | .call cl => callOpK E d cl avs rows ku
  | _ => .fail
end K
section K
variable {R : Type}
/-- The rows that an operation's operands name: no other is looked at. -/
def rowsOf (st : ASt) (ids : List Nat) : RT := fun id => cond (ids.elem id) (st.row id) none
def idsOf (avs : List (Option AV)) : List Nat := avs.flatMap AV.ids
def ASt.avs (st : ASt) (o : Oper) : List (Option AV) := (operandsL o.op).map st.ev
/-- The rows that a variable's cells lead to. -/
def ASt.inner (st : ASt) (id : Nat) : List Nat :=
  match st.row id with
  | some r => match r.k with
    | .var L => leafIds L
    | _ => []
  | none => []
/-- The rows that an operation looks at: a copy of a value looks at none; who reads the whole of a variable looks at what its cells lead to. -/
def rdOf (st : ASt) (o : Oper) : List Nat :=
  match o.op with
  | .move _ | .assign _ => []
  | .load _ _ => match st.avs o with
    | [some (.one (.vptr id t _))] => id :: cond t.isAgg (st.inner id) []
    | avs => idsOf avs
  | .call _ => idsOf (st.avs o) ++ (idsOf (st.avs o)).flatMap st.inner
  | _ => idsOf (st.avs o)
/-- What is told of an operation that has run: the slots that it read, the slot that it wrote, the rows that it read and wrote. -/
structure Sto where
  id : Nat
  idx : Nat
  path : List Nat
  t : Ty
  x : t.den
structure Acc where
  rs : List Nat
  ws : List Nat
  rr : List Nat
  rw : List Nat
  st : Option Sto
/-- A store of a plain value. -/
def stoOf (o : Oper) (avs : List (Option AV)) : Option Sto :=
  match o.op with
  | .store _ _ _ => match avs with
    | [some (.one (.optr id i p)), some (.one (.val t x))] => some ⟨id, i, p, t, x⟩
    | _ => none
  | _ => none
def tmpsOf : List Operand → List Nat
  | [] => []
  | .tmp t :: r => t :: tmpsOf r
  | _ :: r => tmpsOf r
def guardTmp (ops : List Oper) (o : Oper) : Option Nat :=
  match o.guard with
  | some (j, _) => match ops[j]? with
    | some g => g.dst
    | none => none
  | none => none
def opsK (E : Env) (ops : List Oper) : List Oper → ASt → List Acc → (ASt → List Acc → Option R) → Option R
  | [], st, tr, c => c st tr
  | o :: rest, st, tr, c =>
    let run (st : ASt) : Option R :=
      (opT E o (st.avs o) (rowsOf st (rdOf st o))).runK fun p =>
        opsK E ops rest ((st.upd p.2).put o.dst p.1) (⟨(guardTmp ops o).toList ++ tmpsOf (operandsL o.op), o.dst.toList, rdOf st o, p.2.map (·.1), stoOf o (st.avs o)⟩ :: tr) c
    match o.guard with
    | none => run st
    | some (_, want) => match guardTmp ops o with
      | none => none
      | some g => match st.slot g with
        | some (.one (.val .bool b)) =>
          let yes := run (st.put (some g) (.one (.val .bool want)))
          let no := opsK E ops rest ((st.put (some g) (.one (.val .bool (!want)))).put o.dst (.one .und)) (⟨[g], o.dst.toList, [], [], none⟩ :: tr) c
          cond want (cond b yes no) (cond b no yes)
        | some (.one .und) => opsK E ops rest (st.put o.dst (.one .und)) (⟨[g], o.dst.toList, [], [], none⟩ :: tr) c
        | _ => none
/-- Closure of the edges: bit j of the i-th number: operation j comes ahead of operation i in every order. -/
def closure : List Oper → List Nat → List Nat
  | [], acc => acc
  | o :: r, acc => closure r (acc ++ [(o.after.toList.filter (Region.binds .any)).foldl (fun s e => s ||| (1 <<< e.on) ||| acc.getD e.on 0) 0])
def meets (a b : List Nat) : Bool := a.any b.elem
/-- Two stores into one row: looked at by themselves. -/
def Acc.rowConf (x y : Acc) : Bool :=
  match x.st, y.st with
  | some _, some _ => false
  | _, _ => meets x.rw (y.rr ++ y.rw) || meets y.rw x.rr
def Acc.conflict (x y : Acc) : Bool :=
  meets x.ws (y.rs ++ y.ws) || meets y.ws x.rs || x.rowConf y
/-- Two stores into one row that may change places: at different places, or of the same value. -/
def Sto.ok (s t : Sto) : Bool :=
  !(Nat.beq s.idx t.idx) || (s.path.isEmpty && (t.path.isEmpty && (s.t.flat && (match castTy t.t s.t t.x with
    | some y => eqTy s.t s.x y
    | none => false))))
def pairConds (b : Nat) (y : Acc) : Nat → List Acc → List Bool
  | _, [] => []
  | j, x :: r => match x.st, y.st with
    | some s, some t => cond (Nat.beq s.id t.id && !b.testBit j) (s.ok t :: pairConds b y (j + 1) r) (pairConds b y (j + 1) r)
    | _, _ => pairConds b y (j + 1) r
/-- What has to hold of the values, that stores into one row may come in any order. -/
def storeConds (cl : List Nat) : Nat → List Acc → List Acc → List Bool
  | _, _, [] => []
  | i, before, y :: r => pairConds (cl.getD i 0) y 0 before ++ storeConds cl (i + 1) (before ++ [y]) r
def condAll : List Bool → Option R → Option R
  | [], k => k
  | b :: l, k => cond b (condAll l k) none
/-- Each two operations that meet are ordered. 'tr': in the text's order. -/
def orderedFrom (cl : List Nat) : Nat → List Acc → List Acc → Bool
  | _, _, [] => true
  | i, before, y :: r => (before.zipIdx.all fun (x, j) => !(x.conflict y) || (cl.getD i 0).testBit j) && orderedFrom cl (i + 1) (before ++ [y]) r
def edgesOk : Nat → List Oper → Bool
  | _, [] => true
  | i, o :: r => o.after.toList.all (fun e => !Region.binds .any e || decide (e.on < i)) && edgesOk (i + 1) r
def drawOk (ops : List Oper) (tr : List Acc) : Bool :=
  edgesOk 0 ops && orderedFrom (closure ops []) 0 [] tr.reverse
/-- The ids that an operation may give to new rows. -/
def newIds (o : Oper) : List Nat :=
  match o.op with
  | .alloc _ | .box _ _ | .buildSlice .. | .makeSlice .. | .makeMap .. => [o.dst.getD 1000000]
  | .call c => match c.callee with
    | .builtin .append => [o.dst.getD 1000000]
    | .value _ => let d := o.dst.getD 1000000; [d, d + 4096, d + 8192, d + 12288, d + 16384, d + 20480, d + 24576, d + 28672]
    | _ => []
  | _ => []
/-- A row's id, and what its cells lead to. -/
def rowIds (x : Nat × Option Row) : List Nat :=
  x.1 :: match x.2 with
    | some r => match r.k with
      | .var L => leafIds L
      | _ => []
    | none => []
def ASt.refs (st : ASt) : List Nat := st.slots.flatMap (fun x => AV.ids (some x.2)) ++ st.rows.flatMap rowIds
def freshB (ops : List Oper) (st : ASt) : Bool :=
  let new := ops.flatMap newIds
  distinctB new && !meets new st.refs
def dstOk (nt : Nat) (o : Oper) : Bool :=
  match o.dst with
  | some d => decide (d < nt)
  | none => true
def regionK (E : Env) (ops : List Oper) (draw : Bool) (st : ASt) (c : ASt → Option R) : Option R :=
  cond (freshB ops st && ops.all (dstOk E.nt)) (opsK E ops ops st [] fun st' tr => cond (!draw || drawOk ops tr) (condAll (cond draw (storeConds (closure ops []) 0 [] tr.reverse) []) (c st')) none) none
inductive XT where
  | nrm | ret | ex (id : Nat)
/-- What is kept of a state at a place where ways meet: the slots that are named; rows are named anew, after the first slot that leads to each. -/
structure CS where
  slots : List (Nat × AV)
  rows : List (Nat × Option Row)
  ren : List (Nat × Option Nat)
/-- A row, named after the slot. -/
def CS.row (s : CS) (i : Nat) (r : Row) (ren : List (Nat × Option Nat)) : Option CS :=
  match look s.rows i with
  | none => some ⟨s.slots, (i, some r) :: s.rows, ren⟩
  | some _ => none
/-- A value cleaned; a new row that it leads to is named i. -/
def cleanV (st : ASt) (i : Nat) (v : SV) (m : KM) (s : CS) : Option (SV × CS) :=
  match v with
  | .val t x => some (.val t x, s)
  | .rptr t x => some (.rptr t x, s)
  | .rfn f l => some (.rfn f l, s)
  | .nilsl => match m with
    | .own t => match s.row i ⟨.free, t, []⟩ s.ren with
      | some s' => some (.own i, s')
      | none => none
    | .pure t => some (.val (.sl t) [], s)
    | _ => some (.nilsl, s)
  | .own id => match st.row id with
    | some r => match r.k with
      | .frozen => some (.val (.sl r.t) r.l, s)
      | .fixed => some (.own id, s)
      | .free => match look s.ren id with
        | some (some n) => some (.own n, s)
        | some none => none
        | none => match s.row i r ((id, some i) :: s.ren) with
          | some s' => some (.own i, s')
          | none => none
      | .var _ => none
    | none => none
  | .osub id lo len => match st.row id with
    | some r => match r.k with
      | .frozen => some (.val (.sl r.t) ((r.l.drop lo).take len), s)
      | .fixed => some (.osub id lo len, s)
      | .free => match look s.ren id with
        | some (some n) => some (.osub n lo len, s)
        | some none => none
        | none => match s.row i ⟨.free, r.t, (r.l.drop lo).take len⟩ ((id, none) :: s.ren) with
          | some s' => some (.own i, s')
          | none => none
      | .var _ => none
    | none => none
  | .optr id j p => match st.row id with
    | some r => match r.k with
      | .fixed => some (.optr id j p, s)
      | .frozen => none
      | .free => match look s.ren id with
        | some (some n) => some (.optr n j p, s)
        | some none => none
        | none => match s.row i r ((id, some i) :: s.ren) with
          | some s' => some (.optr i j p, s')
          | none => none
      | .var _ => none
    | none => none
  | .fn f caps => match caps with
    | [] => some (.fn f [], s)
    | [id] => match st.row id with
      | some r => match r.k with
        | .fixed => some (.fn f [id], s)
        | _ => none
      | none => none
    | _ => none
  | .und | .bnil _ _ | .any | .mref _ => none
  | .mp f n => some (.mp f n, s)
  | .vptr id t o => match look s.ren id with
    | some (some n) => some (.vptr n t o, s)
    | _ => none
/-- The cells of a variable, cleaned one after the other. -/
def cleanLv (st : ASt) (i : Nat) (L : List (Nat × SV)) : List (Nat × KM) → CS → Option (List (Nat × SV) × CS)
  | [], s => some ([], s)
  | (k, m) :: r, s => match look L k with
    | some v => match cleanV st (i + k) v m s with
      | some (v', s') => match cleanLv st i L r s' with
        | some (L', s2) => some ((k, v') :: L', s2)
        | none => none
      | none => none
    | none => none
/-- The type by which the row of a variable is marked that a pointer parameter leads to. -/
def svT : Ty := .pair .bool .bool
/-- The new name of a variable's row: such a row keeps its own. -/
def svI (st : ASt) (i id : Nat) : Nat :=
  match st.row id with
  | some r => cond (decide (r.t = svT)) id i
  | none => i
/-- A variable that is kept cell by cell. -/
def cleanVar (st : ASt) (i id : Nat) (lm : List (Nat × KM)) (s : CS) : Option CS :=
  match st.row id, look s.ren id with
  | some r, none => match r.k with
    | .var L => match cleanLv st (100000 + 64 * i) L lm s with
      | some (L', s') => match look s'.ren id with
        | none => s'.row (svI st i id) ⟨.var L', r.t, []⟩ ((id, some (svI st i id)) :: s'.ren)
        | some _ => none
      | none => none
    | _ => none
  | _, _ => none
def clean1 (st : ASt) (i : Nat) (m : KM) (s : CS) : Option CS :=
  match st.slot i with
  | some (.one v) => match m, v with
    | .var lm, .vptr id t o => match cleanVar st i id lm s with
      | some s' => some { s' with slots := (i, .one (.vptr (svI st i id) t o)) :: s'.slots }
      | none => none
    | .var lm, .mref id => match cleanVar st i id lm s with
      | some s' => some { s' with slots := (i, .one (.mref (svI st i id))) :: s'.slots }
      | none => none
    | _, _ => match cleanV st i v m s with
      | some (v', s') => some { s' with slots := (i, .one v') :: s'.slots }
      | none => none
  | _ => none
def cleanL (st : ASt) : List (Nat × KM) → CS → Option CS
  | [], s => some s
  | (i, m) :: r, s => match clean1 st i m s with
    | some s' => cleanL st r s'
    | none => none
def insRow (x : Nat × Option Row) : List (Nat × Option Row) → List (Nat × Option Row)
  | [] => [x]
  | y :: l => cond (Nat.blt y.1 x.1) (y :: insRow x l) (x :: y :: l)
def fixedRows : List (Nat × Option Row) → List Nat → List (Nat × Option Row)
  | [], _ => []
  | (id, some r) :: l, seen => cond (seen.elem id) (fixedRows l seen) (match r.k with
    | .fixed => insRow (id, some r) (fixedRows l (id :: seen))
    | _ => fixedRows l (id :: seen))
  | (id, none) :: l, seen => fixedRows l (id :: seen)
/-- The rows that become pure values. -/
def pureIds (st : ASt) : List (Nat × KM) → List Nat
  | [] => []
  | (i, m) :: r => match m with
    | .pure _ => match st.slot i with
      | some (.one (.own id)) => id :: pureIds st r
      | some (.one (.osub id _ _)) => id :: pureIds st r
      | _ => pureIds st r
    | _ => pureIds st r
def clean (st : ASt) (L : List (Nat × KM)) : Option ASt :=
  match freeze st.row (pureIds st L) with
  | some fr => match cleanL (st.upd fr) L ⟨[], fixedRows (st.upd fr).rows [], []⟩ with
    | some s => some ⟨s.slots, s.rows⟩
    | none => none
  | none => none
def firstRegion : Code → Nat
  | .region id _ _ => id
  | .seq a _ => firstRegion a
  | .block _ b => firstRegion b
  | .loop b => firstRegion b
  | .cond _ a _ => firstRegion a
  | _ => 1000000
/-- What is left to do behind a piece of code: data. -/
inductive Kont where
  | ret
  | seq (b : Code) (K : Kont)
  | blk (id : Nat) (K : Kont)
  | loop (b : Code) (K : Kont)
/-- A place that is jumped to: code, or the head of a loop. -/
inductive Tgt where
  | code (c : Code) (K : Kont)
  | loop (b : Code) (K : Kont)
def Tgt.c : Tgt → Code
  | .code c _ => c
  | .loop b _ => b
def Tgt.k : Tgt → Kont
  | .code _ K => K
  | .loop b K => .loop b K
/-- How a piece of code was left, and what comes then. 'E.ann': by the first region behind a sequence's second part: what to keep there (then it is jumped to); by 1000000 + the first region of a loop's body: what to keep at its head. -/
def ap (E : Env) (jmp : Tgt → ASt → Option R) (fin : ASt → Option R) (rb : Code → Kont → ASt → Option R) : Kont → XT → ASt → Option R
  | .ret, x, st => match x with
    | .ex _ => none
    | _ => fin st
  | .seq b K, x, st => match x with
    | .nrm => match look E.ann (firstRegion b) with
      | none => rb b K st
      | some L => match clean st L with
        | some st' => jmp (.code b K) st'
        | none => none
    | _ => ap E jmp fin rb K x st
  | .blk id K, x, st => match x with
    | .ex j => cond (Nat.beq j id) (ap E jmp fin rb K .nrm st) (ap E jmp fin rb K (.ex j) st)
    | _ => ap E jmp fin rb K x st
  | .loop b K, x, st => match x with
    | .nrm => match look E.ann (1000000 + firstRegion b) with
      | some L => match clean st L with
        | some st' => jmp (.loop b K) st'
        | none => none
      | none => none
    | _ => ap E jmp fin rb K x st
open Classical in
/-- What two ways come to, if they come to the same. -/
noncomputable def both (a b : Option R) : Option R := if a = b then a else none
theorem both_self (a : Option R) : both a a = a := if_pos rfl
theorem both_some {a b : Option R} {r : R} (h : both a b = some r) : a = some r ∧ b = some r := by
  unfold both at h
  split at h
  · rename_i e
    exact ⟨h, e ▸ h⟩
  · cases h
def noJ : Tgt → ASt → Option R := fun _ _ => none
/-- Code, up to the next jumps. -/
noncomputable def run (E : Env) (jmp : Tgt → ASt → Option R) (fin : ASt → Option R) : Nat → Code → Kont → ASt → Option R
  | 0, c, K, st => jmp (.code c K) st
  | d + 1, c, K, st => match c with
    | .skip => ap E jmp fin (run E jmp fin d) K .nrm st
    | .region _ ops draw => regionK E ops.toList draw st (ap E jmp fin (run E jmp fin d) K .nrm)
    | .seq a b => run E jmp fin d a (.seq b K) st
    | .cond c a b => match st.ev c with
      | some (.one (.val .bool x)) => cond x (run E jmp fin d a K st) (run E jmp fin d b K st)
      | some (.one (.bnil e n)) => cond e (both (run E noJ fin d a K st) (run E noJ fin d b K st)) (cond n (run E jmp fin d a K st) (run E jmp fin d b K st))
      | _ => none
    | .block id b => run E jmp fin d b (.blk id K) st
    | .loop b => match look E.ann (1000000 + firstRegion b) with
      | some L => match clean st L with
        | some st' => jmp (.loop b K) st'
        | none => none
      | none => none
    | .exit id => ap E jmp fin (run E jmp fin d) K (.ex id) st
    | .ret => ap E jmp fin (run E jmp fin d) K .ret st
    | _ => none
/-- How many pieces of code a run may take up to its next jump. -/
def depth : Nat := 4000
/-- A run of at most n jumps. -/
noncomputable def runs (E : Env) (fin : ASt → Option R) : Nat → Tgt → ASt → Option R
  | 0, _, _ => none
  | n + 1, t, st => run E (runs E fin n) fin depth t.c t.k st
end K
def entryFrom : (i : Nat) → (ps : List PM) → (argTy ps).den → ASt
  | _, [], _ => ⟨[], []⟩
  | i, p :: ps, x => match p, x with
    | .pure t, x => match entryFrom (i + 1) ps x.2 with
      | ⟨s, r⟩ => ⟨(i, .one (.val t x.1)) :: s, r⟩
    | .own t, x => match entryFrom (i + 1) ps x.2 with
      | ⟨s, r⟩ => ⟨(i, .one (.own (10000 + i))) :: s, (10000 + i, some ⟨.fixed, t, x.1⟩) :: r⟩
    | .ptr t f, x => match entryFrom (i + 1) ps x.2 with
      | ⟨s, r⟩ => ⟨(i, .one (cellSV f (10000 + i))) :: s, (10000 + i, some ⟨.fixed, t, [x.1]⟩) :: r⟩
    | .fn f, x => match entryFrom (i + 1) ps x.2 with
      | ⟨s, r⟩ => ⟨(i, .one (.fn f [])) :: s, r⟩
    | .give t, x => match entryFrom (i + 1) ps x.2 with
      | ⟨s, r⟩ => ⟨(i, .one (.own (10000 + i))) :: s, (10000 + i, some ⟨.free, t, x.1⟩) :: r⟩
    | .rd t, x => match entryFrom (i + 1) ps x.2 with
      | ⟨s, r⟩ => ⟨(i, .one (.rptr t x.1)) :: s, r⟩
    | .rfn f ts, x => match entryFrom (i + 1) ps x.2 with
      | ⟨s, r⟩ => ⟨(i, .one (.rfn f (dvs ts x.1))) :: s, r⟩
    | .nil, x => match entryFrom (i + 1) ps x.2 with
      | ⟨s, r⟩ => ⟨(i, .one .nilsl) :: s, r⟩
/-- The rows of a variable of two cells that is handed over. -/
def svRows (t : Ty) (f : Nat) (l : List t.den) : List (Nat × Option Row) := [(10000, some ⟨.var [(0, .own 20000), (1, .fn f [])], svT, []⟩), (20000, some ⟨.free, t, l⟩)]
/-- The state in which such a function is entered, and left. -/
def svEntry (t u : Ty) (f : Nat) (l : List t.den) (y : u.den) : ASt := ⟨[(0, .one (.vptr 10000 (svTy t) 0)), (1, .one (.val u y))], svRows t f l⟩
def svExit (t : Ty) (f : Nat) (l : List t.den) : ASt := ⟨[(0, .tup [])], svRows t f l⟩
/-- What such a function leaves behind: its variable's cells, and the slice that they lead to. -/
def svGet (t : Ty) (f : Nat) (st : ASt) : Option (Nat × List t.den) :=
  match st.row 10000 with
  | some r => match r.k with
    | .var L => match look L 0, look L 1 with
      | some (.own j), some (.fn g []) => match st.row j with
        | some rj => match rj.k, castTy (.sl rj.t) (.sl t) rj.l with
          | .free, some l => cond (Nat.beq g f && decide (r.t = svT)) (some (j, l)) none
          | _, _ => none
        | none => none
      | _, _ => none
    | _ => none
  | none => none
def svRet (t : Ty) (f : Nat) (st : ASt) : Option (List t.den) :=
  match svGet t f st with
  | some (_, l) => some l
  | none => none
def collOut (rows : RT) : (i : Nat) → (ps : List PM) → Option (outTy ps).den
  | _, [] => some ()
  | i, .pure _ :: ps => collOut rows (i + 1) ps
  | i, .fn _ :: ps => collOut rows (i + 1) ps
  | i, .give _ :: ps => collOut rows (i + 1) ps
  | i, .rd _ :: ps => collOut rows (i + 1) ps
  | i, .rfn _ _ :: ps => collOut rows (i + 1) ps
  | i, .nil :: ps => collOut rows (i + 1) ps
  | i, .own t :: ps => match rows (10000 + i) with
    | some r => match r.k, castTy (.sl r.t) (.sl t) r.l with
      | .fixed, some l => match collOut rows (i + 1) ps with
        | some z => some (l, z)
        | none => none
      | _, _ => none
    | none => none
  | i, .ptr t _ :: ps => match rows (10000 + i) with
    | some r => match r.k, castTy (.sl r.t) (.sl t) r.l with
      | .fixed, some [x] => match collOut rows (i + 1) ps with
        | some z => some (x, z)
        | none => none
      | _, _ => none
    | none => none
/-- A result that is a row of the call's own: which row (none: a nil slice), which part of it. -/
def ownRes (rows : RT) (t : Ty) : SV → Option (List t.den × List Nat)
  | .nilsl => some ([], [])
  | .own id => match rows id with
    | some r => match r.k, castTy (.sl r.t) (.sl t) r.l with
      | .free, some l => some (l, [id])
      | _, _ => none
    | none => none
  | .osub id lo len => match rows id with
    | some r => match r.k, castTy (.sl r.t) (.sl t) ((r.l.drop lo).take len) with
      | .free, some l => some (l, [id])
      | _, _ => none
    | none => none
  | _ => none
/-- The results: typed; the rows that have to be frozen; the rows handed out. -/
def coll (rows : RT) (ps : List PM) : (rs : List RM) → List SV → Option ((resTy rs ps).den × List Nat × List Nat)
  | [], [] => match collOut rows 0 ps with
    | some z => some (z, [], [])
    | none => none
  | .pure t :: rs, s :: l => match toPure rows t s with
    | some (x, ids) => match coll rows ps rs l with
      | some (z, fr, ow) => some ((x, z), ids ++ fr, ow)
      | none => none
    | none => none
  | .own t :: rs, s :: l => match ownRes rows t s with
    | some (x, ids) => match coll rows ps rs l with
      | some (z, fr, ow) => some ((x, z), fr, ids ++ ow)
      | none => none
    | none => none
  | .rfn f ts :: rs, .rfn g l :: l' => cond (Nat.beq f g) (match castDs ts l with
    | some x => match coll rows ps rs l' with
      | some (z, fr, ow) => some ((x, z), fr, ow)
      | none => none
    | none => none) none
  | .rfn f ts :: rs, .fn g caps :: l' => cond (Nat.beq f g) (match capsC rows ts caps with
    | some (x, ids) => match coll rows ps rs l' with
      | some (z, fr, ow) => some ((x, z), ids ++ fr, ow)
      | none => none
    | none => none) none
  | _, _ => none
/-- A result's value: in a slot, or in a variable of the call's own. -/
def resV (E : Env) (st : ASt) : ResultVar → Option SV
  | .tmp t => match st.slot t with
    | some (.one s) => some s
    | _ => none
  | .cell a t => match st.slot a with
    | some (.one (.optr id 0 [])) => match st.row id with
      | some r => match r.l with
        | [x] => cond (decide (E.ty t = some r.t)) (some (.val r.t x)) none
        | _ => none
      | none => none
    | _ => none
def resVs (E : Env) (st : ASt) : List ResultVar → Option (List SV)
  | [] => some []
  | x :: l => match resV E st x with
    | some s => match resVs E st l with
      | some r => some (s :: r)
      | none => none
    | none => none
def Kret (E : Env) (res : List ResultVar) (ps : List PM) (rs : List RM) (st : ASt) : Option (resTy rs ps).den :=
  match resVs E st res with
  | some vs => match coll st.row ps rs vs with
    | some (x, fr, ow) => cond (distinctB ow && !meets fr ow) (match freeze st.row fr with
      | some _ => some x
      | none => none) none
    | none => none
  | none => none
end Go.Lift
namespace Go.Lift
open Go
abbrev Gam := Nat → Option (Nat × Nat)
/-- Type t is a map's from int to int, with keys of type k. -/
def MapT (P : Program) (t k : TypeId) : Prop :=
  ∃ e, P.underlying t = some (.map k e) ∧ P.underlying k = some (.int .i64) ∧ P.underlying e = some (.int .i64) ∧ ∀ w, (zeroValue e).run P w = .ok (.int .i64 0) w
/-- Block b is a map of at most n keys, whose element at each key a is f a. -/
def MapAt (w : World) (b : Nat) (f : Int → Int) (n : Nat) : Prop :=
  ∃ (P : Program) (k e : TypeId) (D : DataW Unit), P.underlying k = some (.int .i64) ∧ P.underlying e = some (.int .i64) ∧ w.ownsMap P k (plainElem P e) b n D ∧
    ∀ a, (Lit.int .i64 a).wf = true → D.atKey (.int .i64 a) (.lit (.int .i64 0)) = .lit (.int .i64 (f a))
theorem keyOf_int_any {P P' : Program} {k k' : TypeId} (h : P.underlying k = some (.int .i64)) (h' : P'.underlying k' = some (.int .i64)) : keyOf P k = keyOf P' k' := by
  funext v
  rw [keyOf_int h, keyOf_int h']
  unfold mapKey
  rw [h, h']
theorem plain_any {P P' : Program} {e e' : TypeId} (h : P.underlying e = some (.int .i64)) (h' : P'.underlying e' = some (.int .i64)) : plainElem (H := Unit) P e = plainElem P' e' := by
  funext v
  unfold plainElem
  rw [h, h']
theorem MapAt.use {w : World} {b n : Nat} {f : Int → Int} (h : MapAt w b f n) {P : Program} {k e : TypeId} (hk : P.underlying k = some (.int .i64)) (he : P.underlying e = some (.int .i64)) :
    ∃ D : DataW Unit, w.ownsMap P k (plainElem P e) b n D ∧ ∀ a, (Lit.int .i64 a).wf = true → D.atKey (.int .i64 a) (.lit (.int .i64 0)) = .lit (.int .i64 (f a)) := by
  obtain ⟨P', k', e', D, h1, h2, ⟨es, c, h3, h4, h5, h6⟩, h7⟩ := h
  refine ⟨D, ⟨es, c, h3, ?_, h5, ?_⟩, h7⟩
  · have hr : WideElems.rd P k (plainElem (H := Unit) P e) = WideElems.rd P' k' (plainElem P' e') := by
      funext x; unfold WideElems.rd; rw [keyOf_int_any hk h1, plain_any he h2]
    exact ⟨h4.size, h4.stamped, fun x hx => by rw [hr]; exact h4.reads x hx⟩
  · have hr : WideElems.rg P k (plainElem (H := Unit) P e) = WideElems.rg P' k' (plainElem P' e') := by
      funext x; unfold WideElems.rg WideElems.rd; rw [keyOf_int_any hk h1, plain_any he h2]
    rw [hr]; exact h6
theorem MapAt.obj {w : World} {b n : Nat} {f : Int → Int} (h : MapAt w b f n) : ∃ es c, w.heap[b]? = some (.map es c) := by
  obtain ⟨P', k', e', D, h1, h2, ⟨es, c, h3, _⟩, _⟩ := h
  exact ⟨es, c, h3⟩
theorem MapAt.congr {w w' : World} {b n : Nat} {f : Int → Int} (h : MapAt w b f n) (e : w'.heap[b]? = w.heap[b]?) : MapAt w' b f n := by
  obtain ⟨P', k', e', D, h1, h2, ⟨es, c, h3, h4⟩, h5⟩ := h
  exact ⟨P', k', e', D, h1, h2, ⟨es, c, e.trans h3, h4⟩, h5⟩
/-- Block 'b' has at least n cells. -/
def Blk (w : World) (b n : Nat) : Prop := ∃ cur e fz, w.heap[b]? = some (.cells cur e fz) ∧ n ≤ cur.size
def OwnSl (w : World) (γ : Gam) (id nc lo len : Nat) (v : Value) : Prop :=
  ∃ a cap, v = .slice a len cap ∧ len ≤ cap ∧ cap ≤ maxLen ∧
    (cap = 0 ∨ ∃ b p, γ id = some (b, p) ∧ a = some ⟨b, p + lo * nc, none⟩ ∧ Blk w b (p + (lo + cap) * nc))
def RepS (w : World) (S : Nat → Prop) (γ : Gam) (rows : RT) : SV → Value → Prop
  | .val t x, v => RepV w S t x v
  | .rptr t x, v => ∃ b off ds, v = .pointer (some ⟨b, off, none⟩) ∧ S b ∧ Mem w b off ds ∧ RepC w S t x ds
  | .nilsl, v => ∃ a, v = .slice a 0 0
  | .own id, v => ∀ r, rows id = some r → OwnSl w γ id r.t.nc 0 r.l.length v
  | .osub id lo len, v => ∀ r, rows id = some r → lo + len ≤ r.l.length ∧ OwnSl w γ id r.t.nc lo len v
  | .optr id i p, v => ∀ r, rows id = some r → i < r.l.length ∧ ∃ b q u o, γ id = some (b, q) ∧ r.t.at p = some (u, o) ∧
      v = .pointer (some ⟨b, q + i * r.t.nc + o, none⟩)
  | .fn f caps, v => ∃ vs : List Value, v = Value.func (.func f) #[] vs.toArray ∧ vs.length = caps.length ∧
      ∀ (k id : Nat), caps[k]? = some id → ∃ u : Value, vs[k]? = some u ∧ ∀ r : Row, rows id = some r →
        ∃ b q, γ id = some (b, q) ∧ u = Value.pointer (some ⟨b, q, none⟩)
  | .und, v => v = undef
  | .vptr id _ off, v => ∀ r, rows id = some r → ∃ b q, γ id = some (b, q) ∧ v = .pointer (some ⟨b, q + off, none⟩)
  | .rfn f l, v => ∃ vs : List Value, v = Value.func (.func f) #[] vs.toArray ∧ vs.length = l.length ∧
      ∀ (k : Nat) (d : DV), l[k]? = some d → ∃ b off ds, vs[k]? = some (Value.pointer (some ⟨b, off, none⟩)) ∧ S b ∧ Mem w b off ds ∧ RepC w S d.t d.x ds
  | .bnil e n, v => ∃ c, v = .bool c ∧ (e = false → c = n)
  | .any, _ => True
  | .mref id, v => ∀ r, rows id = some r → ∃ b q, γ id = some (b, q) ∧ v = .map (some b)
  | .mp _ _, _ => False
def RepA (w : World) (S : Nat → Prop) (γ : Gam) (rows : RT) : AV → Value → Prop
  | .one s, v => RepS w S γ rows s v
  | .tup l, v => ∃ vs : List Value, v = Value.tuple vs.toArray ∧ vs.length = l.length ∧ ∀ (k : Nat) (s : SV), l[k]? = some s → ∃ u, vs[k]? = some u ∧ RepS w S γ rows s u
  | .agg t L, v => ∃ cs : List Value, v = .agg cs.toArray ∧ cs.length = t.nc ∧ (∀ u ∈ cs, u.oneCell' = true) ∧ ∀ (k : Nat) (s : SV), look L k = some s → ∃ u, cs[k]? = some u ∧ RepS w S γ rows s u
/-- A variable's cells. -/
def VarOk (w : World) (S : Nat → Prop) (γ : Gam) (rows : RT) (id : Nat) (L : List (Nat × SV)) : Prop :=
  ∃ b q, γ id = some (b, q) ∧ ∀ (k : Nat) (s : SV), look L k = some s → (∃ u, w.cell? ⟨b, q + k, none⟩ = some u ∧ RepS w S γ rows s u) ∨ ∃ f n, s = .mp f n ∧ MapAt w b f n
structure RowOk (w : World) (S : Nat → Prop) (γ : Gam) (id : Nat) (r : Row) : Prop where
  nil : γ id = none → r.l = []
  mem : ∀ b p, γ id = some (b, p) → (∃ cur e, w.heap[b]? = some (.cells cur e (0, 0)) ∧
    ∀ i x, r.l[i]? = some x → ∃ ds, Mem w b (p + i * r.t.nc) ds ∧ RepC w S r.t x ds) ∨ (r.l = [] ∧ ∃ es c, w.heap[b]? = some (.map es c))
  st : ∀ b p, γ id = some (b, p) → (r.k = .frozen ↔ S b)
theorem RowOk.lt {w : World} {S : Nat → Prop} {γ : Gam} {id : Nat} {r : Row} (h : RowOk w S γ id r) {b p : Nat} (hp : γ id = some (b, p)) : b < w.heap.size := by
  rcases h.mem b p hp with ⟨cur, e, h1, _⟩ | ⟨_, es, c, h1⟩
  · exact (Array.getElem?_eq_some_iff.1 h1).1
  · exact (Array.getElem?_eq_some_iff.1 h1).1
/-- The row's cells: of a row that holds something, or whose block has cells. -/
theorem RowOk.cells {w : World} {S : Nat → Prop} {γ : Gam} {id : Nat} {r : Row} (h : RowOk w S γ id r) {b p : Nat} (hp : γ id = some (b, p)) (hx : r.l ≠ [] ∨ ∃ n, Blk w b n) :
    ∃ cur e, w.heap[b]? = some (.cells cur e (0, 0)) ∧ ∀ i x, r.l[i]? = some x → ∃ ds, Mem w b (p + i * r.t.nc) ds ∧ RepC w S r.t x ds := by
  rcases h.mem b p hp with h1 | ⟨h1, es, c, h2⟩
  · exact h1
  · rcases hx with h3 | ⟨n, cur, e, fz, h3, _⟩
    · exact absurd h1 h3
    · rw [h2] at h3; cases h3
theorem RowOk.memS {w : World} {S S' : Nat → Prop} {γ : Gam} {id : Nat} {r : Row} (h : RowOk w S γ id r) (hS : ∀ b, S b → S' b) : ∀ b p, γ id = some (b, p) → (∃ cur e, w.heap[b]? = some (.cells cur e (0, 0)) ∧
    ∀ i x, r.l[i]? = some x → ∃ ds, Mem w b (p + i * r.t.nc) ds ∧ RepC w S' r.t x ds) ∨ (r.l = [] ∧ ∃ es c, w.heap[b]? = some (.map es c)) := by
  intro b p e
  rcases h.mem b p e with ⟨cur, t, c1, c2⟩ | h1
  · exact .inl ⟨cur, t, c1, fun i x hx => let ⟨ds, d1, d2⟩ := c2 i x hx; ⟨ds, d1, d2.mono hS (fun _ _ => rfl)⟩⟩
  · exact .inr h1
theorem RowOk.mk' {w : World} {S : Nat → Prop} {γ : Gam} {id : Nat} {r : Row} (h1 : γ id = none → r.l = []) (h2 : ∀ b p, γ id = some (b, p) → ∃ cur e, w.heap[b]? = some (.cells cur e (0, 0)) ∧
    ∀ i x, r.l[i]? = some x → ∃ ds, Mem w b (p + i * r.t.nc) ds ∧ RepC w S r.t x ds) (h3 : ∀ b p, γ id = some (b, p) → (r.k = .frozen ↔ S b)) : RowOk w S γ id r := ⟨h1, fun b p e => .inl (h2 b p e), h3⟩
structure Rel (w : World) (S : Nat → Prop) (γ : Gam) (st : ASt) (tmps : Array Value) : Prop where
  slots : ∀ i av, st.slot i = some av → ∃ v, tmps[i]? = some v ∧ RepA w S γ st.row av v
  rows : ∀ id r, st.row id = some r → RowOk w S γ id r
  inj : ∀ i j r r' b p q, st.row i = some r → st.row j = some r' → γ i = some (b, p) → γ j = some (b, q) → i = j
  lt : ∀ b, S b → b < w.heap.size
  vars : ∀ id r L, st.row id = some r → r.k = .var L → VarOk w S γ st.row id L
/-- The state in which the function was entered: the world, the blocks that nobody writes, the blocks of its own parameters, those of them that are given to it, where they lie, how long they are. -/
structure Entry where
  w : World
  S : Nat → Prop
  W : Nat → Prop
  G : Nat → Prop
  γ : Gam
  len : Nat → Nat
  /-- where the variable lies that a pointer parameter leads to -/
  vp : Option (Nat × Nat) := none
structure Fr (C : Entry) (w : World) (S : Nat → Prop) (γ : Gam) (st : ASt) : Prop where
  size : C.w.heap.size ≤ w.heap.size
  os : w.os = C.w.os
  tape : w.tape = C.w.tape
  output : w.output = C.w.output
  block : ∀ b, b < C.w.heap.size → ¬ C.W b → w.heap[b]? = C.w.heap[b]?
  blk : ∀ b n, Blk C.w b n → Blk w b n
  s1 : ∀ b, C.S b → S b
  s2 : ∀ b, S b → C.S b ∨ C.w.heap.size ≤ b ∨ C.G b
  rows : ∀ id r b p, st.row id = some r → γ id = some (b, p) → (r.k = .fixed → C.W b) ∧ (r.k ≠ .fixed → C.w.heap.size ≤ b ∨ C.G b)
  fix : ∀ id r, st.row id = some r → r.k = .fixed → r.l.length = C.len id ∧ γ id = C.γ id
  gw : ∀ b, C.G b → C.W b
  pv : ∀ id r L, st.row id = some r → r.k = .var L → r.t = svT → γ id = C.vp
structure Good (C : Entry) (w : World) (S : Nat → Prop) (γ : Gam) (st : ASt) (tmps : Array Value) : Prop where
  rel : Rel w S γ st tmps
  fr : Fr C w S γ st
theorem look_append {α : Type} (a b : List (Nat × α)) (i : Nat) : look (a ++ b) i = (look a i).or (look b i) := by
  induction a with
  | nil => simp [look]
  | cons x a ih =>
    simp only [List.cons_append, look, ih]
    cases Nat.beq x.1 i <;> simp
theorem ASt.row_upd (st : ASt) (u : Upd) (id : Nat) : (st.upd u).row id = match look u id with | some r => r | none => st.row id := by
  unfold ASt.row ASt.upd
  simp only [look_append]
  cases look u id <;> simp
@[simp] theorem ASt.slot_upd (st : ASt) (u : Upd) (i : Nat) : (st.upd u).slot i = st.slot i := rfl
@[simp] theorem ASt.row_put (st : ASt) (d : Option Nat) (v : AV) (id : Nat) : (st.put d v).row id = st.row id := by cases d <;> rfl
theorem ASt.slot_put (st : ASt) (d : Nat) (v : AV) (i : Nat) : (st.put (some d) v).slot i = if d = i then some v else st.slot i := by
  simp only [ASt.put, ASt.slot, look]
  by_cases h : d = i
  · simp [h]
  · have : Nat.beq d i = false := by
      rw [Bool.eq_false_iff]; intro e; exact h (Nat.eq_of_beq_eq_true e)
    simp [h, this]
theorem Blk.congr {w w' : World} {b n : Nat} (h : Blk w b n) (e : w'.heap[b]? = w.heap[b]?) : Blk w' b n := by
  obtain ⟨c, t, f, h1, h2⟩ := h
  exact ⟨c, t, f, e.trans h1, h2⟩
theorem OwnSl.mono {w w' : World} {γ γ' : Gam} {id nc lo len : Nat} {v : Value} (hb : ∀ b n, Blk w b n → Blk w' b n) (hg : γ' id = γ id)
    (h : OwnSl w γ id nc lo len v) : OwnSl w' γ' id nc lo len v := by
  obtain ⟨a, cap, h1, h2, h3, h4⟩ := h
  refine ⟨a, cap, h1, h2, h3, h4.imp (fun e => e) ?_⟩
  rintro ⟨b, p, e1, e2, e3⟩
  exact ⟨b, p, hg.trans e1, e2, hb _ _ e3⟩
theorem RepS.mono {w w' : World} {S S' : Nat → Prop} {γ γ' : Gam} {rows rows' : RT} (hS : ∀ b, S b → S' b) (hw : ∀ b, S b → w'.heap[b]? = w.heap[b]?)
    (hb : ∀ b n, Blk w b n → Blk w' b n) {s : SV} {v : Value}
    (hk : ∀ id ∈ s.ids, ∀ r', rows' id = some r' → ∃ r, rows id = some r ∧ r'.t = r.t ∧ r'.l.length = r.l.length ∧ γ' id = γ id)
    (h : RepS w S γ rows s v) : RepS w' S' γ' rows' s v := by
  cases s with
  | val t x => exact RepV.mono hS hw h
  | rptr t x =>
    obtain ⟨b, off, ds, h1, h2, h3, h4⟩ := h
    exact ⟨b, off, ds, h1, hS b h2, h3.congr (hw b h2), h4.mono hS hw⟩
  | nilsl => exact h
  | own id =>
    intro r' hr'
    obtain ⟨r, hr, e1, e2, e3⟩ := hk id (by simp [SV.ids]) r' hr'
    rw [e2, e1]
    exact (h r hr).mono hb e3
  | osub id lo len =>
    intro r' hr'
    obtain ⟨r, hr, e1, e2, e3⟩ := hk id (by simp [SV.ids]) r' hr'
    rw [e2, e1]
    exact ⟨(h r hr).1, (h r hr).2.mono hb e3⟩
  | optr id i p =>
    intro r' hr'
    obtain ⟨r, hr, e1, e2, e3⟩ := hk id (by simp [SV.ids]) r' hr'
    rw [e2, e1, e3]
    exact h r hr
  | fn f caps =>
    obtain ⟨vs, h1, h2, h3⟩ := h
    refine ⟨vs, h1, h2, fun k id hid => ?_⟩
    obtain ⟨u, hu, h4⟩ := h3 k id hid
    refine ⟨u, hu, fun r' hr' => ?_⟩
    obtain ⟨r, hr, e1, e2, e3⟩ := hk id (List.mem_of_getElem? hid) r' hr'
    rw [e3]
    exact h4 r hr
  | und => exact h
  | vptr id t o =>
    intro r' hr'
    obtain ⟨r, hr, e1, e2, e3⟩ := hk id (by simp [SV.ids]) r' hr'
    rw [e3]
    exact h r hr
  | rfn f l =>
    obtain ⟨vs, h1, h2, h3⟩ := h
    refine ⟨vs, h1, h2, fun k d hd => ?_⟩
    obtain ⟨b, off, ds, g1, g2, g3, g4⟩ := h3 k d hd
    exact ⟨b, off, ds, g1, hS b g2, g3.congr (hw b g2), g4.mono hS hw⟩
  | bnil e n => exact h
  | any => trivial
  | mref id =>
    intro r' hr'
    obtain ⟨r, hr, e1, e2, e3⟩ := hk id (by simp [SV.ids]) r' hr'
    rw [e3]
    exact h r hr
  | mp f n => exact h
theorem leafIds_mem {L : List (Nat × SV)} {k : Nat} {s : SV} (h : look L k = some s) {id : Nat} (hid : id ∈ s.ids) : id ∈ leafIds L := by
  induction L with
  | nil => cases h
  | cons x L ih =>
    simp only [look] at h
    simp only [leafIds, List.flatMap_cons, List.mem_append]
    cases hb : Nat.beq x.1 k with
    | true =>
      rw [hb] at h
      simp only [cond_true, Option.some.injEq] at h
      exact .inl (h ▸ hid)
    | false =>
      rw [hb] at h
      exact .inr (ih h)
theorem RepA.mono {w w' : World} {S S' : Nat → Prop} {γ γ' : Gam} {rows rows' : RT} (hS : ∀ b, S b → S' b) (hw : ∀ b, S b → w'.heap[b]? = w.heap[b]?)
    (hb : ∀ b n, Blk w b n → Blk w' b n) {a : AV} {v : Value}
    (hk : ∀ id ∈ AV.ids (some a), ∀ r', rows' id = some r' → ∃ r, rows id = some r ∧ r'.t = r.t ∧ r'.l.length = r.l.length ∧ γ' id = γ id)
    (h : RepA w S γ rows a v) : RepA w' S' γ' rows' a v := by
  cases a with
  | one s => exact RepS.mono hS hw hb hk h
  | tup l =>
    obtain ⟨vs, h1, h2, h3⟩ := h
    refine ⟨vs, h1, h2, fun k s hs => ?_⟩
    obtain ⟨u, hu, h4⟩ := h3 k s hs
    exact ⟨u, hu, RepS.mono hS hw hb (fun id hid => hk id (by
      simp only [AV.ids, List.mem_flatMap]
      exact ⟨s, List.mem_of_getElem? hs, hid⟩)) h4⟩
  | agg t L =>
    obtain ⟨cs, h1, h2, h3, h4⟩ := h
    refine ⟨cs, h1, h2, h3, fun k s hs => ?_⟩
    obtain ⟨u, hu, h5⟩ := h4 k s hs
    exact ⟨u, hu, RepS.mono hS hw hb (fun id hid => hk id (by simp only [AV.ids]; exact leafIds_mem hs hid)) h5⟩
theorem VarOk.mono {w w' : World} {S S' : Nat → Prop} {γ γ' : Gam} {rows rows' : RT} (hS : ∀ b, S b → S' b) (hw : ∀ b, S b → w'.heap[b]? = w.heap[b]?)
    (hb : ∀ b n, Blk w b n → Blk w' b n) {id : Nat} {L : List (Nat × SV)} (hg : γ' id = γ id) (hm : ∀ b q, γ id = some (b, q) → w'.heap[b]? = w.heap[b]?)
    (hk : ∀ i ∈ leafIds L, ∀ r', rows' i = some r' → ∃ r, rows i = some r ∧ r'.t = r.t ∧ r'.l.length = r.l.length ∧ γ' i = γ i)
    (h : VarOk w S γ rows id L) : VarOk w' S' γ' rows' id L := by
  obtain ⟨b, q, h1, h2⟩ := h
  refine ⟨b, q, hg.trans h1, fun k s hs => ?_⟩
  have := hm b q h1
  rcases h2 k s hs with ⟨u, hu, h3⟩ | ⟨f, n, e, h3⟩
  · refine .inl ⟨u, ?_, h3.mono hS hw hb (fun i hi => hk i (leafIds_mem hs hi))⟩
    simp only [World.cell?, this] at hu ⊢
    exact hu
  · exact .inr ⟨f, n, e, h3.congr this⟩
/-- The ids in the slots, and in the variables' cells. -/
def ASt.named (st : ASt) (id : Nat) : Prop := (∃ i av, st.slot i = some av ∧ id ∈ AV.ids (some av)) ∨ ∃ i r L, st.row i = some r ∧ r.k = .var L ∧ id ∈ leafIds L
theorem look_mem {α : Type} {l : List (Nat × α)} {i : Nat} {a : α} (h : look l i = some a) : (i, a) ∈ l := by
  induction l with
  | nil => cases h
  | cons x l ih =>
    simp only [look] at h
    cases hb : Nat.beq x.1 i with
    | true =>
      rw [hb] at h
      simp only [cond_true, Option.some.injEq] at h
      rw [← Nat.eq_of_beq_eq_true hb, ← h]
      exact List.mem_cons_self
    | false =>
      rw [hb] at h
      exact List.mem_cons_of_mem _ (ih h)
theorem ASt.row_mem {st : ASt} {id : Nat} {r : Row} (h : st.row id = some r) : (id, some r) ∈ st.rows := by
  unfold ASt.row at h
  cases hl : look st.rows id with
  | none => simp [hl] at h
  | some x =>
    rw [hl] at h
    have hx : x = some r := h
    exact hx ▸ look_mem hl
theorem ASt.row_refs {st : ASt} {id : Nat} {r : Row} (h : st.row id = some r) : id ∈ st.refs :=
  List.mem_append_right _ (List.mem_flatMap.2 ⟨(id, some r), ASt.row_mem h, by simp [rowIds]⟩)
theorem ASt.leaf_refs {st : ASt} {id i : Nat} {r : Row} {L : List (Nat × SV)} (h : st.row id = some r) (hk : r.k = .var L) (hi : i ∈ leafIds L) : i ∈ st.refs :=
  List.mem_append_right _ (List.mem_flatMap.2 ⟨(id, some r), ASt.row_mem h, by simp [rowIds, hk, hi]⟩)
theorem ASt.named_refs {st : ASt} {id : Nat} (h : st.named id) : id ∈ st.refs := by
  rcases h with ⟨i, av, h1, h2⟩ | ⟨i, r, L, h1, h2, h3⟩
  · exact List.mem_append_left _ (List.mem_flatMap.2 ⟨(i, av), look_mem h1, h2⟩)
  · exact ASt.leaf_refs h1 h2 h3
/-- From one state to the next, the slots as they are. -/
theorem Rel.step {w w' : World} {S S' : Nat → Prop} {γ γ' : Gam} {st : ASt} {tmps : Array Value} (h : Rel w S γ st tmps) (u : Upd)
    (hS : ∀ b, S b → S' b) (hw : ∀ b, S b → w'.heap[b]? = w.heap[b]?) (hlt : ∀ b, S' b → b < w'.heap.size) (hb : ∀ b n, Blk w b n → Blk w' b n)
    (hrows : ∀ id r, (st.upd u).row id = some r → RowOk w' S' γ' id r)
    (hk : ∀ id r', st.named id → (st.upd u).row id = some r' → ∃ r, st.row id = some r ∧ r'.t = r.t ∧ r'.l.length = r.l.length ∧ γ' id = γ id)
    (hinj : ∀ i j r r' b p q, (st.upd u).row i = some r → (st.upd u).row j = some r' → γ' i = some (b, p) → γ' j = some (b, q) → i = j)
    (hv : ∀ id r' L, (st.upd u).row id = some r' → r'.k = .var L → (∃ r, st.row id = some r ∧ r.k = .var L) ∧ γ' id = γ id ∧ ∀ b p, γ id = some (b, p) → w'.heap[b]? = w.heap[b]?) :
    Rel w' S' γ' (st.upd u) tmps := by
  refine ⟨fun i av hi => ?_, hrows, hinj, hlt, fun id r' L h1 h2 => ?_⟩
  · obtain ⟨v, hv, hr⟩ := h.slots i av hi
    exact ⟨v, hv, hr.mono hS hw hb (fun id hid r' hr' => hk id r' (.inl ⟨i, av, hi, hid⟩) hr')⟩
  · obtain ⟨⟨r, h3, h3'⟩, h4, h5⟩ := hv id r' L h1 h2
    exact (h.vars id r L h3 h3').mono hS hw hb h4 h5 (fun i hi r2 hr2 => hk i r2 (.inr ⟨id, r, L, h3, h3', hi⟩) hr2)
theorem Rel.put {w : World} {S : Nat → Prop} {γ : Gam} {st : ASt} {tmps : Array Value} (h : Rel w S γ st tmps) (d : Nat) (av : AV) (v : Value)
    (hd : d < tmps.size) (hv : RepA w S γ st.row av v) : Rel w S γ (st.put (some d) av) (tmps.setIfInBounds d v) := by
  refine ⟨fun i a hi => ?_, fun id r hr => h.rows id r (by simpa using hr), fun i j r r' b p q h1 h2 => h.inj i j r r' b p q (by simpa using h1) (by simpa using h2), h.lt, fun id r L h1 h2 => (show (st.put (some d) av).row = st.row from funext fun id => ASt.row_put st _ _ id) ▸ h.vars id r L (by simpa using h1) h2⟩
  have hrow : (st.put (some d) av).row = st.row := funext fun id => ASt.row_put st _ _ id
  rw [hrow]
  rw [ASt.slot_put] at hi
  rw [Array.getElem?_setIfInBounds]
  by_cases e : d = i
  · subst e
    simp only [if_true, Option.some.injEq] at hi
    subst hi
    exact ⟨v, by simp [hd], hv⟩
  · simp only [e, if_false] at hi ⊢
    exact h.slots i a hi
theorem Fr.put {C : Entry} {w : World} {S : Nat → Prop} {γ : Gam} {st : ASt} (h : Fr C w S γ st) (d : Option Nat) (av : AV) : Fr C w S γ (st.put d av) :=
  ⟨h.size, h.os, h.tape, h.output, h.block, h.blk, h.s1, h.s2, fun id r b p hr => h.rows id r b p (by simpa using hr), fun id r hr => h.fix id r (by simpa using hr), h.gw, fun id r L hr => h.pv id r L (by simpa using hr)⟩
theorem RowOk.mono {w w' : World} {S S' : Nat → Prop} {γ γ' : Gam} {id : Nat} {r : Row} (h : RowOk w S γ id r)
    (hS : ∀ b, S b → S' b) (hw : ∀ b, S b → w'.heap[b]? = w.heap[b]?) (hg : γ' id = γ id)
    (hb : ∀ b p, γ id = some (b, p) → w'.heap[b]? = w.heap[b]?) (hs : ∀ b p, γ id = some (b, p) → S' b → S b) : RowOk w' S' γ' id r := by
  refine ⟨fun e => h.nil (hg ▸ e), fun b p e => ?_, fun b p e => ?_⟩
  · rw [hg] at e
    rcases h.mem b p e with ⟨cur, t, h1, h2⟩ | ⟨h1, es, c, h2⟩
    · refine .inl ⟨cur, t, (hb b p e).trans h1, fun i x hx => ?_⟩
      obtain ⟨ds, h3, h4⟩ := h2 i x hx
      exact ⟨ds, h3.congr (hb b p e), h4.mono hS hw⟩
    · exact .inr ⟨h1, es, c, (hb b p e).trans h2⟩
  · rw [hg] at e
    rw [h.st b p e]
    exact ⟨hS b, hs b p e⟩
def zeroC : Ty → List Value
  | .int k => [.int k 0]
  | .bool => [.bool false]
  | .str => [.string ⟨#[]⟩]
  | .sl _ => [.slice none 0 0]
  | .unit => []
  | .fnc => [.nilFunc]
  | .pair a b => zeroC a ++ zeroC b
theorem wf_zero (k : IntKind) : (Lit.int k 0).wf = true := by cases k <;> decide
theorem zeroC_rep (w : World) (S : Nat → Prop) : ∀ t : Ty, RepC w S t t.zero (zeroC t) := by
  intro t
  induction t with
  | int k => exact ⟨rfl, wf_zero k⟩
  | bool => rfl
  | str => exact ⟨⟨#[]⟩, rfl, rfl, by simp [Ty.zero]⟩
  | sl t _ => exact ⟨none, 0, rfl, Nat.le_refl _, by simp, fun i x hx => by simp [Ty.zero] at hx⟩
  | unit => rfl
  | fnc => exact ⟨_, rfl, rfl⟩
  | pair a b iha ihb => exact ⟨_, _, rfl, iha, ihb⟩
structure InfoOk (P : Program) (τ : Ty) (t : TypeId) : Prop where
  info : ∃ i, P.info? t = some i ∧ i.size = τ.nc ∧ i.zero = some (pack τ (zeroC τ))
mutual
def TyOk (P : Program) : Ty → TypeId → Prop
  | .int k, t => P.underlying t = some (.int k) ∧ InfoOk P (.int k) t
  | .bool, t => P.underlying t = some .bool ∧ InfoOk P .bool t
  | .str, t => P.underlying t = some .string ∧ InfoOk P .str t
  | .sl u, t => (∃ e, P.underlying t = some (.slice e) ∧ TyOk P u e) ∧ InfoOk P (.sl u) t
  | .fnc, t => (∃ ps rs v, P.underlying t = some (.func ps rs v)) ∧ InfoOk P .fnc t
  | .unit, t => (∃ fs, P.underlying t = some (.struct fs) ∧ fs.toList = [] ∧ P.stoodInHeld t = false) ∧ InfoOk P .unit t
  | .pair a b, t => (∃ fs f r, P.underlying t = some (.struct fs) ∧ fs.toList = f :: r ∧ f.offset = 0 ∧ TyOk P a f.type ∧ FsOk P b r a.nc ∧
      f.name ≠ "_" ∧ P.stoodInHeld t = false ∧ P.eqGuardType P.depth t = false) ∧ InfoOk P (.pair a b) t
def FsOk (P : Program) : Ty → List Field → Nat → Prop
  | .unit, l, _ => l = []
  | .pair a b, l, o => ∃ f r, l = f :: r ∧ f.offset = o ∧ TyOk P a f.type ∧ FsOk P b r (o + a.nc) ∧ f.name ≠ "_"
  | _, _, _ => False
end
/-- An array type of n integers. -/
def ArrT (P : Program) (t : TypeId) (q : IntKind) (n : Nat) : Prop := ∃ e, P.underlying t = some (.array n e) ∧ TyOk P (.int q) e ∧ P.cellsOf t = n
/-- What a type is that is no plain one: a map, an array. -/
def SpecT (P : Program) (t : TypeId) : Ty → Nat → Prop
  | .unit, k => MapT P t k
  | .int q, n => ArrT P t q n
  | _, _ => False
theorem powI_comp {q : IntKind} : ∀ {n k : Nat}, k < n → (powI q n).comp k = some (.int q, k) := by
  intro n
  induction n with
  | zero => intro k h; cases h
  | succ n ih =>
    intro k h
    cases k with
    | zero => rfl
    | succ k =>
      simp only [powI, Ty.comp, ih (Nat.lt_of_succ_lt_succ h), Ty.nc]
      rw [Nat.add_comm]
theorem TyOk.ne_sv {P : Program} {τ : Ty} {t : TypeId} (h : TyOk P τ t) : τ ≠ svT := by
  rintro rfl
  obtain ⟨⟨_, _, _, _, _, _, _, h1, _⟩, _⟩ := h
  exact h1
theorem TyOk.info {P : Program} {τ : Ty} {t : TypeId} (h : TyOk P τ t) : InfoOk P τ t := by
  cases τ <;> exact h.2
/-- The field of a struct type. -/
theorem FsOk.field {P : Program} : ∀ {τ : Ty} {l : List Field} {o : Nat} {f : Nat} {u : Ty} {q : Nat}, FsOk P τ l o → τ.comp f = some (u, q) →
    ∃ fd, l[f]? = some fd ∧ fd.offset = o + q ∧ TyOk P u fd.type := by
  intro τ
  induction τ with
  | pair a b _ ihb =>
    intro l o f u q h hc
    obtain ⟨fd, r, rfl, h1, h2, h3, _⟩ := h
    cases f with
    | zero =>
      simp only [Ty.comp, Option.some.injEq, Prod.mk.injEq] at hc
      obtain ⟨rfl, rfl⟩ := hc
      exact ⟨fd, rfl, by simpa using h1, h2⟩
    | succ n =>
      simp only [Ty.comp] at hc
      split at hc
      · rename_i t o' hb
        simp only [Option.some.injEq, Prod.mk.injEq] at hc
        obtain ⟨rfl, rfl⟩ := hc
        obtain ⟨fd', h4, h5, h6⟩ := ihb h3 hb
        exact ⟨fd', h4, by omega, h6⟩
      · cases hc
  | _ => intro l o f u q _ hc; simp [Ty.comp] at hc
theorem TyOk.struct {P : Program} {τ : Ty} {t : TypeId} {f : Nat} {u : Ty} {q : Nat} (h : TyOk P τ t) (hc : τ.comp f = some (u, q)) :
    ∃ fs fd, P.underlying t = some (.struct fs) ∧ fs[f]? = some fd ∧ fd.offset = q ∧ TyOk P u fd.type := by
  cases τ with
  | pair a b =>
    obtain ⟨⟨fs, f0, r, h1, h2, h3, h4, h5, h5', _⟩, _⟩ := h
    have h6 : FsOk P (.pair a b) fs.toList 0 := ⟨f0, r, h2, h3, h4, by simpa using h5, h5'⟩
    obtain ⟨fd, h7, h8, h9⟩ := h6.field hc
    exact ⟨fs, fd, h1, by simpa using h7, by simpa using h8, h9⟩
  | _ => simp [Ty.comp] at hc
theorem TyOk.agg {P : Program} {τ : Ty} {t : TypeId} (h : TyOk P τ t) (ha : τ.isAgg = true) : ∃ fs, P.underlying t = some (.struct fs) := by
  cases τ with
  | unit => obtain ⟨⟨fs, h1, _⟩, _⟩ := h; exact ⟨fs, h1⟩
  | pair a b => obtain ⟨⟨fs, _, _, h1, _⟩, _⟩ := h; exact ⟨fs, h1⟩
  | _ => simp [Ty.isAgg] at ha
theorem run_isAgg' {P : Program} {τ : Ty} {t : TypeId} (h : TyOk P τ t) (w : World) : (isAgg t).run P w = .ok τ.isAgg w := by
  unfold isAgg
  cases τ with
  | int k => simp [run_underlying h.1, Ty.isAgg]
  | bool => simp [run_underlying h.1, Ty.isAgg]
  | str => simp [run_underlying h.1, Ty.isAgg]
  | sl u => obtain ⟨⟨e, h1, _⟩, _⟩ := h; simp [run_underlying h1, Ty.isAgg]
  | unit => obtain ⟨⟨fs, h1, _⟩, _⟩ := h; simp [run_underlying h1, Ty.isAgg]
  | fnc => obtain ⟨⟨_, _, _, h1⟩, _⟩ := h; simp [run_underlying h1, Ty.isAgg]
  | pair a b => obtain ⟨⟨fs, _, _, h1, _⟩, _⟩ := h; simp [run_underlying h1, Ty.isAgg]
theorem run_sizeOf' {P : Program} {τ : Ty} {t : TypeId} (h : TyOk P τ t) (w : World) : (sizeOf t).run P w = .ok τ.nc w := by
  obtain ⟨i, h1, h2, _⟩ := h.info.info
  simp [sizeOf, typeInfo, h1, h2]
theorem run_zeroValue' {P : Program} {τ : Ty} {t : TypeId} (h : TyOk P τ t) (w : World) : (zeroValue t).run P w = .ok (pack τ (zeroC τ)) w := by
  obtain ⟨i, h1, _, h3⟩ := h.info.info
  simp [zeroValue, typeInfo, h1, h3]
theorem nc_one {τ : Ty} (h : τ.isAgg = false) : τ.nc = 1 := by cases τ <;> simp_all [Ty.isAgg, Ty.nc]
theorem run_loadVar' {P : Program} {τ : Ty} {t : TypeId} (h : TyOk P τ t) {w : World} {S : Nat → Prop} {b off : Nat} {x : τ.den} {ds : List Value}
    (hm : Mem w b off ds) (hr : RepC w S τ x ds) : (loadVar t ⟨b, off, none⟩).run P w = .ok (pack τ ds) w := by
  cases ha : τ.isAgg with
  | true =>
    obtain ⟨fs, hf⟩ := h.agg ha
    obtain ⟨i, h1, h2, _⟩ := h.info.info
    rw [run_loadVar_mid w b off t ds (.struct fs) hm hf rfl (by simp [h1, h2, hr.length])]
    simp [pack, ha]
  | false =>
    have hl := hr.length
    rw [nc_one ha] at hl
    match ds, hl with
    | [v], _ =>
      have hv := hm 0 v rfl
      simp only [Nat.add_zero] at hv
      unfold loadVar
      simp [Sem.run_bind, run_isAgg' h, ha, hv, pack]
theorem run_storeVar' {P : Program} {τ : Ty} {t : TypeId} (h : TyOk P τ t) {w : World} {S : Nat → Prop} {b off : Nat} {x : τ.den} {v : Value}
    (hv : RepV w S τ x v) (ht : w.there b off τ.nc) : (storeVar t ⟨b, off, none⟩ v).run P w = .ok () (w.setCells b off v.cells.toList) := by
  have hc := hv.cells
  have hl := hc.length
  have := run_storeCells_cells (P := P) b off v.cells.toList 0 w (fun j hj => by simpa using (ht j (by rw [← hl]; simpa using hj)).1) (fun j hj => by simpa using (ht j (by rw [← hl]; simpa using hj)).2)
    (fun u hu => hc.one u hu)
  have hs : v.cells.size = τ.nc := by simpa using hl
  simp only [Nat.add_zero] at this
  simp [storeVar, run_sizeOf' h, hs, this]
theorem getF_comp : ∀ {t : Ty} {x : t.den} {f : Nat} {d : DV}, getF t x f = some d → ∃ o, t.comp f = some (d.t, o) := by
  intro t
  induction t with
  | pair a b _ ihb =>
    intro x f d h
    cases f with
    | zero => simp only [getF, Option.some.injEq] at h; subst h; exact ⟨0, rfl⟩
    | succ n =>
      simp only [getF] at h
      obtain ⟨o, ho⟩ := ihb h
      exact ⟨a.nc + o, by simp [Ty.comp, ho]⟩
  | _ => intro x f d h; simp [getF] at h
theorem Mem.append {w : World} {b off : Nat} {c1 c2 : List Value} (h : Mem w b off (c1 ++ c2)) : Mem w b off c1 ∧ Mem w b (off + c1.length) c2 := by
  refine ⟨fun j v hj => h j v ?_, fun j v hj => ?_⟩
  · rw [List.getElem?_append_left (List.getElem?_eq_some_iff.1 hj).1]; exact hj
  · have := h (c1.length + j) v (by rw [List.getElem?_append_right (by omega)]; simpa using hj)
    rwa [← Nat.add_assoc] at this
theorem Mem.join {w : World} {b off : Nat} {c1 c2 : List Value} (h1 : Mem w b off c1) (h2 : Mem w b (off + c1.length) c2) : Mem w b off (c1 ++ c2) := by
  intro j v hj
  by_cases h : j < c1.length
  · rw [List.getElem?_append_left h] at hj; exact h1 j v hj
  · rw [List.getElem?_append_right (by omega)] at hj
    have := h2 (j - c1.length) v hj
    rwa [show off + c1.length + (j - c1.length) = off + j by omega] at this
theorem getF_rep {w : World} {S : Nat → Prop} {b : Nat} : ∀ {t : Ty} {x : t.den} {f : Nat} {d : DV} {o : Nat} {off : Nat} {ds : List Value},
    getF t x f = some d → t.comp f = some (d.t, o) → Mem w b off ds → RepC w S t x ds → ∃ es, Mem w b (off + o) es ∧ RepC w S d.t d.x es := by
  intro t
  induction t with
  | pair a c _ ihb =>
    intro x f d o off ds h hc hm hr
    obtain ⟨c1, c2, rfl, h1, h2⟩ := hr
    obtain ⟨m1, m2⟩ := hm.append
    cases f with
    | zero =>
      simp only [getF, Option.some.injEq] at h
      subst h
      simp only [Ty.comp, Option.some.injEq, Prod.mk.injEq, true_and] at hc
      subst hc
      exact ⟨c1, by simpa using m1, h1⟩
    | succ n =>
      simp only [getF] at h
      simp only [Ty.comp] at hc
      split at hc
      · rename_i t' o' hb
        simp only [Option.some.injEq, Prod.mk.injEq] at hc
        obtain ⟨rfl, rfl⟩ := hc
        obtain ⟨es, e1, e2⟩ := ihb h hb m2 h2
        rw [h1.length] at e1
        exact ⟨es, by rwa [← Nat.add_assoc], e2⟩
      · cases hc
  | _ => intro x f d o off ds h; simp [getF] at h
theorem getP_rep {w : World} {S : Nat → Prop} {b : Nat} : ∀ (p : List Nat) {t : Ty} {x : t.den} {d : DV} {off : Nat} {ds : List Value},
    getP t x p = some d → Mem w b off ds → RepC w S t x ds → ∃ o es, t.at p = some (d.t, o) ∧ Mem w b (off + o) es ∧ RepC w S d.t d.x es := by
  intro p
  induction p with
  | nil =>
    intro t x d off ds h hm hr
    simp only [getP, Option.some.injEq] at h
    subst h
    exact ⟨0, ds, rfl, by simpa using hm, hr⟩
  | cons f p ih =>
    intro t x d off ds h hm hr
    simp only [getP] at h
    split at h
    · rename_i e he
      obtain ⟨o, ho⟩ := getF_comp he
      obtain ⟨es, e1, e2⟩ := getF_rep he ho hm hr
      obtain ⟨o', es', h1, h2, h3⟩ := ih h e1 e2
      exact ⟨o + o', es', by simp [Ty.at, ho, h1], by rwa [← Nat.add_assoc], h3⟩
    · cases h
theorem comp_le : ∀ {t : Ty} {f : Nat} {u : Ty} {o : Nat}, t.comp f = some (u, o) → o + u.nc ≤ t.nc := by
  intro t
  induction t with
  | pair a b _ ihb =>
    intro f u o h
    cases f with
    | zero => simp only [Ty.comp, Option.some.injEq, Prod.mk.injEq] at h; obtain ⟨rfl, rfl⟩ := h; simp [Ty.nc]
    | succ n =>
      simp only [Ty.comp] at h
      split at h
      · rename_i t' o' hb
        simp only [Option.some.injEq, Prod.mk.injEq] at h
        obtain ⟨rfl, rfl⟩ := h
        have := ihb hb
        simp only [Ty.nc]; omega
      · cases h
  | _ => intro f u o h; simp [Ty.comp] at h
theorem at_le : ∀ (p : List Nat) {t u : Ty} {o : Nat}, t.at p = some (u, o) → o + u.nc ≤ t.nc := by
  intro p
  induction p with
  | nil => intro t u o h; simp only [Ty.at, Option.some.injEq, Prod.mk.injEq] at h; obtain ⟨rfl, rfl⟩ := h; simp
  | cons f p ih =>
    intro t u o h
    simp only [Ty.at] at h
    split at h
    · rename_i u' o' hc
      split at h
      · rename_i v o'' ha
        simp only [Option.some.injEq, Prod.mk.injEq] at h
        obtain ⟨rfl, rfl⟩ := h
        have h1 := comp_le hc
        have h2 := ih ha
        omega
      · cases h
    · cases h
/-- Cells with a piece replaced. -/
def patch (cs : List Value) (o : Nat) (es : List Value) : List Value := cs.take o ++ es ++ cs.drop (o + es.length)
theorem setF_rep {w : World} {S : Nat → Prop} : ∀ {t : Ty} {x y : t.den} {f : Nat} {d : DV} {o : Nat} {cs es : List Value},
    setF t x f d = some y → t.comp f = some (d.t, o) → RepC w S t x cs → RepC w S d.t d.x es → RepC w S t y (patch cs o es) := by
  intro t
  induction t with
  | pair a c _ ihb =>
    intro x y f d o cs es h hc hr he
    obtain ⟨c1, c2, rfl, h1, h2⟩ := hr
    have l1 := h1.length
    have le := he.length
    cases f with
    | zero =>
      simp only [Ty.comp, Option.some.injEq, Prod.mk.injEq] at hc
      obtain ⟨e1, rfl⟩ := hc
      simp only [setF] at h
      split at h
      · rename_i z hz
        simp only [Option.some.injEq] at h
        subst h
        obtain ⟨e2, hz'⟩ := castTy_some hz
        subst hz'
        refine ⟨es, c2, ?_, ?_, h2⟩
        · have : es.length = c1.length := by rw [le, l1, e1]
          simp [patch, this]
        · cases d with
          | mk dt dx => simp only at e2; subst e2; exact he
      · cases h
    | succ n =>
      simp only [setF] at h
      simp only [Ty.comp] at hc
      split at h
      · rename_i z hz
        simp only [Option.some.injEq] at h
        subst h
        split at hc
        · rename_i t' o' hb
          simp only [Option.some.injEq, Prod.mk.injEq] at hc
          obtain ⟨rfl, rfl⟩ := hc
          refine ⟨c1, patch c2 o' es, ?_, h1, ihb hz hb h2 he⟩
          have e1 : (c1 ++ c2).take (a.nc + o') = c1 ++ c2.take o' := by
            rw [List.take_append, l1, List.take_of_length_le (by omega)]; congr 2; omega
          have e2 : (c1 ++ c2).drop (a.nc + o' + es.length) = c2.drop (o' + es.length) := by
            rw [List.drop_append, l1, List.drop_of_length_le (by omega)]
            simp only [List.nil_append]; congr 1; omega
          simp only [patch, e1, e2, List.append_assoc]
        · cases hc
      · cases h
  | _ => intro x y f d o cs es h; simp [setF] at h
theorem RepC.part {w : World} {S : Nat → Prop} : ∀ {t : Ty} {x : t.den} {f : Nat} {d : DV} {o : Nat} {cs : List Value},
    getF t x f = some d → t.comp f = some (d.t, o) → RepC w S t x cs → RepC w S d.t d.x ((cs.drop o).take d.t.nc) := by
  intro t
  induction t with
  | pair a c _ ihb =>
    intro x f d o cs h hc hr
    obtain ⟨c1, c2, rfl, h1, h2⟩ := hr
    have l1 := h1.length
    cases f with
    | zero =>
      simp only [getF, Option.some.injEq] at h
      subst h
      simp only [Ty.comp, Option.some.injEq, Prod.mk.injEq, true_and] at hc
      subst hc
      simpa [← l1] using h1
    | succ n =>
      simp only [getF] at h
      simp only [Ty.comp] at hc
      split at hc
      · rename_i t' o' hb
        simp only [Option.some.injEq, Prod.mk.injEq] at hc
        obtain ⟨rfl, rfl⟩ := hc
        have := ihb h hb h2
        rw [List.drop_append, l1, List.drop_of_length_le (by omega)]
        simpa using this
      · cases hc
  | _ => intro x f d o cs h; simp [getF] at h
theorem patch_left {A B es : List Value} {o : Nat} : patch (A ++ B) (A.length + o) es = A ++ patch B o es := by
  simp only [patch]
  rw [List.take_append, List.drop_append, List.take_of_length_le (by omega), List.drop_of_length_le (by omega : A.length ≤ A.length + o + es.length)]
  simp only [List.nil_append, List.append_assoc]
  rw [show A.length + o - A.length = o by omega, show A.length + o + es.length - A.length = o + es.length by omega]
theorem patch_right {B C es : List Value} {o : Nat} (h : o + es.length ≤ B.length) : patch (B ++ C) o es = patch B o es ++ C := by
  simp only [patch]
  rw [List.take_append_of_le_length (by omega), List.drop_append_of_le_length (by omega)]
  simp only [List.append_assoc]
theorem patch_length {cs es : List Value} {o : Nat} (h : o + es.length ≤ cs.length) : (patch cs o es).length = cs.length := by
  simp only [patch, List.length_append, List.length_take, List.length_drop]; omega
theorem patch_part {cs fs : List Value} {o o' n : Nat} (h : o + n ≤ cs.length) (hf : o' + fs.length ≤ n) :
    patch cs o (patch ((cs.drop o).take n) o' fs) = patch cs (o + o') fs := by
  have hl : ((cs.drop o).take n).length = n := by simp only [List.length_take, List.length_drop]; omega
  have hA : (cs.take o).length = o := by simp only [List.length_take]; omega
  have e : cs = cs.take o ++ ((cs.drop o).take n ++ cs.drop (o + n)) := by
    rw [← List.drop_drop, List.take_append_drop, List.take_append_drop]
  generalize hB : (cs.drop o).take n = B at *
  generalize cs.take o = A at *
  generalize cs.drop (o + n) = D at *
  have e1 : patch cs o (patch B o' fs) = A ++ (patch B o' fs ++ D) := by
    have := patch_left (A := A) (B := B ++ D) (o := 0) (es := patch B o' fs)
    rw [hA, Nat.add_zero, ← e] at this
    rw [this]
    have hp := patch_length (cs := B) (o := o') (es := fs) (by omega)
    simp [patch] at hp ⊢
    simp only [hp, List.drop_append, List.drop_of_length_le, Nat.le_refl]
    simp
  have e2 : patch cs (o + o') fs = A ++ (patch B o' fs ++ D) := by
    have := patch_left (A := A) (B := B ++ D) (o := o') (es := fs)
    rw [hA, ← e, patch_right (by omega)] at this
    exact this
  rw [e1, e2]
theorem setP_rep {w : World} {S : Nat → Prop} : ∀ (p : List Nat) {t : Ty} {x y : t.den} {d : DV} {o : Nat} {cs es : List Value},
    setP t x p d = some y → t.at p = some (d.t, o) → RepC w S t x cs → RepC w S d.t d.x es → RepC w S t y (patch cs o es) := by
  intro p
  induction p with
  | nil =>
    intro t x y d o cs es h ha hr he
    simp only [Ty.at, Option.some.injEq, Prod.mk.injEq] at ha
    obtain ⟨e, rfl⟩ := ha
    simp only [setP] at h
    obtain ⟨e2, h2⟩ := castTy_some h
    have l1 := hr.length
    have l2 := he.length
    have : patch cs 0 es = es := by
      simp only [patch, List.take_zero, List.nil_append, Nat.zero_add]
      rw [List.drop_of_length_le (by rw [l1, l2, e]; exact Nat.le_refl _)]
      simp
    rw [this]
    cases d with
    | mk dt dx => simp only at e2 he h2; subst e2; simp only at h2; subst h2; exact he
  | cons f p ih =>
    intro t x y d o cs es h ha hr he
    simp only [setP] at h
    split at h
    · rename_i e hf
      split at h
      · rename_i z hz
        obtain ⟨o1, ho1⟩ := getF_comp hf
        simp only [Ty.at, ho1] at ha
        split at ha
        · rename_i v o2 ha2
          simp only [Option.some.injEq, Prod.mk.injEq] at ha
          obtain ⟨rfl, rfl⟩ := ha
          have hp := hr.part hf ho1
          have h3 := ih hz ha2 hp he
          have h4 := setF_rep h (d := ⟨e.t, z⟩) ho1 hr h3
          have l1 := hr.length
          have l2 := he.length
          have b1 := comp_le ho1
          have b2 := at_le p ha2
          rw [patch_part (by omega) (by omega)] at h4
          exact h4
        · cases ha
      · cases h
    · cases h
end Go.Lift
namespace Go.Lift
open Go
variable {P : Program} {E : Env}
structure TtOk (P : Program) (tt : List (Nat × TI)) : Prop where
  ty : ∀ t τ eb, look tt t = some ⟨τ, eb, false⟩ → TyOk P τ t
  el : ∀ t u eb e, look tt t = some ⟨.sl u, eb, false⟩ → P.underlying t = some (.slice e) → 0 < eb ∧ P.bytesOf e = eb
  mp : ∀ t τ k, look tt t = some ⟨τ, k, true⟩ → SpecT P t τ k
theorem TtOk.at (h : TtOk P E.tt) {t : Nat} {τ : Ty} (ht : E.ty t = some τ) : TyOk P τ t := by
  unfold Env.ty at ht
  split at ht
  · rename_i τ' eb hl
    cases ht
    exact h.ty t _ eb hl
  · cases ht
theorem TtOk.map (h : TtOk P E.tt) {t k : Nat} (ht : E.mapKey t = some k) : MapT P t k := by
  unfold Env.mapKey at ht
  split at ht
  · rename_i k' hl
    cases ht
    exact h.mp t .unit _ hl
  · cases ht
theorem TtOk.arr (h : TtOk P E.tt) {t n : Nat} {q : IntKind} (ht : E.arr t = some (q, n)) : ArrT P t q n := by
  unfold Env.arr at ht
  split at ht
  · rename_i q' n' hl
    cases ht
    exact h.mp t (.int q) _ hl
  · cases ht
/-- The operation comes to a value, and to a world, of which R holds. -/
def OpRes (P : Program) (o : Oper) (a : Act) (w : World) (R : Value → World → Prop) : Prop :=
  (∃ v w', (execOp a.eval o).run P w = .ok (.value v) w' ∧ R v w') ∨
  (∃ w', (execOp a.eval o).run P w = .ok .skip w' ∧ R undef w') ∨
  (∃ f args w', (execOp a.eval o).run P w = .ok (.enter f args) w' ∧ Calls P f args w' fun e w'' => ∃ v, e = .returned v ∧ R v w'')
theorem OpRes.wp {o : Oper} {a : Act} {w : World} {R : Value → World → Prop} {next : Act → World → Prop} {Q : Exit → Act → World → Prop}
    (h : OpRes P o a w R) (hn : ∀ v w', R v w' → next (a.put o.dst v) w') : o.wp P a w next Q := by
  unfold Oper.wp
  rcases h with ⟨v, w', h1, h2⟩ | ⟨w', h1, h2⟩ | ⟨f, args, w', h1, h2⟩
  · rw [h1]; exact hn _ _ h2
  · rw [h1]; exact hn _ _ h2
  · rw [h1]
    refine Calls.mono h2 ?_
    rintro e w'' ⟨v, rfl, hr⟩
    exact hn _ _ hr
/-- Behind an operation. -/
def After (C : Entry) (st : ASt) (u : Upd) (v : AV) (tmps : Array Value) (val : Value) (w' : World) : Prop :=
  ∃ S' γ', Good C w' S' γ' (st.upd u) tmps ∧ RepA w' S' γ' (st.upd u).row v val
section
variable {C : Entry} {w : World} {S : Nat → Prop} {γ : Gam} {st : ASt} {a : Act}
theorem constAV_rep {v : Value} {av : AV} {R : RT} (h : constAV v = some av) : RepA w S γ R av v := by
  unfold constAV at h
  split at h
  · split at h
    · rename_i k n hw
      cases h
      exact ⟨[.int k n], ⟨rfl, hw⟩, rfl⟩
    · cases h
  · cases h; exact ⟨[_], rfl, rfl⟩
  · split at h
    · rename_i s hl
      cases h
      exact ⟨[.string s], ⟨s, rfl, rfl, hl⟩, rfl⟩
    · cases h
  · cases h; exact ⟨none, rfl⟩
  · cases h; trivial
  · cases h
theorem ev_rep (h : Rel w S γ st a.tmps) {x : Operand} {av : AV} (hx : st.ev x = some av) : RepA w S γ st.row av (a.eval x) := by
  cases x with
  | tmp t =>
    obtain ⟨v, hv, hr⟩ := h.slots t av hx
    simp only [Act.eval, Array.getD_eq_getD_getElem?, hv, Option.getD_some]
    exact hr
  | const v => exact constAV_rep hx
  | global g => cases hx
  | func f =>
    simp only [ASt.ev, Option.some.injEq] at hx
    subst hx
    exact ⟨[], rfl, rfl, fun k id hid => by simp at hid⟩
theorem rowsOf_sub {ids : List Nat} {id : Nat} {r : Row} (h : rowsOf st ids id = some r) : st.row id = some r := by
  unfold rowsOf at h
  cases hb : ids.elem id <;> simp_all
theorem res_same {o : Oper} {av : AV} {v : Value} (hg : Good C w S γ st a.tmps)
    (hrun : (execOp a.eval o).run P w = .ok (.value v) w) (hr : RepA w S γ st.row av v) : OpRes P o a w (After C st [] av a.tmps) :=
  .inl ⟨v, w, hrun, S, γ, hg, hr⟩
theorem Good.same {st' : ASt} {tmps : Array Value} (hg : Good C w S γ st tmps) (h1 : ∀ i, st'.slot i = st.slot i) (h2 : ∀ id, st'.row id = st.row id) : Good C w S γ st' tmps := by
  have hr : st'.row = st.row := funext h2
  refine ⟨⟨fun i av hi => ?_, fun id r h => hg.rel.rows id r (by rw [← h2]; exact h), fun i j r r' b p q e1 e2 => hg.rel.inj i j r r' b p q (by rw [← h2]; exact e1) (by rw [← h2]; exact e2), hg.rel.lt, fun id r L e1 e2 => ?_⟩,
    ⟨hg.fr.size, hg.fr.os, hg.fr.tape, hg.fr.output, hg.fr.block, hg.fr.blk, hg.fr.s1, hg.fr.s2, fun id r b p e1 => hg.fr.rows id r b p (by rw [← h2]; exact e1), fun id r e1 => hg.fr.fix id r (by rw [← h2]; exact e1), hg.fr.gw, fun id r L e1 => hg.fr.pv id r L (by rw [← h2]; exact e1)⟩⟩
  · rw [hr]
    exact hg.rel.slots i av (by rw [← h1]; exact hi)
  · rw [hr]
    exact hg.rel.vars id r L (by rw [← h2]; exact e1) e2
/-- The blocks that nobody writes, once the rows 'ids' are frozen. -/
def SU (S : Nat → Prop) (γ : Gam) (ids : List Nat) : Nat → Prop := fun b => S b ∨ ∃ id ∈ ids, ∃ p, γ id = some (b, p)
theorem SU_sub {ids : List Nat} : ∀ b, S b → SU S γ ids b := fun _ h => .inl h
theorem sl_of_row {R : RT} {id : Nat} {r : Row} (hrow : RowOk w S γ id r) {lo len : Nat} {v : Value} (hlen : lo + len ≤ r.l.length) (h : OwnSl w γ id r.t.nc lo len v) (_ : R id = some r)
    {ids : List Nat} (hid : id ∈ ids) : RepV w (SU S γ ids) (.sl r.t) ((r.l.drop lo).take len) v := by
  obtain ⟨a, cap, rfl, h2, h3, h4⟩ := h
  have hl : ((r.l.drop lo).take len).length = len := by simp only [List.length_take, List.length_drop]; omega
  refine ⟨[.slice a len cap], ⟨a, cap, by rw [hl], by omega, h3, fun i x hx => ?_⟩, rfl⟩
  have hi : i < len := by have := (List.getElem?_eq_some_iff.1 hx).1; omega
  rcases h4 with h4 | ⟨b, p, e1, e2, e3⟩
  · omega
  · rw [List.getElem?_take_of_lt hi, List.getElem?_drop] at hx
    obtain ⟨cur, e, c1, c2⟩ := hrow.cells e1 (.inl (fun e => by rw [e] at hx; simp at hx))
    obtain ⟨ds, d1, d2⟩ := c2 (lo + i) x hx
    refine ⟨b, _, ds, e2, .inr ⟨id, hid, p, e1⟩, ?_, d2.mono SU_sub (fun _ _ => rfl)⟩
    rw [Nat.add_mul, ← Nat.add_assoc] at d1
    exact d1
theorem toPure_rep (hrow : ∀ id r, st.row id = some r → RowOk w S γ id r) {rows : RT} (hsub : ∀ id r, rows id = some r → st.row id = some r)
    {t : Ty} {s : SV} {x : t.den} {ids : List Nat} {v : Value} (h : toPure rows t s = some (x, ids)) (hv : RepS w S γ st.row s v) :
    RepV w (SU S γ ids) t x v := by
  cases s with
  | val t' y =>
    simp only [toPure] at h
    split at h
    · rename_i z hz
      simp only [Option.some.injEq, Prod.mk.injEq] at h
      obtain ⟨rfl, rfl⟩ := h
      obtain ⟨e, he⟩ := castTy_some hz
      subst e
      simp only at he
      subst he
      exact RepV.mono SU_sub (fun _ _ => rfl) hv
    · cases h
  | nilsl =>
    simp only [toPure] at h
    split at h
    · rename_i u
      simp only [Option.some.injEq, Prod.mk.injEq] at h
      obtain ⟨rfl, rfl⟩ := h
      obtain ⟨a, rfl⟩ := hv
      exact ⟨[.slice a 0 0], ⟨a, 0, rfl, Nat.le_refl _, by simp, fun i x hx => by simp at hx⟩, rfl⟩
    · cases h
  | own id =>
    simp only [toPure] at h
    split at h
    · rename_i r hr
      split at h
      · rename_i z hz
        simp only [Option.some.injEq, Prod.mk.injEq] at h
        obtain ⟨rfl, rfl⟩ := h
        obtain ⟨e, he⟩ := castTy_some hz
        subst e
        simp only at he
        subst he
        have h1 := hv r (hsub _ _ hr)
        have := sl_of_row (R := rows) (hrow id r (hsub _ _ hr)) (by simp) h1 hr (ids := [id]) (by simp)
        simpa using this
      · cases h
    · cases h
  | osub id lo len =>
    simp only [toPure] at h
    split at h
    · rename_i r hr
      split at h
      · rename_i z hz
        simp only [Option.some.injEq, Prod.mk.injEq] at h
        obtain ⟨rfl, rfl⟩ := h
        obtain ⟨e, he⟩ := castTy_some hz
        subst e
        simp only at he
        subst he
        obtain ⟨h1, h2⟩ := hv r (hsub _ _ hr)
        exact sl_of_row (R := rows) (hrow id r (hsub _ _ hr)) h1 h2 hr (ids := [id]) (by simp)
      · cases h
    · cases h
  | rptr t' y => simp [toPure] at h
  | optr id i p => simp [toPure] at h
  | fn f c => simp [toPure] at h
  | und => simp [toPure] at h
  | vptr id t o => simp [toPure] at h
  | rfn f l => simp [toPure] at h
  | bnil e n => simp [toPure] at h
  | any => simp [toPure] at h
  | mref id => simp [toPure] at h
  | mp f n => simp [toPure] at h
theorem freeze_look {rows : RT} : ∀ {ids : List Nat} {fr : Upd}, freeze rows ids = some fr →
    (∀ id x, look fr id = some x → ∃ r, rows id = some r ∧ r.k = .free ∧ id ∈ ids ∧ x = some { r with k := .frozen }) ∧
    (∀ id ∈ ids, ∃ r, rows id = some r ∧ (r.k = .free ∨ r.k = .frozen) ∧ (r.k = .free → look fr id = some (some { r with k := .frozen }))) := by
  intro ids
  induction ids with
  | nil =>
    intro fr h
    simp only [freeze, Option.some.injEq] at h
    subst h
    exact ⟨fun id x hx => by simp [look] at hx, fun id hid => by cases hid⟩
  | cons i ids ih =>
    intro fr h
    simp only [freeze] at h
    split at h
    · rename_i r hr
      split at h
      · rename_i hk
        split at h
        · rename_i u hu
          simp only [Option.some.injEq] at h
          subst h
          obtain ⟨h1, h2⟩ := ih hu
          refine ⟨fun id x hx => ?_, fun id hid => ?_⟩
          · simp only [look] at hx
            cases hb : Nat.beq i id with
            | true =>
              have := Nat.eq_of_beq_eq_true hb
              subst this
              rw [hb] at hx
              simp only [cond_true, Option.some.injEq] at hx
              exact ⟨r, hr, hk, by simp, hx.symm⟩
            | false =>
              rw [hb] at hx
              obtain ⟨r', a1, a2, a3, a4⟩ := h1 id x hx
              exact ⟨r', a1, a2, by simp [a3], a4⟩
          · by_cases e : i = id
            · subst e
              exact ⟨r, hr, .inl hk, fun _ => by simp [look]⟩
            · have hb : Nat.beq i id = false := by
                rw [Bool.eq_false_iff]; intro e'; exact e (Nat.eq_of_beq_eq_true e')
              rcases List.mem_cons.1 hid with e' | e'
              · exact absurd e'.symm e
              · obtain ⟨r', a1, a2, a3⟩ := h2 id e'
                exact ⟨r', a1, a2, fun hf => by simp only [look, hb, cond_false]; exact a3 hf⟩
        · cases h
      · rename_i hk
        obtain ⟨h1, h2⟩ := ih h
        refine ⟨fun id x hx => ?_, fun id hid => ?_⟩
        · obtain ⟨r', a1, a2, a3, a4⟩ := h1 id x hx
          exact ⟨r', a1, a2, by simp [a3], a4⟩
        · rcases List.mem_cons.1 hid with e' | e'
          · subst e'
            exact ⟨r, hr, .inr hk, fun hf => by simp [hk] at hf⟩
          · exact h2 id e'
      · cases h
      · cases h
    · cases h
theorem Good.freeze (hg : Good C w S γ st a.tmps) {rows : RT} (hsub : ∀ id r, rows id = some r → st.row id = some r)
    {ids : List Nat} {fr : Upd} (h : Lift.freeze rows ids = some fr) : Good C w (SU S γ ids) γ (st.upd fr) a.tmps := by
  obtain ⟨f1, f2⟩ := freeze_look h
  have hback : ∀ id r', (st.upd fr).row id = some r' → ∃ r, st.row id = some r ∧ r'.t = r.t ∧ HEq r'.l r.l ∧ (r' = r ∨ (r.k = .free ∧ id ∈ ids ∧ r' = { r with k := .frozen })) := by
    intro id r' hr'
    rw [ASt.row_upd] at hr'
    split at hr'
    · rename_i x hx
      obtain ⟨r, a1, a2, a3, a4⟩ := f1 id x hx
      subst a4
      cases hr'
      exact ⟨r, hsub _ _ a1, rfl, HEq.rfl, .inr ⟨a2, a3, rfl⟩⟩
    · exact ⟨r', hr', rfl, HEq.rfl, .inl rfl⟩
  have hS : ∀ b, S b → SU S γ ids b := SU_sub
  refine ⟨hg.rel.step fr hS (fun _ _ => rfl) ?_ (fun _ _ h => h) ?_ ?_ ?_ ?_, ?_⟩
  · rintro b (hb | ⟨id, hid, p, hp⟩)
    · exact hg.rel.lt b hb
    · obtain ⟨r, a1, _⟩ := f2 id hid
      exact (hg.rel.rows id r (hsub _ _ a1)).lt hp
  · intro id r' hr'
    obtain ⟨r, b1, b2, b3, b4⟩ := hback id r' hr'
    have hro := hg.rel.rows id r b1
    rcases b4 with rfl | ⟨b4, b5, rfl⟩
    · refine ⟨hro.nil, hro.memS hS, fun b p e => ?_⟩
      · refine ⟨fun h => .inl ((hro.st b p e).1 h), ?_⟩
        rintro (h | ⟨id', hid', p', hp'⟩)
        · exact (hro.st b p e).2 h
        · obtain ⟨r2, a1, a2, a3⟩ := f2 id' hid'
          have hii := hg.rel.inj id id' r' r2 b p p' b1 (hsub _ _ a1) e hp'
          subst hii
          rw [hsub _ _ a1] at b1
          cases b1
          rcases a2 with hk | hk
          · have := a3 hk
            rw [ASt.row_upd, this] at hr'
            simp only [Option.some.injEq] at hr'
            rw [← hr'] at hk
            cases hk
          · exact hk
    · refine ⟨hro.nil, hro.memS hS, fun b p e => ?_⟩
      · exact ⟨fun _ => .inr ⟨id, b5, p, e⟩, fun _ => rfl⟩
  · intro id r' _ hr'
    obtain ⟨r, b1, b2, b3, b4⟩ := hback id r' hr'
    refine ⟨r, b1, b2, ?_, rfl⟩
    rcases b4 with rfl | ⟨_, _, rfl⟩ <;> rfl
  · intro i j r r' b p q h1 h2 h3 h4
    obtain ⟨r1, b1, _⟩ := hback i r h1
    obtain ⟨r2, b2, _⟩ := hback j r' h2
    exact hg.rel.inj i j r1 r2 b p q b1 b2 h3 h4
  · intro id r' L hr' hk
    obtain ⟨r, b1, b2, b3, b4⟩ := hback id r' hr'
    rcases b4 with rfl | ⟨_, _, rfl⟩
    · exact ⟨⟨r', b1, hk⟩, rfl, fun _ _ _ => rfl⟩
    · cases hk
  · refine ⟨hg.fr.size, hg.fr.os, hg.fr.tape, hg.fr.output, hg.fr.block, hg.fr.blk, fun b hb => .inl (hg.fr.s1 b hb), ?_, ?_, ?_, hg.fr.gw, ?_⟩
    · rintro b (hb | ⟨id, hid, p, hp⟩)
      · exact hg.fr.s2 b hb
      · obtain ⟨r, a1, a2, _⟩ := f2 id hid
        exact .inr ((hg.fr.rows id r b p (hsub _ _ a1) hp).2 (by rcases a2 with h | h <;> rw [h] <;> simp))
    · intro id r' b p hr' hp
      obtain ⟨r, b1, b2, b3, b4⟩ := hback id r' hr'
      rcases b4 with rfl | ⟨b4, _, rfl⟩
      · exact hg.fr.rows id r' b p b1 hp
      · exact ⟨fun h => (by cases h), fun _ => (hg.fr.rows id r b p b1 hp).2 (by simp [b4])⟩
    · intro id r' hr' hk
      obtain ⟨r, b1, b2, b3, b4⟩ := hback id r' hr'
      rcases b4 with rfl | ⟨b4, _, rfl⟩
      · exact hg.fr.fix id r' b1 hk
      · cases hk
    · intro id r' L hr' hk ht
      obtain ⟨r, b1, b2, b3, b4⟩ := hback id r' hr'
      rcases b4 with rfl | ⟨b4, _, rfl⟩
      · exact hg.fr.pv id r' L b1 hk ht
      · cases hk
theorem alloc_old (w : World) (o : Obj) {k : Nat} (h : k < w.heap.size) : (w.alloc o).heap[k]? = w.heap[k]? := by
  show (w.heap.push o)[k]? = _
  rw [Array.getElem?_push, if_neg (by omega)]
theorem alloc_new (w : World) (o : Obj) : (w.alloc o).heap[w.heap.size]? = some o := by
  show (w.heap.push o)[w.heap.size]? = some o
  simp
theorem Blk.lt {b n : Nat} (h : Blk w b n) : b < w.heap.size := by
  obtain ⟨_, _, _, h1, _⟩ := h
  exact (Array.getElem?_eq_some_iff.1 h1).1
/-- A new block with a row of its own; a row 'kill' may go. -/
theorem Good.newO (hg : Good C w S γ st a.tmps) {d : Nat} (hd : d ∉ st.refs) (t : Ty) (l : List t.den) (o : Obj) (kill : List Nat) (w1 : World) (hw1 : w1 = w ∨ w1 = w.drew)
    (hm : (w1.alloc o).heap[w.heap.size]? = some o → (∃ cur e, (w1.alloc o).heap[w.heap.size]? = some (.cells cur e (0, 0)) ∧
      ∀ i x, l[i]? = some x → ∃ ds, Mem (w1.alloc o) w.heap.size (0 + i * t.nc) ds ∧ RepC (w1.alloc o) S t x ds) ∨ (l = [] ∧ ∃ es c, (w1.alloc o).heap[w.heap.size]? = some (.map es c))) :
    Good C (w1.alloc o) S (fun i => if i = d then some (w.heap.size, 0) else γ i) (st.upd ((d, some ⟨.free, t, l⟩) :: kill.map fun k => (k, none))) a.tmps := by
  have hh : w1.heap = w.heap := by rcases hw1 with rfl | rfl <;> rfl
  have hold : ∀ k, k < w.heap.size → (w1.alloc o).heap[k]? = w.heap[k]? := fun k hk => by
    rw [alloc_old w1 _ (by rw [hh]; exact hk), hh]
  have hnew : (w1.alloc o).heap[w.heap.size]? = some o := by
    have := alloc_new w1 o
    rwa [hh] at this
  have hkl : ∀ (ks : List Nat) id x, look (ks.map fun k => (k, (none : Option Row))) id = some x → x = none := by
    intro ks
    induction ks with
    | nil => intro id x h; simp [look] at h
    | cons k ks ih =>
      intro id x h
      simp only [List.map_cons, look] at h
      cases hb : Nat.beq k id with
      | true => rw [hb] at h; simpa using h.symm
      | false => rw [hb] at h; exact ih id x h
  have hback : ∀ id r, (st.upd ((d, some ⟨.free, t, l⟩) :: kill.map fun k => (k, none))).row id = some r → (id = d ∧ r = ⟨.free, t, l⟩) ∨ (id ≠ d ∧ st.row id = some r) := by
    intro id r hr
    rw [ASt.row_upd] at hr
    by_cases e' : id = d
    · subst e'
      simp only [look, Nat.beq_refl, cond_true, Option.some.injEq] at hr
      exact .inl ⟨rfl, hr.symm⟩
    · have hb : Nat.beq d id = false := by
        rw [Bool.eq_false_iff]; intro e2; exact e' (Nat.eq_of_beq_eq_true e2).symm
      simp only [look, hb, cond_false] at hr
      split at hr
      · rename_i x hx
        have := hkl kill id x hx
        rw [this] at hr
        cases hr
      · exact .inr ⟨e', hr⟩
  have hrd : ∀ id r, st.row id = some r → id ≠ d := fun id r hr e' => hd (e' ▸ ASt.row_refs hr)
  have hlt : ∀ id r b p, st.row id = some r → γ id = some (b, p) → b < w.heap.size := fun id r b p hr hp => by
    exact (hg.rel.rows id r hr).lt hp
  have hSw : ∀ b, S b → (w1.alloc o).heap[b]? = w.heap[b]? := fun b hb => hold b (hg.rel.lt b hb)
  refine ⟨hg.rel.step _ (fun _ h => h) hSw (fun b hb => ?_) (fun b n hb => hb.congr (hold b hb.lt)) ?_ ?_ ?_ ?_, ?_⟩
  · have := hg.rel.lt b hb
    show b < (w1.heap.push _).size
    rw [Array.size_push, hh]; omega
  · intro id r hr
    rcases hback id r hr with ⟨rfl, rfl⟩ | ⟨h1, h2⟩
    · refine ⟨fun h => by simp at h, fun b p h => ?_, fun b p h => ?_⟩
      · simp only [if_true, Option.some.injEq, Prod.mk.injEq] at h
        obtain ⟨rfl, rfl⟩ := h
        exact hm hnew
      · simp only [if_true, Option.some.injEq, Prod.mk.injEq] at h
        obtain ⟨rfl, rfl⟩ := h
        exact ⟨fun h => (by cases h), fun h => absurd (hg.rel.lt _ h) (Nat.lt_irrefl _)⟩
    · exact (hg.rel.rows id r h2).mono (fun _ h => h) hSw (by simp [h1]) (fun b p hp => hold b (hlt id r b p h2 hp)) (fun b p _ h => h)
  · intro id r' hn hr'
    rcases hback id r' hr' with ⟨rfl, rfl⟩ | ⟨h1, h2⟩
    · exact absurd (ASt.named_refs hn) hd
    · exact ⟨r', h2, rfl, rfl, by simp [h1]⟩
  · intro i j r r' b p q h1 h2 h3 h4
    rcases hback i r h1 with ⟨rfl, rfl⟩ | ⟨e1, e2⟩ <;> rcases hback j r' h2 with ⟨rfl, rfl⟩ | ⟨e3, e4⟩
    · rfl
    · simp only [if_true, Option.some.injEq, Prod.mk.injEq] at h3
      simp only [e3, if_false] at h4
      have := hlt j r' b q e4 h4
      omega
    · simp only [if_true, Option.some.injEq, Prod.mk.injEq] at h4
      simp only [e1, if_false] at h3
      have := hlt i r b p e2 h3
      omega
    · simp only [e1, if_false] at h3
      simp only [e3, if_false] at h4
      exact hg.rel.inj i j r r' b p q e2 e4 h3 h4
  · intro id r' L hr' hk
    rcases hback id r' hr' with ⟨rfl, rfl⟩ | ⟨e1, e2⟩
    · cases hk
    · exact ⟨⟨r', e2, hk⟩, by simp [e1], fun b p hp => hold b (hlt id r' b p e2 hp)⟩
  · have hmisc : (w1.alloc o).os = w.os ∧ (w1.alloc o).tape = w.tape ∧ (w1.alloc o).output = w.output := by
      rcases hw1 with rfl | rfl <;> exact ⟨rfl, rfl, rfl⟩
    refine ⟨?_, hmisc.1.trans hg.fr.os, hmisc.2.1.trans hg.fr.tape, hmisc.2.2.trans hg.fr.output, fun b hb hW => (hold b (Nat.lt_of_lt_of_le hb hg.fr.size)).trans (hg.fr.block b hb hW), fun b n h => (hg.fr.blk b n h).congr (hold b (hg.fr.blk b n h).lt), hg.fr.s1, hg.fr.s2, ?_, ?_, hg.fr.gw, ?_⟩
    · show C.w.heap.size ≤ (w1.heap.push _).size
      have := hg.fr.size
      rw [Array.size_push, hh]; omega
    · intro id r b p hr hp
      rcases hback id r hr with ⟨rfl, rfl⟩ | ⟨h1, h2⟩
      · simp only [if_true, Option.some.injEq, Prod.mk.injEq] at hp
        exact ⟨fun h => (by cases h), fun _ => .inl (by have := hg.fr.size; omega)⟩
      · simp only [h1, if_false] at hp
        exact hg.fr.rows id r b p h2 hp
    · intro id r hr hk
      rcases hback id r hr with ⟨rfl, rfl⟩ | ⟨h1, h2⟩
      · cases hk
      · have := hg.fr.fix id r h2 hk
        simp only [h1, if_false]
        exact this
    · intro id r L hr hk ht
      rcases hback id r hr with ⟨rfl, rfl⟩ | ⟨h1, h2⟩
      · cases hk
      · simp only [h1, if_false]
        exact hg.fr.pv id r L h2 hk ht
/-- A new block with a row of its own; a row 'kill' may go. -/
theorem Good.new (hg : Good C w S γ st a.tmps) {d : Nat} (hd : d ∉ st.refs) (t : Ty) (l : List t.den) (arr : Array Value) (e : TypeId) (kill : List Nat) (w1 : World) (hw1 : w1 = w ∨ w1 = w.drew)
    (hc : ∀ i x, l[i]? = some x → ∃ ds, RepC w S t x ds ∧ ∀ (j : Nat) v, ds[j]? = some v → arr[i * t.nc + j]? = some v) :
    Good C (w1.alloc (.cells arr e)) S (fun i => if i = d then some (w.heap.size, 0) else γ i) (st.upd ((d, some ⟨.free, t, l⟩) :: kill.map fun k => (k, none))) a.tmps := by
  refine hg.newO hd t l (.cells arr e) kill w1 hw1 fun hnew => .inl ⟨arr, e, hnew, fun i x hx => ?_⟩
  have hh : w1.heap = w.heap := by rcases hw1 with rfl | rfl <;> rfl
  obtain ⟨ds, d1, d2⟩ := hc i x hx
  refine ⟨ds, fun j v hj => ?_, d1.mono (fun _ h => h) (fun b hb => ?_)⟩
  · have := d2 j v hj
    simp only [World.cell?, hnew]
    simpa using this
  · rw [alloc_old w1 _ (by rw [hh]; exact hg.rel.lt b hb), hh]
/-- A map's block is written anew: the row that it belongs to holds nothing and is free. -/
theorem Good.turn (hg : Good C w S γ st a.tmps) {id : Nat} {r : Row} (hr : st.row id = some r) (hk : r.k = .free) (hl : r.l = []) {b p : Nat} (hp : γ id = some (b, p)) {w' : World} (ht : w.mapTurned w' b) :
    Good C w' S γ st a.tmps := by
  have hro := hg.rel.rows id r hr
  obtain ⟨es, c, es', c', h1, h2⟩ := ht
  have hgr := World.mapTurned.grown ⟨es, c, es', c', h1, h2⟩
  have hnew : w'.heap[b]? = some (.map es' c') := by rw [h2]; exact Go.ChangeMaps.heap_setBlock_same h1 _
  have hsz : w'.heap.size = w.heap.size := by rw [h2]; simp [Go.ChangeMaps.setBlock]
  have hSb : ¬ S b := fun h => by have := (hro.st b p hp).2 h; rw [hk] at this; cases this
  have hoth : ∀ k, k ≠ b → w'.heap[k]? = w.heap[k]? := fun k hkb => by rw [h2]; exact Go.ChangeMaps.heap_setBlock_other h1 _ (fun e => hkb e)
  have hSw : ∀ k, S k → w'.heap[k]? = w.heap[k]? := fun k hkS => hoth k (fun e => hSb (e ▸ hkS))
  have hBlk : ∀ k n, Blk w k n → Blk w' k n := by
    intro k n h
    by_cases hkb : k = b
    · subst hkb
      obtain ⟨x, y, z, g1, g2⟩ := h
      rw [h1] at g1; cases g1
    · exact h.congr (hoth k hkb)
  have hnb : ∀ i x b' q, st.row i = some x → i ≠ id → γ i = some (b', q) → b' ≠ b := fun i x b' q g1 g2 g3 e => g2 (hg.rel.inj i id x r b' q p g1 hr g3 (e ▸ hp))
  have hrel : Rel w' S γ (st.upd []) a.tmps := by
    refine hg.rel.step [] (fun _ h => h) hSw (fun k hkS => by rw [hsz]; exact hg.rel.lt k hkS) hBlk ?_ ?_ hg.rel.inj ?_
    · intro i x hx
      have hx' : st.row i = some x := hx
      by_cases e : i = id
      · subst e
        rw [hr] at hx'; cases hx'
        refine ⟨hro.nil, fun b' q h => ?_, hro.st⟩
        rw [hp] at h; cases h
        exact .inr ⟨hl, es', c', hnew⟩
      · exact (hg.rel.rows i x hx').mono (fun _ h => h) hSw rfl (fun b' q h3 => hoth b' (hnb i x b' q hx' e h3)) (fun _ _ _ h => h)
    · intro i x _ hx
      exact ⟨x, hx, rfl, rfl, rfl⟩
    · intro i x L hx hkx
      have hx' : st.row i = some x := hx
      have e : i ≠ id := fun e => by subst e; rw [hr] at hx'; cases hx'; rw [hk] at hkx; cases hkx
      exact ⟨⟨x, hx', hkx⟩, rfl, fun b' q h3 => hoth b' (hnb i x b' q hx' e h3)⟩
  refine ⟨hrel, ⟨by rw [hsz]; exact hg.fr.size, by rw [h2]; exact hg.fr.os, by rw [h2]; exact hg.fr.tape, by rw [h2]; exact hg.fr.output, fun k hk1 hk2 => ?_, fun k n h => hBlk k n (hg.fr.blk k n h), hg.fr.s1, hg.fr.s2, hg.fr.rows, hg.fr.fix, hg.fr.gw, hg.fr.pv⟩⟩
  by_cases e : k = b
  · subst e
    rcases (hg.fr.rows id r k p hr hp).2 (by rw [hk]; simp) with h | h
    · omega
    · exact absurd (hg.fr.gw _ h) hk2
  · exact (hoth k e).trans (hg.fr.block k hk1 hk2)
/-- A draw, and whatever leaves the heap alone. -/
theorem Good.drew (hg : Good C w S γ st a.tmps) : Good C w.drew S γ st a.tmps := by
  refine ⟨⟨fun i av hi => ?_, fun id r hr => ?_, hg.rel.inj, hg.rel.lt, fun id r L hr hk => VarOk.mono (w := w) (w' := w.drew) (fun _ h => h) (fun _ _ => rfl) (fun _ _ h => h) rfl (fun _ _ _ => rfl) (fun i _ r' hr' => ⟨r', hr', rfl, rfl, rfl⟩) (hg.rel.vars id r L hr hk)⟩, ⟨hg.fr.size, hg.fr.os, hg.fr.tape, hg.fr.output, hg.fr.block, hg.fr.blk, hg.fr.s1, hg.fr.s2, hg.fr.rows, hg.fr.fix, hg.fr.gw, hg.fr.pv⟩⟩
  · obtain ⟨v, hv, hr⟩ := hg.rel.slots i av hi
    exact ⟨v, hv, RepA.mono (w := w) (w' := w.drew) (fun _ h => h) (fun _ _ => rfl) (fun _ _ h => h) (fun id _ r' hr' => ⟨r', hr', rfl, rfl, rfl⟩) hr⟩
  · exact RowOk.mono (w := w) (w' := w.drew) (hg.rel.rows id r hr) (fun _ h => h) (fun _ _ => rfl) rfl (fun _ _ _ => rfl) (fun _ _ _ h => h)
/-- A row of the call's own becomes a variable that is kept cell by cell, or the other way round. -/
theorem Good.kind (hg : Good C w S γ st a.tmps) {id : Nat} {r : Row} (hr : st.row id = some r) (hk : r.k ≠ .frozen) (hk' : r.k ≠ .fixed) {k : RK} (hn : k ≠ .frozen) (hn' : k ≠ .fixed)
    (hv : ∀ L, k = .var L → VarOk w S γ (st.upd [(id, some { r with k := k })]).row id L) (hpv : ∀ L, k = .var L → r.t = svT → γ id = C.vp) : Good C w S γ (st.upd [(id, some { r with k := k })]) a.tmps := by
  have hback : ∀ i r', (st.upd [(id, some { r with k := k })]).row i = some r' → (i = id ∧ r' = { r with k := k }) ∨ (i ≠ id ∧ st.row i = some r') := by
    intro i r' h
    rw [ASt.row_upd] at h
    by_cases e : id = i
    · subst e
      simp only [look, Nat.beq_refl, cond_true, Option.some.injEq] at h
      exact .inl ⟨rfl, h.symm⟩
    · have hb : Nat.beq id i = false := by
        rw [Bool.eq_false_iff]; intro e2; exact e (Nat.eq_of_beq_eq_true e2)
      simp only [look, hb, cond_false] at h
      exact .inr ⟨fun h => e h.symm, h⟩
  have hkeep : ∀ i r', (st.upd [(id, some { r with k := k })]).row i = some r' → ∃ r0, st.row i = some r0 ∧ r'.t = r0.t ∧ r'.l.length = r0.l.length ∧ γ i = γ i := by
    intro i r' h
    rcases hback i r' h with ⟨rfl, rfl⟩ | ⟨_, h2⟩
    · exact ⟨r, hr, rfl, rfl, rfl⟩
    · exact ⟨r', h2, rfl, rfl, rfl⟩
  refine ⟨⟨fun i av hi => ?_, fun i r' h => ?_, fun i j r1 r2 b p q h1 h2 h3 h4 => ?_, hg.rel.lt, fun i r' L h1 h2 => ?_⟩, ⟨hg.fr.size, hg.fr.os, hg.fr.tape, hg.fr.output, hg.fr.block, hg.fr.blk, hg.fr.s1, hg.fr.s2, fun i r' b p h1 h2 => ?_, fun i r' h1 h2 => ?_, hg.fr.gw, fun i r' L h1 h2 h4 => ?_⟩⟩
  · obtain ⟨v, h1, h2⟩ := hg.rel.slots i av hi
    exact ⟨v, h1, h2.mono (fun _ h => h) (fun _ _ => rfl) (fun _ _ h => h) (fun i _ r' h => hkeep i r' h)⟩
  · rcases hback i r' h with ⟨rfl, rfl⟩ | ⟨_, h2⟩
    · have ho := hg.rel.rows i r hr
      exact ⟨ho.nil, ho.mem, fun b p e => ⟨fun h => absurd h hn, fun h => absurd ((ho.st b p e).2 h) hk⟩⟩
    · exact hg.rel.rows i r' h2
  · obtain ⟨r3, g1, _⟩ := hkeep i r1 h1
    obtain ⟨r4, g2, _⟩ := hkeep j r2 h2
    exact hg.rel.inj i j r3 r4 b p q g1 g2 h3 h4
  · rcases hback i r' h1 with ⟨rfl, rfl⟩ | ⟨_, h3⟩
    · exact hv L h2
    · exact (hg.rel.vars i r' L h3 h2).mono (fun _ h => h) (fun _ _ => rfl) (fun _ _ h => h) rfl (fun _ _ _ => rfl) (fun i _ r' h => hkeep i r' h)
  · rcases hback i r' h1 with ⟨rfl, rfl⟩ | ⟨_, h3⟩
    · exact ⟨fun h => absurd h hn', fun _ => (hg.fr.rows i r b p hr h2).2 hk'⟩
    · exact hg.fr.rows i r' b p h3 h2
  · rcases hback i r' h1 with ⟨rfl, rfl⟩ | ⟨_, h3⟩
    · exact absurd h2 hn'
    · exact hg.fr.fix i r' h3 h2
  · rcases hback i r' h1 with ⟨rfl, rfl⟩ | ⟨_, h3⟩
    · exact hpv L h2 h4
    · exact hg.fr.pv i r' L h3 h2 h4
theorem setCells_heap_other (w : World) (g : Nat) : ∀ (vs : List Value) (o : Nat) {i : Nat}, i ≠ g → (w.setCells g o vs).heap[i]? = w.heap[i]? := by
  intro vs
  induction vs generalizing w with
  | nil => intro o i _; rfl
  | cons v r ih =>
    intro o i h
    rw [World.setCells, ih _ _ h]
    simp only [World.setCell, Array.getElem?_modify]
    rw [if_neg (fun e => h e.symm)]
theorem setCells_size (w : World) (g : Nat) : ∀ (vs : List Value) (o : Nat), (w.setCells g o vs).heap.size = w.heap.size := by
  intro vs
  induction vs generalizing w with
  | nil => intro o; rfl
  | cons v r ih => intro o; rw [World.setCells, ih]; simp [World.setCell]
theorem setCells_misc (w : World) (g : Nat) : ∀ (vs : List Value) (o : Nat), (w.setCells g o vs).os = w.os ∧ (w.setCells g o vs).tape = w.tape ∧ (w.setCells g o vs).output = w.output := by
  intro vs
  induction vs generalizing w with
  | nil => intro o; exact ⟨rfl, rfl, rfl⟩
  | cons v r ih => intro o; rw [World.setCells]; exact ih _ _
theorem setCells_block (w : World) (g : Nat) : ∀ (vs : List Value) (o : Nat) (cur : Array Value) (e : TypeId) (fz : Nat × Nat), w.heap[g]? = some (.cells cur e fz) →
    ∃ cur', (w.setCells g o vs).heap[g]? = some (.cells cur' e fz) ∧ cur'.size = cur.size := by
  intro vs
  induction vs generalizing w with
  | nil => intro o cur e fz h; exact ⟨cur, h, rfl⟩
  | cons v r ih =>
    intro o cur e fz h
    rw [World.setCells]
    have h1 : (w.setCell ⟨g, o, none⟩ v).heap[g]? = some (.cells (cur.setIfInBounds o v) e fz) := by
      simp [World.setCell, Array.getElem?_modify, h]
    obtain ⟨cur', h2, h3⟩ := ih (w.setCell ⟨g, o, none⟩ v) (o + 1) _ e fz h1
    exact ⟨cur', h2, by rw [h3]; simp⟩
/-- Cells of the row's block may be written. -/
theorem RowOk.there {id : Nat} {r : Row} (h : RowOk w S γ id r) {b p : Nat} (hp : γ id = some (b, p)) {o n m : Nat} (hb : Blk w b m) (hm : o + n ≤ m) : w.there b o n := by
  obtain ⟨cur, e, h1, _⟩ := h.cells hp (.inr ⟨m, hb⟩)
  obtain ⟨cur', e', fz, h2, h3⟩ := hb
  rw [h1] at h2
  cases h2
  intro j hj
  refine ⟨?_, ?_⟩
  · simp only [World.cell?, h1]
    have : o + j < cur.size := by omega
    simp [this]
  · simp [World.frozen?, h1]
theorem Mem.setCells_apart {b o : Nat} {cs : List Value} (h : Mem w b o cs) (b' o' : Nat) (vs : List Value) (hap : b ≠ b' ∨ o + cs.length ≤ o' ∨ o' + vs.length ≤ o) :
    Mem (w.setCells b' o' vs) b o cs := World.rangeAt_setCells_apart h b' o' vs hap
theorem Mem.setCells_patch {b o : Nat} {cs : List Value} (h : Mem w b o cs) (q : Nat) (vs : List Value) (hq : q + vs.length ≤ cs.length) :
    Mem (w.setCells b (o + q) vs) b o (patch cs q vs) := by
  have hsome := World.rangeAt.isSome h
  intro j v hj
  by_cases h1 : j < q
  · rw [World.cell?_setCells_out b vs (o + q) w ⟨b, o + j, none⟩ (fun _ _ => .inl (by show o + j < o + q; omega))]
    refine h j v ?_
    simp only [patch] at hj
    rw [List.append_assoc, List.getElem?_append_left (by simp only [List.length_take]; omega), List.getElem?_take_of_lt h1] at hj
    exact hj
  · by_cases h2 : j < q + vs.length
    · have := World.cell?_setCells_in b vs (o + q) w (fun i hi => by have := hsome (q + i) (by omega); rwa [← Nat.add_assoc] at this) (j - q) (by omega)
      rw [show o + q + (j - q) = o + j by omega] at this
      rw [this]
      simp only [patch] at hj
      rw [List.append_assoc, List.getElem?_append_right (by simp only [List.length_take]; omega), List.getElem?_append_left (by simp only [List.length_take]; omega)] at hj
      rw [show j - (List.take q cs).length = j - q by simp only [List.length_take]; omega] at hj
      rw [← hj, List.getElem?_eq_getElem (by omega)]
    · rw [World.cell?_setCells_out b vs (o + q) w ⟨b, o + j, none⟩ (fun _ _ => .inr (by show o + q + vs.length ≤ o + j; omega))]
      refine h j v ?_
      simp only [patch] at hj
      rw [List.getElem?_append_right (by simp only [List.length_append, List.length_take]; omega), List.getElem?_drop] at hj
      rw [← hj]
      congr 1
      simp only [List.length_append, List.length_take]; omega
/-- A write into the block of a row of the call's own. 'u': the row anew, or the row gone and one under a new id in its place. -/
theorem Good.write (hg : Good C w S γ st a.tmps) {id : Nat} {r : Row} (hr : st.row id = some r) (hk : r.k ≠ .frozen) (hkv : ∀ L, r.k ≠ .var L) {b p : Nat} (hp : γ id = some (b, p))
    (o : Nat) (vs : List Value) (u : Upd) (γ' : Gam)
    (hγ : ∀ i, st.row i ≠ none → i ≠ id → γ' i = γ i)
    (hrow : ∀ i x, (st.upd u).row i = some x → (i ≠ id ∧ st.row i = some x) ∨
      ((i = id ∨ i ∉ st.refs ∧ (st.upd u).row id = none) ∧ x.k = r.k ∧ (∃ q, γ' i = some (b, q)) ∧ RowOk (w.setCells b o vs) S γ' i x ∧ (i = id → x.t = r.t ∧ x.l.length = r.l.length ∧ γ' i = γ i) ∧ (i ≠ id → r.k = .free)))
    (hone : ∀ i j x y, (st.upd u).row i = some x → (st.upd u).row j = some y → (i = id ∨ i ∉ st.refs) → (j = id ∨ j ∉ st.refs) → i = j) :
    Good C (w.setCells b o vs) S γ' (st.upd u) a.tmps := by
  have hro := hg.rel.rows id r hr
  have hSb : ¬ S b := fun h => hk ((hro.st b p hp).2 h)
  have hoth : ∀ k, k ≠ b → (w.setCells b o vs).heap[k]? = w.heap[k]? := fun k hkb => setCells_heap_other w b vs o hkb
  have hSw : ∀ k, S k → (w.setCells b o vs).heap[k]? = w.heap[k]? := fun k hkS => hoth k (fun e => hSb (e ▸ hkS))
  have hBlk : ∀ k n, Blk w k n → Blk (w.setCells b o vs) k n := by
    intro k n h
    by_cases hkb : k = b
    · subst hkb
      obtain ⟨x, y, z, h1, h2⟩ := h
      obtain ⟨cur', c3, c4⟩ := setCells_block w k vs o x y z h1
      exact ⟨cur', _, _, c3, by omega⟩
    · exact h.congr (hoth k hkb)
  have hnb : ∀ i x b' q, st.row i = some x → i ≠ id → γ i = some (b', q) → b' ≠ b := fun i x b' q h1 h2 h3 e => h2 (hg.rel.inj i id x r b' q p h1 hr h3 (e ▸ hp))
  have hmisc := setCells_misc w b vs o
  refine ⟨hg.rel.step u (fun _ h => h) hSw (fun k hkS => by rw [setCells_size]; exact hg.rel.lt k hkS) hBlk ?_ ?_ ?_ ?_, ?_⟩
  · intro i x hx
    rcases hrow i x hx with ⟨h1, h2⟩ | ⟨_, _, _, h, _⟩
    · exact (hg.rel.rows i x h2).mono (fun _ h => h) hSw (hγ i (by simp [h2]) h1) (fun b' q h3 => hoth b' (hnb i x b' q h2 h1 h3)) (fun _ _ _ h => h)
    · exact h
  · intro i x hn hx
    rcases hrow i x hx with ⟨h1, h2⟩ | ⟨h1, _, _, _, h5, _⟩
    · exact ⟨x, h2, rfl, rfl, hγ i (by simp [h2]) h1⟩
    · rcases h1 with h1 | ⟨h1, _⟩
      · obtain ⟨e1, e2, e3⟩ := h5 h1
        rw [h1] at e3 ⊢
        exact ⟨r, hr, e1, e2, e3⟩
      · exact absurd (ASt.named_refs hn) h1
  · intro i j x y b' q1 q2 hx hy h3 h4
    rcases hrow i x hx with ⟨e1, e2⟩ | ⟨e1, _, ⟨q, e3⟩, _⟩ <;> rcases hrow j y hy with ⟨f1, f2⟩ | ⟨f1, _, ⟨q', f3⟩, _⟩
    · rw [hγ i (by simp [e2]) e1] at h3
      rw [hγ j (by simp [f2]) f1] at h4
      exact hg.rel.inj i j x y b' q1 q2 e2 f2 h3 h4
    · rw [hγ i (by simp [e2]) e1] at h3
      rw [f3] at h4
      cases h4
      exact absurd rfl (hnb i x _ _ e2 e1 h3)
    · rw [hγ j (by simp [f2]) f1] at h4
      rw [e3] at h3
      cases h3
      exact absurd rfl (hnb j y _ _ f2 f1 h4)
    · exact hone i j x y hx hy (e1.imp (fun h => h) (fun h => h.1)) (f1.imp (fun h => h) (fun h => h.1))
  · intro i x L hx hkx
    rcases hrow i x hx with ⟨e1, e2⟩ | ⟨_, e2, _⟩
    · exact ⟨⟨x, e2, hkx⟩, hγ i (by simp [e2]) e1, fun b' q h3 => hoth b' (hnb i x b' q e2 e1 h3)⟩
    · exact absurd (e2 ▸ hkx) (hkv L)
  · refine ⟨by rw [setCells_size]; exact hg.fr.size, hmisc.1.trans hg.fr.os, hmisc.2.1.trans hg.fr.tape, hmisc.2.2.trans hg.fr.output, ?_, fun k n h => hBlk k n (hg.fr.blk k n h), hg.fr.s1, hg.fr.s2, ?_, ?_, hg.fr.gw, ?_⟩
    · intro k hk1 hk2
      by_cases e : k = b
      · subst e
        have h1 := hg.fr.rows id r k p hr hp
        by_cases hf : r.k = .fixed
        · exact absurd (h1.1 hf) hk2
        · rcases h1.2 hf with h | h
          · omega
          · exact absurd (hg.fr.gw _ h) hk2
      · exact (hoth k e).trans (hg.fr.block k hk1 hk2)
    · intro i x b' q hx hq
      rcases hrow i x hx with ⟨e1, e2⟩ | ⟨_, e2, ⟨q', e3⟩, _⟩
      · rw [hγ i (by simp [e2]) e1] at hq
        exact hg.fr.rows i x b' q e2 hq
      · rw [e3] at hq
        cases hq
        rw [e2]
        exact hg.fr.rows id r b p hr hp
    · intro i x hx hkx
      rcases hrow i x hx with ⟨e1, e2⟩ | ⟨e1, e2, _, _, h5, h6⟩
      · rw [hγ i (by simp [e2]) e1]
        exact hg.fr.fix i x e2 hkx
      · by_cases hi : i = id
        · obtain ⟨f1, f2, f3⟩ := h5 hi
          have := hg.fr.fix id r hr (e2 ▸ hkx)
          rw [f3, f2, hi]
          exact this
        · rw [e2, h6 hi] at hkx
          cases hkx
    · intro i x L hx hkx ht
      rcases hrow i x hx with ⟨e1, e2⟩ | ⟨_, e2, _⟩
      · rw [hγ i (by simp [e2]) e1]
        exact hg.fr.pv i x L e2 hkx ht
      · exact absurd (e2 ▸ hkx) (hkv L)
end
end Go.Lift
namespace Go.Lift
open Go
variable {P : Program} {E : Env}
section
variable {C : Entry} {w : World} {S : Nat → Prop} {γ : Gam} {st : ASt} {a : Act} {R : RT}
theorem inv_int {k : IntKind} {n : Int} {v : Value} (h : RepS w S γ R (.val (.int k) n) v) : v = .int k n ∧ (Lit.int k n).wf = true := by
  obtain ⟨cs, ⟨rfl, h1⟩, rfl⟩ := h
  exact ⟨rfl, h1⟩
theorem mk_int {k : IntKind} {n : Int} (h : (Lit.int k n).wf = true) : RepA w S γ R (.one (.val (.int k) n)) (.int k n) := ⟨[_], ⟨rfl, h⟩, rfl⟩
theorem inv_bool {b : Bool} {v : Value} (h : RepS w S γ R (.val .bool b) v) : v = .bool b := by
  obtain ⟨cs, rfl, rfl⟩ := h
  rfl
theorem mk_bool {b : Bool} : RepA w S γ R (.one (.val .bool b)) (.bool b) := ⟨[_], rfl, rfl⟩
theorem inv_str {s : List UInt8} {v : Value} (h : RepS w S γ R (.val .str s) v) : ∃ ba : ByteArray, v = .string ba ∧ ba.data.toList = s ∧ s.length ≤ maxLen := by
  obtain ⟨cs, ⟨ba, rfl, h1, h2⟩, rfl⟩ := h
  exact ⟨ba, rfl, h1, h2⟩
theorem mk_str {s : List UInt8} (ba : ByteArray) (h1 : ba.data.toList = s) (h2 : s.length ≤ maxLen) : RepA w S γ R (.one (.val .str s)) (.string ba) := ⟨[_], ⟨ba, rfl, h1, h2⟩, rfl⟩
theorem inv_agg {t : Ty} {x : t.den} {v : Value} (ht : t.isAgg = true) (h : RepS w S γ R (.val t x) v) : ∃ cs, v = .agg cs.toArray ∧ RepC w S t x cs := by
  obtain ⟨cs, h1, rfl⟩ := h
  exact ⟨cs, by simp [pack, ht], h1⟩
theorem wf_iff {k : IntKind} {n : Int} : (Lit.int k n).wf = true ↔ k.min ≤ n ∧ n ≤ k.max := by simp [Lit.wf]
theorem wf_wrap (k : IntKind) (n : Int) : (Lit.int k (k.wrap n)).wf = true := Go.wf_wrap k n
theorem min_neg (k : IntKind) : k.min ≤ 0 := by cases k <;> decide
theorem max_pos (k : IntKind) : 0 < k.max := by cases k <;> decide
theorem wf_tmod {k : IntKind} {x y : Int} (h : (Lit.int k x).wf = true) : (Lit.int k (x.tmod y)).wf = true := by
  rw [wf_iff] at h ⊢
  have h1 := min_neg k
  have h2 := max_pos k
  have h3 : (x.tmod y).natAbs ≤ x.natAbs := by rw [Int.natAbs_tmod]; exact Nat.mod_le _ _
  by_cases hx : 0 ≤ x
  · have := Int.tmod_nonneg y hx; omega
  · have := Int.tmod_nonneg y (a := -x) (by omega)
    rw [Int.neg_tmod] at this
    omega
theorem fdiv_pow (a : Int) (n : Nat) : a.fdiv (2 ^ n) = a / (2 ^ n : Int) := Int.fdiv_eq_ediv_of_nonneg _ (Int.le_of_lt (Int.pow_pos (by decide)))
theorem wf_shr {k : IntKind} {x : Int} (n : Nat) (h : (Lit.int k x).wf = true) : (Lit.int k (x.fdiv (2 ^ n))).wf = true := by
  rw [wf_iff] at h ⊢
  rw [fdiv_pow]
  have h1 := min_neg k
  have h2 := max_pos k
  have hp : (0 : Int) < 2 ^ n := Int.pow_pos (by decide)
  generalize (2 ^ n : Int) = m at *
  by_cases hx : 0 ≤ x
  · have e1 := Int.ediv_nonneg hx (Int.le_of_lt hp)
    have e2 := Int.ediv_le_self m hx
    omega
  · have e1 : x / m < 0 := Int.ediv_neg_of_neg_of_pos (by omega) hp
    have e2 : x ≤ x / m := by
      rw [Int.le_ediv_iff_mul_le hp]
      have h4 := Int.mul_le_mul_of_nonpos_left (a := x) (b := m) (c := 1) (by omega) (by omega)
      omega
    omega
section plain
variable {dst : Option Nat} {ty : Nat} {pos : String} {af : Array Edge} {gd : Option (Nat × Bool)} {v : AV} {u : Upd} {ids : List Nat}
theorem sound_move {x : Operand} {op : Op} (hop : op = .move x ∨ op = .assign x) (hg : Good C w S γ st a.tmps) {rows : RT}
    (hv : (opT E ⟨dst, op, ty, pos, af, gd⟩ [st.ev x] rows).val = some (v, u)) : OpRes P ⟨dst, op, ty, pos, af, gd⟩ a w (After C st u v a.tmps) := by
  cases hx : st.ev x with
  | none => rcases hop with rfl | rfl <;> simp [opT, hx, Tree.val] at hv
  | some av =>
    have : av = v ∧ [] = u := by rcases hop with rfl | rfl <;> simpa [opT, hx, Tree.val] using hv
    obtain ⟨rfl, rfl⟩ := this
    refine res_same hg (v := a.eval x) ?_ (ev_rep hg.rel hx)
    rcases hop with rfl | rfl <;> rfl
theorem sound_pick {c x y : Operand} (hg : Good C w S γ st a.tmps)
    (hv : (pickK [st.ev c, st.ev x, st.ev y] fun v => Tree.ret (v, ([] : Upd))).val = some (v, u)) : OpRes P ⟨dst, .pick c x y, ty, pos, af, gd⟩ a w (After C st u v a.tmps) := by
  have key : ∀ b : Bool, st.ev c = some (.one (.val .bool b)) → ∀ av, (st.ev (cond b x y) = some av) → RepA w S γ st.row v (a.eval (cond b x y)) → [] = u →
      OpRes P ⟨dst, .pick c x y, ty, pos, af, gd⟩ a w (After C st u v a.tmps) := by
    intro b hc av _ hr hu
    subst hu
    have hb := inv_bool (R := st.row) (γ := γ) (ev_rep hg.rel hc)
    refine res_same hg (v := a.eval (cond b x y)) ?_ hr
    simp only [execOp, hb, asBool, Sem.run_bind, Sem.run_pure, Result.andThen_ok]
    cases b <;> rfl
  unfold pickK at hv
  split at hv
  · rename_i b p q heq
    simp only [List.cons.injEq, and_true] at heq
    obtain ⟨h1, h2, h3⟩ := heq
    simp only [Tree.val, Option.some.injEq, Prod.mk.injEq] at hv
    obtain ⟨rfl, rfl⟩ := hv
    cases b
    · exact key false h1 _ h3 (ev_rep hg.rel h3) rfl
    · exact key true h1 _ h2 (ev_rep hg.rel h2) rfl
  · rename_i b p q _ heq
    simp only [List.cons.injEq, and_true] at heq
    obtain ⟨h1, h2, h3⟩ := heq
    cases b
    · simp only [Tree.val, cond_false, Option.some.injEq, Prod.mk.injEq] at hv
      obtain ⟨rfl, rfl⟩ := hv
      exact key false h1 _ h3 (ev_rep hg.rel h3) rfl
    · simp only [Tree.val, cond_true, Option.some.injEq, Prod.mk.injEq] at hv
      obtain ⟨rfl, rfl⟩ := hv
      exact key true h1 _ h2 (ev_rep hg.rel h2) rfl
  · simp [Tree.val] at hv
theorem one1_val {avs : List (Option AV)} {α : Type} {k : SV → Tree α} {r : α} (h : (one1 avs k).val = some r) : ∃ s, avs = [some (.one s)] ∧ (k s).val = some r := by
  unfold one1 at h
  split at h
  · exact ⟨_, rfl, h⟩
  · simp [Tree.val] at h
theorem one2_val {avs : List (Option AV)} {α : Type} {k : SV → SV → Tree α} {r : α} (h : (one2 avs k).val = some r) : ∃ s s', avs = [some (.one s), some (.one s')] ∧ (k s s').val = some r := by
  unfold one2 at h
  split at h
  · exact ⟨_, _, rfl, h⟩
  · simp [Tree.val] at h
theorem intK_val {s : SV} {α : Type} {k : Int → Tree α} {r : α} (h : (intK s k).val = some r) : ∃ (q : IntKind) (n : Int), s = .val (.int q) n ∧ (k n).val = some r := by
  unfold intK at h
  split at h
  · exact ⟨_, _, rfl, h⟩
  · simp [Tree.val] at h
theorem br_val {α : Type} {b : Bool} {t : Tree α} {r : α} (h : (Tree.br b t .fail).val = some r) : b = true ∧ t.val = some r := by
  cases b <;> simp_all [Tree.val]
theorem br_val' {α : Type} {b : Bool} {t : Tree α} {r : α} (h : (Tree.br b .fail t).val = some r) : b = false ∧ t.val = some r := by
  cases b <;> simp_all [Tree.val]
theorem run_int_arith {op : BinOp} {k : IntKind} {x y : Int} {v : AV} {u : Upd} (hx : (Lit.int k x).wf = true)
    (hv : (arithK op k x y fun v => Tree.ret (v, ([] : Upd))).val = some (v, u)) (hs : op ≠ .shl ∧ op ≠ .shr) (xT : Nat) :
    [] = u ∧ ∃ val, (binOp op xT (.int k x) (.int k y)).run P w = .ok val w ∧ RepA w S γ R v val := by
  cases op <;> simp only [arithK, Tree.val, reduceCtorEq, Option.some.injEq, Prod.mk.injEq] at hv
  case add => obtain ⟨rfl, rfl⟩ := hv; exact ⟨rfl, _, by simp [binOp, Op.intArith], mk_int (wf_wrap _ _)⟩
  case sub => obtain ⟨rfl, rfl⟩ := hv; exact ⟨rfl, _, by simp [binOp, Op.intArith], mk_int (wf_wrap _ _)⟩
  case mul => obtain ⟨rfl, rfl⟩ := hv; exact ⟨rfl, _, by simp [binOp, Op.intArith], mk_int (wf_wrap _ _)⟩
  case quo =>
    by_cases hy : y = 0
    · simp [hy] at hv
    · simp only [hy, decide_false, cond_false, Option.some.injEq, Prod.mk.injEq] at hv
      obtain ⟨rfl, rfl⟩ := hv
      exact ⟨rfl, _, by simp [binOp, Op.intDiv, hy], mk_int (wf_wrap _ _)⟩
  case rem =>
    by_cases hy : y = 0
    · simp [hy] at hv
    · simp only [hy, decide_false, cond_false, Option.some.injEq, Prod.mk.injEq] at hv
      obtain ⟨rfl, rfl⟩ := hv
      exact ⟨rfl, _, by simp [binOp, Op.intDiv, hy], mk_int (wf_tmod hx)⟩
  case and => obtain ⟨rfl, rfl⟩ := hv; exact ⟨rfl, _, by simp only [binOp, Op.intBits]; simp, mk_int (wf_wrap _ _)⟩
  case or => obtain ⟨rfl, rfl⟩ := hv; exact ⟨rfl, _, by simp only [binOp, Op.intBits]; simp, mk_int (wf_wrap _ _)⟩
  case xor => obtain ⟨rfl, rfl⟩ := hv; exact ⟨rfl, _, by simp only [binOp, Op.intBits]; simp, mk_int (wf_wrap _ _)⟩
  case andNot => obtain ⟨rfl, rfl⟩ := hv; exact ⟨rfl, _, by simp only [binOp, Op.intBits]; simp, mk_int (wf_wrap _ _)⟩
  case eql => obtain ⟨rfl, rfl⟩ := hv; exact ⟨rfl, _, by simp [binOp, Op.intCmp], mk_bool⟩
  case neq => obtain ⟨rfl, rfl⟩ := hv; exact ⟨rfl, _, by simp [binOp, Op.intCmp], mk_bool⟩
  case lss => obtain ⟨rfl, rfl⟩ := hv; exact ⟨rfl, _, by simp [binOp, Op.intCmp], mk_bool⟩
  case leq => obtain ⟨rfl, rfl⟩ := hv; exact ⟨rfl, _, by simp [binOp, Op.intCmp], mk_bool⟩
  case gtr => obtain ⟨rfl, rfl⟩ := hv; exact ⟨rfl, _, by simp [binOp, Op.intCmp], mk_bool⟩
  case geq => obtain ⟨rfl, rfl⟩ := hv; exact ⟨rfl, _, by simp [binOp, Op.intCmp], mk_bool⟩
  all_goals first | exact absurd rfl hs.1 | exact absurd rfl hs.2
theorem take_drop_mid {pre c post : List Value} (n : Nat) (h : c.length = n) : ((pre ++ (c ++ post)).drop pre.length).take n = c := by
  rw [List.drop_left, ← h, List.take_left]
theorem run_part {τ : Ty} {t : TypeId} (hT : TyOk P τ t) {xs : Array Value} {pre c post : List Value} (hx : xs.toList = pre ++ (c ++ post)) {x : τ.den} (hr : RepC w S τ x c) (w' : World) :
    (part t xs pre.length).run P w' = .ok (pack τ c) w' := by
  have hl := hr.length
  unfold part
  cases ha : τ.isAgg with
  | true =>
    simp only [Sem.run_bind, run_isAgg' hT, Result.andThen_ok, ha, if_true, run_sizeOf' hT, Sem.run_pure]
    congr 1
    simp only [pack, ha, if_true]
    congr 1
    apply Array.ext'
    rw [Array.toList_extract, List.extract_eq_take_drop, hx]
    rw [show pre.length + τ.nc - pre.length = τ.nc by omega]
    simpa using take_drop_mid (pre := pre) (post := post) _ hl
  | false =>
    rw [nc_one ha] at hl
    match c, hl with
    | [v], _ =>
      have : xs[pre.length]? = some v := by
        rw [← Array.getElem?_toList, hx]
        simp
      simp [Sem.run_bind, run_isAgg' hT, ha, this, pack]
theorem beq_bytes (a b : ByteArray) : (a.toList == b.toList) = (a.data.toList == b.data.toList) := by rw [ByteArray.toList_eq, ByteArray.toList_eq]
theorem run_equal_both : ∀ τ : Ty,
    (∀ (t : TypeId) (d : Nat) (x y : τ.den) (cx cy : List Value), TyOk P τ t → τ.flat = true → τ.dep ≤ d → RepC w S τ x cx → RepC w S τ y cy →
      ∀ w', (Op.equalIn d t (pack τ cx) (pack τ cy)).run P w' = .ok (eqTy τ x y) w') ∧
    (∀ (fs : List Field) (d : Nat) (x y : τ.den) (cx cy px py : List Value) (xs ys : Array Value), τ.isAgg = true → FsOk P τ fs px.length → px.length = py.length → τ.flat = true → τ.dep ≤ d + 1 →
      RepC w S τ x cx → RepC w S τ y cy → xs.toList = px ++ cx → ys.toList = py ++ cy →
      ∀ w', (Op.eqFields d xs ys fs).run P w' = .ok (eqTy τ x y) w') := by
  intro τ
  induction τ with
  | int k =>
    refine ⟨fun t d x y cx cy hT _ hd hx hy w' => ?_, fun _ _ _ _ _ _ _ _ _ _ h => by cases h⟩
    obtain ⟨rfl, _⟩ := hx
    obtain ⟨rfl, _⟩ := hy
    obtain ⟨d, rfl⟩ : ∃ e, d = e + 1 := ⟨d - 1, by simp [Ty.dep] at hd; omega⟩
    exact run_equalIn_int w' d t k k x y hT.1
  | bool =>
    refine ⟨fun t d x y cx cy hT _ hd hx hy w' => ?_, fun _ _ _ _ _ _ _ _ _ _ h => by cases h⟩
    cases hx
    cases hy
    obtain ⟨d, rfl⟩ : ∃ e, d = e + 1 := ⟨d - 1, by simp [Ty.dep] at hd; omega⟩
    exact run_equalIn_bool' w' d t x y hT.1
  | str =>
    refine ⟨fun t d x y cx cy hT _ hd hx hy w' => ?_, fun _ _ _ _ _ _ _ _ _ _ h => by cases h⟩
    obtain ⟨ba, rfl, rfl, _⟩ := hx
    obtain ⟨bb, rfl, rfl, _⟩ := hy
    obtain ⟨d, rfl⟩ : ∃ e, d = e + 1 := ⟨d - 1, by simp [Ty.dep] at hd; omega⟩
    have := run_equalIn_string (P := P) w' d t ba bb hT.1
    rw [beq_bytes] at this
    exact this
  | sl u _ => exact ⟨fun t d x y cx cy _ hf => by simp [Ty.flat] at hf, fun _ _ _ _ _ _ _ _ _ _ h => by cases h⟩
  | fnc => exact ⟨fun t d x y cx cy _ hf => by simp [Ty.flat] at hf, fun _ _ _ _ _ _ _ _ _ _ h => by cases h⟩
  | unit =>
    have key : ∀ (fs : List Field) (d : Nat) (x y : Unit) (cx cy px py : List Value) (xs ys : Array Value), FsOk P .unit fs px.length → ∀ w', (Op.eqFields d xs ys fs).run P w' = .ok (eqTy .unit x y) w' := by
      intro fs d x y cx cy px py xs ys hF w'
      have : fs = [] := hF
      subst this
      rfl
    refine ⟨fun t d x y cx cy hT _ hd hx hy w' => ?_, fun fs d x y cx cy px py xs ys _ hF _ _ _ _ _ _ _ w' => key fs d x y cx cy px py xs ys hF w'⟩
    obtain ⟨d, rfl⟩ : ∃ e, d = e + 1 := ⟨d - 1, by simp [Ty.dep] at hd; omega⟩
    obtain ⟨⟨fs, h1, h2, h3⟩, _⟩ := hT
    have hfo : P.fieldsOf t = fs := by simp [Program.fieldsOf, h1]
    have := run_equalIn_struct (P := P) w' d t cx.toArray cy.toArray (by rw [hfo]; exact h1) h3
    simp only [pack, Ty.isAgg, if_true]
    rw [this, hfo, h2]
    rfl
  | pair a b iha ihb =>
    have key : ∀ (fs : List Field) (d : Nat) (x y : (Ty.pair a b).den) (cx cy px py : List Value) (xs ys : Array Value), FsOk P (.pair a b) fs px.length → px.length = py.length → (Ty.pair a b).flat = true → (Ty.pair a b).dep ≤ d + 1 →
      RepC w S (.pair a b) x cx → RepC w S (.pair a b) y cy → xs.toList = px ++ cx → ys.toList = py ++ cy →
      ∀ w', (Op.eqFields d xs ys fs).run P w' = .ok (eqTy (.pair a b) x y) w' := by
      intro fs d x y cx cy px py xs ys hF hp hfl hd hx hy hxs hys w'
      obtain ⟨f, r, rfl, e1, e2, e3, e4⟩ := hF
      obtain ⟨x1, x2, rfl, hx1, hx2⟩ := hx
      obtain ⟨y1, y2, rfl, hy1, hy2⟩ := hy
      simp only [Ty.flat, Bool.and_eq_true] at hfl
      simp only [Ty.dep] at hd
      have p1 := run_part e2 (xs := xs) hxs hx1 w'
      have p2 := run_part e2 (xs := ys) hys hy1 w'
      have q := iha.1 f.type d x.1 y.1 x1 y1 e2 hfl.1 (by omega) hx1 hy1 w'
      have lx := hx1.length
      have ly := hy1.length
      have hb : b.isAgg = true := by
        cases b <;> first | rfl | exact e3.elim
      have q2 := ihb.2 r d x.2 y.2 x2 y2 (px ++ x1) (py ++ y1) xs ys hb (by rw [List.length_append, lx]; exact e3) (by simp [hp, lx, ly]) hfl.2 (by omega) hx2 hy2 (by rw [hxs]; simp) (by rw [hys]; simp) w'
      simp only [Op.eqFields, ne_eq, e4, not_false_eq_true, if_true, Sem.run_bind]
      rw [e1, p1]
      simp only [Result.andThen_ok]
      rw [hp, p2]
      simp only [Result.andThen_ok, q, eqTy]
      cases eqTy a x.1 y.1
      · simp
      · simpa using q2
    refine ⟨fun t d x y cx cy hT hfl hd hx hy w' => ?_, fun fs d x y cx cy px py xs ys _ => key fs d x y cx cy px py xs ys⟩
    obtain ⟨d, rfl⟩ : ∃ e, d = e + 1 := ⟨d - 1, by simp only [Ty.dep] at hd; omega⟩
    obtain ⟨⟨fs, f0, r, h1, h2, h3, h4, h5, h6, h7, h8⟩, _⟩ := hT
    have hfo : P.fieldsOf t = fs := by simp [Program.fieldsOf, h1]
    have := run_equalIn_struct (P := P) w' d t cx.toArray cy.toArray (by rw [hfo]; exact h1) h7
    simp only [pack, Ty.isAgg, if_true]
    rw [this, hfo]
    exact key fs.toList d x y cx cy [] [] _ _ ⟨f0, r, h2, h3, h4, by simpa using h5, h6⟩ rfl hfl (by simpa using hd) hx hy (by simp) (by simp) w'
theorem run_bin (hT : TtOk P E.tt) {op : BinOp} {xT : Nat} {sa sb : SV} {va vb : Value} {x y : Operand} (ha : RepS w S γ st.row sa va) (hb : RepS w S γ st.row sb vb)
    (hv : (binK E op xT sa sb fun v => Tree.ret (v, ([] : Upd))).val = some (v, u)) :
    [] = u ∧ ∃ val, (do eqGuard op xT x y va vb; binOp op xT va vb).run P w = .ok val w ∧ RepA w S γ st.row v val := by
  unfold binK at hv
  split at hv
  · rename_i k n k' m
    obtain ⟨rfl, wa⟩ := inv_int ha
    obtain ⟨rfl, wb⟩ := inv_int hb
    split at hv
    · obtain ⟨h0, hv⟩ := br_val' hv
      simp only [Tree.val, Option.some.injEq, Prod.mk.injEq] at hv
      obtain ⟨rfl, rfl⟩ := hv
      have h0 : ¬ m < 0 := by simpa using h0
      exact ⟨rfl, _, by simp only [eqGuard_at_int, Sem.run_bind, Sem.run_pure, Result.andThen_ok, binOp, Op.shift, h0, if_false], mk_int (wf_wrap _ _)⟩
    · obtain ⟨h0, hv⟩ := br_val' hv
      simp only [Tree.val, Option.some.injEq, Prod.mk.injEq] at hv
      obtain ⟨rfl, rfl⟩ := hv
      have h0 : ¬ m < 0 := by simpa using h0
      exact ⟨rfl, _, by simp only [eqGuard_at_int, Sem.run_bind, Sem.run_pure, Result.andThen_ok, binOp, Op.shift, h0, if_false], mk_int (wf_shr _ wa)⟩
    · rename_i h1 h2
      obtain ⟨h0, hv⟩ := br_val hv
      have h0 : k = k' := by simpa using h0
      subst h0
      obtain ⟨rfl, val, hr, hra⟩ := run_int_arith (P := P) (w := w) (S := S) (γ := γ) (R := st.row) wa hv ⟨fun e => h1 e, fun e => h2 e⟩ xT
      exact ⟨rfl, val, by rw [eqGuard_at_int, Sem.run_bind, Sem.run_pure, Result.andThen_ok]; exact hr, hra⟩
  · rename_i s t
    obtain ⟨ba, rfl, rfl, la⟩ := inv_str ha
    obtain ⟨bb, rfl, rfl, lb⟩ := inv_str hb
    cases op <;> simp only [strK, Tree.val, reduceCtorEq, Option.some.injEq, Prod.mk.injEq] at hv
    case add =>
      obtain ⟨h0, hv⟩ := br_val (t := .ret _) hv
      simp only [Tree.val, Option.some.injEq, Prod.mk.injEq] at hv
      obtain ⟨rfl, rfl⟩ := hv
      have h0 : ba.data.toList.length + bb.data.toList.length ≤ maxLen := by simpa using h0
      have h1 : ¬ ((ba.size + bb.size : Nat) : Int) > IntKind.i64.max := by
        have e1 : ba.size = ba.data.toList.length := (Array.length_toList (xs := ba.data)).symm
        have e2 : bb.size = bb.data.toList.length := (Array.length_toList (xs := bb.data)).symm
        have e3 : IntKind.i64.max = 9223372036854775807 := by decide
        rw [e1, e2, e3]
        simp only [maxLen] at h0
        omega
      exact ⟨rfl, .string (ba ++ bb), by rw [eqGuard_add]; simp only [binOp, Op.stringOp]; rw [if_neg h1]; rfl, mk_str _ (by simp) (by simpa using h0)⟩
    case eql => obtain ⟨rfl, rfl⟩ := hv; exact ⟨rfl, _, by simp only [eqGuard_at_string, binOp, Op.stringOp, beq_bytes]; rfl, mk_bool⟩
    case neq => obtain ⟨rfl, rfl⟩ := hv; exact ⟨rfl, _, by simp only [eqGuard_at_string, binOp, Op.stringOp, beq_bytes]; rfl, mk_bool⟩
    case lss => obtain ⟨rfl, rfl⟩ := hv; exact ⟨rfl, _, by simp only [eqGuard_at_string, binOp, Op.stringOp, ByteArray.toList_eq]; rfl, mk_bool⟩
    case leq => obtain ⟨rfl, rfl⟩ := hv; exact ⟨rfl, _, by simp only [eqGuard_at_string, binOp, Op.stringOp, ByteArray.toList_eq]; rfl, mk_bool⟩
    case gtr => obtain ⟨rfl, rfl⟩ := hv; exact ⟨rfl, _, by simp only [eqGuard_at_string, binOp, Op.stringOp, ByteArray.toList_eq]; rfl, mk_bool⟩
    case geq => obtain ⟨rfl, rfl⟩ := hv; exact ⟨rfl, _, by simp only [eqGuard_at_string, binOp, Op.stringOp, ByteArray.toList_eq]; rfl, mk_bool⟩
  · rename_i p q
    have := inv_bool ha
    subst this
    have := inv_bool hb
    subst this
    split at hv
    · rename_i ht
      simp only [Tree.val, Option.some.injEq, Prod.mk.injEq] at hv
      obtain ⟨rfl, rfl⟩ := hv
      have := run_equalIn_bool' (P := P) w 9999 xT p q (hT.at ht).1
      refine ⟨rfl, .bool (p == q), ?_, mk_bool⟩
      rw [eqGuard_at_bool, Sem.run_bind, Sem.run_pure, Result.andThen_ok]
      simp only [binOp, Op.equal, Op.maxDepth, Sem.run_bind, this, Result.andThen_ok, Sem.run_pure]
    · rename_i ht
      simp only [Tree.val, Option.some.injEq, Prod.mk.injEq] at hv
      obtain ⟨rfl, rfl⟩ := hv
      have := run_equalIn_bool' (P := P) w 9999 xT p q (hT.at ht).1
      refine ⟨rfl, .bool (!(p == q)), ?_, mk_bool⟩
      rw [eqGuard_at_bool, Sem.run_bind, Sem.run_pure, Result.andThen_ok]
      simp only [binOp, Op.equal, Op.maxDepth, Sem.run_bind, this, Result.andThen_ok, Sem.run_pure]
    · simp [Tree.val] at hv
  · rename_i t1 t2 p t' q
    split at hv
    · rename_i t3 q' ht hc
      have hv1 := br_val hv
      clear hv
      obtain ⟨h0, hv⟩ := hv1
      simp only [Bool.and_eq_true, decide_eq_true_eq] at h0
      obtain ⟨h0, h00, h000⟩ := h0
      subst h0
      obtain ⟨e, he⟩ := castTy_some hc
      subst e
      simp only at he
      subst he
      obtain ⟨ca, rfl, ra⟩ := inv_agg (t := .pair t1 t2) rfl ha
      obtain ⟨cb, rfl, rb⟩ := inv_agg (t := .pair t1 t2) rfl hb
      have hty := hT.at ht
      have h1 := (run_equal_both (P := P) (w := w) (S := S) (.pair t1 t2)).1 xT 10000 p q ca cb hty h00 h000 ra rb w
      simp only [pack, Ty.isAgg, if_true] at h1
      obtain ⟨⟨fs, f0, r, _, _, _, _, _, _, _, h8⟩, _⟩ := hty
      cases op <;> simp only [Tree.val, reduceCtorEq, Option.some.injEq, Prod.mk.injEq] at hv
      · obtain ⟨rfl, rfl⟩ := hv
        refine ⟨rfl, _, ?_, mk_bool⟩
        rw [Sem.run_bind, run_eqGuard_agg w _ _ _ _ _ _ h8, Result.andThen_ok, run_eql_struct, h1]
        rfl
      · obtain ⟨rfl, rfl⟩ := hv
        refine ⟨rfl, _, ?_, mk_bool⟩
        rw [Sem.run_bind, run_eqGuard_agg w _ _ _ _ _ _ h8, Result.andThen_ok, run_neq_struct, h1]
        rfl
    · simp [Tree.val] at hv
  · simp [Tree.val] at hv
theorem empty_rep {sa : SV} {va : Value} {e : Bool} (ha : RepS w S γ st.row sa va) (he : emptyOf sa = some e) : ∃ ax len cap, va = .slice ax len cap ∧ (e = false → ax ≠ none) := by
  unfold emptyOf at he
  split at he
  · rename_i t l
    obtain ⟨cs, ⟨ax, cap, rfl, h1, h2, h3⟩, rfl⟩ := ha
    simp only [Option.some.injEq] at he
    refine ⟨ax, _, cap, rfl, fun e0 => ?_⟩
    subst he
    cases l with
    | nil => cases e0
    | cons x l =>
      obtain ⟨b, off, ds, rfl, _⟩ := h3 0 x rfl
      simp
  · obtain ⟨ax, rfl⟩ := ha
    simp only [Option.some.injEq] at he
    exact ⟨ax, 0, 0, rfl, fun e0 => by rw [← he] at e0; cases e0⟩
  · cases he
theorem isNilC_eq {y : Operand} (h : isNilC y = true) : y = .const (.slice none 0 0) := by
  unfold isNilC at h
  split at h
  · rfl
  · cases h
theorem run_equalIn_snil (d : Nat) {xT e : Nat} (hk : P.underlying xT = some (.slice e)) (ax : Option Addr) (len cap : Nat) : (Op.equalIn (d + 1) xT (.slice ax len cap) (.slice none 0 0)).run P w = .ok ax.isNone w := by
  cases ax <;> simp [Op.equalIn, run_underlying hk]
theorem run_eql_nil {xT e : Nat} (hk : P.underlying xT = some (.slice e)) (ax : Option Addr) (len cap : Nat) (x y : Operand) :
    (do eqGuard .eql xT x y (.slice ax len cap) (.slice none 0 0); binOp .eql xT (.slice ax len cap) (.slice none 0 0)).run P w = .ok (.bool ax.isNone) w := by
  have h : (Op.equal xT (.slice ax len cap) (.slice none 0 0)).run P w = .ok ax.isNone w := run_equalIn_snil 9999 hk ax len cap
  simp only [eqGuard, binOp]
  simp [h]
theorem run_neq_nil {xT e : Nat} (hk : P.underlying xT = some (.slice e)) (ax : Option Addr) (len cap : Nat) (x y : Operand) :
    (do eqGuard .neq xT x y (.slice ax len cap) (.slice none 0 0); binOp .neq xT (.slice ax len cap) (.slice none 0 0)).run P w = .ok (.bool (!ax.isNone)) w := by
  have h : (Op.equal xT (.slice ax len cap) (.slice none 0 0)).run P w = .ok ax.isNone w := run_equalIn_snil 9999 hk ax len cap
  simp only [eqGuard, binOp]
  simp [h]
theorem run_nil (hT : TtOk P E.tt) {op : BinOp} {xT : Nat} {sa : SV} {va : Value} {x y : Operand} (ha : RepS w S γ st.row sa va)
    (hv : (nilK E op xT sa fun v => Tree.ret (v, ([] : Upd))).val = some (v, u)) :
    [] = u ∧ ∃ val, (do eqGuard op xT x y va (.slice none 0 0); binOp op xT va (.slice none 0 0)).run P w = .ok val w ∧ RepA w S γ st.row v val := by
  unfold nilK at hv
  split at hv
  · rename_i t e ht he
    obtain ⟨⟨el, hk, _⟩, _⟩ := hT.at ht
    obtain ⟨ax, len, cap, rfl, h0⟩ := empty_rep ha he
    simp only [Tree.val, Option.some.injEq, Prod.mk.injEq] at hv
    obtain ⟨rfl, rfl⟩ := hv
    refine ⟨rfl, _, run_eql_nil hk ax len cap x y, _, rfl, fun e0 => ?_⟩
    have := h0 e0
    cases ax <;> simp_all
  · rename_i t e ht he
    obtain ⟨⟨el, hk, _⟩, _⟩ := hT.at ht
    obtain ⟨ax, len, cap, rfl, h0⟩ := empty_rep ha he
    simp only [Tree.val, Option.some.injEq, Prod.mk.injEq] at hv
    obtain ⟨rfl, rfl⟩ := hv
    refine ⟨rfl, _, run_neq_nil hk ax len cap x y, _, rfl, fun e0 => ?_⟩
    have := h0 e0
    cases ax <;> simp_all
  · simp [Tree.val] at hv
theorem sound_bin (hT : TtOk P E.tt) {op : BinOp} {xT yT : Nat} {x y : Operand} (hg : Good C w S γ st a.tmps) {rows : RT}
    (hv : (opT E ⟨dst, .binOp op xT x y yT, ty, pos, af, gd⟩ [st.ev x, st.ev y] rows).val = some (v, u)) : OpRes P ⟨dst, .binOp op xT x y yT, ty, pos, af, gd⟩ a w (After C st u v a.tmps) := by
  simp only [opT] at hv
  cases hn : isNilC y with
  | true =>
    simp only [hn, cond_true] at hv
    have hy := isNilC_eq hn
    subst hy
    obtain ⟨sa, sb, he, hv⟩ := one2_val (k := fun a _ => nilK E op xT a fun v => Tree.ret (v, ([] : Upd))) hv
    simp only [List.cons.injEq, and_true] at he
    obtain ⟨rfl, val, hr, hra⟩ := run_nil (st := st) (γ := γ) (x := x) (y := .const (.slice none 0 0)) hT (ev_rep hg.rel he.1) hv
    refine res_same hg (v := val) ?_ hra
    simp only [execOp, Sem.run_bind, Act.eval] at hr ⊢
    rw [hr]
    rfl
  | false =>
  rw [hn, cond_false] at hv
  obtain ⟨sa, sb, he, hv⟩ := one2_val (k := fun a b => binK E op xT a b fun v => Tree.ret (v, ([] : Upd))) hv
  simp only [List.cons.injEq, and_true] at he
  obtain ⟨rfl, val, hr, hra⟩ := run_bin (x := x) (y := y) hT (ev_rep hg.rel he.1) (ev_rep hg.rel he.2) hv
  refine res_same hg (v := val) ?_ hra
  simp only [execOp, Sem.run_bind] at hr ⊢
  rw [hr]
  rfl
theorem sound_un {op : UnOp} {xT : Nat} {x : Operand} (hg : Good C w S γ st a.tmps) {rows : RT}
    (hv : (opT E ⟨dst, .unOp op xT x, ty, pos, af, gd⟩ [st.ev x] rows).val = some (v, u)) : OpRes P ⟨dst, .unOp op xT x, ty, pos, af, gd⟩ a w (After C st u v a.tmps) := by
  obtain ⟨sa, he, hv⟩ := one1_val (k := fun a => unK op a fun v => Tree.ret (v, ([] : Upd))) hv
  simp only [List.cons.injEq, and_true] at he
  have ha := ev_rep hg.rel he
  unfold unK at hv
  split at hv
  · obtain ⟨e1, e2⟩ := inv_int (R := st.row) (γ := γ) ha
    simp only [Tree.val, Option.some.injEq, Prod.mk.injEq] at hv
    obtain ⟨rfl, rfl⟩ := hv
    exact res_same hg (v := .int _ _) (by simp only [execOp, e1, Op.unary, Op.intArith]; rfl) (mk_int (wf_wrap _ _))
  · obtain ⟨e1, e2⟩ := inv_int (R := st.row) (γ := γ) ha
    simp only [Tree.val, Option.some.injEq, Prod.mk.injEq] at hv
    obtain ⟨rfl, rfl⟩ := hv
    exact res_same hg (v := .int _ _) (by simp only [execOp, e1, Op.unary, Op.intBits]; rfl) (mk_int (wf_wrap _ _))
  · have e1 := inv_bool (R := st.row) (γ := γ) ha
    simp only [Tree.val, Option.some.injEq, Prod.mk.injEq] at hv
    obtain ⟨rfl, rfl⟩ := hv
    exact res_same hg (v := .bool _) (by simp only [execOp, e1, Op.unary]; rfl) mk_bool
  · simp [Tree.val] at hv
theorem sound_conv (hT : TtOk P E.tt) {sT dT : Nat} {x : Operand} (hg : Good C w S γ st a.tmps) {rows : RT}
    (hv : (opT E ⟨dst, .convert sT dT x, ty, pos, af, gd⟩ [st.ev x] rows).val = some (v, u)) : OpRes P ⟨dst, .convert sT dT x, ty, pos, af, gd⟩ a w (After C st u v a.tmps) := by
  obtain ⟨sa, he, hv⟩ := one1_val (k := fun a => convK E dT sT a fun v => Tree.ret (v, ([] : Upd))) hv
  simp only [List.cons.injEq, and_true] at he
  have ha := ev_rep hg.rel he
  unfold convK at hv
  split at hv
  · rename_i q k q' n h1 h2
    obtain ⟨e1, e2⟩ := inv_int (R := st.row) (γ := γ) ha
    simp only [Tree.val, Option.some.injEq, Prod.mk.injEq] at hv
    obtain ⟨rfl, rfl⟩ := hv
    refine res_same hg (v := .int _ _) ?_ (mk_int (wf_wrap _ _))
    simp only [execOp, e1, convert, Sem.run_bind, run_underlying (hT.at h1).1, run_underlying (hT.at h2).1, Result.andThen_ok, Conv.intToInt]
    rfl
  · rename_i s h1 h2
    obtain ⟨ba, e1, e2, e3⟩ := inv_str (R := st.row) (γ := γ) ha
    simp only [Tree.val, Option.some.injEq, Prod.mk.injEq] at hv
    obtain ⟨rfl, rfl⟩ := hv
    refine res_same hg (v := .string ba) ?_ (mk_str ba e2 e3)
    simp only [execOp, e1, convert, Sem.run_bind, run_underlying (hT.at h1).1, run_underlying (hT.at h2).1, Result.andThen_ok]
    rfl
  · simp [Tree.val] at hv
theorem mem_row {id : Nat} {r : Row} (h : RowOk w S γ id r) {i : Nat} (hi : i < r.l.length) {b q : Nat} (hp : γ id = some (b, q)) :
    ∃ ds, Mem w b (q + i * r.t.nc) ds ∧ RepC w S r.t (r.l.getD i r.t.zero) ds := by
  obtain ⟨cur, e, _, h2⟩ := h.cells hp (.inl (fun e => by rw [e] at hi; simp at hi))
  refine h2 i _ ?_
  rw [List.getD_eq_getElem?_getD, List.getElem?_eq_getElem hi]
  rfl
theorem sound_load0 (hT : TtOk P E.tt) {t : Nat} {x : Operand} (hg : Good C w S γ st a.tmps)
    (hv : (one1 [st.ev x] fun a => loadK E (rowsOf st ids) t a fun v => Tree.ret (v, ([] : Upd))).val = some (v, u)) : OpRes P ⟨dst, .load t x, ty, pos, af, gd⟩ a w (After C st u v a.tmps) := by
  obtain ⟨sa, he, hv⟩ := one1_val (k := fun a => loadK E (rowsOf st ids) t a fun v => Tree.ret (v, ([] : Upd))) hv
  simp only [List.cons.injEq, and_true] at he
  have ha := ev_rep hg.rel he
  unfold loadK at hv
  split at hv
  · rename_i τ τ' y ht
    obtain ⟨h0, hv⟩ := br_val hv
    have h0 : τ = τ' := by simpa using h0
    subst h0
    simp only [Tree.val, Option.some.injEq, Prod.mk.injEq] at hv
    obtain ⟨rfl, rfl⟩ := hv
    obtain ⟨b, off, ds, e1, e2, e3, e4⟩ := ha
    refine res_same hg (v := pack τ ds) ?_ ⟨ds, e4, rfl⟩
    simp only [execOp, e1, Instr.loadAt, Instr.sureAddr, Sem.run_bind, Sem.run_pure, Result.andThen_ok, run_loadVar' (hT.at ht) e3 e4]
  · rename_i τ id i p ht
    split at hv
    · rename_i r hr
      split at hv
      · rename_i d hd
        obtain ⟨h0, hv'⟩ := br_val hv
        clear hv
        have h0 : τ = d.t := by simpa using h0
        subst h0
        simp only [Tree.val, Option.some.injEq, Prod.mk.injEq] at hv'
        obtain ⟨rfl, rfl⟩ := hv'
        have hr' := rowsOf_sub hr
        obtain ⟨h1, b, q, uu, o, h2, h3, h4⟩ := ha r hr'
        obtain ⟨ds, d1, d2⟩ := mem_row (hg.rel.rows id r hr') h1 h2
        obtain ⟨o', es, g1, g2, g3⟩ := getP_rep p hd d1 d2
        rw [h3] at g1
        simp only [Option.some.injEq, Prod.mk.injEq] at g1
        obtain ⟨rfl, rfl⟩ := g1
        refine res_same hg (v := pack d.t es) ?_ ⟨es, g3, rfl⟩
        simp only [execOp, h4, Instr.loadAt, Instr.sureAddr, Sem.run_bind, Sem.run_pure, Result.andThen_ok, run_loadVar' (hT.at ht) g2 g3]
      · simp [Tree.val] at hv
    · simp [Tree.val] at hv
  · simp [Tree.val] at hv
theorem run_fieldAt {τ u : Ty} {t f o b off : Nat} (hT : TyOk P τ t) (hc : τ.comp f = some (u, o)) (hn : 0 < u.nc) :
    (Instr.fieldAt t (.pointer (some ⟨b, off, none⟩)) f).run P w = .ok (.pointer (some ⟨b, off + o, none⟩)) w := by
  obtain ⟨fs, fd, h1, h2, h3, h4⟩ := hT.struct hc
  have hn' : u.nc ≠ 0 := by omega
  simp [Instr.fieldAt, Sem.run_bind, run_underlying h1, h2, Instr.sureAddr, fieldPlace, run_sizeOf' h4, hn', h3, Addr.add_mid]
theorem sound_fieldAddr (hT : TtOk P E.tt) {t f : Nat} {x : Operand} (hg : Good C w S γ st a.tmps)
    (hv : (opT E ⟨dst, .fieldAddr t x f, ty, pos, af, gd⟩ [st.ev x] (rowsOf st ids)).val = some (v, u)) : OpRes P ⟨dst, .fieldAddr t x f, ty, pos, af, gd⟩ a w (After C st u v a.tmps) := by
  obtain ⟨sa, he, hv⟩ := one1_val (k := fun a => fieldAddrK E (rowsOf st ids) t a f fun v => Tree.ret (v, ([] : Upd))) hv
  simp only [List.cons.injEq, and_true] at he
  have ha := ev_rep hg.rel he
  unfold fieldAddrK at hv
  split at hv
  · rename_i τ τ' y ht
    obtain ⟨h0, hv'⟩ := br_val hv
    clear hv
    have h0 : τ = τ' := by simpa using h0
    subst h0
    split at hv'
    · rename_i d hd
      obtain ⟨h0, hv⟩ := br_val hv'
      clear hv'
      have h0 : 0 < d.t.nc := by simpa using h0
      simp only [Tree.val, Option.some.injEq, Prod.mk.injEq] at hv
      obtain ⟨rfl, rfl⟩ := hv
      obtain ⟨b, off, ds, e1, e2, e3, e4⟩ := ha
      obtain ⟨o, ho⟩ := getF_comp hd
      obtain ⟨es, g1, g2⟩ := getF_rep hd ho e3 e4
      refine res_same hg (v := .pointer (some ⟨b, off + o, none⟩)) ?_ ⟨b, off + o, es, rfl, e2, g1, g2⟩
      simp only [execOp, e1, Sem.run_bind, run_fieldAt (hT.at ht) ho h0, Result.andThen_ok, Sem.run_pure]
    · simp [Tree.val] at hv'
  · rename_i τ id i p ht
    split at hv
    · rename_i r hr
      split at hv
      · rename_i τ' o hp
        obtain ⟨h0, hv'⟩ := br_val hv
        clear hv
        have h0 : τ = τ' := by simpa using h0
        subst h0
        split at hv'
        · rename_i vt o' hc
          obtain ⟨h0, hv⟩ := br_val hv'
          clear hv'
          have h0 : 0 < vt.nc := by simpa using h0
          simp only [Tree.val, Option.some.injEq, Prod.mk.injEq] at hv
          obtain ⟨rfl, rfl⟩ := hv
          obtain ⟨h1, b, q, uu, oo, h2, h3, h4⟩ := ha r (rowsOf_sub hr)
          rw [hp] at h3
          simp only [Option.some.injEq, Prod.mk.injEq] at h3
          obtain ⟨rfl, rfl⟩ := h3
          have hat : ∀ (p : List Nat) (t : Ty) (o : Nat), t.at p = some (τ, o) → t.at (p ++ [f]) = some (vt, o + o') := by
            intro p
            induction p with
            | nil =>
              intro t o h
              simp only [Ty.at, Option.some.injEq, Prod.mk.injEq] at h
              obtain ⟨rfl, rfl⟩ := h
              simp [Ty.at, hc]
            | cons g p ih =>
              intro t o h
              simp only [Ty.at] at h
              split at h
              · rename_i u1 o1 hc1
                split at h
                · rename_i v1 o2 ha1
                  simp only [Option.some.injEq, Prod.mk.injEq] at h
                  obtain ⟨rfl, rfl⟩ := h
                  simp only [List.cons_append, Ty.at, hc1, ih _ _ ha1]
                  rw [Nat.add_assoc]
                · cases h
              · cases h
          refine res_same hg (v := .pointer (some ⟨b, q + i * r.t.nc + o + o', none⟩)) ?_ ?_
          · simp only [execOp, h4, Sem.run_bind, run_fieldAt (hT.at ht) hc h0, Result.andThen_ok, Sem.run_pure]
          · intro r' hr'
            rw [rowsOf_sub hr] at hr'
            cases hr'
            exact ⟨h1, b, q, vt, o + o', h2, hat p _ _ hp, by rw [Nat.add_assoc]⟩
        · simp [Tree.val] at hv'
      · simp [Tree.val] at hv
    · simp [Tree.val] at hv
  · rename_i τ id τ' off ht
    split at hv
    · rename_i r hr
      obtain ⟨h0, hv'⟩ := br_val hv
      clear hv
      have h0 : τ = τ' := by simpa using h0
      subst h0
      split at hv'
      · rename_i vt o hc
        obtain ⟨h0, hv⟩ := br_val hv'
        clear hv'
        have h0 : 0 < vt.nc := by simpa using h0
        simp only [Tree.val, Option.some.injEq, Prod.mk.injEq] at hv
        obtain ⟨rfl, rfl⟩ := hv
        obtain ⟨b, q, g1, g2⟩ := ha r (rowsOf_sub hr)
        refine res_same hg (v := .pointer (some ⟨b, q + off + o, none⟩)) ?_ (fun r' hr' => ⟨b, q, g1, by simp [Nat.add_assoc]⟩)
        simp only [execOp, g2, Sem.run_bind, run_fieldAt (hT.at ht) hc h0, Result.andThen_ok, Sem.run_pure]
      · simp [Tree.val] at hv'
    · simp [Tree.val] at hv
  · simp [Tree.val] at hv
theorem split3 {cs : List Value} (o n : Nat) (h : o + n ≤ cs.length) : ∃ pre c post, cs = pre ++ (c ++ post) ∧ pre.length = o ∧ c.length = n ∧ c = (cs.drop o).take n := by
  refine ⟨cs.take o, (cs.drop o).take n, cs.drop (o + n), ?_, by simp only [List.length_take]; omega, by simp only [List.length_take, List.length_drop]; omega, rfl⟩
  rw [← List.drop_drop, List.take_append_drop, List.take_append_drop]
theorem sound_field (hT : TtOk P E.tt) {t f : Nat} {x : Operand} (hg : Good C w S γ st a.tmps) {rows : RT}
    (hv : (opT E ⟨dst, .field t x f, ty, pos, af, gd⟩ [st.ev x] rows).val = some (v, u)) : OpRes P ⟨dst, .field t x f, ty, pos, af, gd⟩ a w (After C st u v a.tmps) := by
  change (fieldK E t f [st.ev x] fun v => Tree.ret (v, ([] : Upd))).val = some (v, u) at hv
  unfold fieldK at hv
  split at hv
  · rename_i τ τ' y ht he
    simp only [List.cons.injEq, and_true] at he
    have ha := ev_rep hg.rel he
    obtain ⟨h0, hv'⟩ := br_val hv
    clear hv
    have h0 : τ = τ' := by simpa using h0
    subst h0
    split at hv'
    · rename_i d hd
      simp only [Tree.val, Option.some.injEq, Prod.mk.injEq] at hv'
      obtain ⟨rfl, rfl⟩ := hv'
      obtain ⟨o, ho⟩ := getF_comp hd
      have hagg : τ.isAgg = true := by cases τ <;> first | rfl | simp [Ty.comp] at ho
      obtain ⟨cs, e1, e2⟩ := inv_agg (R := st.row) (γ := γ) hagg ha
      obtain ⟨fs, fd, h1, h2, h3, h4⟩ := (hT.at ht).struct ho
      have hp := e2.part hd ho
      have hle := comp_le ho
      obtain ⟨pre, c, post, g1, g2, g3, g4⟩ := split3 (cs := cs) o d.t.nc (by rw [e2.length]; exact hle)
      rw [← g4] at hp
      refine res_same hg (v := pack d.t c) ?_ ⟨c, hp, rfl⟩
      have := run_part (P := P) h4 (xs := cs.toArray) (pre := pre) (c := c) (post := post) (by simpa using g1) hp w
      simp only [execOp, e1, Instr.field, Sem.run_bind, run_underlying h1, Result.andThen_ok, h2, asAgg, Sem.run_pure]
      rw [h3, ← g2, this]
      rfl
    · simp [Tree.val] at hv'
  · simp [Tree.val] at hv
theorem sound_indexAddr (hT : TtOk P E.tt) {t : Nat} {x y : Operand} (hg : Good C w S γ st a.tmps)
    (hv : (opT E ⟨dst, .indexAddr t x y, ty, pos, af, gd⟩ [st.ev x, st.ev y] (rowsOf st ids)).val = some (v, u)) : OpRes P ⟨dst, .indexAddr t x y, ty, pos, af, gd⟩ a w (After C st u v a.tmps) := by
  obtain ⟨sa, sb, he, hv1⟩ := one2_val (k := fun s i => intK i fun i => indexAddrK E (rowsOf st ids) t s i fun v => Tree.ret (v, ([] : Upd))) hv
  clear hv
  obtain ⟨q, n, rfl, hv⟩ := intK_val hv1
  clear hv1
  simp only [List.cons.injEq, and_true] at he
  have ha := ev_rep hg.rel he.1
  obtain ⟨hb, _⟩ := inv_int (R := st.row) (γ := γ) (ev_rep hg.rel he.2)
  have hrun : ∀ (τ : Ty) (b off len cap : Nat), TyOk P (.sl τ) t → a.eval x = .slice (some ⟨b, off, none⟩) len cap → 0 ≤ n → n < (len : Int) →
      (execOp a.eval ⟨dst, .indexAddr t x y, ty, pos, af, gd⟩).run P w = .ok (.value (.pointer (some ⟨b, off + n.toNat * τ.nc, none⟩))) w := by
    intro τ b off len cap h1 h2 h3 h4
    obtain ⟨⟨e, h5, h6⟩, _⟩ := h1
    simp [execOp, h2, hb, Instr.indexAt, asIntOf, Sem.run_bind, run_underlying h5, h3, h4, run_sizeOf' h6, Addr.add_mid]
  unfold indexAddrK at hv
  split at hv
  · rename_i τ τ' l ht
    obtain ⟨h0, hv'⟩ := br_val hv
    clear hv
    simp only [Bool.and_eq_true, decide_eq_true_eq] at h0
    obtain ⟨h0, h00⟩ := h0
    subst h0
    simp only [Tree.val, idx] at hv'
    by_cases hn : 0 ≤ n
    · simp only [hn, decide_true, cond_true] at hv'
      cases hl : l[n.toNat]? with
      | none => simp [hl] at hv'
      | some x' =>
        simp only [hl, Option.bind_some, Option.some.injEq, Prod.mk.injEq] at hv'
        obtain ⟨rfl, rfl⟩ := hv'
        obtain ⟨cs, ⟨ad, cap, e1, e2, e3, e4⟩, e5⟩ := ha
        subst e1
        obtain ⟨b, off, ds, g1, g2, g3, g4⟩ := e4 n.toNat x' hl
        subst g1
        have hlt := (List.getElem?_eq_some_iff.1 hl).1
        refine res_same hg (v := .pointer (some ⟨b, off + n.toNat * τ.nc, none⟩)) (hrun τ b off l.length cap (hT.at ht) e5 hn (by omega)) ⟨b, _, ds, rfl, g2, g3, g4⟩
    · simp [hn] at hv'
  · rename_i τ id ht
    split at hv
    · rename_i r hr
      obtain ⟨h0, hv'⟩ := br_val hv
      clear hv
      simp only [Bool.and_eq_true, decide_eq_true_eq] at h0
      obtain ⟨h0, h00⟩ := h0
      obtain ⟨h1, hv⟩ := br_val hv'
      clear hv'
      simp only [Bool.and_eq_true, decide_eq_true_eq] at h1
      simp only [Tree.val, Option.some.injEq, Prod.mk.injEq] at hv
      obtain ⟨rfl, rfl⟩ := hv
      have hr' := rowsOf_sub hr
      obtain ⟨ad, cap, g1, g2, g3, g4⟩ := ha r hr'
      rcases g4 with g4 | ⟨b, p, f1, f2, f3⟩
      · omega
      · subst f2
        refine res_same hg (v := .pointer (some ⟨b, p + 0 * r.t.nc + n.toNat * τ.nc, none⟩)) (hrun τ b _ _ cap (hT.at ht) g1 h1.1 h1.2) ?_
        intro r2 hr2
        rw [hr'] at hr2
        cases hr2
        exact ⟨by omega, b, p, _, 0, f1, rfl, by rw [h0]; simp⟩
    · simp [Tree.val] at hv
  · rename_i τ id lo len ht
    split at hv
    · rename_i r hr
      obtain ⟨h0, hv'⟩ := br_val hv
      clear hv
      simp only [Bool.and_eq_true, decide_eq_true_eq] at h0
      obtain ⟨h0, h00⟩ := h0
      obtain ⟨h1, hv⟩ := br_val hv'
      clear hv'
      simp only [Bool.and_eq_true, decide_eq_true_eq] at h1
      simp only [Tree.val, Option.some.injEq, Prod.mk.injEq] at hv
      obtain ⟨rfl, rfl⟩ := hv
      have hr' := rowsOf_sub hr
      obtain ⟨hlen, ad, cap, g1, g2, g3, g4⟩ := ha r hr'
      rcases g4 with g4 | ⟨b, p, f1, f2, f3⟩
      · omega
      · subst f2
        refine res_same hg (v := .pointer (some ⟨b, p + lo * r.t.nc + n.toNat * τ.nc, none⟩)) (hrun τ b _ _ cap (hT.at ht) g1 h1.1 h1.2) ?_
        intro r2 hr2
        rw [hr'] at hr2
        cases hr2
        exact ⟨by omega, b, p, _, 0, f1, rfl, by rw [h0, Nat.add_mul]; simp [Nat.add_assoc]⟩
    · simp [Tree.val] at hv
  · rename_i id j ht
    split at hv
    · rename_i k m r ha' hr
      obtain ⟨h0, hv'⟩ := br_val hv
      clear hv
      have h0 : r.t = powI k m := by simpa using h0
      obtain ⟨h1, hv⟩ := br_val hv'
      clear hv'
      simp only [Bool.and_eq_true, decide_eq_true_eq] at h1
      simp only [Tree.val, Option.some.injEq, Prod.mk.injEq] at hv
      obtain ⟨rfl, rfl⟩ := hv
      have hr' := rowsOf_sub hr
      obtain ⟨g1, b, p, u', o, g2, g3, g4⟩ := ha r hr'
      simp only [Ty.at, Option.some.injEq, Prod.mk.injEq] at g3
      obtain ⟨rfl, rfl⟩ := g3
      obtain ⟨e, f1, f2, f3⟩ := hT.arr ha'
      have hlt : n.toNat < m := by omega
      refine res_same hg (v := .pointer (some ⟨b, p + j * r.t.nc + 0 + n.toNat, none⟩)) ?_ ?_
      · simp [execOp, g4, hb, Instr.indexAt, asIntOf, Instr.sureAddr, Sem.run_bind, run_underlying f1, h1.1, h1.2, run_sizeOf' f2, Addr.add_mid, Ty.nc]
      · intro r2 hr2
        rw [hr'] at hr2
        cases hr2
        refine ⟨g1, b, p, .int k, n.toNat, g2, ?_, by simp⟩
        rw [h0]
        simp only [Ty.at, powI_comp hlt, Nat.add_zero]
    · simp [Tree.val] at hv
  · simp [Tree.val] at hv
theorem sound_index (hT : TtOk P E.tt) {t : Nat} {x y : Operand} (hg : Good C w S γ st a.tmps) {rows : RT}
    (hv : (opT E ⟨dst, .index t x y, ty, pos, af, gd⟩ [st.ev x, st.ev y] rows).val = some (v, u)) : OpRes P ⟨dst, .index t x y, ty, pos, af, gd⟩ a w (After C st u v a.tmps) := by
  change (indexK E t [st.ev x, st.ev y] fun v => Tree.ret (v, ([] : Upd))).val = some (v, u) at hv
  unfold indexK at hv
  split at hv
  · rename_i s q n ht he
    simp only [List.cons.injEq, and_true] at he
    obtain ⟨ba, e1, e2, e3⟩ := inv_str (R := st.row) (γ := γ) (ev_rep hg.rel he.1)
    obtain ⟨hb, _⟩ := inv_int (R := st.row) (γ := γ) (ev_rep hg.rel he.2)
    simp only [Tree.val, idx] at hv
    by_cases hn : 0 ≤ n
    · simp only [hn, decide_true, cond_true] at hv
      cases hl : s[n.toNat]? with
      | none => simp [hl] at hv
      | some c =>
        simp only [hl, Option.bind_some, Option.some.injEq, Prod.mk.injEq] at hv
        obtain ⟨rfl, rfl⟩ := hv
        have hba : ba[n.toNat]? = some c := by
          rw [← e2] at hl
          have : n.toNat < ba.data.toList.length := (List.getElem?_eq_some_iff.1 hl).1
          have h1 : n.toNat < ba.size := by rw [Array.length_toList] at this; exact this
          rw [getElem?_pos ba n.toNat h1]
          rw [List.getElem?_eq_getElem this] at hl
          rw [← hl]
          rfl
        refine res_same hg (v := .int .u8 (c.toNat : Int)) ?_ (mk_int ?_)
        · simp [execOp, e1, hb, Instr.index, asIntOf, Sem.run_bind, run_underlying (hT.at ht).1, hn, hba]
        · rw [wf_iff]
          have := c.toNat_lt
          have h1 : IntKind.u8.min = 0 := by decide
          have h2 : IntKind.u8.max = 255 := by decide
          rw [h1, h2]
          omega
    · simp [hn] at hv
  · simp [Tree.val] at hv
theorem sound_extract {i : Nat} {x : Operand} (hg : Good C w S γ st a.tmps) {rows : RT}
    (hv : (opT E ⟨dst, .extract x i, ty, pos, af, gd⟩ [st.ev x] rows).val = some (v, u)) : OpRes P ⟨dst, .extract x i, ty, pos, af, gd⟩ a w (After C st u v a.tmps) := by
  change (extractK i [st.ev x] fun v => Tree.ret (v, ([] : Upd))).val = some (v, u) at hv
  unfold extractK at hv
  split at hv
  · rename_i l he
    simp only [List.cons.injEq, and_true] at he
    obtain ⟨vs, e1, e2, e3⟩ := ev_rep hg.rel he
    split at hv
    · rename_i s hs
      simp only [Tree.val, Option.some.injEq, Prod.mk.injEq] at hv
      obtain ⟨rfl, rfl⟩ := hv
      obtain ⟨y, hy, hr⟩ := e3 i s hs
      refine res_same hg (v := y) ?_ hr
      simp [execOp, e1, Instr.extract, hy]
    · simp [Tree.val] at hv
  · simp [Tree.val] at hv
theorem sound_nilCheck {x : Operand} (hg : Good C w S γ st a.tmps)
    (hv : (opT E ⟨dst, .nilCheck x, ty, pos, af, gd⟩ [st.ev x] (rowsOf st ids)).val = some (v, u)) : OpRes P ⟨dst, .nilCheck x, ty, pos, af, gd⟩ a w (After C st u v a.tmps) := by
  obtain ⟨sa, he, hv⟩ := one1_val (k := fun a => nilCheckK (rowsOf st ids) a fun v => Tree.ret (v, ([] : Upd))) hv
  simp only [List.cons.injEq, and_true] at he
  have ha := ev_rep hg.rel he
  unfold nilCheckK at hv
  split at hv
  · simp only [Tree.val, Option.some.injEq, Prod.mk.injEq] at hv
    obtain ⟨rfl, rfl⟩ := hv
    have ha' := ha
    obtain ⟨b, off, ds, e1, _⟩ := ha
    exact res_same hg (v := a.eval x) (by simp only [execOp, e1]; rfl) ha'
  · simp only [Tree.val, Option.some.injEq, Prod.mk.injEq] at hv
    obtain ⟨rfl, rfl⟩ := hv
    have ha' := ha
    obtain ⟨vs, e1, _⟩ := ha
    exact res_same hg (v := a.eval x) (by simp only [execOp, e1]; rfl) ha'
  · split at hv
    · rename_i r hr
      simp only [Tree.val, Option.some.injEq, Prod.mk.injEq] at hv
      obtain ⟨rfl, rfl⟩ := hv
      have ha' := ha
      obtain ⟨_, b, q, _, o, _, _, e1⟩ := ha r (rowsOf_sub hr)
      exact res_same hg (v := a.eval x) (by simp only [execOp, e1]; rfl) ha'
    · simp [Tree.val] at hv
  · split at hv
    · rename_i r hr
      simp only [Tree.val, Option.some.injEq, Prod.mk.injEq] at hv
      obtain ⟨rfl, rfl⟩ := hv
      have ha' := ha
      obtain ⟨b, q, _, e1⟩ := ha r (rowsOf_sub hr)
      exact res_same hg (v := a.eval x) (by simp only [execOp, e1]; rfl) ha'
    · simp [Tree.val] at hv
  · simp only [Tree.val, Option.some.injEq, Prod.mk.injEq] at hv
    obtain ⟨rfl, rfl⟩ := hv
    have ha' := ha
    obtain ⟨vs, e1, _⟩ := ha
    exact res_same hg (v := a.eval x) (by simp only [execOp, e1]; rfl) ha'
  · simp [Tree.val] at hv
theorem capsOf_ok (h : Rel w S γ st a.tmps) : ∀ (xs : List Operand) (ids : List Nat), capsOf (xs.map st.ev) = some ids → (xs.map a.eval).length = ids.length ∧
    ∀ (k id : Nat), ids[k]? = some id → ∃ u : Value, (xs.map a.eval)[k]? = some u ∧ ∀ r : Row, st.row id = some r → ∃ b q, γ id = some (b, q) ∧ u = Value.pointer (some ⟨b, q, none⟩) := by
  intro xs
  induction xs with
  | nil =>
    intro ids hc
    simp only [List.map_nil, capsOf, Option.some.injEq] at hc
    subst hc
    exact ⟨rfl, fun k id hk => by simp at hk⟩
  | cons x xs ih =>
    intro ids hc
    rw [List.map_cons] at hc
    unfold capsOf at hc
    split at hc
    · rename_i h1; cases h1
    · rename_i id r h1
      simp only [List.cons.injEq] at h1
      obtain ⟨h2, h3⟩ := h1
      split at hc
      · rename_i l hl
        simp only [Option.some.injEq] at hc
        subst hc
        rw [← h3] at hl
        obtain ⟨g1, g2⟩ := ih l hl
        refine ⟨by simpa using g1, fun k id' hk => ?_⟩
        cases k with
        | zero =>
          simp only [List.getElem?_cons_zero, Option.some.injEq] at hk
          subst hk
          refine ⟨a.eval x, rfl, fun r hr => ?_⟩
          obtain ⟨p1, b, q, u, o, p2, p3, p4⟩ := (ev_rep h h2) r hr
          simp only [Ty.at, Option.some.injEq, Prod.mk.injEq] at p3
          obtain ⟨_, rfl⟩ := p3
          exact ⟨b, q, p2, by simpa using p4⟩
        | succ k => exact g2 k id' (by simpa using hk)
      · cases hc
    · rename_i id t r h1
      simp only [List.cons.injEq] at h1
      obtain ⟨h2, h3⟩ := h1
      split at hc
      · rename_i l hl
        simp only [Option.some.injEq] at hc
        subst hc
        rw [← h3] at hl
        obtain ⟨g1, g2⟩ := ih l hl
        refine ⟨by simpa using g1, fun k id' hk => ?_⟩
        cases k with
        | zero =>
          simp only [List.getElem?_cons_zero, Option.some.injEq] at hk
          subst hk
          refine ⟨a.eval x, rfl, fun r hr => ?_⟩
          obtain ⟨b, q, p2, p4⟩ := (ev_rep h h2) r hr
          exact ⟨b, q, p2, by simpa using p4⟩
        | succ k => exact g2 k id' (by simpa using hk)
      · cases hc
    · cases hc
theorem sound_makeFunc {f : Fn} {first captured : Array Operand} {rows : RT} (hg : Good C w S γ st a.tmps)
    (hv : (opT E ⟨dst, .makeFunc f first captured, ty, pos, af, gd⟩ ((first.toList ++ captured.toList).map st.ev) rows).val = some (v, u)) : OpRes P ⟨dst, .makeFunc f first captured, ty, pos, af, gd⟩ a w (After C st u v a.tmps) := by
  change (makeFuncK f first.toList ((first.toList ++ captured.toList).map st.ev) fun v => Tree.ret (v, ([] : Upd))).val = some (v, u) at hv
  unfold makeFuncK at hv
  split at hv
  · rename_i g ids e1 e2
    simp only [Tree.val, Option.some.injEq, Prod.mk.injEq] at hv
    obtain ⟨rfl, rfl⟩ := hv
    rw [e1, List.nil_append] at e2
    have hf : first = #[] := Array.toList_eq_nil_iff.1 e1
    subst hf
    obtain ⟨g1, g2⟩ := capsOf_ok hg.rel _ _ e2
    refine res_same hg (v := .func (.func g) #[] (captured.toList.map a.eval).toArray) ?_ ⟨captured.toList.map a.eval, rfl, g1, g2⟩
    have : captured.map a.eval = (captured.toList.map a.eval).toArray := by
      apply Array.toList_inj.1
      simp
    simp only [execOp, Array.map_empty, this]
    rfl
  · simp [Tree.val] at hv
end plain
end
end Go.Lift
namespace Go.Lift
open Go
variable {P : Program} {E : Env}
section
variable {C : Entry} {w : World} {S : Nat → Prop} {γ : Gam} {st : ASt} {a : Act} {R : RT}
variable {dst : Option Nat} {ty : Nat} {pos : String} {af : Array Edge} {gd : Option (Nat × Bool)} {v : AV} {u : Upd} {ids : List Nat}
theorem RepV.cells_size {t : Ty} {x : t.den} {v : Value} (h : RepV w S t x v) : v.cells.size = t.nc := by
  have := h.cells.length
  simpa using this
theorem zero_cells (τ : Ty) : (pack τ (zeroC τ)).cells.toList = zeroC τ :=
  pack_inj_cells (zeroC_rep default (fun _ => False) τ).length (zeroC_rep default (fun _ => False) τ).one
/-- A variable of its own. -/
theorem new_var (hg : Good C w S γ st a.tmps) {d : Nat} (hd : d ∉ st.refs) {t : Ty} {x : t.den} {v : Value} (hv : RepV w S t x v) (e : TypeId) :
    After C st [(d, some ⟨.free, t, [x]⟩)] (.one (.optr d 0 [])) a.tmps (.pointer (some ⟨w.heap.size, 0, none⟩)) (w.alloc (.cells v.cells e)) := by
  have hc := hv.cells
  refine ⟨S, _, hg.new hd t [x] v.cells e [] w (.inl rfl) ?_, ?_⟩
  · intro i y hy
    cases i with
    | zero =>
      simp only [List.getElem?_cons_zero, Option.some.injEq] at hy
      subst hy
      exact ⟨_, hc, fun j u hj => by simpa using hj⟩
    | succ n => simp at hy
  · intro r hr
    rw [ASt.row_upd] at hr
    simp only [look, Nat.beq_refl, cond_true, Option.some.injEq] at hr
    subst hr
    exact ⟨by simp, w.heap.size, 0, t, 0, by simp, rfl, by simp⟩
theorem upd_cons (st : ASt) (x : Nat × Option Row) (fr : Upd) : st.upd (x :: fr) = (st.upd fr).upd [x] := rfl
theorem rowIds_none (x : Nat × Option Row) (h : ∀ r L, x.2 = some r → r.k ≠ .var L) : rowIds x = [x.1] := by
  unfold rowIds
  cases hx : x.2 with
  | none => rfl
  | some r =>
    have := h r
    simp only
    cases hk : r.k with
    | var L => exact absurd hk (this L hx)
    | _ => rfl
/-- Freezing names no new row. -/
theorem refs_freeze {rows : RT} (hsub : ∀ id r, rows id = some r → st.row id = some r) {is : List Nat} {fr : Upd} (h : freeze rows is = some fr) {d : Nat} (hd : d ∉ st.refs) : d ∉ (st.upd fr).refs := by
  intro hm
  unfold ASt.refs ASt.upd at hm
  rcases List.mem_append.1 hm with h1 | h1
  · exact hd (List.mem_append_left _ h1)
  · simp only [List.flatMap_append] at h1
    rcases List.mem_append.1 h1 with h2 | h2
    · have key : ∀ (is : List Nat) (fr : Upd), freeze rows is = some fr → ∀ d ∈ fr.flatMap rowIds, ∃ r, rows d = some r := by
        intro is
        induction is with
        | nil => intro fr h d hd; simp only [freeze, Option.some.injEq] at h; subst h; simp at hd
        | cons i is ih =>
          intro fr h d hd
          simp only [freeze] at h
          split at h
          · rename_i r hr
            split at h
            · split at h
              · rename_i q hq
                simp only [Option.some.injEq] at h
                subst h
                rw [List.flatMap_cons, rowIds_none _ (fun r L e => by cases e; simp)] at hd
                simp only [List.cons_append, List.nil_append, List.mem_cons] at hd
                rcases hd with rfl | hd
                · exact ⟨r, hr⟩
                · exact ih _ hq d hd
              · cases h
            · exact ih _ h d hd
            · cases h
            · cases h
          · cases h
      obtain ⟨r, hr⟩ := key is fr h d h2
      exact hd (ASt.row_refs (hsub _ _ hr))
    · exact hd (List.mem_append_right _ h2)
theorem sound_box {t : Nat} {x : Operand} (hg : Good C w S γ st a.tmps) (hd : dst.getD 1000000 ∉ st.refs)
    (hv : (opT E ⟨dst, .box t x, ty, pos, af, gd⟩ [st.ev x] (rowsOf st ids)).val = some (v, u)) : OpRes P ⟨dst, .box t x, ty, pos, af, gd⟩ a w (After C st u v a.tmps) := by
  change (boxK E (rowsOf st ids) (dst.getD 1000000) t [st.ev x] fun v u => Tree.ret (v, u)).val = some (v, u) at hv
  unfold boxK at hv
  split at hv
  · rename_i τ s ht he
    simp only [List.cons.injEq, and_true] at he
    have hs := ev_rep hg.rel he
    split at hv
    · rename_i y is hp
      split at hv
      · rename_i fr hf
        simp only [Tree.val, Option.some.injEq, Prod.mk.injEq] at hv
        obtain ⟨rfl, rfl⟩ := hv
        have hsub : ∀ id r, rowsOf st ids id = some r → st.row id = some r := fun _ _ => rowsOf_sub
        have hr := toPure_rep hg.rel.rows hsub hp hs
        have hg2 := hg.freeze hsub hf
        obtain ⟨S', γ', h1, h2⟩ := new_var hg2 (refs_freeze hsub hf hd) hr t
        refine .inl ⟨.pointer (some ⟨w.heap.size, 0, none⟩), _, ?_, S', γ', h1, h2⟩
        simp [execOp, Instr.box, newVar, newRow]
      · simp [Tree.val] at hv
    · simp [Tree.val] at hv
  · simp [Tree.val] at hv
theorem ones_val : ∀ {xs : List Operand} {vs : List SV}, ones (xs.map st.ev) = some vs → vs.length = xs.length ∧ ∀ (i : Nat) (s : SV), vs[i]? = some s → ∃ x, xs[i]? = some x ∧ st.ev x = some (.one s) := by
  intro xs
  induction xs with
  | nil => intro vs h; simp only [List.map_nil, ones, Option.some.injEq] at h; subst h; exact ⟨rfl, fun i s h => by simp at h⟩
  | cons x xs ih =>
    intro vs h
    simp only [List.map_cons] at h
    cases hx : st.ev x with
    | none => simp [hx, ones] at h
    | some av =>
      cases av with
      | tup l => simp [hx, ones] at h
      | agg t L => simp [hx, ones] at h
      | one s =>
        simp only [hx, ones] at h
        split at h
        · rename_i l hl
          simp only [Option.some.injEq] at h
          subst h
          obtain ⟨h1, h2⟩ := ih hl
          refine ⟨by simp [h1], fun i s' hs => ?_⟩
          cases i with
          | zero => simp only [List.getElem?_cons_zero, Option.some.injEq] at hs; subst hs; exact ⟨x, rfl, hx⟩
          | succ n => exact h2 n s' hs
        · cases h
theorem foldl_setCells : ∀ (es : List Value) (o k : Nat) (cs : Array Value), o + k + es.length ≤ cs.size →
    ((es.zipIdx k).foldl (fun cs (x : Value × Nat) => cs.setIfInBounds (o + x.2) x.1) cs).toList = patch cs.toList (o + k) es := by
  intro es
  induction es with
  | nil =>
    intro o k cs _
    simp [patch]
  | cons e es ih =>
    intro o k cs h
    simp only [List.length_cons] at h
    simp only [List.zipIdx_cons, List.foldl_cons]
    rw [ih o (k + 1) _ (by simp; omega)]
    rw [Array.toList_setIfInBounds]
    have hlt : o + k < cs.toList.length := by simp only [Array.length_toList]; omega
    have hA : (cs.toList.take (o + k)).length = o + k := by simp only [List.length_take]; omega
    have hsp : cs.toList = cs.toList.take (o + k) ++ cs.toList[o + k] :: cs.toList.drop (o + k + 1) := by
      rw [← List.drop_eq_getElem_cons hlt, List.take_append_drop]
    generalize hAd : cs.toList.take (o + k) = A at *
    generalize cs.toList[o + k] = x at *
    generalize cs.toList.drop (o + k + 1) = B at *
    rw [hsp]
    have e1 : (A ++ x :: B).set (o + k) e = A ++ e :: B := by
      rw [List.set_append_right _ _ (by omega), hA, Nat.sub_self]; rfl
    have e2 := patch_left (A := A) (B := e :: B) (es := es) (o := 1)
    have e3 := patch_left (A := A) (B := x :: B) (es := e :: es) (o := 0)
    rw [hA] at e2 e3
    rw [e1, show o + (k + 1) = o + k + 1 by omega, e2, show o + k = o + k + 0 by omega, e3]
    simp [patch, Nat.add_comm 1]
/-- What one part of 'build' does. -/
theorem fill_step {place : Nat → Option (Nat × Nat)} {cells : Array Value} {i off n : Nat} {v : Value} {rest : List (Nat × Value)} (hp : place i = some (off, n)) (hn : v.cells.size = n) (hle : off + n ≤ cells.size) :
    ∃ cells' : Array Value, Instr.fill place cells ((i, v) :: rest) = Instr.fill place cells' rest ∧ cells'.toList = patch cells.toList off v.cells.toList ∧ cells'.size = cells.size := by
  refine ⟨v.cells.zipIdx.foldl (fun cs (c, j) => cs.setIfInBounds (off + j) c) cells, ?_, ?_, ?_⟩
  · have h1 : ¬ (v.cells.size ≠ n ∨ off + v.cells.size > cells.size) := by omega
    simp only [Instr.fill, hp, decide_eq_true_eq, Bool.or_eq_true]
    rw [if_neg h1]
  · have := foldl_setCells v.cells.toList off 0 cells (by simp; omega)
    rw [Nat.add_zero] at this
    rw [← this, ← Array.foldl_toList, Array.toList_zipIdx]
  · have h1 := foldl_setCells v.cells.toList off 0 cells (by simp; omega)
    rw [Nat.add_zero] at h1
    have h2 : (v.cells.zipIdx.foldl (fun cs (c, j) => cs.setIfInBounds (off + j) c) cells).toList = patch cells.toList off v.cells.toList := by
      rw [← h1, ← Array.foldl_toList, Array.toList_zipIdx]
    have h3 := congrArg List.length h2
    rw [patch_length (by simp; omega)] at h3
    simpa using h3
theorem SU_append (S : Nat → Prop) (γ : Gam) (i1 i2 : List Nat) : ∀ b, SU S γ i1 b → SU S γ (i1 ++ i2) b := by
  rintro b (h | ⟨id, h1, h2⟩)
  · exact .inl h
  · exact .inr ⟨id, List.mem_append_left _ h1, h2⟩
theorem SU_append' (S : Nat → Prop) (γ : Gam) (i1 i2 : List Nat) : ∀ b, SU S γ i2 b → SU S γ (i1 ++ i2) b := by
  rintro b (h | ⟨id, h1, h2⟩)
  · exact .inl h
  · exact .inr ⟨id, List.mem_append_right _ h1, h2⟩
theorem fillP_rep (hrow : ∀ id r, st.row id = some r → RowOk w S γ id r) {rows : RT} (hsub : ∀ id r, rows id = some r → st.row id = some r) {τ : Ty} {t : Nat} (hT : TyOk P τ t) {fs : Array Field}
    (hfs : P.underlying t = some (.struct fs)) {places : Array (Nat × Nat)} (hpl : ∀ (f : Nat) (fd : Field), fs[f]? = some fd → ∀ u, TyOk P u fd.type → places[f]? = some (fd.offset, u.nc)) :
    ∀ (ps : List Nat) (vs : List SV) (vals : List Value) (x y : τ.den) (is : List Nat) (cells : Array Value), ps.length = vs.length → vs.length = vals.length →
      (∀ (i : Nat) s v, vs[i]? = some s → vals[i]? = some v → RepS w S γ st.row s v) → RepC w (SU S γ is) τ x cells.toList →
      ∀ is', fillP rows τ x (ps.zip vs) = some (y, is') → ∃ cells', Instr.fill (places[·]?) cells (ps.zip vals) = some cells' ∧ RepC w (SU S γ (is ++ is')) τ y cells'.toList := by
  intro ps
  induction ps with
  | nil =>
    intro vs vals x y is cells h1 h2 h3 h4 is' h5
    simp only [List.zip_nil_left, fillP, Option.some.injEq, Prod.mk.injEq] at h5
    obtain ⟨rfl, rfl⟩ := h5
    exact ⟨cells, rfl, by simpa using h4⟩
  | cons f ps ih =>
    intro vs vals x y is cells h1 h2 h3 h4 is' h5
    match vs, vals, h1, h2 with
    | s :: vs, v :: vals, h1, h2 =>
      simp only [List.zip_cons_cons, fillP] at h5 ⊢
      split at h5
      · rename_i ut o hc
        split at h5
        · rename_i z i1 hz
          split at h5
          · rename_i x' hx'
            split at h5
            · rename_i y' i2 hy'
              simp only [Option.some.injEq, Prod.mk.injEq] at h5
              obtain ⟨rfl, rfl⟩ := h5
              have hs := h3 0 s v rfl rfl
              have hr := toPure_rep hrow hsub hz hs
              obtain ⟨fs', fd, e1, e2, e3, e4⟩ := hT.struct hc
              rw [hfs] at e1
              cases e1
              have hp := hpl f fd e2 ut e4
              rw [e3] at hp
              have hle := comp_le hc
              have hl := h4.length
              obtain ⟨cells', g1, g2, g3⟩ := fill_step (cells := cells) (rest := ps.zip vals) hp hr.cells_size (by rw [Array.length_toList] at hl; omega)
              rw [g1]
              have h6 : RepC w (SU S γ (is ++ i1)) τ x' cells'.toList := by
                rw [g2]
                exact setF_rep hx' hc (h4.mono (SU_append S γ is i1) (fun _ _ => rfl)) (hr.cells.mono (SU_append' S γ is i1) (fun _ _ => rfl))
              obtain ⟨c2, k1, k2⟩ := ih vs vals x' y' (is ++ i1) cells' (by simpa using h1) (by simpa using h2) (fun i s' v' a b => h3 (i + 1) s' v' (by simpa using a) (by simpa using b)) h6 i2 hy'
              exact ⟨c2, k1, by simpa [List.append_assoc] using k2⟩
            · cases h5
          · cases h5
        · cases h5
      · cases h5
theorem zip_map_vals {ps : List (Nat × Operand)} {f : Operand → Value} : ps.map (fun (i, x) => (i, f x)) = (ps.map (·.1)).zip (ps.map fun p => f p.2) := by
  induction ps with
  | nil => rfl
  | cons p ps ih => simp [ih]
theorem vals_rep (hg : Rel w S γ st a.tmps) {xs : List Operand} {vs : List SV} (h : ones (xs.map st.ev) = some vs) :
    ∀ (i : Nat) s v, vs[i]? = some s → (xs.map a.eval)[i]? = some v → RepS w S γ st.row s v := by
  intro i s v hs hv
  obtain ⟨x, h1, h2⟩ := (ones_val h).2 i s hs
  simp only [List.getElem?_map, h1, Option.map_some, Option.some.injEq] at hv
  subst hv
  exact ev_rep hg h2
theorem run_places {fs : Array Field} (h : ∀ (f : Nat) (fd : Field), fs[f]? = some fd → ∃ u, TyOk P u fd.type) (w : World) :
    ∃ places : Array (Nat × Nat), (fs.mapM (m := Sem) fun f => do pure (f.offset, ← sizeOf f.type)).run P w = .ok places w ∧
      ∀ (f : Nat) (fd : Field), fs[f]? = some fd → ∀ u, TyOk P u fd.type → places[f]? = some (fd.offset, u.nc) := by
  have key : ∀ (l : List Field), (∀ fd ∈ l, ∃ u, TyOk P u fd.type) → ∃ pl : List (Nat × Nat), (l.mapM (m := Sem) fun f => do pure (f.offset, ← sizeOf f.type)).run P w = .ok pl w ∧
      ∀ (f : Nat) (fd : Field), l[f]? = some fd → ∀ u, TyOk P u fd.type → pl[f]? = some (fd.offset, u.nc) := by
    intro l
    induction l with
    | nil => intro _; exact ⟨[], by simp [List.mapM_nil], fun f fd hf => by simp at hf⟩
    | cons x l ih =>
      intro hl
      obtain ⟨u, hu⟩ := hl x (by simp)
      obtain ⟨pl, h1, h2⟩ := ih (fun fd hfd => hl fd (by simp [hfd]))
      refine ⟨(x.offset, u.nc) :: pl, ?_, fun f fd hf u' hu' => ?_⟩
      · rw [List.mapM_cons]
        simp only [Sem.run_bind, run_sizeOf' hu, Result.andThen_ok, Sem.run_pure, h1]
      · cases f with
        | zero =>
          simp only [List.getElem?_cons_zero, Option.some.injEq] at hf
          subst hf
          have e1 := run_sizeOf' hu w
          have e2 := run_sizeOf' hu' w
          rw [e1] at e2
          simp only [Result.ok.injEq, and_true] at e2
          simp [e2]
        | succ n => exact h2 n fd (by simpa using hf) u' hu'
  obtain ⟨pl, h1, h2⟩ := key fs.toList (fun fd hfd => by
    obtain ⟨i, hi, he⟩ := Array.mem_iff_getElem.1 (Array.mem_toList_iff.1 hfd)
    exact h i fd (by rw [Array.getElem?_eq_getElem hi, he]))
  refine ⟨pl.toArray, ?_, fun f fd hf u hu => by simpa using h2 f fd (by simpa using hf) u hu⟩
  rw [Array.mapM_eq_mapM_toList]
  rw [Sem.run_map, h1]
  rfl
theorem TyOk.fields {τ : Ty} {t : TypeId} (h : TyOk P τ t) {fs : Array Field} (hfs : P.underlying t = some (.struct fs)) :
    ∀ (f : Nat) (fd : Field), fs[f]? = some fd → ∃ u, TyOk P u fd.type := by
  have key : ∀ (b : Ty) (l : List Field) (o : Nat), FsOk P b l o → ∀ (f : Nat) (fd : Field), l[f]? = some fd → ∃ u, TyOk P u fd.type := by
    intro b
    induction b with
    | unit => intro l o h f fd hf; have : l = [] := h; subst this; simp at hf
    | pair a b _ ihb =>
      intro l o h f fd hf
      obtain ⟨f0, r, rfl, _, h2, h3, _⟩ := h
      cases f with
      | zero => simp only [List.getElem?_cons_zero, Option.some.injEq] at hf; subst hf; exact ⟨a, h2⟩
      | succ n => exact ihb r _ h3 n fd (by simpa using hf)
    | _ => intro l o h; exact h.elim
  intro f fd hf
  cases τ with
  | unit =>
    obtain ⟨⟨fs', h1, h2, _⟩, _⟩ := h
    rw [hfs] at h1; cases h1
    have : fs.toList[f]? = some fd := by simpa using hf
    rw [h2] at this; simp at this
  | pair a b =>
    obtain ⟨⟨fs', f0, r, h1, h2, h3, h4, h5, h6, _⟩, _⟩ := h
    rw [hfs] at h1; cases h1
    exact key (.pair a b) fs.toList 0 ⟨f0, r, h2, h3, h4, by simpa using h5, h6⟩ f fd (by simpa using hf)
  | int k => rw [h.1] at hfs; cases hfs
  | bool => rw [h.1] at hfs; cases hfs
  | str => rw [h.1] at hfs; cases hfs
  | sl u => obtain ⟨⟨e, h1, _⟩, _⟩ := h; rw [h1] at hfs; cases hfs
  | fnc => obtain ⟨⟨_, _, _, h1⟩, _⟩ := h; rw [h1] at hfs; cases hfs
theorem sound_build0 (hT : TtOk P E.tt) {t : Nat} {parts : Array (Nat × Operand)} (hg : Good C w S γ st a.tmps)
    (hv : (buildK E (rowsOf st ids) t (parts.toList.map (·.1)) ((parts.toList.map (·.2)).map st.ev) fun v u => Tree.ret (v, u)).val = some (v, u)) :
    OpRes P ⟨dst, .build t parts, ty, pos, af, gd⟩ a w (After C st u v a.tmps) := by
  change (buildK E (rowsOf st ids) t (parts.toList.map (·.1)) ((parts.toList.map (·.2)).map st.ev) fun v u => Tree.ret (v, u)).val = some (v, u) at hv
  unfold buildK at hv
  split at hv
  · rename_i τ vs ht ho
    obtain ⟨h0, hv'⟩ := br_val hv
    clear hv
    split at hv'
    · rename_i x is hx
      split at hv'
      · rename_i fr hf
        simp only [Tree.val, Option.some.injEq, Prod.mk.injEq] at hv'
        obtain ⟨rfl, rfl⟩ := hv'
        have hsub : ∀ id r, rowsOf st ids id = some r → st.row id = some r := fun _ _ => rowsOf_sub
        have hty := hT.at ht
        obtain ⟨fs, hfs⟩ := hty.agg h0
        obtain ⟨places, hp1, hp2⟩ := run_places (hty.fields hfs) w
        have hz := zero_cells τ
        obtain ⟨cells', g1, g2⟩ := fillP_rep hg.rel.rows hsub hty hfs hp2 (parts.toList.map (·.1)) vs ((parts.toList.map (·.2)).map a.eval) τ.zero x [] (pack τ (zeroC τ)).cells
          (by rw [(ones_val ho).1]; simp) (by rw [(ones_val ho).1]; simp) (vals_rep hg.rel ho) (by rw [hz]; exact zeroC_rep _ _ _) is hx
        refine .inl ⟨.agg cells', w, ?_, SU S γ is, γ, hg.freeze hsub hf, ⟨cells'.toList, by simpa using g2, by simp [pack, h0]⟩⟩
        have e1 : (parts.map fun (i, x) => (i, a.eval x)).toList = (parts.toList.map (·.1)).zip ((parts.toList.map (·.2)).map a.eval) := by
          rw [Array.toList_map, zip_map_vals, List.map_map]; rfl
        simp only [execOp, Instr.build, Sem.run_bind, run_zeroValue' hty, Result.andThen_ok, run_underlying hfs, hp1, Sem.run_pure]
        rw [e1, g1]
        rfl
      · simp [Tree.val] at hv'
    · simp [Tree.val] at hv'
  · simp [Tree.val] at hv
theorem patch_in {cs es : List Value} {o j : Nat} (h : o + es.length ≤ cs.length) (hj : j < es.length) : (patch cs o es)[o + j]? = es[j]? := by
  have : (cs.take o).length = o := by simp only [List.length_take]; omega
  simp only [patch, List.append_assoc]
  rw [List.getElem?_append_right (by omega), this, List.getElem?_append_left (by omega), Nat.add_sub_cancel_left]
theorem patch_out {cs es : List Value} {o k : Nat} (h : o + es.length ≤ cs.length) (hk : k < o ∨ o + es.length ≤ k) : (patch cs o es)[k]? = cs[k]? := by
  have : (cs.take o).length = o := by simp only [List.length_take]; omega
  simp only [patch, List.append_assoc]
  rcases hk with hk | hk
  · rw [List.getElem?_append_left (by omega), List.getElem?_take_of_lt hk]
  · rw [List.getElem?_append_right (by omega), this, List.getElem?_append_right (by omega), List.getElem?_drop]
    congr 1; omega
theorem look_app_none {α : Type} {a b : List (Nat × α)} {i : Nat} {x : α} (h : look (a ++ b) i = some x) : look a i = some x ∨ (look a i = none ∧ look b i = some x) := by
  rw [look_append] at h
  cases ha : look a i with
  | none => rw [ha] at h; exact .inr ⟨rfl, h⟩
  | some y => rw [ha] at h; exact .inl h
theorem leaf_val {t : Ty} {x : t.den} {rows : RT} {cs : List Value} (ht : t.isAgg = false) (h : RepC w S t x cs) : ∃ v, cs = [v] ∧ RepS w S γ rows (.val t x) v := by
  have hl := h.length
  rw [nc_one ht] at hl
  match cs, hl with
  | [v], _ => exact ⟨v, rfl, [v], h, by simp [pack, ht]⟩
/-- A list of cells, each with its abstract value. -/
def CellsOk (w : World) (S : Nat → Prop) (γ : Gam) (rows : RT) (o n : Nat) (cs : List Value) (L : List (Nat × SV)) : Prop :=
  cs.length = n ∧ (∀ k s, look L k = some s → o ≤ k ∧ ∃ u, cs[k - o]? = some u ∧ RepS w S γ rows s u) ∧ ∀ k, o ≤ k → k < o + n → look L k ≠ none
theorem CellsOk.append {rows : RT} {o n m : Nat} {c1 c2 : List Value} {L1 L2 : List (Nat × SV)} (h1 : CellsOk w S γ rows o n c1 L1) (h2 : CellsOk w S γ rows (o + n) m c2 L2) : CellsOk w S γ rows o (n + m) (c1 ++ c2) (L1 ++ L2) := by
  obtain ⟨a1, a2, a3⟩ := h1
  obtain ⟨b1, b2, b3⟩ := h2
  refine ⟨by simp [a1, b1], fun k s hk => ?_, fun k hk1 hk2 e => ?_⟩
  · rcases look_app_none hk with h | ⟨_, h⟩
    · obtain ⟨e1, u, e2, e3⟩ := a2 k s h
      refine ⟨e1, u, ?_, e3⟩
      rw [List.getElem?_append_left (List.getElem?_eq_some_iff.1 e2).1]
      exact e2
    · obtain ⟨e1, u, e2, e3⟩ := b2 k s h
      refine ⟨by omega, u, ?_, e3⟩
      rw [List.getElem?_append_right (by omega), a1, show k - o - n = k - (o + n) by omega]
      exact e2
  · rw [look_append] at e
    by_cases h : k < o + n
    · cases hl : look L1 k with
      | none => exact a3 k hk1 h hl
      | some y => rw [hl] at e; cases e
    · cases hl : look L1 k with
      | none => rw [hl] at e; exact b3 k (by omega) (by omega) e
      | some y => rw [hl] at e; cases e
theorem CellsOk.one {rows : RT} {o : Nat} {s : SV} {v : Value} (h : RepS w S γ rows s v) : CellsOk w S γ rows o 1 [v] [(o, s)] := by
  refine ⟨rfl, fun k s' hk => ?_, fun k h1 h2 e => ?_⟩
  · simp only [look] at hk
    cases hb : Nat.beq o k with
    | true =>
      have := Nat.eq_of_beq_eq_true hb
      subst this
      simp only [Nat.beq_refl, cond_true, Option.some.injEq] at hk
      subst hk
      exact ⟨Nat.le_refl _, v, by simp, h⟩
    | false => rw [hb] at hk; cases hk
  · have : o = k := by omega
    subst this
    simp [look] at e
theorem leaves_ok {rows : RT} : ∀ (t : Ty) (x : t.den) (o : Nat) (cs : List Value), RepC w S t x cs → CellsOk w S γ rows o t.nc cs (leaves t x o) := by
  intro t
  induction t with
  | unit => rintro x o cs rfl; exact ⟨rfl, ⟨fun k s (h : look [] k = some s) => (by cases h), fun k h1 (h2 : k < o + 0) => by omega⟩⟩
  | pair a b iha ihb =>
    rintro x o cs ⟨c1, c2, rfl, h1, h2⟩
    exact (iha x.1 o c1 h1).append (ihb x.2 (o + a.nc) c2 h2)
  | int k => intro x o cs h; obtain ⟨v, rfl, h2⟩ := leaf_val (γ := γ) (rows := rows) rfl h; exact CellsOk.one h2
  | bool => intro x o cs h; obtain ⟨v, rfl, h2⟩ := leaf_val (γ := γ) (rows := rows) rfl h; exact CellsOk.one h2
  | str => intro x o cs h; obtain ⟨v, rfl, h2⟩ := leaf_val (γ := γ) (rows := rows) rfl h; exact CellsOk.one h2
  | sl t _ => intro x o cs h; obtain ⟨v, rfl, h2⟩ := leaf_val (γ := γ) (rows := rows) rfl h; exact CellsOk.one h2
  | fnc => intro x o cs h; obtain ⟨v, rfl, _⟩ := h; exact CellsOk.one trivial
theorem zeroL_ok {rows : RT} : ∀ (t : Ty) (o : Nat), CellsOk w S γ rows o t.nc (zeroC t) (zeroL t o) := by
  intro t
  induction t with
  | unit => intro o; exact ⟨rfl, ⟨fun k s (h : look [] k = some s) => (by cases h), fun k h1 (h2 : k < o + 0) => by omega⟩⟩
  | pair a b iha ihb => intro o; exact (iha o).append (ihb (o + a.nc))
  | int k => intro o; exact CellsOk.one ⟨_, zeroC_rep w S (.int k), rfl⟩
  | bool => intro o; exact CellsOk.one ⟨_, zeroC_rep w S .bool, rfl⟩
  | str => intro o; exact CellsOk.one ⟨_, zeroC_rep w S .str, rfl⟩
  | sl t _ => intro o; exact CellsOk.one ⟨none, rfl⟩
  | fnc => intro o; exact CellsOk.one trivial
/-- What the cells of a variable hold. -/
theorem gather_rep (hrow : ∀ id r, st.row id = some r → RowOk w S γ id r) {rows : RT} (hsub : ∀ id r, rows id = some r → st.row id = some r) {L : List (Nat × SV)} {b q : Nat}
    (hL : ∀ (k : Nat) (s : SV), look L k = some s → (∃ u, w.cell? ⟨b, q + k, none⟩ = some u ∧ RepS w S γ st.row s u) ∨ ∃ f n, s = .mp f n ∧ MapAt w b f n) :
    ∀ (t : Ty) (o : Nat) (x : t.den) (is : List Nat), gather rows L t o = some (x, is) → ∃ cs, Mem w b (q + o) cs ∧ RepC w (SU S γ is) t x cs := by
  have leaf : ∀ (t : Ty) (o : Nat) (x : t.den) (is : List Nat), t.isAgg = false → (match look L o with | some s => toPure rows t s | none => none) = some (x, is) → ∃ cs, Mem w b (q + o) cs ∧ RepC w (SU S γ is) t x cs := by
    intro t o x is ht h
    split at h
    · rename_i s hs
      rcases hL o s hs with ⟨u, h1, h2⟩ | ⟨f, n, e, _⟩
      rotate_left
      · subst e; simp [toPure] at h
      obtain ⟨cs, h3, h4⟩ := toPure_rep hrow hsub h h2
      have hl := h3.length
      rw [nc_one ht] at hl
      match cs, hl with
      | [v], _ =>
        simp only [pack, ht, Bool.false_eq_true, if_false, List.headD_cons] at h4
        subst h4
        refine ⟨[u], fun j v hj => ?_, h3⟩
        cases j with
        | zero => simp only [List.getElem?_cons_zero, Option.some.injEq] at hj; subst hj; exact h1
        | succ j => simp at hj
    · cases h
  intro t
  induction t with
  | unit =>
    intro o x is h
    simp only [gather, Option.some.injEq, Prod.mk.injEq] at h
    exact ⟨[], fun j v hj => by simp at hj, rfl⟩
  | pair a c iha ihc =>
    intro o x is h
    simp only [gather] at h
    split at h
    · rename_i x1 i1 h1
      split at h
      · rename_i x2 i2 h2
        simp only [Option.some.injEq, Prod.mk.injEq] at h
        obtain ⟨rfl, rfl⟩ := h
        obtain ⟨c1, m1, r1⟩ := iha o x1 i1 h1
        obtain ⟨c2, m2, r2⟩ := ihc (o + a.nc) x2 i2 h2
        refine ⟨c1 ++ c2, Mem.join m1 ?_, c1, c2, rfl, r1.mono (SU_append S γ i1 i2) (fun _ _ => rfl), r2.mono (SU_append' S γ i1 i2) (fun _ _ => rfl)⟩
        rw [r1.length, Nat.add_assoc]
        exact m2
      · cases h
    · cases h
  | int k => intro o x is h; exact leaf (.int k) o x is rfl h
  | bool => intro o x is h; exact leaf .bool o x is rfl h
  | str => intro o x is h; exact leaf .str o x is rfl h
  | sl t _ => intro o x is h; exact leaf (.sl t) o x is rfl h
  | fnc => intro o x is h; exact leaf .fnc o x is rfl h
theorem toPure_rows {rows : RT} {t : Ty} {s : SV} {x : t.den} {is : List Nat} (h : toPure rows t s = some (x, is)) : ∀ id ∈ is, ∃ r, rows id = some r := by
  intro id hid
  cases s with
  | own i =>
    simp only [toPure] at h
    split at h
    · rename_i r hr
      split at h
      · simp only [Option.some.injEq, Prod.mk.injEq] at h
        obtain ⟨_, rfl⟩ := h
        rw [List.mem_singleton] at hid
        subst hid; exact ⟨r, hr⟩
      · cases h
    · cases h
  | osub i lo len =>
    simp only [toPure] at h
    split at h
    · rename_i r hr
      split at h
      · simp only [Option.some.injEq, Prod.mk.injEq] at h
        obtain ⟨_, rfl⟩ := h
        rw [List.mem_singleton] at hid
        subst hid; exact ⟨r, hr⟩
      · cases h
    · cases h
  | val t' y =>
    simp only [toPure] at h
    split at h
    · simp only [Option.some.injEq, Prod.mk.injEq] at h
      obtain ⟨_, rfl⟩ := h
      cases hid
    · cases h
  | nilsl =>
    cases t with
    | sl t =>
      simp only [toPure, Option.some.injEq, Prod.mk.injEq] at h
      obtain ⟨_, rfl⟩ := h
      cases hid
    | _ => simp [toPure] at h
  | _ => simp [toPure] at h
theorem gather_rows {rows : RT} (L : List (Nat × SV)) : ∀ (t : Ty) (o : Nat) (x : t.den) (is : List Nat), gather rows L t o = some (x, is) → ∀ id ∈ is, ∃ r, rows id = some r := by
  have leaf : ∀ (t : Ty) (o : Nat) (x : t.den) (is : List Nat), (match look L o with | some s => toPure rows t s | none => none) = some (x, is) → ∀ id ∈ is, ∃ r, rows id = some r := by
    intro t o x is h
    split at h
    · exact toPure_rows h
    · cases h
  intro t
  induction t with
  | unit =>
    intro o x is h
    simp only [gather, Option.some.injEq, Prod.mk.injEq] at h
    obtain ⟨_, rfl⟩ := h
    intro id hid; cases hid
  | pair a c iha ihc =>
    intro o x is h
    simp only [gather] at h
    split at h
    · rename_i x1 i1 h1
      split at h
      · rename_i x2 i2 h2
        simp only [Option.some.injEq, Prod.mk.injEq] at h
        obtain ⟨_, rfl⟩ := h
        intro id hid
        rcases List.mem_append.1 hid with g | g
        · exact iha o x1 i1 h1 id g
        · exact ihc _ x2 i2 h2 id g
      · cases h
    · cases h
  | int k => intro o x is h; exact leaf (.int k) o x is h
  | bool => intro o x is h; exact leaf .bool o x is h
  | str => intro o x is h; exact leaf .str o x is h
  | sl t _ => intro o x is h; exact leaf (.sl t) o x is h
  | fnc => intro o x is h; exact leaf .fnc o x is h
theorem gather_agg (hrow : ∀ id r, st.row id = some r → RowOk w S γ id r) {rows : RT} (hsub : ∀ id r, rows id = some r → st.row id = some r) {L : List (Nat × SV)} {cs : List Value}
    (hL : ∀ (k : Nat) (s : SV), look L k = some s → ∃ u, cs[k]? = some u ∧ RepS w S γ st.row s u) :
    ∀ (t : Ty) (o : Nat) (x : t.den) (is : List Nat), gather rows L t o = some (x, is) → ∃ ds, ds = (cs.drop o).take t.nc ∧ RepC w (SU S γ is) t x ds := by
  have leaf : ∀ (t : Ty) (o : Nat) (x : t.den) (is : List Nat), t.isAgg = false → (match look L o with | some s => toPure rows t s | none => none) = some (x, is) → ∃ ds, ds = (cs.drop o).take t.nc ∧ RepC w (SU S γ is) t x ds := by
    intro t o x is ht h
    split at h
    · rename_i s hs
      obtain ⟨u, h1, h2⟩ := hL o s hs
      obtain ⟨ds, h3, h4⟩ := toPure_rep hrow hsub h h2
      have hl := h3.length
      rw [nc_one ht] at hl ⊢
      match ds, hl with
      | [v], _ =>
        simp only [pack, ht, Bool.false_eq_true, if_false, List.headD_cons] at h4
        subst h4
        refine ⟨[u], ?_, h3⟩
        have ho : o < cs.length := (List.getElem?_eq_some_iff.1 h1).1
        rw [List.getElem?_eq_getElem ho] at h1
        cases h1
        rw [List.drop_eq_getElem_cons ho]
        rfl
    · cases h
  intro t
  induction t with
  | unit =>
    intro o x is h
    exact ⟨[], by simp [Ty.nc], rfl⟩
  | pair a c iha ihc =>
    intro o x is h
    simp only [gather] at h
    split at h
    · rename_i x1 i1 h1
      split at h
      · rename_i x2 i2 h2
        simp only [Option.some.injEq, Prod.mk.injEq] at h
        obtain ⟨rfl, rfl⟩ := h
        obtain ⟨c1, m1, r1⟩ := iha o x1 i1 h1
        obtain ⟨c2, m2, r2⟩ := ihc (o + a.nc) x2 i2 h2
        refine ⟨c1 ++ c2, ?_, c1, c2, rfl, r1.mono (SU_append S γ i1 i2) (fun _ _ => rfl), r2.mono (SU_append' S γ i1 i2) (fun _ _ => rfl)⟩
        rw [m1, m2, Ty.nc, List.take_add, List.drop_drop]
      · cases h
    · cases h
  | int k => intro o x is h; exact leaf (.int k) o x is rfl h
  | bool => intro o x is h; exact leaf .bool o x is rfl h
  | str => intro o x is h; exact leaf .str o x is rfl h
  | sl t _ => intro o x is h; exact leaf (.sl t) o x is rfl h
  | fnc => intro o x is h; exact leaf .fnc o x is rfl h
theorem single_ok {rows : RT} (hsub : ∀ id r, rows id = some r → st.row id = some r) {s : SV} {v : Value} (h : s.single rows = true) (hv : RepS w S γ st.row s v) : v.cells.toList = [v] ∧ v.oneCell' = true := by
  have key : v.oneCell' = true := by
    cases s with
    | val t x =>
      simp only [SV.single, Bool.not_eq_true'] at h
      obtain ⟨cs, h1, h2⟩ := hv
      have hl := h1.length
      rw [nc_one h] at hl
      match cs, hl with
      | [u], _ =>
        simp only [pack, h, Bool.false_eq_true, if_false, List.headD_cons] at h2
        subst h2
        exact h1.one v (by simp)
    | rptr t x => obtain ⟨b, off, ds, rfl, _⟩ := hv; simp [Value.oneCell']
    | nilsl => obtain ⟨a, rfl⟩ := hv; simp [Value.oneCell']
    | own id =>
      simp only [SV.single, Option.isSome_iff_exists] at h
      obtain ⟨r, hr⟩ := h
      obtain ⟨a, cap, rfl, _⟩ := hv r (hsub _ _ hr)
      simp [Value.oneCell']
    | osub id lo len =>
      simp only [SV.single, Option.isSome_iff_exists] at h
      obtain ⟨r, hr⟩ := h
      obtain ⟨_, a, cap, rfl, _⟩ := hv r (hsub _ _ hr)
      simp [Value.oneCell']
    | optr id i p =>
      simp only [SV.single, Option.isSome_iff_exists] at h
      obtain ⟨r, hr⟩ := h
      obtain ⟨_, b, q, u, o, _, _, rfl⟩ := hv r (hsub _ _ hr)
      simp [Value.oneCell']
    | fn f caps => obtain ⟨vs, rfl, _⟩ := hv; simp [Value.oneCell']
    | und => simp [SV.single] at h
    | mref id => simp [SV.single] at h
    | mp f n => simp [SV.single] at h
    | vptr id t o =>
      simp only [SV.single, Option.isSome_iff_exists] at h
      obtain ⟨r, hr⟩ := h
      obtain ⟨b, q, _, rfl⟩ := hv r (hsub _ _ hr)
      simp [Value.oneCell']
    | rfn f l => obtain ⟨vs, rfl, _⟩ := hv; simp [Value.oneCell']
    | bnil e n => simp [SV.single] at h
    | any => simp [SV.single] at h
  refine ⟨?_, key⟩
  cases v <;> simp_all [Value.cells, Value.oneCell']
/-- A value put in: its cells, and what is kept of the others. -/
theorem put_ok {rows : RT} (hsub : ∀ id r, rows id = some r → st.row id = some r) {L L' : List (Nat × SV)} {o : Nat} {t : Ty} {av : AV} {v : Value} (h : putAV rows L o t av = some L') (hv : RepA w S γ st.row av v) :
    v.cells.toList.length = t.nc ∧ (∀ u ∈ v.cells.toList, u.oneCell' = true) ∧ ∀ (k : Nat) (s : SV), look L' k = some s →
      (o ≤ k ∧ ∃ u, v.cells.toList[k - o]? = some u ∧ RepS w S γ st.row s u) ∨ (look L k = some s ∧ (k < o ∨ o + t.nc ≤ k)) := by
  unfold putAV at h
  cases av with
  | one s =>
    simp only at h
    cases ha : t.isAgg with
    | true =>
      simp only [ha, cond_true] at h
      split at h
      · rename_i t' x
        split at h
        · rename_i y hy
          simp only [Option.some.injEq] at h
          subst h
          obtain ⟨e, he⟩ := castTy_some hy
          subst e
          simp only at he
          subst he
          have hc := RepV.cells hv
          obtain ⟨l1, l2, l3⟩ := leaves_ok (γ := γ) (rows := st.row) t' x o _ hc
          refine ⟨l1, hc.one, fun k s hk => ?_⟩
          rcases look_app_none hk with h | ⟨h0, h⟩
          · exact .inl (l2 k s h)
          · refine .inr ⟨h, ?_⟩
            have := l3 k
            by_cases h1 : o ≤ k
            · by_cases h2 : k < o + t'.nc
              · exact absurd h0 (this h1 h2)
              · exact .inr (by omega)
            · exact .inl (by omega)
        · cases h
      · cases h
    | false =>
      simp only [ha, cond_false] at h
      cases hs : s.single rows with
      | false => rw [hs] at h; cases h
      | true =>
        rw [hs] at h
        simp only [cond_true, Option.some.injEq] at h
        subst h
        obtain ⟨e1, e2⟩ := single_ok hsub hs hv
        rw [e1]
        refine ⟨by simp [nc_one ha], by simpa using e2, fun k s' hk => ?_⟩
        rw [show ((o, s) :: L) = [(o, s)] ++ L from rfl] at hk
        rcases look_app_none hk with h | ⟨h0, h⟩
        · exact .inl ((CellsOk.one (o := o) hv).2.1 k s' h)
        · refine .inr ⟨h, ?_⟩
          rw [nc_one ha]
          have : k ≠ o := by rintro rfl; simp [look] at h0
          omega
  | tup l => cases h
  | agg t' M =>
    simp only at h
    cases hd : decide (t' = t) with
    | false => rw [hd] at h; cases h
    | true =>
      have hd' : t' = t := by simpa using hd
      subst hd'
      simp only [decide_true, cond_true, Option.some.injEq] at h
      subst h
      obtain ⟨cs, rfl, h2, h3, h4⟩ := hv
      have hcell : (Value.agg cs.toArray).cells.toList = cs := by simp [Value.cells]
      rw [hcell]
      refine ⟨h2, h3, fun k s hk => ?_⟩
      have hsh : ∀ (M : List (Nat × SV)) (k : Nat) s, look (shiftL o M) k = some s → o ≤ k ∧ look M (k - o) = some s := by
        intro M
        induction M with
        | nil => intro k s h; cases h
        | cons x M ih =>
          intro k s h
          simp only [shiftL, List.map_cons, look] at h ⊢
          cases hb : Nat.beq (o + x.1) k with
          | true =>
            have := Nat.eq_of_beq_eq_true hb
            rw [hb] at h
            have e : k - o = x.1 := by omega
            simp only [cond_true] at h
            rw [e, Nat.beq_refl, cond_true]
            exact ⟨by omega, h⟩
          | false =>
            rw [hb] at h
            obtain ⟨g1, g2⟩ := ih k s h
            refine ⟨g1, ?_⟩
            have : Nat.beq x.1 (k - o) = false := by
              rw [Bool.eq_false_iff]; intro e; have := Nat.eq_of_beq_eq_true e
              rw [Bool.eq_false_iff] at hb; apply hb; rw [show o + x.1 = k by omega]; exact Nat.beq_refl k
            rw [this, cond_false]
            exact g2
      rcases look_app_none hk with h | ⟨h0, h⟩
      · obtain ⟨g1, g2⟩ := hsh M k s h
        exact .inl ⟨g1, h4 _ _ g2⟩
      · have hout : ∀ (L : List (Nat × SV)), look (outL o (o + t'.nc) L) k = some s → look L k = some s ∧ (k < o ∨ o + t'.nc ≤ k) := by
          intro L
          induction L with
          | nil => intro h; cases h
          | cons x L ih =>
            intro h
            simp only [outL] at h
            cases hb : (Nat.blt x.1 o || Nat.ble (o + t'.nc) x.1) with
            | true =>
              rw [hb] at h
              simp only [cond_true, look] at h ⊢
              cases hk : Nat.beq x.1 k with
              | true =>
                rw [hk] at h
                simp only [cond_true] at h ⊢
                have := Nat.eq_of_beq_eq_true hk
                simp only [Bool.or_eq_true, Nat.blt_eq, Nat.ble_eq] at hb
                exact ⟨h, by omega⟩
              | false => rw [hk] at h; simp only [cond_false] at h ⊢; exact ih h
            | false =>
              rw [hb] at h
              simp only [cond_false] at h
              obtain ⟨g1, g2⟩ := ih h
              refine ⟨?_, g2⟩
              simp only [look]
              cases hk : Nat.beq x.1 k with
              | true =>
                have := Nat.eq_of_beq_eq_true hk
                simp only [Bool.or_eq_false_iff] at hb
                have h1 : ¬ x.1 < o := fun e => by 
                  have e' : Nat.blt x.1 o = true := (by rw [Nat.blt_eq]; exact e)
                  rw [hb.1] at e'; cases e'
                have h2 : ¬ o + t'.nc ≤ x.1 := fun e => by 
                  have e' : Nat.ble (o + t'.nc) x.1 = true := (by rw [Nat.ble_eq]; exact e)
                  rw [hb.2] at e'; cases e'
                omega
              | false => exact g1
        exact .inr (hout L h)
theorem zeroL_ids : ∀ (t : Ty) (o : Nat), leafIds (zeroL t o) = [] := by
  intro t
  induction t with
  | pair a b iha ihb => intro o; simp only [zeroL, leafIds, List.flatMap_append] at iha ihb ⊢; simp [iha, ihb]
  | _ => intro o; rfl
theorem inL_spec {L : List (Nat × SV)} {o : Nat} : ∀ {n : Nat}, inL L o n = true → ∀ j, j < n → ∃ s, look L (o + j) = some s := by
  intro n
  induction n with
  | zero => intro _ j hj; omega
  | succ n ih =>
    intro h j hj
    simp only [inL, Bool.and_eq_true, Option.isSome_iff_exists] at h
    by_cases e : j = n
    · subst e; exact h.1
    · exact ih h.2 j (by omega)
theorem row_one (st : ASt) (id : Nat) (x : Option Row) (i : Nat) : (st.upd [(id, x)]).row i = if id = i then x else st.row i := by
  rw [ASt.row_upd]
  by_cases e : id = i
  · subst e; simp [look]
  · have hb : Nat.beq id i = false := by
      rw [Bool.eq_false_iff]; intro e2; exact e (Nat.eq_of_beq_eq_true e2)
    simp [look, hb, e]
theorem noMp_look {L : List (Nat × SV)} (h : noMp L = true) {k : Nat} {f : Int → Int} {n : Nat} : look L k ≠ some (.mp f n) := by
  induction L with
  | nil => intro e; cases e
  | cons x L ih =>
    simp only [noMp, Bool.and_eq_true, Bool.not_eq_true'] at h
    intro e
    simp only [look] at e
    cases hb : Nat.beq x.1 k with
    | true => rw [hb] at e; simp only [cond_true, Option.some.injEq] at e; rw [e] at h; simp [SV.isMp] at h
    | false => rw [hb] at e; exact ih h.2 e
/-- Cells of a variable written anew. -/
theorem var_write (hg : Good C w S γ st a.tmps) {id : Nat} {r : Row} {L L' : List (Nat × SV)} (hr : st.row id = some r) (hk : r.k = .var L) (hl : r.l = []) {b q : Nat} (hp : γ id = some (b, q)) (hcl : ∃ n, Blk w b n) {o : Nat} {vs : List Value}
    (hth : ∀ j, j < vs.length → (w.cell? ⟨b, q + (o + j), none⟩).isSome = true)
    (hL' : ∀ (k : Nat) (s : SV), look L' k = some s → (o ≤ k ∧ ∃ u, vs[k - o]? = some u ∧ RepS w S γ st.row s u) ∨ (look L k = some s ∧ (k < o ∨ o + vs.length ≤ k))) :
    Good C (w.setCells b (q + o) vs) S γ (st.upd [(id, some { r with k := .var L' })]) a.tmps := by
  have hg1 := hg.kind hr (by rw [hk]; simp) (by rw [hk]; simp) (k := .free) (by simp) (by simp) (fun L h => by cases h) (fun L h => by cases h)
  have hr1 : (st.upd [(id, some { r with k := .free })]).row id = some { r with k := .free } := by rw [row_one, if_pos rfl]
  have hro1 := hg1.rel.rows id _ hr1
  have hSb : ¬ S b := fun h => by have := (hro1.st b q hp).2 h; cases this
  have hSw : ∀ k, S k → (w.setCells b (q + o) vs).heap[k]? = w.heap[k]? := fun k hkS => setCells_heap_other w b vs (q + o) (fun e => hSb (e ▸ hkS))
  obtain ⟨cur, e, c1, c2⟩ := hro1.cells hp (.inr hcl)
  have hg2 := hg1.write hr1 (by simp) (by simp) hp (q + o) vs [] γ (fun _ _ _ => rfl) (fun i x hx => by
    by_cases e' : i = id
    · subst e'
      have hx' : (st.upd [(i, some { r with k := .free })]).row i = some x := hx
      rw [hr1] at hx'
      cases hx'
      refine .inr ⟨.inl rfl, rfl, ⟨q, hp⟩, RowOk.mk' (fun h => (by rw [hp] at h; cases h)) (fun b' q' h => ?_) hro1.st, fun _ => ⟨rfl, rfl, rfl⟩, fun h => absurd rfl h⟩
      rw [hp] at h
      cases h
      obtain ⟨cur', c3, _⟩ := setCells_block w b vs (q + o) cur e (0, 0) c1
      exact ⟨cur', e, c3, fun j y hy => by simp only [hl] at hy; simp at hy⟩
    · exact .inl ⟨e', hx⟩) (fun i j x y hx hy h1 h2 => by
    have key : ∀ i x, ((st.upd [(id, some { r with k := .free })]).upd []).row i = some x → (i = id ∨ i ∉ (st.upd [(id, some { r with k := .free })]).refs) → i = id := by
      intro i x hx h
      rcases h with h | h
      · exact h
      · exact absurd (ASt.row_refs (st := st.upd [(id, some { r with k := .free })]) (r := x) hx) h
    exact (key i x hx h1).trans (key j y hy h2).symm)
  have hr2 : ((st.upd [(id, some { r with k := .free })]).upd []).row id = some { r with k := .free } := hr1
  have hfin : ∀ i, (((st.upd [(id, some { r with k := .free })]).upd []).upd [(id, some { r with k := .var L' })]).row i = (st.upd [(id, some { r with k := .var L' })]).row i := by
    intro i
    rw [row_one, row_one]
    split
    · rfl
    · rename_i h
      exact (row_one st id _ i).trans (if_neg h)
  have hmono : ∀ (s : SV) (u : Value), RepS w S γ st.row s u → RepS (w.setCells b (q + o) vs) S γ (st.upd [(id, some { r with k := .var L' })]).row s u := by
    intro s u h
    refine h.mono (fun _ h => h) hSw (fun k n hB => ?_) (fun i _ r' hr' => ?_)
    · by_cases hkb : k = b
      · subst hkb
        obtain ⟨x, y, z, h1, h2⟩ := hB
        rw [c1] at h1
        cases h1
        obtain ⟨cur', c3, c4⟩ := setCells_block w k vs (q + o) cur e (0, 0) c1
        exact ⟨cur', _, _, c3, by omega⟩
      · exact hB.congr (setCells_heap_other w b vs (q + o) hkb)
    · rw [row_one] at hr'
      split at hr'
      · rename_i e'
        cases hr'
        exact ⟨r, e' ▸ hr, rfl, rfl, rfl⟩
      · exact ⟨r', hr', rfl, rfl, rfl⟩
  have hg3 := hg2.kind hr2 (by simp) (by simp) (k := .var L') (hpv := fun _ _ h => hg.fr.pv id r L hr hk h) (by simp) (by simp) (fun L2 h2 => by
    cases h2
    have hrow : (((st.upd [(id, some { r with k := .free })]).upd []).upd [(id, some { r with k := .var L' })]).row = (st.upd [(id, some { r with k := .var L' })]).row := funext hfin
    rw [hrow]
    refine ⟨b, q, hp, fun k s hs => ?_⟩
    rcases hL' k s hs with ⟨h1, u, h2, h3⟩ | ⟨h1, h2⟩
    · refine .inl ⟨u, ?_, hmono s u h3⟩
      have hlt := (List.getElem?_eq_some_iff.1 h2).1
      have := World.cell?_setCells_in b vs (q + o) w (fun i hi => by have := hth i hi; rwa [← Nat.add_assoc] at this) (k - o) hlt
      rw [show q + o + (k - o) = q + k by omega] at this
      rw [this, ← h2, List.getElem?_eq_getElem hlt]
    · obtain ⟨b', q', g1, g2⟩ := hg.rel.vars id r L hr hk
      rw [hp] at g1
      cases g1
      rcases g2 k s h1 with ⟨u, g3, g4⟩ | ⟨f, n, _, g3⟩
      rotate_left
      · obtain ⟨es, cl, g4⟩ := g3.obj
        rw [c1] at g4; cases g4
      refine .inl ⟨u, ?_, hmono s u g4⟩
      rw [World.cell?_setCells_out b vs (q + o) w ⟨b, q + k, none⟩ (fun _ _ => by
        show q + k < q + o ∨ q + o + vs.length ≤ q + k
        omega)]
      exact g3)
  exact hg3.same (fun _ => rfl) (fun i => (hfin i).symm)
theorem run_storeVar2 {τ : Ty} {t : TypeId} (h : TyOk P τ t) {b off : Nat} {v : Value} (hl : v.cells.toList.length = τ.nc) (h1 : ∀ u ∈ v.cells.toList, u.oneCell' = true) (ht : w.there b off τ.nc) :
    (storeVar t ⟨b, off, none⟩ v).run P w = .ok () (w.setCells b off v.cells.toList) := by
  have := run_storeCells_cells (P := P) b off v.cells.toList 0 w (fun j hj => by simpa using (ht j (by rw [← hl]; simpa using hj)).1) (fun j hj => by simpa using (ht j (by rw [← hl]; simpa using hj)).2) h1
  have hs : v.cells.size = τ.nc := by simpa using hl
  simp only [Nat.add_zero] at this
  simp [storeVar, run_sizeOf' h, hs, this]
theorem sound_vstore (hT : TtOk P E.tt) {t : Nat} {x y : Operand} (hg : Good C w S γ st a.tmps) {id : Nat} {τ : Ty} {off : Nat} {av : AV} (hx : st.ev x = some (.one (.vptr id τ off))) (hy : st.ev y = some av)
    (hv : (vstoreK E (rowsOf st ids) t id τ off av fun v u => Tree.ret (v, u)).val = some (v, u)) : OpRes P ⟨dst, .store t x y, ty, pos, af, gd⟩ a w (After C st u v a.tmps) := by
  have hA := ev_rep hg.rel hx
  have hB := ev_rep hg.rel hy
  have hsub : ∀ id r, rowsOf st ids id = some r → st.row id = some r := fun _ _ => rowsOf_sub
  unfold vstoreK at hv
  split at hv
  · rename_i τ' r ht hr
    have hr' := hsub _ _ hr
    obtain ⟨h0, hv'⟩ := br_val hv
    clear hv
    have h0 : τ' = τ := by simpa using h0
    subst h0
    split at hv'
    · rename_i L hk hl
      split at hv'
      · rename_i L' hput
        obtain ⟨hin, hv⟩ := br_val hv'
        clear hv'
        simp only [Tree.val, Option.some.injEq, Prod.mk.injEq] at hv
        obtain ⟨rfl, rfl⟩ := hv
        obtain ⟨b, q, e1, e2⟩ := hA r hr'
        obtain ⟨l1, l2, l3⟩ := put_ok hsub hput hB
        obtain ⟨b', q', g1, g2⟩ := hg.rel.vars id r L hr' hk
        rw [e1] at g1
        cases g1
        simp only [Bool.and_eq_true, decide_eq_true_eq] at hin
        obtain ⟨hin, hnc, hnm⟩ := hin
        have hin := inL_spec hin
        have hblk : ∃ n, Blk w b n := by
          obtain ⟨s, hs⟩ := hin 0 hnc
          rcases g2 _ s hs with ⟨u, hu, _⟩ | ⟨f, n, e, _⟩
          · simp only [World.cell?] at hu
            split at hu
            · rename_i cs e fz hb
              exact ⟨0, cs, e, fz, hb, Nat.zero_le _⟩
            · cases hu
          · subst e; exact absurd hs (noMp_look hnm)
        obtain ⟨cur, e, c1, _⟩ := (hg.rel.rows id r hr').cells e1 (.inr hblk)
        have hcell : ∀ j, j < τ'.nc → (w.cell? ⟨b, q + (off + j), none⟩).isSome = true := by
          intro j hj
          obtain ⟨s, hs⟩ := hin j hj
          rcases g2 _ s hs with ⟨u, hu, _⟩ | ⟨f, n, _, g3⟩
          rotate_left
          · obtain ⟨es, cl, g4⟩ := g3.obj
            rw [c1] at g4; cases g4
          rw [hu]; rfl
        have hth : w.there b (q + off) τ'.nc := by
          intro j hj
          have := hcell j hj
          rw [← Nat.add_assoc] at this
          exact ⟨this, by simp [World.frozen?, c1]⟩
        refine .inr (.inl ⟨w.setCells b (q + off) (a.eval y).cells.toList, ?_, S, γ, ?_, ?_⟩)
        · simp only [execOp, e2, Instr.storeAt, Instr.sureAddr, Sem.run_bind, Sem.run_pure, Result.andThen_ok, run_storeVar2 (hT.at ht) l1 l2 hth]
        · exact var_write hg hr' hk hl e1 hblk (by rw [l1]; exact hcell) (by rw [l1]; exact l3)
        · exact ⟨[], rfl, rfl, fun k s h => by simp at h⟩
      · simp [Tree.val] at hv'
    · simp [Tree.val] at hv'
  · simp [Tree.val] at hv
theorem aggAll_spec {rows : RT} {L : List (Nat × SV)} : ∀ {n : Nat}, aggAll rows L n = true → ∀ (k : Nat) (s : SV), k < n → look L k = some s → s.single rows = true := by
  intro n
  induction n with
  | zero => intro _ k s h; omega
  | succ n ih =>
    intro h k s hk hs
    simp only [aggAll, Bool.and_eq_true] at h
    by_cases e : k = n
    · subst e
      have h1 := h.1
      rw [hs] at h1
      exact h1
    · exact ih h.2 k s (by omega) hs
theorem keysLt_spec {n : Nat} : ∀ {L : List (Nat × SV)}, keysLt n L = true → ∀ (k : Nat) (s : SV), look L k = some s → k < n := by
  intro L
  induction L with
  | nil => intro _ k s h; cases h
  | cons x L ih =>
    intro h k s hs
    simp only [keysLt, Bool.and_eq_true] at h
    simp only [look] at hs
    cases hb : Nat.beq x.1 k with
    | true =>
      have := Nat.eq_of_beq_eq_true hb
      subst this
      simpa [Nat.blt_eq] using h.1
    | false => rw [hb] at hs; exact ih h.2 k s hs
theorem aggOk_spec {rows : RT} {n : Nat} {L : List (Nat × SV)} (h : aggOk rows n L = true) (k : Nat) (s : SV) (hs : look L k = some s) : k < n ∧ s.single rows = true := by
  simp only [aggOk, Bool.and_eq_true] at h
  have hk := keysLt_spec h.1 k s hs
  exact ⟨hk, aggAll_spec h.2 k s hk hs⟩
/-- The cells of a variable, read one after the other. -/
theorem agg_cells {rows : RT} (hsub : ∀ id r, rows id = some r → st.row id = some r) {L : List (Nat × SV)} {b q n : Nat}
    (hL : ∀ (k : Nat) (s : SV), look L k = some s → (∃ u, w.cell? ⟨b, q + k, none⟩ = some u ∧ RepS w S γ st.row s u) ∨ ∃ f n, s = .mp f n ∧ MapAt w b f n) (hin : inL L 0 n = true) (hok : aggOk rows n L = true) :
    ∃ cs : List Value, Mem w b q cs ∧ cs.length = n ∧ (∀ u ∈ cs, u.oneCell' = true) ∧ ∀ (k : Nat) (s : SV), look L k = some s → ∃ u, cs[k]? = some u ∧ RepS w S γ st.row s u := by
  have hin := inL_spec hin
  have hsp := aggOk_spec hok
  have leaf : ∀ (k : Nat) (s : SV), look L k = some s → ∃ u, w.cell? ⟨b, q + k, none⟩ = some u ∧ RepS w S γ st.row s u := by
    intro k s hs
    rcases hL k s hs with h | ⟨f, m, rfl, _⟩
    · exact h
    · have := (hsp k _ hs).2; simp [SV.single] at this
  let cs : List Value := (List.range n).map fun k => (w.cell? ⟨b, q + k, none⟩).getD undef
  have hget : ∀ k, k < n → ∃ s u, look L k = some s ∧ w.cell? ⟨b, q + k, none⟩ = some u ∧ RepS w S γ st.row s u ∧ cs[k]? = some u := by
    intro k hk
    obtain ⟨s, hs⟩ := hin k hk
    rw [Nat.zero_add] at hs
    obtain ⟨u, h1, h2⟩ := leaf k s hs
    exact ⟨s, u, hs, h1, h2, by simp [cs, hk, h1]⟩
  have hlen : cs.length = n := by simp [cs]
  refine ⟨cs, fun j v hj => ?_, hlen, fun u hu => ?_, fun k s hs => ?_⟩
  · have hjl : j < n := by have := (List.getElem?_eq_some_iff.1 hj).1; omega
    obtain ⟨s, u, h1, h2, h3, h4⟩ := hget j hjl
    rw [h4] at hj; cases hj; exact h2
  · obtain ⟨k, hk, rfl⟩ := List.mem_iff_getElem.1 hu
    obtain ⟨s, u, h1, h2, h3, h4⟩ := hget k (by omega)
    rw [List.getElem?_eq_getElem hk] at h4
    cases h4
    exact (single_ok hsub (hsp k s h1).2 h3).2
  · have hk := (hsp k s hs).1
    obtain ⟨s', u, h1, h2, h3, h4⟩ := hget k hk
    rw [hs] at h1; cases h1
    exact ⟨u, h4, h3⟩
theorem sound_vload (hT : TtOk P E.tt) {t : Nat} {x : Operand} (hg : Good C w S γ st a.tmps) {id : Nat} {τ : Ty} {off : Nat} (hx : st.ev x = some (.one (.vptr id τ off)))
    (hv : (vloadK E (dst.getD 1000000) (rowsOf st ids) t id τ off fun v u => Tree.ret (v, u)).val = some (v, u)) : OpRes P ⟨dst, .load t x, ty, pos, af, gd⟩ a w (After C st u v a.tmps) := by
  have hA := ev_rep hg.rel hx
  have hsub : ∀ id r, rowsOf st ids id = some r → st.row id = some r := fun _ _ => rowsOf_sub
  unfold vloadK at hv
  split at hv
  · rename_i τ' r ht hr
    have hr' := hsub _ _ hr
    obtain ⟨h0, hv'⟩ := br_val hv
    clear hv
    have h0 : τ' = τ := by simpa using h0
    subst h0
    obtain ⟨b, q, e1, e2⟩ := hA r hr'
    split at hv'
    · rename_i L hk
      obtain ⟨b', q', g1, g2⟩ := hg.rel.vars id r L hr' hk
      rw [e1] at g1
      cases g1
      cases ha : τ'.isAgg with
      | true =>
        simp only [ha, cond_true] at hv'
        cases hcd : E.cells (dst.getD 1000000) with
        | true =>
          rw [hcd, cond_true] at hv'
          obtain ⟨hc, hv2⟩ := br_val hv'
          clear hv'
          simp only [Tree.val, Option.some.injEq, Prod.mk.injEq] at hv2
          obtain ⟨rfl, rfl⟩ := hv2
          simp only [Bool.and_eq_true, decide_eq_true_eq] at hc
          obtain ⟨rfl, hin, hok⟩ := hc
          obtain ⟨cs, m1, m2, m3, m4⟩ := agg_cells hsub g2 hin hok
          obtain ⟨fs, hf⟩ := (hT.at ht).agg ha
          obtain ⟨ii, i1, i2, _⟩ := (hT.at ht).info.info
          refine res_same hg (v := .agg cs.toArray) ?_ ⟨cs, rfl, m2, m3, m4⟩
          have hload := run_loadVar_mid (P := P) w b q t cs (.struct fs) m1 hf rfl (by simp [i1, i2, m2])
          simp only [execOp, e2, Nat.add_zero, Instr.loadAt, Instr.sureAddr, Sem.run_bind, Sem.run_pure, Result.andThen_ok, hload]
        | false =>
        rw [hcd, cond_false] at hv'
        split at hv'
        · rename_i y is hgt
          split at hv'
          · rename_i fr hf
            simp only [Tree.val, Option.some.injEq, Prod.mk.injEq] at hv'
            obtain ⟨rfl, rfl⟩ := hv'
            obtain ⟨cs, m1, r1⟩ := gather_rep hg.rel.rows hsub g2 τ' off y is hgt
            refine .inl ⟨pack τ' cs, w, ?_, SU S γ is, γ, hg.freeze hsub hf, ⟨cs, r1, rfl⟩⟩
            simp only [execOp, e2, Instr.loadAt, Instr.sureAddr, Sem.run_bind, Sem.run_pure, Result.andThen_ok, run_loadVar' (hT.at ht) m1 r1]
          · simp [Tree.val] at hv'
        · simp [Tree.val] at hv'
      | false =>
        simp only [ha, cond_false] at hv'
        split at hv'
        · simp [Tree.val] at hv'
        · rename_i s hnm hs
          simp only [Tree.val, Option.some.injEq, Prod.mk.injEq] at hv'
          obtain ⟨rfl, rfl⟩ := hv'
          rcases g2 off _ hs with ⟨u, h1, h2⟩ | ⟨f, n, e, _⟩
          rotate_left
          · exact absurd e (hnm f n)
          refine res_same hg (v := u) ?_ h2
          have hload : (loadVar t ⟨b, q + off, none⟩).run P w = .ok u w := by
            unfold loadVar
            simp [Sem.run_bind, run_isAgg' (hT.at ht), ha, h1]
          simp only [execOp, e2, Instr.loadAt, Instr.sureAddr, Sem.run_bind, Sem.run_pure, Result.andThen_ok, hload]
        · simp [Tree.val] at hv'
    · simp [Tree.val] at hv'
  · simp [Tree.val] at hv
theorem sound_load (hT : TtOk P E.tt) {t : Nat} {x : Operand} (hg : Good C w S γ st a.tmps)
    (hv : (opT E ⟨dst, .load t x, ty, pos, af, gd⟩ [st.ev x] (rowsOf st ids)).val = some (v, u)) : OpRes P ⟨dst, .load t x, ty, pos, af, gd⟩ a w (After C st u v a.tmps) := by
  by_cases h : ∃ id τ off, st.ev x = some (.one (.vptr id τ off))
  · obtain ⟨id, τ, off, he⟩ := h
    rw [he] at hv
    exact sound_vload hT hg he hv
  · refine sound_load0 hT hg (ids := ids) ?_
    change (match [st.ev x] with
      | [some (.one (.vptr id u off))] => vloadK E (dst.getD 1000000) (rowsOf st ids) t id u off fun v u => Tree.ret (v, u)
      | _ => one1 [st.ev x] fun a => loadK E (rowsOf st ids) t a fun v => Tree.ret (v, ([] : Upd))).val = some (v, u) at hv
    split at hv
    · rename_i id τ off he
      simp only [List.cons.injEq, and_true] at he
      exact absurd ⟨id, τ, off, he⟩ h
    · exact hv
/-- A variable made cell by cell. -/
theorem new_cells (hg : Good C w S γ st a.tmps) {d : Nat} (hd : d ∉ st.refs) {τ : Ty} {cs : List Value} {L : List (Nat × SV)} (hL : ∀ (k : Nat) (s : SV), look L k = some s → ∃ u, cs[k]? = some u ∧ RepS w S γ st.row s u)
    (hids : ∀ i ∈ leafIds L, ∃ r, st.row i = some r) (e : TypeId) (hτ : τ ≠ svT) :
    After C st [(d, some ⟨.var L, τ, []⟩)] (.one (.vptr d τ 0)) a.tmps (.pointer (some ⟨w.heap.size, 0, none⟩)) (w.alloc (.cells cs.toArray e)) := by
  have hg1 := hg.new hd τ [] cs.toArray e [] w (.inl rfl) (fun i x hx => by simp at hx)
  have hne : ∀ i r, st.row i = some r → i ≠ d := fun i r hr e' => hd (e' ▸ ASt.row_refs hr)
  have hr1 : (st.upd [(d, some ⟨.free, τ, []⟩)]).row d = some ⟨.free, τ, []⟩ := by rw [row_one, if_pos rfl]
  have hfin : ∀ i, ((st.upd [(d, some ⟨.free, τ, []⟩)]).upd [(d, some ⟨.var L, τ, []⟩)]).row i = (st.upd [(d, some ⟨.var L, τ, []⟩)]).row i := by
    intro i
    rw [row_one st d (some ⟨.var L, τ, []⟩), row_one (st.upd [(d, some ⟨.free, τ, []⟩)]), row_one st d (some ⟨.free, τ, []⟩)]
    split <;> rfl
  have hg2 := hg1.kind hr1 (by simp) (by simp) (k := .var L) (hpv := fun _ _ h => absurd h hτ) (by simp) (by simp) (fun L2 h2 => by
    cases h2
    have hrow : ((st.upd [(d, some ⟨.free, τ, []⟩)]).upd [(d, some ⟨.var L, τ, []⟩)]).row = (st.upd [(d, some ⟨.var L, τ, []⟩)]).row := funext hfin
    rw [show ((st.upd ((d, some ⟨.free, τ, []⟩) :: ([] : List Nat).map fun k => (k, none))).upd [(d, some ⟨.var L, τ, []⟩)]).row = (st.upd [(d, some ⟨.var L, τ, []⟩)]).row from hrow]
    refine ⟨w.heap.size, 0, by simp, fun k s hs => ?_⟩
    obtain ⟨u, h1, h2⟩ := hL k s hs
    have hnew := alloc_new w (.cells cs.toArray e)
    refine .inl ⟨u, ?_, h2.mono (fun _ h => h) (fun b hb => alloc_old w _ (hg.rel.lt b hb)) (fun b n hB => hB.congr (alloc_old w _ hB.lt)) (fun i hi r' hr' => ?_)⟩
    · simp only [World.cell?, hnew, Nat.zero_add]
      simpa using h1
    · obtain ⟨r, hr⟩ := hids i (leafIds_mem hs hi)
      have := hne i r hr
      rw [row_one, if_neg (fun e => this e.symm)] at hr'
      exact ⟨r', hr', rfl, rfl, by simp [this]⟩)
  refine ⟨S, _, hg2.same (fun _ => rfl) (fun i => (hfin i).symm), ?_⟩
  intro r hr
  exact ⟨w.heap.size, 0, by simp, rfl⟩
theorem sound_alloc (hT : TtOk P E.tt) {t : Nat} (hg : Good C w S γ st a.tmps) {avs : List (Option AV)} {rows : RT} (hd : dst.getD 1000000 ∉ st.refs)
    (hv : (opT E ⟨dst, .alloc t, ty, pos, af, gd⟩ avs rows).val = some (v, u)) : OpRes P ⟨dst, .alloc t, ty, pos, af, gd⟩ a w (After C st u v a.tmps) := by
  change (allocK E (dst.getD 1000000) t fun v u => Tree.ret (v, u)).val = some (v, u) at hv
  unfold allocK at hv
  split at hv
  · rename_i τ ht
    cases hc : E.cells (dst.getD 1000000) with
    | true =>
      rw [hc] at hv
      simp only [cond_true, Tree.val, Option.some.injEq, Prod.mk.injEq] at hv
      obtain ⟨rfl, rfl⟩ := hv
      obtain ⟨z1, z2, _⟩ := zeroL_ok (w := w) (S := S) (γ := γ) (rows := st.row) τ 0
      have hz := zero_cells τ
      refine .inl ⟨.pointer (some ⟨w.heap.size, 0, none⟩), w.alloc (.cells (pack τ (zeroC τ)).cells t), ?_, ?_⟩
      · simp [execOp, Instr.alloc, Sem.run_bind, run_zeroValue' (hT.at ht), newVar, newRow]
      · have := new_cells hg hd (hτ := (hT.at ht).ne_sv) (τ := τ) (cs := zeroC τ) (L := zeroL τ 0) (fun k s hs => by
          obtain ⟨_, u, e1, e2⟩ := z2 k s hs
          exact ⟨u, by simpa using e1, e2⟩) (fun i hi => by rw [zeroL_ids] at hi; cases hi) t
        rwa [← hz, Array.toArray_toList] at this
    | false =>
    rw [hc] at hv
    simp only [cond_false, Tree.val, Option.some.injEq, Prod.mk.injEq] at hv
    obtain ⟨rfl, rfl⟩ := hv
    refine .inl ⟨.pointer (some ⟨w.heap.size, 0, none⟩), w.alloc (.cells (pack τ (zeroC τ)).cells t), ?_, new_var hg hd (v := pack τ (zeroC τ)) ⟨_, zeroC_rep w S τ, rfl⟩ t⟩
    simp [execOp, Instr.alloc, Sem.run_bind, run_zeroValue' (hT.at ht), newVar, newRow]
  · simp [Tree.val] at hv
/-- Parts filled into a struct that is kept cell by cell. -/
theorem fillA_rep {rows : RT} (hsub : ∀ id r, rows id = some r → st.row id = some r) {τ : Ty} {t : Nat} (hT : TyOk P τ t) {fs : Array Field}
    (hfs : P.underlying t = some (.struct fs)) {places : Array (Nat × Nat)} (hpl : ∀ (f : Nat) (fd : Field), fs[f]? = some fd → ∀ u, TyOk P u fd.type → places[f]? = some (fd.offset, u.nc)) :
    ∀ (ps : List Nat) (vs : List SV) (vals : List Value) (L L' : List (Nat × SV)) (cells : Array Value), ps.length = vs.length → vs.length = vals.length →
      (∀ (i : Nat) s v, vs[i]? = some s → vals[i]? = some v → RepS w S γ st.row s v) → cells.size = τ.nc → (∀ u ∈ cells.toList, u.oneCell' = true) →
      (∀ (k : Nat) (s : SV), look L k = some s → ∃ u, cells[k]? = some u ∧ RepS w S γ st.row s u) →
      fillA rows τ L (ps.zip vs) = some L' → ∃ cells', Instr.fill (places[·]?) cells (ps.zip vals) = some cells' ∧ cells'.size = τ.nc ∧ (∀ u ∈ cells'.toList, u.oneCell' = true) ∧
        (∀ (k : Nat) (s : SV), look L' k = some s → ∃ u, cells'[k]? = some u ∧ RepS w S γ st.row s u) := by
  intro ps
  induction ps with
  | nil =>
    intro vs vals L L' cells h1 h2 h3 h4 h4' h5 h6
    simp only [List.zip_nil_left, fillA, Option.some.injEq] at h6
    subst h6
    exact ⟨cells, rfl, h4, h4', h5⟩
  | cons f ps ih =>
    intro vs vals L L' cells h1 h2 h3 h4 h4' h5 h6
    match vs, vals, h1, h2 with
    | s :: vs, v :: vals, h1, h2 =>
      simp only [List.zip_cons_cons, fillA] at h6 ⊢
      split at h6
      · rename_i ut o hc
        split at h6
        · rename_i L1 hput
          have hs := h3 0 s v rfl rfl
          obtain ⟨l1, l2, l3⟩ := put_ok hsub hput (show RepA w S γ st.row (.one s) v from hs)
          obtain ⟨fs', fd, e1, e2, e3, e4⟩ := hT.struct hc
          rw [hfs] at e1
          cases e1
          have hp := hpl f fd e2 ut e4
          rw [e3] at hp
          have hle := comp_le hc
          have hsz : v.cells.size = ut.nc := by simpa using l1
          obtain ⟨cells', g1, g2, g3⟩ := fill_step (cells := cells) (rest := ps.zip vals) hp hsz (by omega)
          rw [g1]
          have hcl : cells.toList.length = τ.nc := by simpa using h4
          refine ih vs vals L1 L' cells' (by simpa using h1) (by simpa using h2) (fun i s' v' a b => h3 (i + 1) s' v' (by simpa using a) (by simpa using b)) (by omega) ?_ ?_ h6
          · intro u hu
            rw [g2] at hu
            simp only [patch, List.mem_append] at hu
            rcases hu with (hu | hu) | hu
            · exact h4' u (List.mem_of_mem_take hu)
            · exact l2 u hu
            · exact h4' u (List.mem_of_mem_drop hu)
          · intro k s' hk
            have hgk : ∀ k, cells'[k]? = (patch cells.toList o v.cells.toList)[k]? := fun k => by rw [← g2]; exact Array.getElem?_toList.symm
            rcases l3 k s' hk with ⟨e5, u, e6, e7⟩ | ⟨e5, e6⟩
            · refine ⟨u, ?_, e7⟩
              have hlt := (List.getElem?_eq_some_iff.1 e6).1
              have := patch_in (cs := cells.toList) (es := v.cells.toList) (o := o) (j := k - o) (by omega) hlt
              rw [hgk, ← e6, ← this]
              congr 1; omega
            · obtain ⟨u, e7, e8⟩ := h5 k s' e5
              refine ⟨u, ?_, e8⟩
              rw [hgk, patch_out (by omega) (by omega)]
              simpa using e7
        · cases h6
      · cases h6
theorem sound_build (hT : TtOk P E.tt) {t : Nat} {parts : Array (Nat × Operand)} (hg : Good C w S γ st a.tmps)
    (hv : (opT E ⟨dst, .build t parts, ty, pos, af, gd⟩ ((parts.toList.map (·.2)).map st.ev) (rowsOf st ids)).val = some (v, u)) :
    OpRes P ⟨dst, .build t parts, ty, pos, af, gd⟩ a w (After C st u v a.tmps) := by
  change (cond (E.cells (dst.getD 1000000)) (buildAK E (rowsOf st ids) t (parts.toList.map (·.1)) ((parts.toList.map (·.2)).map st.ev) fun v => Tree.ret (v, ([] : Upd))) (buildK E (rowsOf st ids) t (parts.toList.map (·.1)) ((parts.toList.map (·.2)).map st.ev) fun v u => Tree.ret (v, u))).val = some (v, u) at hv
  cases hc : E.cells (dst.getD 1000000) with
  | false => rw [hc] at hv; exact sound_build0 hT hg hv
  | true =>
    rw [hc, cond_true] at hv
    unfold buildAK at hv
    split at hv
    · rename_i τ vs ht ho
      obtain ⟨h0, hv'⟩ := br_val hv
      clear hv
      split at hv'
      · rename_i L hL
        simp only [Tree.val, Option.some.injEq, Prod.mk.injEq] at hv'
        obtain ⟨rfl, rfl⟩ := hv'
        have hsub : ∀ id r, rowsOf st ids id = some r → st.row id = some r := fun _ _ => rowsOf_sub
        have hty := hT.at ht
        obtain ⟨fs, hfs⟩ := hty.agg h0
        obtain ⟨places, hp1, hp2⟩ := run_places (hty.fields hfs) w
        have hz := zero_cells τ
        obtain ⟨z1, z2, _⟩ := zeroL_ok (w := w) (S := S) (γ := γ) (rows := st.row) τ 0
        have hzr := zeroC_rep w S τ
        obtain ⟨cells', g1, g2, g3, g4⟩ := fillA_rep hsub hty hfs hp2 (parts.toList.map (·.1)) vs ((parts.toList.map (·.2)).map a.eval) (zeroL τ 0) L (pack τ (zeroC τ)).cells
          (by rw [(ones_val ho).1]; simp) (by rw [(ones_val ho).1]; simp) (vals_rep hg.rel ho) (by have := hzr.length; rw [← hz] at this; simpa using this) (by rw [hz]; exact hzr.one) (fun k s hs => by
            obtain ⟨_, u, e1, e2⟩ := z2 k s hs
            refine ⟨u, ?_, e2⟩
            rw [← Array.getElem?_toList, hz]
            simpa using e1) hL
        refine .inl ⟨.agg cells', w, ?_, S, γ, hg, ⟨cells'.toList, by simp, by simpa using g2, g3, fun k s hs => by obtain ⟨u, e1, e2⟩ := g4 k s hs; exact ⟨u, by simpa using e1, e2⟩⟩⟩
        have e1 : (parts.map fun (i, x) => (i, a.eval x)).toList = (parts.toList.map (·.1)).zip ((parts.toList.map (·.2)).map a.eval) := by
          rw [Array.toList_map, zip_map_vals, List.map_map]; rfl
        simp only [execOp, Instr.build, Sem.run_bind, run_zeroValue' hty, Result.andThen_ok, run_underlying hfs, hp1, Sem.run_pure]
        rw [e1, g1]
        rfl
      · simp [Tree.val] at hv'
    · simp [Tree.val] at hv
/-- Cells that hold a list of elements, one behind the other. -/
def LRep (w : World) (S : Nat → Prop) (t : Ty) (l : List t.den) (cs : List Value) : Prop :=
  ∀ i x, l[i]? = some x → ∃ ds, RepC w S t x ds ∧ ∀ (j : Nat) v, ds[j]? = some v → cs[i * t.nc + j]? = some v
theorem apart_mul {i i' n : Nat} (h : i ≠ i') : i' * n + n ≤ i * n ∨ i * n + n ≤ i' * n := by
  rcases Nat.lt_or_gt_of_ne h with h | h
  · right; have := Nat.mul_le_mul_right n (show i + 1 ≤ i' by omega); rw [Nat.add_mul] at this; omega
  · left; have := Nat.mul_le_mul_right n (show i' + 1 ≤ i by omega); rw [Nat.add_mul] at this; omega
theorem LRep.set {t : Ty} {l : List t.den} {cs es : List Value} (h : LRep w S t l cs) {i : Nat} {y : t.den} (hi : i < l.length) (hcs : l.length * t.nc ≤ cs.length) (he : RepC w S t y es) : LRep w S t (l.set i y) (patch cs (i * t.nc) es) := by
  have hl := he.length
  have hb : i * t.nc + es.length ≤ cs.length := by
    have := Nat.mul_le_mul_right t.nc (show i + 1 ≤ l.length by omega)
    rw [Nat.add_mul] at this; omega
  intro i' x hx
  by_cases e : i = i'
  · subst e
    rw [List.getElem?_set_self hi] at hx
    simp only [Option.some.injEq] at hx
    subst hx
    exact ⟨es, he, fun j v hj => by rw [patch_in hb (List.getElem?_eq_some_iff.1 hj).1]; exact hj⟩
  · rw [List.getElem?_set_ne e] at hx
    obtain ⟨ds, h1, h2⟩ := h i' x hx
    refine ⟨ds, h1, fun j v hj => ?_⟩
    have hj' := (List.getElem?_eq_some_iff.1 hj).1
    rw [h1.length] at hj'
    rw [patch_out hb (by have := apart_mul (n := t.nc) e; omega)]
    exact h2 j v hj
theorem LRep.zeros (t : Ty) (n : Nat) {k : Nat} (hk : n ≤ k) : LRep w S t (List.replicate n t.zero) ((Array.range (k * t.nc)).map ((pack t (zeroC t)).cells[· % (pack t (zeroC t)).cells.size]!)).toList := by
  intro i x hx
  have hi : i < n := by have := (List.getElem?_eq_some_iff.1 hx).1; simpa using this
  rw [List.getElem?_replicate_of_lt hi] at hx
  simp only [Option.some.injEq] at hx
  subst hx
  refine ⟨zeroC t, zeroC_rep w S t, fun j v hj => ?_⟩
  have hz := zero_cells t
  have hl : (zeroC t).length = t.nc := (zeroC_rep w S t).length
  have hj' := (List.getElem?_eq_some_iff.1 hj).1
  have hs : (pack t (zeroC t)).cells.size = t.nc := by rw [← Array.length_toList, hz, hl]
  have hlt : i * t.nc + j < k * t.nc := by
    have := Nat.mul_le_mul_right t.nc (show i + 1 ≤ k by omega)
    rw [Nat.add_mul] at this; omega
  simp only [Array.getElem?_toList, Array.getElem?_map, hs]
  rw [Array.getElem?_eq_getElem (by simpa using hlt)]
  simp only [Array.getElem_range, Option.map_some, Option.some.injEq]
  have e1 : (i * t.nc + j) % t.nc = j := by
    rw [Nat.mul_comm, Nat.mul_add_mod]; exact Nat.mod_eq_of_lt (by omega)
  rw [e1]
  have e2 : (pack t (zeroC t)).cells[j]? = some v := by rw [← Array.getElem?_toList, hz]; exact hj
  rw [getElem!_def, e2]
theorem fillL_rep (hrow : ∀ id r, st.row id = some r → RowOk w S γ id r) {rows : RT} (hsub : ∀ id r, rows id = some r → st.row id = some r) {t : Ty} :
    ∀ (ps : List Nat) (vs : List SV) (vals : List Value) (l l' : List t.den) (is : List Nat) (cells : Array Value), ps.length = vs.length → vs.length = vals.length →
      (∀ (i : Nat) s v, vs[i]? = some s → vals[i]? = some v → RepS w S γ st.row s v) → LRep w (SU S γ is) t l cells.toList → l.length * t.nc ≤ cells.size →
      ∀ is', fillL rows t l (ps.zip vs) = some (l', is') → ∃ cells', Instr.fill (fun i => some (i * t.nc, t.nc)) cells (ps.zip vals) = some cells' ∧ LRep w (SU S γ (is ++ is')) t l' cells'.toList ∧ cells'.size = cells.size ∧ l'.length = l.length := by
  intro ps
  induction ps with
  | nil =>
    intro vs vals l l' is cells h1 h2 h3 h4 hsz is' h5
    simp only [List.zip_nil_left, fillL, Option.some.injEq, Prod.mk.injEq] at h5
    obtain ⟨rfl, rfl⟩ := h5
    exact ⟨cells, rfl, by simpa using h4, rfl, rfl⟩
  | cons f ps ih =>
    intro vs vals l l' is cells h1 h2 h3 h4 hsz is' h5
    match vs, vals, h1, h2 with
    | s :: vs, v :: vals, h1, h2 =>
      simp only [List.zip_cons_cons, fillL] at h5 ⊢
      split at h5
      · rename_i z i1 hz
        by_cases hf : f < l.length
        · simp only [hf, decide_true, cond_true] at h5
          split at h5
          · rename_i z' i2 hz'
            simp only [Option.some.injEq, Prod.mk.injEq] at h5
            obtain ⟨rfl, rfl⟩ := h5
            have hs := h3 0 s v rfl rfl
            have hr := toPure_rep hrow hsub hz hs
            have hb : f * t.nc + t.nc ≤ cells.size := by
              have := Nat.mul_le_mul_right t.nc (show f + 1 ≤ l.length by omega)
              rw [Nat.add_mul] at this; omega
            obtain ⟨cells', g1, g2, g3⟩ := fill_step (place := fun i => some (i * t.nc, t.nc)) (cells := cells) (rest := ps.zip vals) rfl hr.cells_size hb
            rw [g1]
            have h4' : LRep w (SU S γ (is ++ i1)) t l cells.toList := fun i x hx => let ⟨ds, d1, d2⟩ := h4 i x hx; ⟨ds, d1.mono (SU_append S γ is i1) (fun _ _ => rfl), d2⟩
            have h6 := h4'.set (y := z) hf (by simpa using hsz) (hr.cells.mono (SU_append' S γ is i1) (fun _ _ => rfl))
            rw [← g2] at h6
            obtain ⟨c2, k1, k2, k3, k4⟩ := ih vs vals (l.set f z) _ (is ++ i1) cells' (by simpa using h1) (by simpa using h2) (fun i s' v' a b => h3 (i + 1) s' v' (by simpa using a) (by simpa using b)) h6 (by simpa [g3] using hsz) i2 hz'
            exact ⟨c2, k1, by simpa [List.append_assoc] using k2, by omega, by simpa using k4⟩
          · cases h5
        · simp [hf] at h5
      · cases h5
/-- A row of its own: what is known of its slice. -/
theorem new_own (hg : Good C w S γ st a.tmps) {d : Nat} (hd : d ∉ st.refs) {t : Ty} {l : List t.den} {arr : Array Value} {cap : Nat} (e : TypeId) (kill : List Nat) {w1 : World} (hw1 : w1 = w ∨ w1 = w.drew)
    (hc : LRep w S t l arr.toList) (hcap : l.length ≤ cap) (hm : cap ≤ maxLen) (hs : cap * t.nc ≤ arr.size) :
    After C st ((d, some ⟨.free, t, l⟩) :: kill.map fun k => (k, none)) (.one (.own d)) a.tmps (.slice (some ⟨w.heap.size, 0, none⟩) l.length cap) (w1.alloc (.cells arr e)) := by
  have hh : w1.heap = w.heap := by rcases hw1 with rfl | rfl <;> rfl
  refine ⟨S, _, hg.new hd t l arr e kill w1 hw1 (fun i x hx => ?_), fun r hr => ?_⟩
  · obtain ⟨ds, d1, d2⟩ := hc i x hx
    exact ⟨ds, d1, fun j v hj => by simpa using d2 j v hj⟩
  · rw [ASt.row_upd] at hr
    simp only [look, Nat.beq_refl, cond_true, Option.some.injEq] at hr
    subst hr
    refine ⟨_, cap, rfl, hcap, hm, .inr ⟨w.heap.size, 0, by simp, by simp, arr, e, (0, 0), ?_, by simpa using hs⟩⟩
    have := alloc_new w1 (.cells arr e)
    rwa [hh] at this
theorem sound_buildSlice (hT : TtOk P E.tt) {t n : Nat} {parts : Array (Nat × Operand)} (hg : Good C w S γ st a.tmps) (hd : dst.getD 1000000 ∉ st.refs)
    (hv : (opT E ⟨dst, .buildSlice t n parts, ty, pos, af, gd⟩ ((parts.toList.map (·.2)).map st.ev) (rowsOf st ids)).val = some (v, u)) :
    OpRes P ⟨dst, .buildSlice t n parts, ty, pos, af, gd⟩ a w (After C st u v a.tmps) := by
  change (buildSliceK E (rowsOf st ids) (dst.getD 1000000) t n (parts.toList.map (·.1)) ((parts.toList.map (·.2)).map st.ev) fun v u => Tree.ret (v, u)).val = some (v, u) at hv
  unfold buildSliceK at hv
  split at hv
  · rename_i τ vs ht ho
    obtain ⟨h0, hv'⟩ := br_val hv
    clear hv
    simp only [Bool.and_eq_true, decide_eq_true_eq] at h0
    split at hv'
    · rename_i l is hx
      split at hv'
      · rename_i fr hf
        simp only [Tree.val, Option.some.injEq, Prod.mk.injEq] at hv'
        obtain ⟨rfl, rfl⟩ := hv'
        have hsub : ∀ id r, rowsOf st ids id = some r → st.row id = some r := fun _ _ => rowsOf_sub
        obtain ⟨⟨e, he1, he2⟩, _⟩ := hT.at ht
        obtain ⟨cells', g1, g2, g3, g4⟩ := fillL_rep hg.rel.rows hsub (t := τ) (parts.toList.map (·.1)) vs ((parts.toList.map (·.2)).map a.eval) (List.replicate n τ.zero) l [] ((Array.range (n * τ.nc)).map ((pack τ (zeroC τ)).cells[· % (pack τ (zeroC τ)).cells.size]!))
          (by rw [(ones_val ho).1]; simp) (by rw [(ones_val ho).1]; simp) (vals_rep hg.rel ho) (LRep.zeros τ n (Nat.le_refl n)) (by simp) is hx
        have hln : l.length = n := by rw [g4]; simp
        have hA := new_own (hg.freeze hsub hf) (refs_freeze hsub hf hd) (t := τ) (l := l) (arr := cells') (cap := n) e [] (.inl rfl) (by simpa using g2) (by omega) (by
          have := h0.1; have h2 := h0.2
          have h3 := Nat.le_mul_of_pos_right n h2
          simp only [maxLen]; omega) (by rw [g3]; simp)
        rw [hln] at hA
        refine .inl ⟨.slice (some ⟨w.heap.size, 0, none⟩) n n, w.alloc (.cells cells' e), ?_, hA⟩
        have e1 : (parts.map fun (i, x) => (i, a.eval x)).toList = (parts.toList.map (·.1)).zip ((parts.toList.map (·.2)).map a.eval) := by
          rw [Array.toList_map, zip_map_vals, List.map_map]; rfl
        have e2 : ¬ n * τ.nc > 2 ^ 24 := by have := h0.1; omega
        simp only [execOp, Instr.buildSlice, Sem.run_bind, run_underlying he1, Result.andThen_ok, run_sizeOf' he2, e2, if_false, Sem.run_pure]
        rw [e1]
        by_cases hn : n * τ.nc = 0
        · rw [hn] at g1 ⊢
          simp only [if_true, Sem.run_bind, Sem.run_pure, Result.andThen_ok]
          have e3 : ∀ f : Nat → Value, (Array.range 0).map f = #[] := fun f => by simp
          rw [e3] at g1 ⊢
          rw [g1]
          simp [newRow]
        · simp only [hn, if_false, Sem.run_bind, Sem.run_pure, Result.andThen_ok, run_zeroValue' he2]
          rw [g1]
          simp [newRow]
      · simp [Tree.val] at hv'
    · simp [Tree.val] at hv'
  · simp [Tree.val] at hv
theorem sound_makeSlice (hT : TtOk P E.tt) {t : Nat} {x y : Operand} (hg : Good C w S γ st a.tmps) (hd : dst.getD 1000000 ∉ st.refs) {rows : RT}
    (hv : (opT E ⟨dst, .makeSlice t x y, ty, pos, af, gd⟩ [st.ev x, st.ev y] rows).val = some (v, u)) :
    OpRes P ⟨dst, .makeSlice t x y, ty, pos, af, gd⟩ a w (After C st u v a.tmps) := by
  obtain ⟨sa, sb, he, hv1⟩ := one2_val (k := fun n m => intK n fun n => intK m fun m => makeSliceK E (dst.getD 1000000) t n m fun v u => Tree.ret (v, u)) hv
  clear hv
  obtain ⟨q, n, rfl, hv⟩ := intK_val hv1
  clear hv1
  obtain ⟨q', m, rfl, hv1⟩ := intK_val hv
  clear hv
  simp only [List.cons.injEq, and_true] at he
  obtain ⟨ha, _⟩ := inv_int (R := st.row) (γ := γ) (ev_rep hg.rel he.1)
  obtain ⟨hb, _⟩ := inv_int (R := st.row) (γ := γ) (ev_rep hg.rel he.2)
  unfold makeSliceK at hv1
  split at hv1
  · rename_i τ eb hl
    obtain ⟨h0, hv⟩ := br_val hv1
    clear hv1
    simp only [Bool.and_eq_true, decide_eq_true_eq] at h0
    obtain ⟨k1, k2, k3, k4, k5⟩ := h0
    simp only [Tree.val, Option.some.injEq, Prod.mk.injEq] at hv
    obtain ⟨rfl, rfl⟩ := hv
    have ht : E.ty t = some (.sl τ) := by simp [Env.ty, hl]
    obtain ⟨⟨e, he1, he2⟩, _⟩ := hT.at ht
    obtain ⟨p1, p2⟩ := hT.el t τ eb e hl he1
    obtain ⟨ie, i1, i2, i3⟩ := he2.info.info
    have hby : ie.bytes = eb := by simpa [Program.bytesOf, i1] using p2
    obtain ⟨n', rfl⟩ := Int.eq_ofNat_of_zero_le k1
    obtain ⟨m', rfl⟩ := Int.eq_ofNat_of_zero_le (Int.le_trans k1 k2)
    have hmax : (maxLen : Int) = 9223372036854775807 := rfl
    have hw : ∀ z : Nat, z ≤ m' → IntKind.i64.wrap (z : Int) = z := fun z hz => by
      exact IntWalk.i64_in _ (by omega)
    have hn'' := hw n' (by omega)
    have hm'' := hw m' (Nat.le_refl _)
    have hA := new_own hg hd (t := τ) (l := List.replicate n' τ.zero) (arr := (Array.range (m' * τ.nc)).map ((pack τ (zeroC τ)).cells[· % (pack τ (zeroC τ)).cells.size]!)) (cap := m') e [] (.inl rfl)
      (LRep.zeros τ n' (by omega)) (by simp; omega) (by omega) (by simp)
    simp only [List.length_replicate] at hA
    refine .inl ⟨.slice (some ⟨w.heap.size, 0, none⟩) n' m', _, ?_, by simpa using hA⟩
    have c1 : ¬ ((m' : Int) < 0) := by omega
    have c2 : ¬ ((eb : Int) * (m' : Int) > 2 ^ 48) := by
      rw [Int.mul_comm]; simp only [room] at k3; omega
    have c3 : ¬ ((n' : Int) < 0) := by omega
    have c4 : ¬ ((n' : Int) > (m' : Int)) := by omega
    simp only [execOp, Instr.makeSlice, ha, hb, asInt, asIntOf, Sem.run_bind, run_underlying he1, Result.andThen_ok, Sem.run_pure, typeInfo, run_program, i1, hby, hn'', hm'', c1, c2, c3, c4, decide_false, Bool.or_self, Bool.false_eq_true, if_false, run_askRoom, run_sizeOf' he2, Int.toNat_natCast, newRow]
    by_cases hn : m' * τ.nc = 0
    · rw [hn]
      have e3 : ∀ f : Nat → Value, (Array.range 0).map f = #[] := fun f => by simp
      simp [e3]
    · simp [hn, run_zeroValue' he2]
  · simp [Tree.val] at hv1
end
end Go.Lift
