import Derived.Test.YtgnigfnonoicmaaProg
import Derived.Test.YtgnigfnonoicmaaLib4
set_option maxRecDepth 100000
set_option linter.unusedVariables false
namespace Go.Proofs.Ytgnigfnonoicmaa
open Go Go.Lift
abbrev api_Type : Ty := .pair (.int .i64) (.pair (.int .i64) .unit)
abbrev api_TypeV : Type := Int × Int × Unit
abbrev api_Row : Ty := .pair api_Type (.pair (.int .i64) (.pair (.int .i64) (.pair (.int .i64) .unit)))
abbrev api_RowV : Type := api_TypeV × Int × Int × Int × Unit
abbrev api_Table : Ty := .pair .str (.pair api_Type (.pair api_Type (.pair (.sl api_Row) .unit)))
abbrev api_TableV : Type := List UInt8 × api_TypeV × api_TypeV × List api_RowV × Unit
abbrev api_Enum : Ty := .pair .str (.pair (.sl .str) .unit)
abbrev api_EnumV : Type := List UInt8 × List (List UInt8) × Unit
theorem ty9 : TyOk Try.prog .str 9 := ⟨Try.underlying9, infoOk_of (by kernel_rfl) (by kernel_rfl)⟩
theorem ty3 : TyOk Try.prog (.int .i64) 3 := ⟨Try.underlying3, infoOk_of (by kernel_rfl) (by kernel_rfl)⟩
theorem ty23 : TyOk Try.prog api_Type 23 := ⟨⟨_, _, _, Try.underlying23, rfl, rfl, ty3, ⟨_, _, rfl, rfl, ty3, rfl, by decide⟩, by decide, by kernel_rfl, by kernel_rfl⟩, infoOk_of (by kernel_rfl) (by kernel_rfl)⟩
theorem ty48 : TyOk Try.prog api_Type 48 := ⟨⟨_, _, _, Try.underlying48, rfl, rfl, ty3, ⟨_, _, rfl, rfl, ty3, rfl, by decide⟩, by decide, by kernel_rfl, by kernel_rfl⟩, infoOk_of (by kernel_rfl) (by kernel_rfl)⟩
theorem ty50 : TyOk Try.prog api_Row 50 := ⟨⟨_, _, _, Try.underlying50, rfl, rfl, ty48, ⟨_, _, rfl, rfl, ty3, ⟨_, _, rfl, rfl, ty3, ⟨_, _, rfl, rfl, ty3, rfl, by decide⟩, by decide⟩, by decide⟩, by decide, by kernel_rfl, by kernel_rfl⟩, infoOk_of (by kernel_rfl) (by kernel_rfl)⟩
theorem ty24 : TyOk Try.prog (.sl api_Row) 24 := ⟨⟨50, Try.underlying24, ty50⟩, infoOk_of (by kernel_rfl) (by kernel_rfl)⟩
theorem ty26 : TyOk Try.prog api_Table 26 := ⟨⟨_, _, _, Try.underlying26, rfl, rfl, ty9, ⟨_, _, rfl, rfl, ty23, ⟨_, _, rfl, rfl, ty23, ⟨_, _, rfl, rfl, ty24, rfl, by decide⟩, by decide⟩, by decide⟩, by decide, by kernel_rfl, by kernel_rfl⟩, infoOk_of (by kernel_rfl) (by kernel_rfl)⟩
theorem ty76 : TyOk Try.prog (.int .u64) 76 := ⟨Try.underlying76, infoOk_of (by kernel_rfl) (by kernel_rfl)⟩
theorem ty5 : TyOk Try.prog (.int .u8) 5 := ⟨Try.underlying5, infoOk_of (by kernel_rfl) (by kernel_rfl)⟩
theorem ty95 : TyOk Try.prog (.int .u64) 95 := ⟨Try.underlying95, infoOk_of (by kernel_rfl) (by kernel_rfl)⟩
theorem ty4 : TyOk Try.prog .bool 4 := ⟨Try.underlying4, infoOk_of (by kernel_rfl) (by kernel_rfl)⟩
theorem ty104 : TyOk Try.prog (.sl .str) 104 := ⟨⟨9, Try.underlying104, ty9⟩, infoOk_of (by kernel_rfl) (by kernel_rfl)⟩
theorem ty106 : TyOk Try.prog api_Enum 106 := ⟨⟨_, _, _, Try.underlying106, rfl, rfl, ty9, ⟨_, _, rfl, rfl, ty104, rfl, by decide⟩, by decide, by kernel_rfl, by kernel_rfl⟩, infoOk_of (by kernel_rfl) (by kernel_rfl)⟩
theorem ty27 : TyOk Try.prog (.sl api_Enum) 27 := ⟨⟨106, Try.underlying27, ty106⟩, infoOk_of (by kernel_rfl) (by kernel_rfl)⟩
theorem ty117 : TyOk Try.prog (.int .u64) 117 := ⟨Try.underlying117, infoOk_of (by kernel_rfl) (by kernel_rfl)⟩
theorem ty42 : TyOk Try.prog api_Type 42 := ⟨⟨_, _, _, Try.underlying42, rfl, rfl, ty3, ⟨_, _, rfl, rfl, ty3, rfl, by decide⟩, by decide, by kernel_rfl, by kernel_rfl⟩, infoOk_of (by kernel_rfl) (by kernel_rfl)⟩
theorem ty37 : TyOk Try.prog (.sl api_Type) 37 := ⟨⟨42, Try.underlying37, ty42⟩, infoOk_of (by kernel_rfl) (by kernel_rfl)⟩
theorem ty83 : TyOk Try.prog (.sl api_Type) 83 := ⟨⟨48, Try.underlying83, ty48⟩, infoOk_of (by kernel_rfl) (by kernel_rfl)⟩
theorem ty57 : TyOk Try.prog (.sl (.int .i64)) 57 := ⟨⟨3, Try.underlying57, ty3⟩, infoOk_of (by kernel_rfl) (by kernel_rfl)⟩
def tt : List (Nat × TI) := [(26, ⟨api_Table, 0⟩), (24, ⟨.sl api_Row, 40⟩), (50, ⟨api_Row, 0⟩), (23, ⟨api_Type, 0⟩), (48, ⟨api_Type, 0⟩), (3, ⟨.int .i64, 0⟩), (76, ⟨.int .u64, 0⟩), (5, ⟨.int .u8, 0⟩), (9, ⟨.str, 0⟩), (95, ⟨.int .u64, 0⟩), (4, ⟨.bool, 0⟩), (27, ⟨.sl api_Enum, 40⟩), (106, ⟨api_Enum, 0⟩), (104, ⟨.sl .str, 16⟩), (117, ⟨.int .u64, 0⟩), (42, ⟨api_Type, 0⟩), (37, ⟨.sl api_Type, 16⟩), (83, ⟨.sl api_Type, 16⟩), (57, ⟨.sl (.int .i64), 8⟩)]
theorem tt_ok : TtOk Try.prog tt := (ttOk_cons (ttOk_cons (ttOk_cons (ttOk_cons (ttOk_cons (ttOk_cons (ttOk_cons (ttOk_cons (ttOk_cons (ttOk_cons (ttOk_cons (ttOk_cons (ttOk_cons (ttOk_cons (ttOk_cons (ttOk_cons (ttOk_cons (ttOk_cons (ttOk_cons ttOk_nil
  ty57 (fun u h => ⟨by decide, fun e he => by rw [Try.underlying57] at he; cases he; kernel_rfl⟩))
  ty83 (fun u h => ⟨by decide, fun e he => by rw [Try.underlying83] at he; cases he; kernel_rfl⟩))
  ty37 (fun u h => ⟨by decide, fun e he => by rw [Try.underlying37] at he; cases he; kernel_rfl⟩))
  ty42 (fun u h => Ty.noConfusion h))
  ty117 (fun u h => Ty.noConfusion h))
  ty104 (fun u h => ⟨by decide, fun e he => by rw [Try.underlying104] at he; cases he; kernel_rfl⟩))
  ty106 (fun u h => Ty.noConfusion h))
  ty27 (fun u h => ⟨by decide, fun e he => by rw [Try.underlying27] at he; cases he; kernel_rfl⟩))
  ty4 (fun u h => Ty.noConfusion h))
  ty95 (fun u h => Ty.noConfusion h))
  ty9 (fun u h => Ty.noConfusion h))
  ty5 (fun u h => Ty.noConfusion h))
  ty76 (fun u h => Ty.noConfusion h))
  ty3 (fun u h => Ty.noConfusion h))
  ty48 (fun u h => Ty.noConfusion h))
  ty23 (fun u h => Ty.noConfusion h))
  ty50 (fun u h => Ty.noConfusion h))
  ty24 (fun u h => ⟨by decide, fun e he => by rw [Try.underlying24] at he; cases he; kernel_rfl⟩))
  ty26 (fun u h => Ty.noConfusion h))
theorem mixed : Try.prog.follows .mixedOrders = true := by kernel_rfl
end Go.Proofs.Ytgnigfnonoicmaa
