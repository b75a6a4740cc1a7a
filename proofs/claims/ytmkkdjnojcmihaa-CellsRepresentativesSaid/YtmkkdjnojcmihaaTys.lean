/- The types of the program. -/
import Derived.Test.YtmkkdjnojcmihaaProg
import Derived.Test.YtmkkdjnojcmihaaLib4
set_option maxRecDepth 100000
set_option linter.unusedVariables false
namespace Go.Proofs.Ytmkkdjnojcmihaa
open Go Go.Lift

abbrev api_Enum : Ty := .pair .str (.pair (.sl .str) .unit)
abbrev api_EnumV : Type := List UInt8 × List (List UInt8) × Unit

abbrev api_Type : Ty := .pair (.int .i64) (.pair (.int .i64) .unit)
abbrev api_TypeV : Type := Int × Int × Unit

abbrev api_Row : Ty := .pair api_Type (.pair (.int .i64) (.pair (.int .i64) (.pair (.int .i64) .unit)))
abbrev api_RowV : Type := api_TypeV × Int × Int × Int × Unit

abbrev api_Table : Ty := .pair .str (.pair api_Type (.pair api_Type (.pair (.sl api_Row) .unit)))
abbrev api_TableV : Type := List UInt8 × api_TypeV × api_TypeV × List api_RowV × Unit

abbrev api_Signature : Ty := .pair (.sl api_Enum) (.pair (.sl api_Table) (.pair (.sl api_Type) (.pair (.sl api_Type) (.pair (.sl api_Type) (.pair .bool .unit)))))
abbrev api_SignatureV : Type := List api_EnumV × List api_TableV × List api_TypeV × List api_TypeV × List api_TypeV × Bool × Unit

theorem ty9 : TyOk Try.prog .str 9 := ⟨Try.underlying9, infoOk_of (by kernel_rfl) (by kernel_rfl)⟩

theorem ty46 : TyOk Try.prog (.sl .str) 46 := ⟨⟨9, Try.underlying46, ty9⟩, infoOk_of (by kernel_rfl) (by kernel_rfl)⟩

theorem ty48 : TyOk Try.prog api_Enum 48 := ⟨⟨_, _, _, Try.underlying48, rfl, rfl, ty9, ⟨_, _, rfl, rfl, ty46, rfl, by decide⟩, by decide, by kernel_rfl, by kernel_rfl⟩, infoOk_of (by kernel_rfl) (by kernel_rfl)⟩

theorem ty23 : TyOk Try.prog (.sl api_Enum) 23 := ⟨⟨48, Try.underlying23, ty48⟩, infoOk_of (by kernel_rfl) (by kernel_rfl)⟩

theorem ty3 : TyOk Try.prog (.int .i64) 3 := ⟨Try.underlying3, infoOk_of (by kernel_rfl) (by kernel_rfl)⟩

theorem ty36 : TyOk Try.prog api_Type 36 := ⟨⟨_, _, _, Try.underlying36, rfl, rfl, ty3, ⟨_, _, rfl, rfl, ty3, rfl, by decide⟩, by decide, by kernel_rfl, by kernel_rfl⟩, infoOk_of (by kernel_rfl) (by kernel_rfl)⟩

theorem ty133 : TyOk Try.prog api_Type 133 := ⟨⟨_, _, _, Try.underlying133, rfl, rfl, ty3, ⟨_, _, rfl, rfl, ty3, rfl, by decide⟩, by decide, by kernel_rfl, by kernel_rfl⟩, infoOk_of (by kernel_rfl) (by kernel_rfl)⟩

theorem ty135 : TyOk Try.prog api_Row 135 := ⟨⟨_, _, _, Try.underlying135, rfl, rfl, ty133, ⟨_, _, rfl, rfl, ty3, ⟨_, _, rfl, rfl, ty3, ⟨_, _, rfl, rfl, ty3, rfl, by decide⟩, by decide⟩, by decide⟩, by decide, by kernel_rfl, by kernel_rfl⟩, infoOk_of (by kernel_rfl) (by kernel_rfl)⟩

theorem ty73 : TyOk Try.prog (.sl api_Row) 73 := ⟨⟨135, Try.underlying73, ty135⟩, infoOk_of (by kernel_rfl) (by kernel_rfl)⟩

theorem ty75 : TyOk Try.prog api_Table 75 := ⟨⟨_, _, _, Try.underlying75, rfl, rfl, ty9, ⟨_, _, rfl, rfl, ty36, ⟨_, _, rfl, rfl, ty36, ⟨_, _, rfl, rfl, ty73, rfl, by decide⟩, by decide⟩, by decide⟩, by decide, by kernel_rfl, by kernel_rfl⟩, infoOk_of (by kernel_rfl) (by kernel_rfl)⟩

theorem ty24 : TyOk Try.prog (.sl api_Table) 24 := ⟨⟨75, Try.underlying24, ty75⟩, infoOk_of (by kernel_rfl) (by kernel_rfl)⟩

theorem ty25 : TyOk Try.prog (.sl api_Type) 25 := ⟨⟨36, Try.underlying25, ty36⟩, infoOk_of (by kernel_rfl) (by kernel_rfl)⟩

theorem ty4 : TyOk Try.prog .bool 4 := ⟨Try.underlying4, infoOk_of (by kernel_rfl) (by kernel_rfl)⟩

theorem ty27 : TyOk Try.prog api_Signature 27 := ⟨⟨_, _, _, Try.underlying27, rfl, rfl, ty23, ⟨_, _, rfl, rfl, ty24, ⟨_, _, rfl, rfl, ty25, ⟨_, _, rfl, rfl, ty25, ⟨_, _, rfl, rfl, ty25, ⟨_, _, rfl, rfl, ty4, rfl, by decide⟩, by decide⟩, by decide⟩, by decide⟩, by decide⟩, by decide, by kernel_rfl, by kernel_rfl⟩, infoOk_of (by kernel_rfl) (by kernel_rfl)⟩

theorem ty50 : TyOk Try.prog api_Type 50 := ⟨⟨_, _, _, Try.underlying50, rfl, rfl, ty3, ⟨_, _, rfl, rfl, ty3, rfl, by decide⟩, by decide, by kernel_rfl, by kernel_rfl⟩, infoOk_of (by kernel_rfl) (by kernel_rfl)⟩

theorem ty22 : TyOk Try.prog (.sl api_Type) 22 := ⟨⟨50, Try.underlying22, ty50⟩, infoOk_of (by kernel_rfl) (by kernel_rfl)⟩

theorem ty30 : TyOk Try.prog (.sl (.sl api_Type)) 30 := ⟨⟨22, Try.underlying30, ty22⟩, infoOk_of (by kernel_rfl) (by kernel_rfl)⟩

theorem ty32 : TyOk Try.prog (.sl (.int .i64)) 32 := ⟨⟨3, Try.underlying32, ty3⟩, infoOk_of (by kernel_rfl) (by kernel_rfl)⟩

theorem ty70 : TyOk Try.prog (.int .u64) 70 := ⟨Try.underlying70, infoOk_of (by kernel_rfl) (by kernel_rfl)⟩

theorem ty98 : TyOk Try.prog (.int .u64) 98 := ⟨Try.underlying98, infoOk_of (by kernel_rfl) (by kernel_rfl)⟩

theorem ty5 : TyOk Try.prog (.int .u8) 5 := ⟨Try.underlying5, infoOk_of (by kernel_rfl) (by kernel_rfl)⟩

theorem ty109 : TyOk Try.prog (.int .u64) 109 := ⟨Try.underlying109, infoOk_of (by kernel_rfl) (by kernel_rfl)⟩

theorem ty43 : TyOk Try.prog (.sl (.sl (.int .i64))) 43 := ⟨⟨32, Try.underlying43, ty32⟩, infoOk_of (by kernel_rfl) (by kernel_rfl)⟩


def tt : List (Nat × TI) := [(27, ⟨api_Signature, 0⟩), (22, ⟨.sl api_Type, 16⟩), (23, ⟨.sl api_Enum, 40⟩), (24, ⟨.sl api_Table, 72⟩), (25, ⟨.sl api_Type, 16⟩), (48, ⟨api_Enum, 0⟩), (46, ⟨.sl .str, 16⟩), (50, ⟨api_Type, 0⟩), (36, ⟨api_Type, 0⟩), (30, ⟨.sl (.sl api_Type), 24⟩), (32, ⟨.sl (.int .i64), 8⟩), (3, ⟨.int .i64, 0⟩), (70, ⟨.int .u64, 0⟩), (98, ⟨.int .u64, 0⟩), (5, ⟨.int .u8, 0⟩), (9, ⟨.str, 0⟩), (109, ⟨.int .u64, 0⟩), (4, ⟨.bool, 0⟩), (75, ⟨api_Table, 0⟩), (43, ⟨.sl (.sl (.int .i64)), 24⟩)]

theorem tt_ok : TtOk Try.prog tt := (ttOk_cons (ttOk_cons (ttOk_cons (ttOk_cons (ttOk_cons (ttOk_cons (ttOk_cons (ttOk_cons (ttOk_cons (ttOk_cons (ttOk_cons (ttOk_cons (ttOk_cons (ttOk_cons (ttOk_cons (ttOk_cons (ttOk_cons (ttOk_cons (ttOk_cons (ttOk_cons ttOk_nil
  ty43 (fun u h => ⟨by decide, fun e he => by rw [Try.underlying43] at he; cases he; kernel_rfl⟩))
  ty75 (fun u h => Ty.noConfusion h))
  ty4 (fun u h => Ty.noConfusion h))
  ty109 (fun u h => Ty.noConfusion h))
  ty9 (fun u h => Ty.noConfusion h))
  ty5 (fun u h => Ty.noConfusion h))
  ty98 (fun u h => Ty.noConfusion h))
  ty70 (fun u h => Ty.noConfusion h))
  ty3 (fun u h => Ty.noConfusion h))
  ty32 (fun u h => ⟨by decide, fun e he => by rw [Try.underlying32] at he; cases he; kernel_rfl⟩))
  ty30 (fun u h => ⟨by decide, fun e he => by rw [Try.underlying30] at he; cases he; kernel_rfl⟩))
  ty36 (fun u h => Ty.noConfusion h))
  ty50 (fun u h => Ty.noConfusion h))
  ty46 (fun u h => ⟨by decide, fun e he => by rw [Try.underlying46] at he; cases he; kernel_rfl⟩))
  ty48 (fun u h => Ty.noConfusion h))
  ty25 (fun u h => ⟨by decide, fun e he => by rw [Try.underlying25] at he; cases he; kernel_rfl⟩))
  ty24 (fun u h => ⟨by decide, fun e he => by rw [Try.underlying24] at he; cases he; kernel_rfl⟩))
  ty23 (fun u h => ⟨by decide, fun e he => by rw [Try.underlying23] at he; cases he; kernel_rfl⟩))
  ty22 (fun u h => ⟨by decide, fun e he => by rw [Try.underlying22] at he; cases he; kernel_rfl⟩))
  ty27 (fun u h => Ty.noConfusion h))

theorem mixed : Try.prog.follows .mixedOrders = true := by kernel_rfl

end Go.Proofs.Ytmkkdjnojcmihaa
