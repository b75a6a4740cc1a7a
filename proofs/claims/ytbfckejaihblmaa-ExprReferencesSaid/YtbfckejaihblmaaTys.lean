/- The types of the program. -/
import Derived.Test.YtbfckejaihblmaaProg
import Derived.Test.YtbfckejaihblmaaLib4
set_option maxRecDepth 100000
set_option linter.unusedVariables false
namespace Go.Proofs.Ytbfckejaihblmaa
open Go Go.Lift

abbrev api_Type : Ty := .pair (.int .i64) (.pair (.int .i64) .unit)
abbrev api_TypeV : Type := Int × Int × Unit

abbrev api_Enum : Ty := .pair .str (.pair (.sl .str) .unit)
abbrev api_EnumV : Type := List UInt8 × List (List UInt8) × Unit

abbrev api_Row : Ty := .pair api_Type (.pair (.int .i64) (.pair (.int .i64) (.pair (.int .i64) .unit)))
abbrev api_RowV : Type := api_TypeV × Int × Int × Int × Unit

abbrev api_Table : Ty := .pair .str (.pair api_Type (.pair api_Type (.pair (.sl api_Row) .unit)))
abbrev api_TableV : Type := List UInt8 × api_TypeV × api_TypeV × List api_RowV × Unit

abbrev api_Signature : Ty := .pair (.sl api_Enum) (.pair (.sl api_Table) (.pair (.sl api_Type) (.pair (.sl api_Type) (.pair (.sl api_Type) (.pair .bool .unit)))))
abbrev api_SignatureV : Type := List api_EnumV × List api_TableV × List api_TypeV × List api_TypeV × List api_TypeV × Bool × Unit

theorem ty3 : TyOk Try.prog (.int .i64) 3 := ⟨Try.underlying3, infoOk_of (by kernel_rfl) (by kernel_rfl)⟩

theorem ty44 : TyOk Try.prog api_Type 44 := ⟨⟨_, _, _, Try.underlying44, rfl, rfl, ty3, ⟨_, _, rfl, rfl, ty3, rfl, by decide⟩, by decide, by kernel_rfl, by kernel_rfl⟩, infoOk_of (by kernel_rfl) (by kernel_rfl)⟩

theorem ty22 : TyOk Try.prog (.sl api_Type) 22 := ⟨⟨44, Try.underlying22, ty44⟩, infoOk_of (by kernel_rfl) (by kernel_rfl)⟩

theorem ty24 : TyOk Try.prog (.sl (.int .i64)) 24 := ⟨⟨3, Try.underlying24, ty3⟩, infoOk_of (by kernel_rfl) (by kernel_rfl)⟩

theorem ty9 : TyOk Try.prog .str 9 := ⟨Try.underlying9, infoOk_of (by kernel_rfl) (by kernel_rfl)⟩

theorem ty52 : TyOk Try.prog (.sl .str) 52 := ⟨⟨9, Try.underlying52, ty9⟩, infoOk_of (by kernel_rfl) (by kernel_rfl)⟩

theorem ty54 : TyOk Try.prog api_Enum 54 := ⟨⟨_, _, _, Try.underlying54, rfl, rfl, ty9, ⟨_, _, rfl, rfl, ty52, rfl, by decide⟩, by decide, by kernel_rfl, by kernel_rfl⟩, infoOk_of (by kernel_rfl) (by kernel_rfl)⟩

theorem ty32 : TyOk Try.prog (.sl api_Enum) 32 := ⟨⟨54, Try.underlying32, ty54⟩, infoOk_of (by kernel_rfl) (by kernel_rfl)⟩

theorem ty39 : TyOk Try.prog api_Type 39 := ⟨⟨_, _, _, Try.underlying39, rfl, rfl, ty3, ⟨_, _, rfl, rfl, ty3, rfl, by decide⟩, by decide, by kernel_rfl, by kernel_rfl⟩, infoOk_of (by kernel_rfl) (by kernel_rfl)⟩

theorem ty127 : TyOk Try.prog api_Type 127 := ⟨⟨_, _, _, Try.underlying127, rfl, rfl, ty3, ⟨_, _, rfl, rfl, ty3, rfl, by decide⟩, by decide, by kernel_rfl, by kernel_rfl⟩, infoOk_of (by kernel_rfl) (by kernel_rfl)⟩

theorem ty129 : TyOk Try.prog api_Row 129 := ⟨⟨_, _, _, Try.underlying129, rfl, rfl, ty127, ⟨_, _, rfl, rfl, ty3, ⟨_, _, rfl, rfl, ty3, ⟨_, _, rfl, rfl, ty3, rfl, by decide⟩, by decide⟩, by decide⟩, by decide, by kernel_rfl, by kernel_rfl⟩, infoOk_of (by kernel_rfl) (by kernel_rfl)⟩

theorem ty62 : TyOk Try.prog (.sl api_Row) 62 := ⟨⟨129, Try.underlying62, ty129⟩, infoOk_of (by kernel_rfl) (by kernel_rfl)⟩

theorem ty64 : TyOk Try.prog api_Table 64 := ⟨⟨_, _, _, Try.underlying64, rfl, rfl, ty9, ⟨_, _, rfl, rfl, ty39, ⟨_, _, rfl, rfl, ty39, ⟨_, _, rfl, rfl, ty62, rfl, by decide⟩, by decide⟩, by decide⟩, by decide, by kernel_rfl, by kernel_rfl⟩, infoOk_of (by kernel_rfl) (by kernel_rfl)⟩

theorem ty33 : TyOk Try.prog (.sl api_Table) 33 := ⟨⟨64, Try.underlying33, ty64⟩, infoOk_of (by kernel_rfl) (by kernel_rfl)⟩

theorem ty34 : TyOk Try.prog (.sl api_Type) 34 := ⟨⟨39, Try.underlying34, ty39⟩, infoOk_of (by kernel_rfl) (by kernel_rfl)⟩

theorem ty4 : TyOk Try.prog .bool 4 := ⟨Try.underlying4, infoOk_of (by kernel_rfl) (by kernel_rfl)⟩

theorem ty36 : TyOk Try.prog api_Signature 36 := ⟨⟨_, _, _, Try.underlying36, rfl, rfl, ty32, ⟨_, _, rfl, rfl, ty33, ⟨_, _, rfl, rfl, ty34, ⟨_, _, rfl, rfl, ty34, ⟨_, _, rfl, rfl, ty34, ⟨_, _, rfl, rfl, ty4, rfl, by decide⟩, by decide⟩, by decide⟩, by decide⟩, by decide⟩, by decide, by kernel_rfl, by kernel_rfl⟩, infoOk_of (by kernel_rfl) (by kernel_rfl)⟩

theorem ty77 : TyOk Try.prog (.int .u64) 77 := ⟨Try.underlying77, infoOk_of (by kernel_rfl) (by kernel_rfl)⟩

theorem ty102 : TyOk Try.prog (.int .u64) 102 := ⟨Try.underlying102, infoOk_of (by kernel_rfl) (by kernel_rfl)⟩

theorem ty5 : TyOk Try.prog (.int .u8) 5 := ⟨Try.underlying5, infoOk_of (by kernel_rfl) (by kernel_rfl)⟩

theorem ty103 : TyOk Try.prog (.int .u64) 103 := ⟨Try.underlying103, infoOk_of (by kernel_rfl) (by kernel_rfl)⟩


def tt : List (Nat × TI) := [(22, ⟨.sl api_Type, 16⟩), (44, ⟨api_Type, 0⟩), (3, ⟨.int .i64, 0⟩), (24, ⟨.sl (.int .i64), 8⟩), (36, ⟨api_Signature, 0⟩), (39, ⟨api_Type, 0⟩), (34, ⟨.sl api_Type, 16⟩), (32, ⟨.sl api_Enum, 40⟩), (54, ⟨api_Enum, 0⟩), (52, ⟨.sl .str, 16⟩), (9, ⟨.str, 0⟩), (4, ⟨.bool, 0⟩), (64, ⟨api_Table, 0⟩), (33, ⟨.sl api_Table, 72⟩), (77, ⟨.int .u64, 0⟩), (102, ⟨.int .u64, 0⟩), (5, ⟨.int .u8, 0⟩), (103, ⟨.int .u64, 0⟩)]

theorem tt_ok : TtOk Try.prog tt := (ttOk_cons (ttOk_cons (ttOk_cons (ttOk_cons (ttOk_cons (ttOk_cons (ttOk_cons (ttOk_cons (ttOk_cons (ttOk_cons (ttOk_cons (ttOk_cons (ttOk_cons (ttOk_cons (ttOk_cons (ttOk_cons (ttOk_cons (ttOk_cons ttOk_nil
  ty103 (fun u h => Ty.noConfusion h))
  ty5 (fun u h => Ty.noConfusion h))
  ty102 (fun u h => Ty.noConfusion h))
  ty77 (fun u h => Ty.noConfusion h))
  ty33 (fun u h => ⟨by decide, fun e he => by rw [Try.underlying33] at he; cases he; kernel_rfl⟩))
  ty64 (fun u h => Ty.noConfusion h))
  ty4 (fun u h => Ty.noConfusion h))
  ty9 (fun u h => Ty.noConfusion h))
  ty52 (fun u h => ⟨by decide, fun e he => by rw [Try.underlying52] at he; cases he; kernel_rfl⟩))
  ty54 (fun u h => Ty.noConfusion h))
  ty32 (fun u h => ⟨by decide, fun e he => by rw [Try.underlying32] at he; cases he; kernel_rfl⟩))
  ty34 (fun u h => ⟨by decide, fun e he => by rw [Try.underlying34] at he; cases he; kernel_rfl⟩))
  ty39 (fun u h => Ty.noConfusion h))
  ty36 (fun u h => Ty.noConfusion h))
  ty24 (fun u h => ⟨by decide, fun e he => by rw [Try.underlying24] at he; cases he; kernel_rfl⟩))
  ty3 (fun u h => Ty.noConfusion h))
  ty44 (fun u h => Ty.noConfusion h))
  ty22 (fun u h => ⟨by decide, fun e he => by rw [Try.underlying22] at he; cases he; kernel_rfl⟩))

theorem mixed : Try.prog.follows .mixedOrders = true := by kernel_rfl

end Go.Proofs.Ytbfckejaihblmaa
