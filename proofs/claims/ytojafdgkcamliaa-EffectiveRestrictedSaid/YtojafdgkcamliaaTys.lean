import Derived.Test.YtojafdgkcamliaaProg
import Derived.Test.YtojafdgkcamliaaLib4
set_option maxRecDepth 100000
set_option linter.unusedVariables false
namespace Go.Proofs.Ytojafdgkcamliaa
open Go Go.Lift
abbrev api_DateRange : Ty := .pair (.int .i64) (.pair (.int .i64) .unit)
abbrev api_DateRangeV : Type := Int × Int × Unit
abbrev api_Field : Ty := .pair .str (.pair api_DateRange .unit)
abbrev api_FieldV : Type := List UInt8 × api_DateRangeV × Unit
abbrev api_Rule : Ty := .pair .str (.pair (.int .i64) (.pair (.int .i64) (.pair (.int .i64) (.pair api_DateRange (.pair (.sl api_DateRange) (.pair (.sl api_DateRange) (.pair .str .unit)))))))
abbrev api_RuleV : Type := List UInt8 × Int × Int × Int × api_DateRangeV × List api_DateRangeV × List api_DateRangeV × List UInt8 × Unit
abbrev api_Scope : Ty := .pair .str (.pair (.int .i64) (.pair (.sl api_Field) (.pair (.sl api_Field) (.pair (.sl api_Rule) .unit))))
abbrev api_ScopeV : Type := List UInt8 × Int × List api_FieldV × List api_FieldV × List api_RuleV × Unit
abbrev api_Enum : Ty := .pair .str (.pair (.sl .str) .unit)
abbrev api_EnumV : Type := List UInt8 × List (List UInt8) × Unit
abbrev api_Row : Ty := .pair api_DateRange (.pair (.int .i64) (.pair (.int .i64) (.pair (.int .i64) .unit)))
abbrev api_RowV : Type := api_DateRangeV × Int × Int × Int × Unit
abbrev api_Table : Ty := .pair .str (.pair api_DateRange (.pair api_DateRange (.pair (.sl api_Row) .unit)))
abbrev api_TableV : Type := List UInt8 × api_DateRangeV × api_DateRangeV × List api_RowV × Unit
abbrev api_Law : Ty := .pair (.sl api_Enum) (.pair (.sl api_Table) (.pair (.sl api_Scope) .unit))
abbrev api_LawV : Type := List api_EnumV × List api_TableV × List api_ScopeV × Unit
theorem ty9 : TyOk Try.prog .str 9 := ⟨Try.underlying9, infoOk_of (by kernel_rfl) (by kernel_rfl)⟩
theorem ty3 : TyOk Try.prog (.int .i64) 3 := ⟨Try.underlying3, infoOk_of (by kernel_rfl) (by kernel_rfl)⟩
theorem ty56 : TyOk Try.prog api_DateRange 56 := ⟨⟨_, _, _, Try.underlying56, rfl, rfl, ty3, ⟨_, _, rfl, rfl, ty3, rfl, by decide⟩, by decide, by kernel_rfl, by kernel_rfl⟩, infoOk_of (by kernel_rfl) (by kernel_rfl)⟩
theorem ty58 : TyOk Try.prog api_Field 58 := ⟨⟨_, _, _, Try.underlying58, rfl, rfl, ty9, ⟨_, _, rfl, rfl, ty56, rfl, by decide⟩, by decide, by kernel_rfl, by kernel_rfl⟩, infoOk_of (by kernel_rfl) (by kernel_rfl)⟩
theorem ty22 : TyOk Try.prog (.sl api_Field) 22 := ⟨⟨58, Try.underlying22, ty58⟩, infoOk_of (by kernel_rfl) (by kernel_rfl)⟩
theorem ty47 : TyOk Try.prog api_DateRange 47 := ⟨⟨_, _, _, Try.underlying47, rfl, rfl, ty3, ⟨_, _, rfl, rfl, ty3, rfl, by decide⟩, by decide, by kernel_rfl, by kernel_rfl⟩, infoOk_of (by kernel_rfl) (by kernel_rfl)⟩
theorem ty54 : TyOk Try.prog api_DateRange 54 := ⟨⟨_, _, _, Try.underlying54, rfl, rfl, ty3, ⟨_, _, rfl, rfl, ty3, rfl, by decide⟩, by decide, by kernel_rfl, by kernel_rfl⟩, infoOk_of (by kernel_rfl) (by kernel_rfl)⟩
theorem ty48 : TyOk Try.prog (.sl api_DateRange) 48 := ⟨⟨54, Try.underlying48, ty54⟩, infoOk_of (by kernel_rfl) (by kernel_rfl)⟩
theorem ty50 : TyOk Try.prog api_Rule 50 := ⟨⟨_, _, _, Try.underlying50, rfl, rfl, ty9, ⟨_, _, rfl, rfl, ty3, ⟨_, _, rfl, rfl, ty3, ⟨_, _, rfl, rfl, ty3, ⟨_, _, rfl, rfl, ty47, ⟨_, _, rfl, rfl, ty48, ⟨_, _, rfl, rfl, ty48, ⟨_, _, rfl, rfl, ty9, rfl, by decide⟩, by decide⟩, by decide⟩, by decide⟩, by decide⟩, by decide⟩, by decide⟩, by decide, by kernel_rfl, by kernel_rfl⟩, infoOk_of (by kernel_rfl) (by kernel_rfl)⟩
theorem ty23 : TyOk Try.prog (.sl api_Rule) 23 := ⟨⟨50, Try.underlying23, ty50⟩, infoOk_of (by kernel_rfl) (by kernel_rfl)⟩
theorem ty25 : TyOk Try.prog api_Scope 25 := ⟨⟨_, _, _, Try.underlying25, rfl, rfl, ty9, ⟨_, _, rfl, rfl, ty3, ⟨_, _, rfl, rfl, ty22, ⟨_, _, rfl, rfl, ty22, ⟨_, _, rfl, rfl, ty23, rfl, by decide⟩, by decide⟩, by decide⟩, by decide⟩, by decide, by kernel_rfl, by kernel_rfl⟩, infoOk_of (by kernel_rfl) (by kernel_rfl)⟩
theorem ty36 : TyOk Try.prog (.sl api_Scope) 36 := ⟨⟨25, Try.underlying36, ty25⟩, infoOk_of (by kernel_rfl) (by kernel_rfl)⟩
theorem ty63 : TyOk Try.prog (.sl .str) 63 := ⟨⟨9, Try.underlying63, ty9⟩, infoOk_of (by kernel_rfl) (by kernel_rfl)⟩
theorem ty65 : TyOk Try.prog api_Enum 65 := ⟨⟨_, _, _, Try.underlying65, rfl, rfl, ty9, ⟨_, _, rfl, rfl, ty63, rfl, by decide⟩, by decide, by kernel_rfl, by kernel_rfl⟩, infoOk_of (by kernel_rfl) (by kernel_rfl)⟩
theorem ty34 : TyOk Try.prog (.sl api_Enum) 34 := ⟨⟨65, Try.underlying34, ty65⟩, infoOk_of (by kernel_rfl) (by kernel_rfl)⟩
theorem ty74 : TyOk Try.prog api_Row 74 := ⟨⟨_, _, _, Try.underlying74, rfl, rfl, ty47, ⟨_, _, rfl, rfl, ty3, ⟨_, _, rfl, rfl, ty3, ⟨_, _, rfl, rfl, ty3, rfl, by decide⟩, by decide⟩, by decide⟩, by decide, by kernel_rfl, by kernel_rfl⟩, infoOk_of (by kernel_rfl) (by kernel_rfl)⟩
theorem ty66 : TyOk Try.prog (.sl api_Row) 66 := ⟨⟨74, Try.underlying66, ty74⟩, infoOk_of (by kernel_rfl) (by kernel_rfl)⟩
theorem ty68 : TyOk Try.prog api_Table 68 := ⟨⟨_, _, _, Try.underlying68, rfl, rfl, ty9, ⟨_, _, rfl, rfl, ty56, ⟨_, _, rfl, rfl, ty56, ⟨_, _, rfl, rfl, ty66, rfl, by decide⟩, by decide⟩, by decide⟩, by decide, by kernel_rfl, by kernel_rfl⟩, infoOk_of (by kernel_rfl) (by kernel_rfl)⟩
theorem ty35 : TyOk Try.prog (.sl api_Table) 35 := ⟨⟨68, Try.underlying35, ty68⟩, infoOk_of (by kernel_rfl) (by kernel_rfl)⟩
theorem ty38 : TyOk Try.prog api_Law 38 := ⟨⟨_, _, _, Try.underlying38, rfl, rfl, ty34, ⟨_, _, rfl, rfl, ty35, ⟨_, _, rfl, rfl, ty36, rfl, by decide⟩, by decide⟩, by decide, by kernel_rfl, by kernel_rfl⟩, infoOk_of (by kernel_rfl) (by kernel_rfl)⟩
theorem ty28 : TyOk Try.prog (.sl (.int .i64)) 28 := ⟨⟨3, Try.underlying28, ty3⟩, infoOk_of (by kernel_rfl) (by kernel_rfl)⟩
theorem ty77 : TyOk Try.prog (.sl api_DateRange) 77 := ⟨⟨47, Try.underlying77, ty47⟩, infoOk_of (by kernel_rfl) (by kernel_rfl)⟩
theorem ty99 : TyOk Try.prog (.int .u64) 99 := ⟨Try.underlying99, infoOk_of (by kernel_rfl) (by kernel_rfl)⟩
theorem ty113 : TyOk Try.prog (.int .u64) 113 := ⟨Try.underlying113, infoOk_of (by kernel_rfl) (by kernel_rfl)⟩
theorem ty5 : TyOk Try.prog (.int .u8) 5 := ⟨Try.underlying5, infoOk_of (by kernel_rfl) (by kernel_rfl)⟩
theorem ty114 : TyOk Try.prog (.int .u64) 114 := ⟨Try.underlying114, infoOk_of (by kernel_rfl) (by kernel_rfl)⟩
def tt : List (Nat × TI) := [(25, ⟨api_Scope, 0⟩), (23, ⟨.sl api_Rule, 120⟩), (47, ⟨api_DateRange, 0⟩), (50, ⟨api_Rule, 0⟩), (36, ⟨.sl api_Scope, 96⟩), (38, ⟨api_Law, 0⟩), (3, ⟨.int .i64, 0⟩), (28, ⟨.sl (.int .i64), 8⟩), (34, ⟨.sl api_Enum, 40⟩), (65, ⟨api_Enum, 0⟩), (9, ⟨.str, 0⟩), (63, ⟨.sl .str, 16⟩), (35, ⟨.sl api_Table, 72⟩), (68, ⟨api_Table, 0⟩), (66, ⟨.sl api_Row, 40⟩), (74, ⟨api_Row, 0⟩), (22, ⟨.sl api_Field, 32⟩), (48, ⟨.sl api_DateRange, 16⟩), (77, ⟨.sl api_DateRange, 16⟩), (99, ⟨.int .u64, 0⟩), (113, ⟨.int .u64, 0⟩), (5, ⟨.int .u8, 0⟩), (114, ⟨.int .u64, 0⟩), (58, ⟨api_Field, 0⟩), (56, ⟨api_DateRange, 0⟩), (54, ⟨api_DateRange, 0⟩)]
theorem tt_ok : TtOk Try.prog tt := (ttOk_cons (ttOk_cons (ttOk_cons (ttOk_cons (ttOk_cons (ttOk_cons (ttOk_cons (ttOk_cons (ttOk_cons (ttOk_cons (ttOk_cons (ttOk_cons (ttOk_cons (ttOk_cons (ttOk_cons (ttOk_cons (ttOk_cons (ttOk_cons (ttOk_cons (ttOk_cons (ttOk_cons (ttOk_cons (ttOk_cons (ttOk_cons (ttOk_cons (ttOk_cons ttOk_nil
  ty54 (fun u h => Ty.noConfusion h))
  ty56 (fun u h => Ty.noConfusion h))
  ty58 (fun u h => Ty.noConfusion h))
  ty114 (fun u h => Ty.noConfusion h))
  ty5 (fun u h => Ty.noConfusion h))
  ty113 (fun u h => Ty.noConfusion h))
  ty99 (fun u h => Ty.noConfusion h))
  ty77 (fun u h => ⟨by decide, fun e he => by rw [Try.underlying77] at he; cases he; kernel_rfl⟩))
  ty48 (fun u h => ⟨by decide, fun e he => by rw [Try.underlying48] at he; cases he; kernel_rfl⟩))
  ty22 (fun u h => ⟨by decide, fun e he => by rw [Try.underlying22] at he; cases he; kernel_rfl⟩))
  ty74 (fun u h => Ty.noConfusion h))
  ty66 (fun u h => ⟨by decide, fun e he => by rw [Try.underlying66] at he; cases he; kernel_rfl⟩))
  ty68 (fun u h => Ty.noConfusion h))
  ty35 (fun u h => ⟨by decide, fun e he => by rw [Try.underlying35] at he; cases he; kernel_rfl⟩))
  ty63 (fun u h => ⟨by decide, fun e he => by rw [Try.underlying63] at he; cases he; kernel_rfl⟩))
  ty9 (fun u h => Ty.noConfusion h))
  ty65 (fun u h => Ty.noConfusion h))
  ty34 (fun u h => ⟨by decide, fun e he => by rw [Try.underlying34] at he; cases he; kernel_rfl⟩))
  ty28 (fun u h => ⟨by decide, fun e he => by rw [Try.underlying28] at he; cases he; kernel_rfl⟩))
  ty3 (fun u h => Ty.noConfusion h))
  ty38 (fun u h => Ty.noConfusion h))
  ty36 (fun u h => ⟨by decide, fun e he => by rw [Try.underlying36] at he; cases he; kernel_rfl⟩))
  ty50 (fun u h => Ty.noConfusion h))
  ty47 (fun u h => Ty.noConfusion h))
  ty23 (fun u h => ⟨by decide, fun e he => by rw [Try.underlying23] at he; cases he; kernel_rfl⟩))
  ty25 (fun u h => Ty.noConfusion h))
theorem mixed : Try.prog.follows .mixedOrders = true := by kernel_rfl
end Go.Proofs.Ytojafdgkcamliaa
