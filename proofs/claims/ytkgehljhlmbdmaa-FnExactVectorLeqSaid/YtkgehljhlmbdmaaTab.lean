/-
  The types that the proofs look up, and that they are the program's. No condition. Written by a program (mktabs.py).
-/
import Derived.Test.YtkgehljhlmbdmaaRule
import Derived.Test.YtkgehljhlmbdmaaRows
namespace Go.Proofs.Ytkgehljhlmbdmaa
open Go.Stp
def tt : TT := [
  (3, ⟨.int .i64, 1, 8, (.int .i64 (0))⟩),
  (4, ⟨.bool, 1, 1, (.bool false)⟩),
  (9, ⟨.string, 1, 16, (.string ⟨#[]⟩)⟩),
  (32, ⟨.struct #[⟨ "Parts", 22, 0, false, "", "", 0⟩], 1, 24, (.agg #[(.slice none 0 0)])⟩),
  (22, ⟨.slice 9, 1, 24, (.slice none 0 0)⟩),
  (5, ⟨.int .u8, 1, 1, (.int .u8 (0))⟩),
  (25, ⟨.slice 5, 1, 24, (.slice none 0 0)⟩),
  (24, ⟨.struct #[⟨ "Parts", 22, 0, false, "", "", 0⟩], 1, 24, (.agg #[(.slice none 0 0)])⟩),
  (27, ⟨.struct #[⟨ "Name", 24, 0, false, "", "", 0⟩, ⟨ "Content", 25, 1, false, "", "", 24⟩, ⟨ "KeyName", 24, 2, false, "", "", 48⟩, ⟨ "FreshUntil", 3, 3, false, "", "", 72⟩, ⟨ "Signature", 3, 4, false, "", "", 80⟩], 5, 88, (.agg #[(.slice none 0 0), (.slice none 0 0), (.slice none 0 0), (.int .i64 (0)), (.int .i64 (0))])⟩),
  (29, ⟨.struct #[⟨ "Node", 3, 0, false, "", "", 0⟩, ⟨ "Index", 3, 1, false, "", "", 8⟩, ⟨ "Name", 24, 2, false, "", "", 16⟩, ⟨ "Attempts", 3, 3, false, "", "", 40⟩, ⟨ "Wait", 3, 4, false, "", "", 48⟩, ⟨ "Satisfied", 4, 5, false, "", "", 56⟩, ⟨ "Data", 27, 6, false, "", "", 64⟩], 11, 152, (.agg #[(.int .i64 (0)), (.int .i64 (0)), (.slice none 0 0), (.int .i64 (0)), (.int .i64 (0)), (.bool false), (.slice none 0 0), (.slice none 0 0), (.slice none 0 0), (.int .i64 (0)), (.int .i64 (0))])⟩),
  (34, ⟨.struct #[⟨ "Name", 32, 0, false, "", "", 0⟩, ⟨ "Content", 25, 1, false, "", "", 24⟩, ⟨ "KeyName", 32, 2, false, "", "", 48⟩, ⟨ "FreshUntil", 3, 3, false, "", "", 72⟩, ⟨ "Signature", 3, 4, false, "", "", 80⟩], 5, 88, (.agg #[(.slice none 0 0), (.slice none 0 0), (.slice none 0 0), (.int .i64 (0)), (.int .i64 (0))])⟩),
  (36, ⟨.struct #[⟨ "Node", 3, 0, false, "", "", 0⟩, ⟨ "Index", 3, 1, false, "", "", 8⟩, ⟨ "Name", 32, 2, false, "", "", 16⟩, ⟨ "Attempts", 3, 3, false, "", "", 40⟩, ⟨ "Wait", 3, 4, false, "", "", 48⟩, ⟨ "Satisfied", 4, 5, false, "", "", 56⟩, ⟨ "Data", 34, 6, false, "", "", 64⟩], 11, 152, (.agg #[(.int .i64 (0)), (.int .i64 (0)), (.slice none 0 0), (.int .i64 (0)), (.int .i64 (0)), (.bool false), (.slice none 0 0), (.slice none 0 0), (.slice none 0 0), (.int .i64 (0)), (.int .i64 (0))])⟩),
  (39, ⟨.slice 89, 1, 24, (.slice none 0 0)⟩),
  (41, ⟨.struct #[⟨ "Entries", 39, 0, false, "", "", 0⟩], 1, 24, (.agg #[(.slice none 0 0)])⟩),
  (44, ⟨.slice 71, 1, 24, (.slice none 0 0)⟩),
  (46, ⟨.struct #[⟨ "Entries", 44, 0, false, "", "", 0⟩], 1, 24, (.agg #[(.slice none 0 0)])⟩),
  (50, ⟨.struct #[⟨ "Kind", 3, 0, false, "", "", 0⟩, ⟨ "Data", 27, 1, false, "", "", 8⟩], 6, 96, (.agg #[(.int .i64 (0)), (.slice none 0 0), (.slice none 0 0), (.slice none 0 0), (.int .i64 (0)), (.int .i64 (0))])⟩),
  (54, ⟨.struct #[⟨ "Kind", 3, 0, false, "", "", 0⟩, ⟨ "Data", 34, 1, false, "", "", 8⟩], 6, 96, (.agg #[(.int .i64 (0)), (.slice none 0 0), (.slice none 0 0), (.slice none 0 0), (.int .i64 (0)), (.int .i64 (0))])⟩),
  (71, ⟨.struct #[⟨ "Name", 32, 0, false, "", "", 0⟩, ⟨ "Value", 3, 1, false, "", "", 24⟩], 2, 32, (.agg #[(.slice none 0 0), (.int .i64 (0))])⟩),
  (89, ⟨.struct #[⟨ "Name", 24, 0, false, "", "", 0⟩, ⟨ "Value", 3, 1, false, "", "", 24⟩], 2, 32, (.agg #[(.slice none 0 0), (.int .i64 (0))])⟩),
  (108, ⟨.int .u32, 1, 4, (.int .u32 (0))⟩)]
theorem ttOk : TabOk Try.prog tt :=
  ⟨⟨by kernel_rfl, by kernel_rfl⟩, ⟨⟨by kernel_rfl, by kernel_rfl⟩, ⟨⟨by kernel_rfl, by kernel_rfl⟩, ⟨⟨by kernel_rfl, by kernel_rfl⟩, ⟨⟨by kernel_rfl, by kernel_rfl⟩, ⟨⟨by kernel_rfl, by kernel_rfl⟩, ⟨⟨by kernel_rfl, by kernel_rfl⟩, ⟨⟨by kernel_rfl, by kernel_rfl⟩, ⟨⟨by kernel_rfl, by kernel_rfl⟩, ⟨⟨by kernel_rfl, by kernel_rfl⟩, ⟨⟨by kernel_rfl, by kernel_rfl⟩, ⟨⟨by kernel_rfl, by kernel_rfl⟩, ⟨⟨by kernel_rfl, by kernel_rfl⟩, ⟨⟨by kernel_rfl, by kernel_rfl⟩, ⟨⟨by kernel_rfl, by kernel_rfl⟩, ⟨⟨by kernel_rfl, by kernel_rfl⟩, ⟨⟨by kernel_rfl, by kernel_rfl⟩, ⟨⟨by kernel_rfl, by kernel_rfl⟩, ⟨⟨by kernel_rfl, by kernel_rfl⟩, ⟨⟨by kernel_rfl, by kernel_rfl⟩, ⟨⟨by kernel_rfl, by kernel_rfl⟩, trivial⟩⟩⟩⟩⟩⟩⟩⟩⟩⟩⟩⟩⟩⟩⟩⟩⟩⟩⟩⟩⟩
theorem mixed : Try.prog.follows .mixedOrders = true := by kernel_rfl
end Go.Proofs.Ytkgehljhlmbdmaa
