/-
  The types that the proofs look up, and that they are the program's. No condition. Written by a program (mktabs.py).
-/
import Derived.Test.YtikbfiljomdmiabRule
import Derived.Test.YtikbfiljomdmiabRows
namespace Go.Proofs.Ytikbfiljomdmiab
open Go.Stp
def tt : TT := [
  (3, ⟨.int .i64, 1, 8, (.int .i64 (0))⟩),
  (4, ⟨.bool, 1, 1, (.bool false)⟩),
  (9, ⟨.string, 1, 16, (.string ⟨#[]⟩)⟩),
  (51, ⟨.struct #[⟨ "Parts", 47, 0, false, "", "", 0⟩], 1, 24, (.agg #[(.slice none 0 0)])⟩),
  (47, ⟨.slice 9, 1, 24, (.slice none 0 0)⟩),
  (5, ⟨.int .u8, 1, 1, (.int .u8 (0))⟩),
  (52, ⟨.slice 5, 1, 24, (.slice none 0 0)⟩),
  (22, ⟨.slice 84, 1, 24, (.slice none 0 0)⟩),
  (24, ⟨.struct #[⟨ "Durable", 22, 0, false, "", "", 0⟩, ⟨ "Volatile", 22, 1, false, "", "", 24⟩], 2, 48, (.agg #[(.slice none 0 0), (.slice none 0 0)])⟩),
  (26, ⟨.slice 54, 1, 24, (.slice none 0 0)⟩),
  (28, ⟨.slice 89, 1, 24, (.slice none 0 0)⟩),
  (30, ⟨.struct #[⟨ "Durable", 28, 0, false, "", "", 0⟩, ⟨ "Volatile", 28, 1, false, "", "", 24⟩], 2, 48, (.agg #[(.slice none 0 0), (.slice none 0 0)])⟩),
  (38, ⟨.struct #[⟨ "Log", 24, 0, false, "", "", 0⟩, ⟨ "Quota", 3, 2, false, "", "", 48⟩], 3, 56, (.agg #[(.slice none 0 0), (.slice none 0 0), (.int .i64 (0))])⟩),
  (42, ⟨.struct #[⟨ "Log", 30, 0, false, "", "", 0⟩, ⟨ "Quota", 3, 2, false, "", "", 48⟩], 3, 56, (.agg #[(.slice none 0 0), (.slice none 0 0), (.int .i64 (0))])⟩),
  (49, ⟨.struct #[⟨ "Parts", 47, 0, false, "", "", 0⟩], 1, 24, (.agg #[(.slice none 0 0)])⟩),
  (54, ⟨.struct #[⟨ "Name", 51, 0, false, "", "", 0⟩, ⟨ "Content", 52, 1, false, "", "", 24⟩, ⟨ "KeyName", 51, 2, false, "", "", 48⟩, ⟨ "FreshUntil", 3, 3, false, "", "", 72⟩, ⟨ "Signature", 3, 4, false, "", "", 80⟩], 5, 88, (.agg #[(.slice none 0 0), (.slice none 0 0), (.slice none 0 0), (.int .i64 (0)), (.int .i64 (0))])⟩),
  (64, ⟨.slice 156, 1, 24, (.slice none 0 0)⟩),
  (66, ⟨.struct #[⟨ "Entries", 64, 0, false, "", "", 0⟩], 1, 24, (.agg #[(.slice none 0 0)])⟩),
  (67, ⟨.slice 133, 1, 24, (.slice none 0 0)⟩),
  (69, ⟨.struct #[⟨ "Name", 49, 0, false, "", "", 0⟩, ⟨ "Vector", 66, 1, false, "", "", 24⟩, ⟨ "Publications", 67, 2, false, "", "", 48⟩], 3, 72, (.agg #[(.slice none 0 0), (.slice none 0 0), (.slice none 0 0)])⟩),
  (72, ⟨.slice 136, 1, 24, (.slice none 0 0)⟩),
  (74, ⟨.struct #[⟨ "Entries", 72, 0, false, "", "", 0⟩], 1, 24, (.agg #[(.slice none 0 0)])⟩),
  (75, ⟨.slice 115, 1, 24, (.slice none 0 0)⟩),
  (77, ⟨.struct #[⟨ "Name", 51, 0, false, "", "", 0⟩, ⟨ "Vector", 74, 1, false, "", "", 24⟩, ⟨ "Publications", 75, 2, false, "", "", 48⟩], 3, 72, (.agg #[(.slice none 0 0), (.slice none 0 0), (.slice none 0 0)])⟩),
  (82, ⟨.struct #[⟨ "Name", 49, 0, false, "", "", 0⟩, ⟨ "Content", 52, 1, false, "", "", 24⟩, ⟨ "KeyName", 49, 2, false, "", "", 48⟩, ⟨ "FreshUntil", 3, 3, false, "", "", 72⟩, ⟨ "Signature", 3, 4, false, "", "", 80⟩], 5, 88, (.agg #[(.slice none 0 0), (.slice none 0 0), (.slice none 0 0), (.int .i64 (0)), (.int .i64 (0))])⟩),
  (84, ⟨.struct #[⟨ "Kind", 3, 0, false, "", "", 0⟩, ⟨ "Data", 82, 1, false, "", "", 8⟩], 6, 96, (.agg #[(.int .i64 (0)), (.slice none 0 0), (.slice none 0 0), (.slice none 0 0), (.int .i64 (0)), (.int .i64 (0))])⟩),
  (89, ⟨.struct #[⟨ "Kind", 3, 0, false, "", "", 0⟩, ⟨ "Data", 54, 1, false, "", "", 8⟩], 6, 96, (.agg #[(.int .i64 (0)), (.slice none 0 0), (.slice none 0 0), (.slice none 0 0), (.int .i64 (0)), (.int .i64 (0))])⟩),
  (115, ⟨.struct #[⟨ "Publisher", 51, 0, false, "", "", 0⟩, ⟨ "Seq", 3, 1, false, "", "", 24⟩, ⟨ "Content", 52, 2, false, "", "", 32⟩], 3, 56, (.agg #[(.slice none 0 0), (.int .i64 (0)), (.slice none 0 0)])⟩),
  (133, ⟨.struct #[⟨ "Publisher", 49, 0, false, "", "", 0⟩, ⟨ "Seq", 3, 1, false, "", "", 24⟩, ⟨ "Content", 52, 2, false, "", "", 32⟩], 3, 56, (.agg #[(.slice none 0 0), (.int .i64 (0)), (.slice none 0 0)])⟩),
  (136, ⟨.struct #[⟨ "Name", 51, 0, false, "", "", 0⟩, ⟨ "Value", 3, 1, false, "", "", 24⟩], 2, 32, (.agg #[(.slice none 0 0), (.int .i64 (0))])⟩),
  (156, ⟨.struct #[⟨ "Name", 49, 0, false, "", "", 0⟩, ⟨ "Value", 3, 1, false, "", "", 24⟩], 2, 32, (.agg #[(.slice none 0 0), (.int .i64 (0))])⟩),
  (171, ⟨.int .u32, 1, 4, (.int .u32 (0))⟩)]
theorem ttOk : TabOk Try.prog tt :=
  ⟨⟨by kernel_rfl, by kernel_rfl⟩, ⟨⟨by kernel_rfl, by kernel_rfl⟩, ⟨⟨by kernel_rfl, by kernel_rfl⟩, ⟨⟨by kernel_rfl, by kernel_rfl⟩, ⟨⟨by kernel_rfl, by kernel_rfl⟩, ⟨⟨by kernel_rfl, by kernel_rfl⟩, ⟨⟨by kernel_rfl, by kernel_rfl⟩, ⟨⟨by kernel_rfl, by kernel_rfl⟩, ⟨⟨by kernel_rfl, by kernel_rfl⟩, ⟨⟨by kernel_rfl, by kernel_rfl⟩, ⟨⟨by kernel_rfl, by kernel_rfl⟩, ⟨⟨by kernel_rfl, by kernel_rfl⟩, ⟨⟨by kernel_rfl, by kernel_rfl⟩, ⟨⟨by kernel_rfl, by kernel_rfl⟩, ⟨⟨by kernel_rfl, by kernel_rfl⟩, ⟨⟨by kernel_rfl, by kernel_rfl⟩, ⟨⟨by kernel_rfl, by kernel_rfl⟩, ⟨⟨by kernel_rfl, by kernel_rfl⟩, ⟨⟨by kernel_rfl, by kernel_rfl⟩, ⟨⟨by kernel_rfl, by kernel_rfl⟩, ⟨⟨by kernel_rfl, by kernel_rfl⟩, ⟨⟨by kernel_rfl, by kernel_rfl⟩, ⟨⟨by kernel_rfl, by kernel_rfl⟩, ⟨⟨by kernel_rfl, by kernel_rfl⟩, ⟨⟨by kernel_rfl, by kernel_rfl⟩, ⟨⟨by kernel_rfl, by kernel_rfl⟩, ⟨⟨by kernel_rfl, by kernel_rfl⟩, ⟨⟨by kernel_rfl, by kernel_rfl⟩, ⟨⟨by kernel_rfl, by kernel_rfl⟩, ⟨⟨by kernel_rfl, by kernel_rfl⟩, ⟨⟨by kernel_rfl, by kernel_rfl⟩, ⟨⟨by kernel_rfl, by kernel_rfl⟩, trivial⟩⟩⟩⟩⟩⟩⟩⟩⟩⟩⟩⟩⟩⟩⟩⟩⟩⟩⟩⟩⟩⟩⟩⟩⟩⟩⟩⟩⟩⟩⟩⟩
theorem mixed : Try.prog.follows .mixedOrders = true := by kernel_rfl
end Go.Proofs.Ytikbfiljomdmiab
