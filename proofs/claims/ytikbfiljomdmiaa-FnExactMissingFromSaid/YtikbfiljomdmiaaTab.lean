/-
  The types that the proofs look up, and that they are the program's. No condition. Written by a program (mktabs.py).
-/
import Derived.Test.YtikbfiljomdmiaaRule
import Derived.Test.YtikbfiljomdmiaaRows
namespace Go.Proofs.Ytikbfiljomdmiaa
open Go.Stp
def tt : TT := [
  (3, ⟨.int .i64, 1, 8, (.int .i64 (0))⟩),
  (4, ⟨.bool, 1, 1, (.bool false)⟩),
  (9, ⟨.string, 1, 16, (.string ⟨#[]⟩)⟩),
  (33, ⟨.struct #[⟨ "Parts", 22, 0, false, "", "", 0⟩], 1, 24, (.agg #[(.slice none 0 0)])⟩),
  (22, ⟨.slice 9, 1, 24, (.slice none 0 0)⟩),
  (5, ⟨.int .u8, 1, 1, (.int .u8 (0))⟩),
  (59, ⟨.slice 5, 1, 24, (.slice none 0 0)⟩),
  (24, ⟨.struct #[⟨ "Parts", 22, 0, false, "", "", 0⟩], 1, 24, (.agg #[(.slice none 0 0)])⟩),
  (25, ⟨.slice 146, 1, 24, (.slice none 0 0)⟩),
  (27, ⟨.struct #[⟨ "Entries", 25, 0, false, "", "", 0⟩], 1, 24, (.agg #[(.slice none 0 0)])⟩),
  (28, ⟨.slice 129, 1, 24, (.slice none 0 0)⟩),
  (30, ⟨.struct #[⟨ "Name", 24, 0, false, "", "", 0⟩, ⟨ "Vector", 27, 1, false, "", "", 24⟩, ⟨ "Publications", 28, 2, false, "", "", 48⟩], 3, 72, (.agg #[(.slice none 0 0), (.slice none 0 0), (.slice none 0 0)])⟩),
  (34, ⟨.slice 126, 1, 24, (.slice none 0 0)⟩),
  (36, ⟨.struct #[⟨ "Entries", 34, 0, false, "", "", 0⟩], 1, 24, (.agg #[(.slice none 0 0)])⟩),
  (37, ⟨.slice 99, 1, 24, (.slice none 0 0)⟩),
  (39, ⟨.struct #[⟨ "Name", 33, 0, false, "", "", 0⟩, ⟨ "Vector", 36, 1, false, "", "", 24⟩, ⟨ "Publications", 37, 2, false, "", "", 48⟩], 3, 72, (.agg #[(.slice none 0 0), (.slice none 0 0), (.slice none 0 0)])⟩),
  (42, ⟨.slice 109, 1, 24, (.slice none 0 0)⟩),
  (44, ⟨.struct #[⟨ "Durable", 42, 0, false, "", "", 0⟩, ⟨ "Volatile", 42, 1, false, "", "", 24⟩], 2, 48, (.agg #[(.slice none 0 0), (.slice none 0 0)])⟩),
  (46, ⟨.struct #[⟨ "Log", 44, 0, false, "", "", 0⟩, ⟨ "Quota", 3, 2, false, "", "", 48⟩], 3, 56, (.agg #[(.slice none 0 0), (.slice none 0 0), (.int .i64 (0))])⟩),
  (48, ⟨.slice 113, 1, 24, (.slice none 0 0)⟩),
  (50, ⟨.struct #[⟨ "Durable", 48, 0, false, "", "", 0⟩, ⟨ "Volatile", 48, 1, false, "", "", 24⟩], 2, 48, (.agg #[(.slice none 0 0), (.slice none 0 0)])⟩),
  (52, ⟨.struct #[⟨ "Log", 50, 0, false, "", "", 0⟩, ⟨ "Quota", 3, 2, false, "", "", 48⟩], 3, 56, (.agg #[(.slice none 0 0), (.slice none 0 0), (.int .i64 (0))])⟩),
  (72, ⟨.slice 111, 1, 24, (.slice none 0 0)⟩),
  (99, ⟨.struct #[⟨ "Publisher", 33, 0, false, "", "", 0⟩, ⟨ "Seq", 3, 1, false, "", "", 24⟩, ⟨ "Content", 59, 2, false, "", "", 32⟩], 3, 56, (.agg #[(.slice none 0 0), (.int .i64 (0)), (.slice none 0 0)])⟩),
  (107, ⟨.struct #[⟨ "Name", 24, 0, false, "", "", 0⟩, ⟨ "Content", 59, 1, false, "", "", 24⟩, ⟨ "KeyName", 24, 2, false, "", "", 48⟩, ⟨ "FreshUntil", 3, 3, false, "", "", 72⟩, ⟨ "Signature", 3, 4, false, "", "", 80⟩], 5, 88, (.agg #[(.slice none 0 0), (.slice none 0 0), (.slice none 0 0), (.int .i64 (0)), (.int .i64 (0))])⟩),
  (109, ⟨.struct #[⟨ "Kind", 3, 0, false, "", "", 0⟩, ⟨ "Data", 107, 1, false, "", "", 8⟩], 6, 96, (.agg #[(.int .i64 (0)), (.slice none 0 0), (.slice none 0 0), (.slice none 0 0), (.int .i64 (0)), (.int .i64 (0))])⟩),
  (111, ⟨.struct #[⟨ "Name", 33, 0, false, "", "", 0⟩, ⟨ "Content", 59, 1, false, "", "", 24⟩, ⟨ "KeyName", 33, 2, false, "", "", 48⟩, ⟨ "FreshUntil", 3, 3, false, "", "", 72⟩, ⟨ "Signature", 3, 4, false, "", "", 80⟩], 5, 88, (.agg #[(.slice none 0 0), (.slice none 0 0), (.slice none 0 0), (.int .i64 (0)), (.int .i64 (0))])⟩),
  (113, ⟨.struct #[⟨ "Kind", 3, 0, false, "", "", 0⟩, ⟨ "Data", 111, 1, false, "", "", 8⟩], 6, 96, (.agg #[(.int .i64 (0)), (.slice none 0 0), (.slice none 0 0), (.slice none 0 0), (.int .i64 (0)), (.int .i64 (0))])⟩),
  (126, ⟨.struct #[⟨ "Name", 33, 0, false, "", "", 0⟩, ⟨ "Value", 3, 1, false, "", "", 24⟩], 2, 32, (.agg #[(.slice none 0 0), (.int .i64 (0))])⟩),
  (129, ⟨.struct #[⟨ "Publisher", 24, 0, false, "", "", 0⟩, ⟨ "Seq", 3, 1, false, "", "", 24⟩, ⟨ "Content", 59, 2, false, "", "", 32⟩], 3, 56, (.agg #[(.slice none 0 0), (.int .i64 (0)), (.slice none 0 0)])⟩),
  (146, ⟨.struct #[⟨ "Name", 24, 0, false, "", "", 0⟩, ⟨ "Value", 3, 1, false, "", "", 24⟩], 2, 32, (.agg #[(.slice none 0 0), (.int .i64 (0))])⟩),
  (163, ⟨.int .u32, 1, 4, (.int .u32 (0))⟩)]
theorem ttOk : TabOk Try.prog tt :=
  ⟨⟨by kernel_rfl, by kernel_rfl⟩, ⟨⟨by kernel_rfl, by kernel_rfl⟩, ⟨⟨by kernel_rfl, by kernel_rfl⟩, ⟨⟨by kernel_rfl, by kernel_rfl⟩, ⟨⟨by kernel_rfl, by kernel_rfl⟩, ⟨⟨by kernel_rfl, by kernel_rfl⟩, ⟨⟨by kernel_rfl, by kernel_rfl⟩, ⟨⟨by kernel_rfl, by kernel_rfl⟩, ⟨⟨by kernel_rfl, by kernel_rfl⟩, ⟨⟨by kernel_rfl, by kernel_rfl⟩, ⟨⟨by kernel_rfl, by kernel_rfl⟩, ⟨⟨by kernel_rfl, by kernel_rfl⟩, ⟨⟨by kernel_rfl, by kernel_rfl⟩, ⟨⟨by kernel_rfl, by kernel_rfl⟩, ⟨⟨by kernel_rfl, by kernel_rfl⟩, ⟨⟨by kernel_rfl, by kernel_rfl⟩, ⟨⟨by kernel_rfl, by kernel_rfl⟩, ⟨⟨by kernel_rfl, by kernel_rfl⟩, ⟨⟨by kernel_rfl, by kernel_rfl⟩, ⟨⟨by kernel_rfl, by kernel_rfl⟩, ⟨⟨by kernel_rfl, by kernel_rfl⟩, ⟨⟨by kernel_rfl, by kernel_rfl⟩, ⟨⟨by kernel_rfl, by kernel_rfl⟩, ⟨⟨by kernel_rfl, by kernel_rfl⟩, ⟨⟨by kernel_rfl, by kernel_rfl⟩, ⟨⟨by kernel_rfl, by kernel_rfl⟩, ⟨⟨by kernel_rfl, by kernel_rfl⟩, ⟨⟨by kernel_rfl, by kernel_rfl⟩, ⟨⟨by kernel_rfl, by kernel_rfl⟩, ⟨⟨by kernel_rfl, by kernel_rfl⟩, ⟨⟨by kernel_rfl, by kernel_rfl⟩, ⟨⟨by kernel_rfl, by kernel_rfl⟩, trivial⟩⟩⟩⟩⟩⟩⟩⟩⟩⟩⟩⟩⟩⟩⟩⟩⟩⟩⟩⟩⟩⟩⟩⟩⟩⟩⟩⟩⟩⟩⟩⟩
theorem mixed : Try.prog.follows .mixedOrders = true := by kernel_rfl
end Go.Proofs.Ytikbfiljomdmiaa
