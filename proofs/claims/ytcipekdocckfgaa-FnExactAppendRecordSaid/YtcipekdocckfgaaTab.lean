/-
  The types that the proofs look up, and that they are the program's. No condition. Written by a program (mktabs.py).
-/
import Derived.Test.YtcipekdocckfgaaRule
import Derived.Test.YtcipekdocckfgaaRows
namespace Go.Proofs.Ytcipekdocckfgaa
open Go.Stp
def tt : TT := [
  (3, ⟨.int .i64, 1, 8, (.int .i64 (0))⟩),
  (4, ⟨.bool, 1, 1, (.bool false)⟩),
  (9, ⟨.string, 1, 16, (.string ⟨#[]⟩)⟩),
  (62, ⟨.struct #[⟨ "Parts", 58, 0, false, "", "", 0⟩], 1, 24, (.agg #[(.slice none 0 0)])⟩),
  (58, ⟨.slice 9, 1, 24, (.slice none 0 0)⟩),
  (5, ⟨.int .u8, 1, 1, (.int .u8 (0))⟩),
  (63, ⟨.slice 5, 1, 24, (.slice none 0 0)⟩),
  (22, ⟨.slice 79, 1, 24, (.slice none 0 0)⟩),
  (24, ⟨.slice 65, 1, 24, (.slice none 0 0)⟩),
  (26, ⟨.slice 84, 1, 24, (.slice none 0 0)⟩),
  (34, ⟨.struct #[⟨ "Durable", 22, 0, false, "", "", 0⟩, ⟨ "Volatile", 22, 1, false, "", "", 24⟩], 2, 48, (.agg #[(.slice none 0 0), (.slice none 0 0)])⟩),
  (38, ⟨.struct #[⟨ "Durable", 26, 0, false, "", "", 0⟩, ⟨ "Volatile", 26, 1, false, "", "", 24⟩], 2, 48, (.agg #[(.slice none 0 0), (.slice none 0 0)])⟩),
  (44, ⟨.struct #[⟨ "Log", 34, 0, false, "", "", 0⟩, ⟨ "Quota", 3, 2, false, "", "", 48⟩], 3, 56, (.agg #[(.slice none 0 0), (.slice none 0 0), (.int .i64 (0))])⟩),
  (48, ⟨.struct #[⟨ "Log", 38, 0, false, "", "", 0⟩, ⟨ "Quota", 3, 2, false, "", "", 48⟩], 3, 56, (.agg #[(.slice none 0 0), (.slice none 0 0), (.int .i64 (0))])⟩),
  (53, ⟨.slice 62, 1, 24, (.slice none 0 0)⟩),
  (60, ⟨.struct #[⟨ "Parts", 58, 0, false, "", "", 0⟩], 1, 24, (.agg #[(.slice none 0 0)])⟩),
  (65, ⟨.struct #[⟨ "Name", 62, 0, false, "", "", 0⟩, ⟨ "Content", 63, 1, false, "", "", 24⟩, ⟨ "KeyName", 62, 2, false, "", "", 48⟩, ⟨ "FreshUntil", 3, 3, false, "", "", 72⟩, ⟨ "Signature", 3, 4, false, "", "", 80⟩], 5, 88, (.agg #[(.slice none 0 0), (.slice none 0 0), (.slice none 0 0), (.int .i64 (0)), (.int .i64 (0))])⟩),
  (77, ⟨.struct #[⟨ "Name", 60, 0, false, "", "", 0⟩, ⟨ "Content", 63, 1, false, "", "", 24⟩, ⟨ "KeyName", 60, 2, false, "", "", 48⟩, ⟨ "FreshUntil", 3, 3, false, "", "", 72⟩, ⟨ "Signature", 3, 4, false, "", "", 80⟩], 5, 88, (.agg #[(.slice none 0 0), (.slice none 0 0), (.slice none 0 0), (.int .i64 (0)), (.int .i64 (0))])⟩),
  (79, ⟨.struct #[⟨ "Kind", 3, 0, false, "", "", 0⟩, ⟨ "Data", 77, 1, false, "", "", 8⟩], 6, 96, (.agg #[(.int .i64 (0)), (.slice none 0 0), (.slice none 0 0), (.slice none 0 0), (.int .i64 (0)), (.int .i64 (0))])⟩),
  (84, ⟨.struct #[⟨ "Kind", 3, 0, false, "", "", 0⟩, ⟨ "Data", 65, 1, false, "", "", 8⟩], 6, 96, (.agg #[(.int .i64 (0)), (.slice none 0 0), (.slice none 0 0), (.slice none 0 0), (.int .i64 (0)), (.int .i64 (0))])⟩),
  (89, ⟨.slice 134, 1, 24, (.slice none 0 0)⟩),
  (91, ⟨.struct #[⟨ "Entries", 89, 0, false, "", "", 0⟩], 1, 24, (.agg #[(.slice none 0 0)])⟩),
  (93, ⟨.slice 119, 1, 24, (.slice none 0 0)⟩),
  (95, ⟨.struct #[⟨ "Entries", 93, 0, false, "", "", 0⟩], 1, 24, (.agg #[(.slice none 0 0)])⟩),
  (119, ⟨.struct #[⟨ "Name", 62, 0, false, "", "", 0⟩, ⟨ "Value", 3, 1, false, "", "", 24⟩], 2, 32, (.agg #[(.slice none 0 0), (.int .i64 (0))])⟩),
  (134, ⟨.struct #[⟨ "Name", 60, 0, false, "", "", 0⟩, ⟨ "Value", 3, 1, false, "", "", 24⟩], 2, 32, (.agg #[(.slice none 0 0), (.int .i64 (0))])⟩),
  (162, ⟨.int .u32, 1, 4, (.int .u32 (0))⟩)]
theorem ttOk : TabOk Try.prog tt :=
  ⟨⟨by kernel_rfl, by kernel_rfl⟩, ⟨⟨by kernel_rfl, by kernel_rfl⟩, ⟨⟨by kernel_rfl, by kernel_rfl⟩, ⟨⟨by kernel_rfl, by kernel_rfl⟩, ⟨⟨by kernel_rfl, by kernel_rfl⟩, ⟨⟨by kernel_rfl, by kernel_rfl⟩, ⟨⟨by kernel_rfl, by kernel_rfl⟩, ⟨⟨by kernel_rfl, by kernel_rfl⟩, ⟨⟨by kernel_rfl, by kernel_rfl⟩, ⟨⟨by kernel_rfl, by kernel_rfl⟩, ⟨⟨by kernel_rfl, by kernel_rfl⟩, ⟨⟨by kernel_rfl, by kernel_rfl⟩, ⟨⟨by kernel_rfl, by kernel_rfl⟩, ⟨⟨by kernel_rfl, by kernel_rfl⟩, ⟨⟨by kernel_rfl, by kernel_rfl⟩, ⟨⟨by kernel_rfl, by kernel_rfl⟩, ⟨⟨by kernel_rfl, by kernel_rfl⟩, ⟨⟨by kernel_rfl, by kernel_rfl⟩, ⟨⟨by kernel_rfl, by kernel_rfl⟩, ⟨⟨by kernel_rfl, by kernel_rfl⟩, ⟨⟨by kernel_rfl, by kernel_rfl⟩, ⟨⟨by kernel_rfl, by kernel_rfl⟩, ⟨⟨by kernel_rfl, by kernel_rfl⟩, ⟨⟨by kernel_rfl, by kernel_rfl⟩, ⟨⟨by kernel_rfl, by kernel_rfl⟩, ⟨⟨by kernel_rfl, by kernel_rfl⟩, ⟨⟨by kernel_rfl, by kernel_rfl⟩, trivial⟩⟩⟩⟩⟩⟩⟩⟩⟩⟩⟩⟩⟩⟩⟩⟩⟩⟩⟩⟩⟩⟩⟩⟩⟩⟩⟩
theorem mixed : Try.prog.follows .mixedOrders = true := by kernel_rfl
end Go.Proofs.Ytcipekdocckfgaa
