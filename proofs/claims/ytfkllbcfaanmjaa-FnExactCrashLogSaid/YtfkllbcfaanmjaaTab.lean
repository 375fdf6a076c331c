/-
  The types that the proofs look up, and that they are the program's. No condition. Written by a program (mktabs.py).
-/
import Derived.Test.YtfkllbcfaanmjaaRule
import Derived.Test.YtfkllbcfaanmjaaRows
namespace Go.Proofs.Ytfkllbcfaanmjaa
open Go.Stp
def tt : TT := [
  (3, ⟨.int .i64, 1, 8, (.int .i64 (0))⟩),
  (4, ⟨.bool, 1, 1, (.bool false)⟩),
  (9, ⟨.string, 1, 16, (.string ⟨#[]⟩)⟩),
  (26, ⟨.struct #[⟨ "Parts", 22, 0, false, "", "", 0⟩], 1, 24, (.agg #[(.slice none 0 0)])⟩),
  (22, ⟨.slice 9, 1, 24, (.slice none 0 0)⟩),
  (5, ⟨.int .u8, 1, 1, (.int .u8 (0))⟩),
  (27, ⟨.slice 5, 1, 24, (.slice none 0 0)⟩),
  (24, ⟨.struct #[⟨ "Parts", 22, 0, false, "", "", 0⟩], 1, 24, (.agg #[(.slice none 0 0)])⟩),
  (29, ⟨.struct #[⟨ "Name", 26, 0, false, "", "", 0⟩, ⟨ "Content", 27, 1, false, "", "", 24⟩, ⟨ "KeyName", 26, 2, false, "", "", 48⟩, ⟨ "FreshUntil", 3, 3, false, "", "", 72⟩, ⟨ "Signature", 3, 4, false, "", "", 80⟩], 5, 88, (.agg #[(.slice none 0 0), (.slice none 0 0), (.slice none 0 0), (.int .i64 (0)), (.int .i64 (0))])⟩),
  (31, ⟨.struct #[⟨ "Node", 3, 0, false, "", "", 0⟩, ⟨ "Index", 3, 1, false, "", "", 8⟩, ⟨ "Name", 26, 2, false, "", "", 16⟩, ⟨ "Attempts", 3, 3, false, "", "", 40⟩, ⟨ "Wait", 3, 4, false, "", "", 48⟩, ⟨ "Satisfied", 4, 5, false, "", "", 56⟩, ⟨ "Data", 29, 6, false, "", "", 64⟩], 11, 152, (.agg #[(.int .i64 (0)), (.int .i64 (0)), (.slice none 0 0), (.int .i64 (0)), (.int .i64 (0)), (.bool false), (.slice none 0 0), (.slice none 0 0), (.slice none 0 0), (.int .i64 (0)), (.int .i64 (0))])⟩),
  (39, ⟨.slice 60, 1, 24, (.slice none 0 0)⟩),
  (41, ⟨.struct #[⟨ "Durable", 39, 0, false, "", "", 0⟩, ⟨ "Volatile", 39, 1, false, "", "", 24⟩], 2, 48, (.agg #[(.slice none 0 0), (.slice none 0 0)])⟩),
  (43, ⟨.struct #[⟨ "Log", 41, 0, false, "", "", 0⟩, ⟨ "Quota", 3, 2, false, "", "", 48⟩], 3, 56, (.agg #[(.slice none 0 0), (.slice none 0 0), (.int .i64 (0))])⟩),
  (49, ⟨.struct #[⟨ "Name", 24, 0, false, "", "", 0⟩, ⟨ "Content", 27, 1, false, "", "", 24⟩, ⟨ "KeyName", 24, 2, false, "", "", 48⟩, ⟨ "FreshUntil", 3, 3, false, "", "", 72⟩, ⟨ "Signature", 3, 4, false, "", "", 80⟩], 5, 88, (.agg #[(.slice none 0 0), (.slice none 0 0), (.slice none 0 0), (.int .i64 (0)), (.int .i64 (0))])⟩),
  (51, ⟨.struct #[⟨ "Node", 3, 0, false, "", "", 0⟩, ⟨ "Index", 3, 1, false, "", "", 8⟩, ⟨ "Name", 24, 2, false, "", "", 16⟩, ⟨ "Attempts", 3, 3, false, "", "", 40⟩, ⟨ "Wait", 3, 4, false, "", "", 48⟩, ⟨ "Satisfied", 4, 5, false, "", "", 56⟩, ⟨ "Data", 49, 6, false, "", "", 64⟩], 11, 152, (.agg #[(.int .i64 (0)), (.int .i64 (0)), (.slice none 0 0), (.int .i64 (0)), (.int .i64 (0)), (.bool false), (.slice none 0 0), (.slice none 0 0), (.slice none 0 0), (.int .i64 (0)), (.int .i64 (0))])⟩),
  (56, ⟨.struct #[⟨ "Kind", 3, 0, false, "", "", 0⟩, ⟨ "Data", 49, 1, false, "", "", 8⟩], 6, 96, (.agg #[(.int .i64 (0)), (.slice none 0 0), (.slice none 0 0), (.slice none 0 0), (.int .i64 (0)), (.int .i64 (0))])⟩),
  (60, ⟨.struct #[⟨ "Kind", 3, 0, false, "", "", 0⟩, ⟨ "Data", 29, 1, false, "", "", 8⟩], 6, 96, (.agg #[(.int .i64 (0)), (.slice none 0 0), (.slice none 0 0), (.slice none 0 0), (.int .i64 (0)), (.int .i64 (0))])⟩),
  (64, ⟨.slice 148, 1, 24, (.slice none 0 0)⟩),
  (66, ⟨.struct #[⟨ "Entries", 64, 0, false, "", "", 0⟩], 1, 24, (.agg #[(.slice none 0 0)])⟩),
  (69, ⟨.slice 120, 1, 24, (.slice none 0 0)⟩),
  (71, ⟨.struct #[⟨ "Entries", 69, 0, false, "", "", 0⟩], 1, 24, (.agg #[(.slice none 0 0)])⟩),
  (75, ⟨.slice 153, 1, 24, (.slice none 0 0)⟩),
  (77, ⟨.struct #[⟨ "Name", 26, 0, false, "", "", 0⟩, ⟨ "Vector", 71, 1, false, "", "", 24⟩, ⟨ "Publications", 75, 2, false, "", "", 48⟩], 3, 72, (.agg #[(.slice none 0 0), (.slice none 0 0), (.slice none 0 0)])⟩),
  (89, ⟨.slice 56, 1, 24, (.slice none 0 0)⟩),
  (91, ⟨.struct #[⟨ "Durable", 89, 0, false, "", "", 0⟩, ⟨ "Volatile", 89, 1, false, "", "", 24⟩], 2, 48, (.agg #[(.slice none 0 0), (.slice none 0 0)])⟩),
  (100, ⟨.struct #[⟨ "Name", 26, 0, false, "", "", 0⟩, ⟨ "Nonce", 3, 1, false, "", "", 24⟩, ⟨ "HopLimit", 3, 2, false, "", "", 32⟩, ⟨ "Lifetime", 3, 3, false, "", "", 40⟩], 4, 48, (.agg #[(.slice none 0 0), (.int .i64 (0)), (.int .i64 (0)), (.int .i64 (0))])⟩),
  (120, ⟨.struct #[⟨ "Name", 26, 0, false, "", "", 0⟩, ⟨ "Value", 3, 1, false, "", "", 24⟩], 2, 32, (.agg #[(.slice none 0 0), (.int .i64 (0))])⟩),
  (148, ⟨.struct #[⟨ "Name", 24, 0, false, "", "", 0⟩, ⟨ "Value", 3, 1, false, "", "", 24⟩], 2, 32, (.agg #[(.slice none 0 0), (.int .i64 (0))])⟩),
  (153, ⟨.struct #[⟨ "Publisher", 26, 0, false, "", "", 0⟩, ⟨ "Seq", 3, 1, false, "", "", 24⟩, ⟨ "Content", 27, 2, false, "", "", 32⟩], 3, 56, (.agg #[(.slice none 0 0), (.int .i64 (0)), (.slice none 0 0)])⟩),
  (169, ⟨.int .u32, 1, 4, (.int .u32 (0))⟩)]
theorem ttOk : TabOk Try.prog tt :=
  ⟨⟨by kernel_rfl, by kernel_rfl⟩, ⟨⟨by kernel_rfl, by kernel_rfl⟩, ⟨⟨by kernel_rfl, by kernel_rfl⟩, ⟨⟨by kernel_rfl, by kernel_rfl⟩, ⟨⟨by kernel_rfl, by kernel_rfl⟩, ⟨⟨by kernel_rfl, by kernel_rfl⟩, ⟨⟨by kernel_rfl, by kernel_rfl⟩, ⟨⟨by kernel_rfl, by kernel_rfl⟩, ⟨⟨by kernel_rfl, by kernel_rfl⟩, ⟨⟨by kernel_rfl, by kernel_rfl⟩, ⟨⟨by kernel_rfl, by kernel_rfl⟩, ⟨⟨by kernel_rfl, by kernel_rfl⟩, ⟨⟨by kernel_rfl, by kernel_rfl⟩, ⟨⟨by kernel_rfl, by kernel_rfl⟩, ⟨⟨by kernel_rfl, by kernel_rfl⟩, ⟨⟨by kernel_rfl, by kernel_rfl⟩, ⟨⟨by kernel_rfl, by kernel_rfl⟩, ⟨⟨by kernel_rfl, by kernel_rfl⟩, ⟨⟨by kernel_rfl, by kernel_rfl⟩, ⟨⟨by kernel_rfl, by kernel_rfl⟩, ⟨⟨by kernel_rfl, by kernel_rfl⟩, ⟨⟨by kernel_rfl, by kernel_rfl⟩, ⟨⟨by kernel_rfl, by kernel_rfl⟩, ⟨⟨by kernel_rfl, by kernel_rfl⟩, ⟨⟨by kernel_rfl, by kernel_rfl⟩, ⟨⟨by kernel_rfl, by kernel_rfl⟩, ⟨⟨by kernel_rfl, by kernel_rfl⟩, ⟨⟨by kernel_rfl, by kernel_rfl⟩, ⟨⟨by kernel_rfl, by kernel_rfl⟩, ⟨⟨by kernel_rfl, by kernel_rfl⟩, trivial⟩⟩⟩⟩⟩⟩⟩⟩⟩⟩⟩⟩⟩⟩⟩⟩⟩⟩⟩⟩⟩⟩⟩⟩⟩⟩⟩⟩⟩⟩
theorem mixed : Try.prog.follows .mixedOrders = true := by kernel_rfl
end Go.Proofs.Ytfkllbcfaanmjaa
