/-
  The types that the proofs look up, and that they are the program's. No condition. Written by a program (mktabs.py).
-/
import Derived.Test.YtmmbmgbochlggaaRule
import Derived.Test.YtmmbmgbochlggaaRows
namespace Go.Proofs.Ytmmbmgbochlggaa
open Go.Stp
def tt : TT := [
  (3, ⟨.int .i64, 1, 8, (.int .i64 (0))⟩),
  (4, ⟨.bool, 1, 1, (.bool false)⟩),
  (9, ⟨.string, 1, 16, (.string ⟨#[]⟩)⟩),
  (47, ⟨.struct #[⟨ "Parts", 42, 0, false, "", "", 0⟩], 1, 24, (.agg #[(.slice none 0 0)])⟩),
  (42, ⟨.slice 9, 1, 24, (.slice none 0 0)⟩),
  (5, ⟨.int .u8, 1, 1, (.int .u8 (0))⟩),
  (26, ⟨.slice 5, 1, 24, (.slice none 0 0)⟩),
  (31, ⟨.slice 81, 1, 24, (.slice none 0 0)⟩),
  (33, ⟨.struct #[⟨ "Entries", 31, 0, false, "", "", 0⟩], 1, 24, (.agg #[(.slice none 0 0)])⟩),
  (36, ⟨.slice 65, 1, 24, (.slice none 0 0)⟩),
  (38, ⟨.struct #[⟨ "Entries", 36, 0, false, "", "", 0⟩], 1, 24, (.agg #[(.slice none 0 0)])⟩),
  (44, ⟨.struct #[⟨ "Parts", 42, 0, false, "", "", 0⟩], 1, 24, (.agg #[(.slice none 0 0)])⟩),
  (52, ⟨.struct #[⟨ "Name", 47, 0, false, "", "", 0⟩, ⟨ "Content", 26, 1, false, "", "", 24⟩, ⟨ "KeyName", 47, 2, false, "", "", 48⟩, ⟨ "FreshUntil", 3, 3, false, "", "", 72⟩, ⟨ "Signature", 3, 4, false, "", "", 80⟩], 5, 88, (.agg #[(.slice none 0 0), (.slice none 0 0), (.slice none 0 0), (.int .i64 (0)), (.int .i64 (0))])⟩),
  (54, ⟨.struct #[⟨ "Node", 3, 0, false, "", "", 0⟩, ⟨ "Index", 3, 1, false, "", "", 8⟩, ⟨ "Name", 47, 2, false, "", "", 16⟩, ⟨ "Attempts", 3, 3, false, "", "", 40⟩, ⟨ "Wait", 3, 4, false, "", "", 48⟩, ⟨ "Satisfied", 4, 5, false, "", "", 56⟩, ⟨ "Data", 52, 6, false, "", "", 64⟩], 11, 152, (.agg #[(.int .i64 (0)), (.int .i64 (0)), (.slice none 0 0), (.int .i64 (0)), (.int .i64 (0)), (.bool false), (.slice none 0 0), (.slice none 0 0), (.slice none 0 0), (.int .i64 (0)), (.int .i64 (0))])⟩),
  (65, ⟨.struct #[⟨ "Name", 47, 0, false, "", "", 0⟩, ⟨ "Value", 3, 1, false, "", "", 24⟩], 2, 32, (.agg #[(.slice none 0 0), (.int .i64 (0))])⟩),
  (77, ⟨.struct #[⟨ "b", 26, 0, false, "", "loop.example/g00507/spec", 0⟩, ⟨ "i", 3, 1, false, "", "loop.example/g00507/spec", 24⟩, ⟨ "h", 3, 2, false, "", "loop.example/g00507/spec", 32⟩], 3, 40, (.agg #[(.slice none 0 0), (.int .i64 (0)), (.int .i64 (0))])⟩),
  (81, ⟨.struct #[⟨ "Name", 44, 0, false, "", "", 0⟩, ⟨ "Value", 3, 1, false, "", "", 24⟩], 2, 32, (.agg #[(.slice none 0 0), (.int .i64 (0))])⟩),
  (86, ⟨.int .u64, 1, 8, (.int .u64 (0))⟩),
  (98, ⟨.int .u32, 1, 4, (.int .u32 (0))⟩)]
theorem ttOk : TabOk Try.prog tt :=
  ⟨⟨by kernel_rfl, by kernel_rfl⟩, ⟨⟨by kernel_rfl, by kernel_rfl⟩, ⟨⟨by kernel_rfl, by kernel_rfl⟩, ⟨⟨by kernel_rfl, by kernel_rfl⟩, ⟨⟨by kernel_rfl, by kernel_rfl⟩, ⟨⟨by kernel_rfl, by kernel_rfl⟩, ⟨⟨by kernel_rfl, by kernel_rfl⟩, ⟨⟨by kernel_rfl, by kernel_rfl⟩, ⟨⟨by kernel_rfl, by kernel_rfl⟩, ⟨⟨by kernel_rfl, by kernel_rfl⟩, ⟨⟨by kernel_rfl, by kernel_rfl⟩, ⟨⟨by kernel_rfl, by kernel_rfl⟩, ⟨⟨by kernel_rfl, by kernel_rfl⟩, ⟨⟨by kernel_rfl, by kernel_rfl⟩, ⟨⟨by kernel_rfl, by kernel_rfl⟩, ⟨⟨by kernel_rfl, by kernel_rfl⟩, ⟨⟨by kernel_rfl, by kernel_rfl⟩, ⟨⟨by kernel_rfl, by kernel_rfl⟩, ⟨⟨by kernel_rfl, by kernel_rfl⟩, trivial⟩⟩⟩⟩⟩⟩⟩⟩⟩⟩⟩⟩⟩⟩⟩⟩⟩⟩⟩
theorem mixed : Try.prog.follows .mixedOrders = true := by kernel_rfl
end Go.Proofs.Ytmmbmgbochlggaa
