/-
  v.(T) with ok, for the types of a document's parts: what the model makes of it.
-/
import Derived.Test.YtmhkgfddlkdmgaaRows
import Derived.Test.YtmhkgfddlkdmgaaTru
namespace Go.Proofs.Ytmhkgfddlkdmgaa
open Go.RowKit Go.Tru

@[go_sem] theorem ta_bool_bool (v : Value) (w : World) : (Instr.typeAssert (.iface 4 v) 20 4 true).run Try.prog w = .ok (.tuple #[v, .bool true]) w := by kernel_rfl
@[go_sem] theorem ta_bool_Whole (v : Value) (w : World) : (Instr.typeAssert (.iface 4 v) 20 52 true).run Try.prog w = .ok (.tuple #[.agg #[.bool false, .int .u64 0], .bool false]) w := by kernel_rfl
@[go_sem] theorem ta_bool_Word (v : Value) (w : World) : (Instr.typeAssert (.iface 4 v) 20 58 true).run Try.prog w = .ok (.tuple #[.string ⟨#[]⟩, .bool false]) w := by kernel_rfl
@[go_sem] theorem ta_bool_Blob (v : Value) (w : World) : (Instr.typeAssert (.iface 4 v) 20 59 true).run Try.prog w = .ok (.tuple #[.string ⟨#[]⟩, .bool false]) w := by kernel_rfl
@[go_sem] theorem ta_bool_Begin (v : Value) (w : World) : (Instr.typeAssert (.iface 4 v) 20 43 true).run Try.prog w = .ok (.tuple #[.agg #[.bool false, .int .i64 0], .bool false]) w := by kernel_rfl
@[go_sem] theorem ta_bool_Close (v : Value) (w : World) : (Instr.typeAssert (.iface 4 v) 20 46 true).run Try.prog w = .ok (.tuple #[.agg #[], .bool false]) w := by kernel_rfl
@[go_sem] theorem ta_Whole_bool (v : Value) (w : World) : (Instr.typeAssert (.iface 52 v) 20 4 true).run Try.prog w = .ok (.tuple #[.bool false, .bool false]) w := by kernel_rfl
@[go_sem] theorem ta_Whole_Whole (v : Value) (w : World) : (Instr.typeAssert (.iface 52 v) 20 52 true).run Try.prog w = .ok (.tuple #[v, .bool true]) w := by kernel_rfl
@[go_sem] theorem ta_Whole_Word (v : Value) (w : World) : (Instr.typeAssert (.iface 52 v) 20 58 true).run Try.prog w = .ok (.tuple #[.string ⟨#[]⟩, .bool false]) w := by kernel_rfl
@[go_sem] theorem ta_Whole_Blob (v : Value) (w : World) : (Instr.typeAssert (.iface 52 v) 20 59 true).run Try.prog w = .ok (.tuple #[.string ⟨#[]⟩, .bool false]) w := by kernel_rfl
@[go_sem] theorem ta_Whole_Begin (v : Value) (w : World) : (Instr.typeAssert (.iface 52 v) 20 43 true).run Try.prog w = .ok (.tuple #[.agg #[.bool false, .int .i64 0], .bool false]) w := by kernel_rfl
@[go_sem] theorem ta_Whole_Close (v : Value) (w : World) : (Instr.typeAssert (.iface 52 v) 20 46 true).run Try.prog w = .ok (.tuple #[.agg #[], .bool false]) w := by kernel_rfl
@[go_sem] theorem ta_Word_bool (v : Value) (w : World) : (Instr.typeAssert (.iface 58 v) 20 4 true).run Try.prog w = .ok (.tuple #[.bool false, .bool false]) w := by kernel_rfl
@[go_sem] theorem ta_Word_Whole (v : Value) (w : World) : (Instr.typeAssert (.iface 58 v) 20 52 true).run Try.prog w = .ok (.tuple #[.agg #[.bool false, .int .u64 0], .bool false]) w := by kernel_rfl
@[go_sem] theorem ta_Word_Word (v : Value) (w : World) : (Instr.typeAssert (.iface 58 v) 20 58 true).run Try.prog w = .ok (.tuple #[v, .bool true]) w := by kernel_rfl
@[go_sem] theorem ta_Word_Blob (v : Value) (w : World) : (Instr.typeAssert (.iface 58 v) 20 59 true).run Try.prog w = .ok (.tuple #[.string ⟨#[]⟩, .bool false]) w := by kernel_rfl
@[go_sem] theorem ta_Word_Begin (v : Value) (w : World) : (Instr.typeAssert (.iface 58 v) 20 43 true).run Try.prog w = .ok (.tuple #[.agg #[.bool false, .int .i64 0], .bool false]) w := by kernel_rfl
@[go_sem] theorem ta_Word_Close (v : Value) (w : World) : (Instr.typeAssert (.iface 58 v) 20 46 true).run Try.prog w = .ok (.tuple #[.agg #[], .bool false]) w := by kernel_rfl
@[go_sem] theorem ta_Blob_bool (v : Value) (w : World) : (Instr.typeAssert (.iface 59 v) 20 4 true).run Try.prog w = .ok (.tuple #[.bool false, .bool false]) w := by kernel_rfl
@[go_sem] theorem ta_Blob_Whole (v : Value) (w : World) : (Instr.typeAssert (.iface 59 v) 20 52 true).run Try.prog w = .ok (.tuple #[.agg #[.bool false, .int .u64 0], .bool false]) w := by kernel_rfl
@[go_sem] theorem ta_Blob_Word (v : Value) (w : World) : (Instr.typeAssert (.iface 59 v) 20 58 true).run Try.prog w = .ok (.tuple #[.string ⟨#[]⟩, .bool false]) w := by kernel_rfl
@[go_sem] theorem ta_Blob_Blob (v : Value) (w : World) : (Instr.typeAssert (.iface 59 v) 20 59 true).run Try.prog w = .ok (.tuple #[v, .bool true]) w := by kernel_rfl
@[go_sem] theorem ta_Blob_Begin (v : Value) (w : World) : (Instr.typeAssert (.iface 59 v) 20 43 true).run Try.prog w = .ok (.tuple #[.agg #[.bool false, .int .i64 0], .bool false]) w := by kernel_rfl
@[go_sem] theorem ta_Blob_Close (v : Value) (w : World) : (Instr.typeAssert (.iface 59 v) 20 46 true).run Try.prog w = .ok (.tuple #[.agg #[], .bool false]) w := by kernel_rfl
@[go_sem] theorem ta_Begin_bool (v : Value) (w : World) : (Instr.typeAssert (.iface 43 v) 20 4 true).run Try.prog w = .ok (.tuple #[.bool false, .bool false]) w := by kernel_rfl
@[go_sem] theorem ta_Begin_Whole (v : Value) (w : World) : (Instr.typeAssert (.iface 43 v) 20 52 true).run Try.prog w = .ok (.tuple #[.agg #[.bool false, .int .u64 0], .bool false]) w := by kernel_rfl
@[go_sem] theorem ta_Begin_Word (v : Value) (w : World) : (Instr.typeAssert (.iface 43 v) 20 58 true).run Try.prog w = .ok (.tuple #[.string ⟨#[]⟩, .bool false]) w := by kernel_rfl
@[go_sem] theorem ta_Begin_Blob (v : Value) (w : World) : (Instr.typeAssert (.iface 43 v) 20 59 true).run Try.prog w = .ok (.tuple #[.string ⟨#[]⟩, .bool false]) w := by kernel_rfl
@[go_sem] theorem ta_Begin_Begin (v : Value) (w : World) : (Instr.typeAssert (.iface 43 v) 20 43 true).run Try.prog w = .ok (.tuple #[v, .bool true]) w := by kernel_rfl
@[go_sem] theorem ta_Begin_Close (v : Value) (w : World) : (Instr.typeAssert (.iface 43 v) 20 46 true).run Try.prog w = .ok (.tuple #[.agg #[], .bool false]) w := by kernel_rfl
@[go_sem] theorem ta_Close_bool (v : Value) (w : World) : (Instr.typeAssert (.iface 46 v) 20 4 true).run Try.prog w = .ok (.tuple #[.bool false, .bool false]) w := by kernel_rfl
@[go_sem] theorem ta_Close_Whole (v : Value) (w : World) : (Instr.typeAssert (.iface 46 v) 20 52 true).run Try.prog w = .ok (.tuple #[.agg #[.bool false, .int .u64 0], .bool false]) w := by kernel_rfl
@[go_sem] theorem ta_Close_Word (v : Value) (w : World) : (Instr.typeAssert (.iface 46 v) 20 58 true).run Try.prog w = .ok (.tuple #[.string ⟨#[]⟩, .bool false]) w := by kernel_rfl
@[go_sem] theorem ta_Close_Blob (v : Value) (w : World) : (Instr.typeAssert (.iface 46 v) 20 59 true).run Try.prog w = .ok (.tuple #[.string ⟨#[]⟩, .bool false]) w := by kernel_rfl
@[go_sem] theorem ta_Close_Begin (v : Value) (w : World) : (Instr.typeAssert (.iface 46 v) 20 43 true).run Try.prog w = .ok (.tuple #[.agg #[.bool false, .int .i64 0], .bool false]) w := by kernel_rfl
@[go_sem] theorem ta_Close_Close (v : Value) (w : World) : (Instr.typeAssert (.iface 46 v) 20 46 true).run Try.prog w = .ok (.tuple #[v, .bool true]) w := by kernel_rfl
@[go_sem] theorem ta_nil_bool (w : World) : (Instr.typeAssert .nilIface 20 4 true).run Try.prog w = .ok (.tuple #[.bool false, .bool false]) w := by kernel_rfl
@[go_sem] theorem ta_nil_Whole (w : World) : (Instr.typeAssert .nilIface 20 52 true).run Try.prog w = .ok (.tuple #[.agg #[.bool false, .int .u64 0], .bool false]) w := by kernel_rfl
@[go_sem] theorem ta_nil_Word (w : World) : (Instr.typeAssert .nilIface 20 58 true).run Try.prog w = .ok (.tuple #[.string ⟨#[]⟩, .bool false]) w := by kernel_rfl
@[go_sem] theorem ta_nil_Blob (w : World) : (Instr.typeAssert .nilIface 20 59 true).run Try.prog w = .ok (.tuple #[.string ⟨#[]⟩, .bool false]) w := by kernel_rfl
@[go_sem] theorem ta_nil_Begin (w : World) : (Instr.typeAssert .nilIface 20 43 true).run Try.prog w = .ok (.tuple #[.agg #[.bool false, .int .i64 0], .bool false]) w := by kernel_rfl
@[go_sem] theorem ta_nil_Close (w : World) : (Instr.typeAssert .nilIface 20 46 true).run Try.prog w = .ok (.tuple #[.agg #[], .bool false]) w := by kernel_rfl
@[go_sem] theorem ta_int_bool (v : Value) (w : World) : (Instr.typeAssert (.iface 3 v) 20 4 true).run Try.prog w = .ok (.tuple #[.bool false, .bool false]) w := by kernel_rfl
@[go_sem] theorem ta_int_Whole (v : Value) (w : World) : (Instr.typeAssert (.iface 3 v) 20 52 true).run Try.prog w = .ok (.tuple #[.agg #[.bool false, .int .u64 0], .bool false]) w := by kernel_rfl
@[go_sem] theorem ta_int_Word (v : Value) (w : World) : (Instr.typeAssert (.iface 3 v) 20 58 true).run Try.prog w = .ok (.tuple #[.string ⟨#[]⟩, .bool false]) w := by kernel_rfl
@[go_sem] theorem ta_int_Blob (v : Value) (w : World) : (Instr.typeAssert (.iface 3 v) 20 59 true).run Try.prog w = .ok (.tuple #[.string ⟨#[]⟩, .bool false]) w := by kernel_rfl
@[go_sem] theorem ta_int_Begin (v : Value) (w : World) : (Instr.typeAssert (.iface 3 v) 20 43 true).run Try.prog w = .ok (.tuple #[.agg #[.bool false, .int .i64 0], .bool false]) w := by kernel_rfl
@[go_sem] theorem ta_int_Close (v : Value) (w : World) : (Instr.typeAssert (.iface 3 v) 20 46 true).run Try.prog w = .ok (.tuple #[.agg #[], .bool false]) w := by kernel_rfl
@[go_sem] theorem ta_string_bool (v : Value) (w : World) : (Instr.typeAssert (.iface 9 v) 20 4 true).run Try.prog w = .ok (.tuple #[.bool false, .bool false]) w := by kernel_rfl
@[go_sem] theorem ta_string_Whole (v : Value) (w : World) : (Instr.typeAssert (.iface 9 v) 20 52 true).run Try.prog w = .ok (.tuple #[.agg #[.bool false, .int .u64 0], .bool false]) w := by kernel_rfl
@[go_sem] theorem ta_string_Word (v : Value) (w : World) : (Instr.typeAssert (.iface 9 v) 20 58 true).run Try.prog w = .ok (.tuple #[.string ⟨#[]⟩, .bool false]) w := by kernel_rfl
@[go_sem] theorem ta_string_Blob (v : Value) (w : World) : (Instr.typeAssert (.iface 9 v) 20 59 true).run Try.prog w = .ok (.tuple #[.string ⟨#[]⟩, .bool false]) w := by kernel_rfl
@[go_sem] theorem ta_string_Begin (v : Value) (w : World) : (Instr.typeAssert (.iface 9 v) 20 43 true).run Try.prog w = .ok (.tuple #[.agg #[.bool false, .int .i64 0], .bool false]) w := by kernel_rfl
@[go_sem] theorem ta_string_Close (v : Value) (w : World) : (Instr.typeAssert (.iface 9 v) 20 46 true).run Try.prog w = .ok (.tuple #[.agg #[], .bool false]) w := by kernel_rfl
end Go.Proofs.Ytmhkgfddlkdmgaa
