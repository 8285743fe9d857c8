/- The element types of the slices of this dump. -/
import Derived.Test.YtieocihlkpipmaaRows
import Derived.Test.YtieocihlkpipmaaOwn
namespace Go.Proofs.Ytieocihlkpipmaa
open Go.RowKit

theorem el_u8 : ElemT Try.prog 111 5 (.int .u8 0) 1 1 := ⟨Try.underlying111, by kernel_rfl, rfl, by decide⟩
theorem el_str : ElemT Try.prog 46 9 (.string ⟨#[]⟩) 1 16 := ⟨Try.underlying46, by kernel_rfl, rfl, by decide⟩
theorem el_int : ElemT Try.prog 134 3 (.int .i64 0) 1 8 := ⟨Try.underlying134, by kernel_rfl, rfl, by decide⟩
theorem el_node : ElemT Try.prog 97 96 (.pointer none) 1 8 := ⟨Try.underlying97, by kernel_rfl, rfl, by decide⟩
theorem el_rnode : ElemT Try.prog 105 32 (.pointer none) 1 8 := ⟨Try.underlying105, by kernel_rfl, rfl, by decide⟩
theorem el_ins : ElemT Try.prog 23 73 (.agg #[.int .i64 0, .int .i64 0, .int .i64 0, .int .i64 0, .string ⟨#[]⟩]) 5 48 := ⟨Try.underlying23, by kernel_rfl, rfl, by decide⟩

end Go.Proofs.Ytieocihlkpipmaa
