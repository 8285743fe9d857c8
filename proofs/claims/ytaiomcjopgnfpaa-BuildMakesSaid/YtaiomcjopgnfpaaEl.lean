/- The element types of the slices of this dump. -/
import Derived.Test.YtaiomcjopgnfpaaRows
import Derived.Test.YtaiomcjopgnfpaaOwn
namespace Go.Proofs.Ytaiomcjopgnfpaa
open Go.RowKit

theorem el_u8 : ElemT Try.prog 126 5 (.int .u8 0) 1 1 := ⟨Try.underlying126, by kernel_rfl, rfl, by decide⟩
theorem el_str : ElemT Try.prog 153 9 (.string ⟨#[]⟩) 1 16 := ⟨Try.underlying153, by kernel_rfl, rfl, by decide⟩
theorem el_int : ElemT Try.prog 169 3 (.int .i64 0) 1 8 := ⟨Try.underlying169, by kernel_rfl, rfl, by decide⟩
theorem el_node : ElemT Try.prog 100 99 (.pointer none) 1 8 := ⟨Try.underlying100, by kernel_rfl, rfl, by decide⟩
theorem el_rnode : ElemT Try.prog 113 63 (.pointer none) 1 8 := ⟨Try.underlying113, by kernel_rfl, rfl, by decide⟩
theorem el_ins : ElemT Try.prog 25 52 (.agg #[.int .i64 0, .int .i64 0, .int .i64 0, .int .i64 0, .string ⟨#[]⟩]) 5 48 := ⟨Try.underlying25, by kernel_rfl, rfl, by decide⟩

end Go.Proofs.Ytaiomcjopgnfpaa
