/- The seat's types: sizes and zero values (printed by a program). -/
import Derived.Test.YtecjokjmmejinaaSt
import Derived.Test.YtecjokjmmejinaaProg
import Derived.KernelRfl
namespace Go.Proofs.Ytecjokjmmejinaa
open Go.RowKit SL
instance : FlatI Try.prog 1 := ⟨by kernel_rfl, by kernel_rfl⟩
instance : ZeroI Try.prog 1 [.nilFunc] := ⟨.nilFunc, by kernel_rfl, rfl⟩
instance : FlatI Try.prog 2 := ⟨by kernel_rfl, by kernel_rfl⟩
instance : ZeroI Try.prog 2 [(.int .i64 0)] := ⟨(.int .i64 0), by kernel_rfl, rfl⟩
instance : FlatI Try.prog 3 := ⟨by kernel_rfl, by kernel_rfl⟩
instance : ZeroI Try.prog 3 [(.int .i64 0)] := ⟨(.int .i64 0), by kernel_rfl, rfl⟩
instance : FlatI Try.prog 4 := ⟨by kernel_rfl, by kernel_rfl⟩
instance : ZeroI Try.prog 4 [(.bool false)] := ⟨(.bool false), by kernel_rfl, rfl⟩
instance : FlatI Try.prog 5 := ⟨by kernel_rfl, by kernel_rfl⟩
instance : ZeroI Try.prog 5 [(.int .u8 0)] := ⟨(.int .u8 0), by kernel_rfl, rfl⟩
instance : FlatI Try.prog 9 := ⟨by kernel_rfl, by kernel_rfl⟩
instance : ZeroI Try.prog 9 [(.string ByteArray.empty)] := ⟨(.string ByteArray.empty), by kernel_rfl, rfl⟩
instance : FlatI Try.prog 15 := ⟨by kernel_rfl, by kernel_rfl⟩
instance : ZeroI Try.prog 15 [(.pointer none)] := ⟨(.pointer none), by kernel_rfl, rfl⟩
instance : FlatI Try.prog 16 := ⟨by kernel_rfl, by kernel_rfl⟩
instance : ZeroI Try.prog 16 [(.pointer none)] := ⟨(.pointer none), by kernel_rfl, rfl⟩
instance : FlatI Try.prog 17 := ⟨by kernel_rfl, by kernel_rfl⟩
instance : ZeroI Try.prog 17 [(.pointer none)] := ⟨(.pointer none), by kernel_rfl, rfl⟩
instance : RowTI Try.prog 18 1 := ⟨by kernel_rfl, by kernel_rfl⟩
instance : ZeroI Try.prog 18 [(.pointer none)] := ⟨.agg #[(.pointer none)], by kernel_rfl, rfl⟩
instance : FlatI Try.prog 21 := ⟨by kernel_rfl, by kernel_rfl⟩
instance : ZeroI Try.prog 21 [(.int .i32 0)] := ⟨(.int .i32 0), by kernel_rfl, rfl⟩
instance : FlatI Try.prog 22 := ⟨by kernel_rfl, by kernel_rfl⟩
instance : ZeroI Try.prog 22 [(.slice none 0 0)] := ⟨(.slice none 0 0), by kernel_rfl, rfl⟩
instance : RowTI Try.prog 23 4 := ⟨by kernel_rfl, by kernel_rfl⟩
instance : ZeroI Try.prog 23 [(.int .i64 0), (.slice none 0 0), (.int .i64 0), (.slice none 0 0)] := ⟨.agg #[(.int .i64 0), (.slice none 0 0), (.int .i64 0), (.slice none 0 0)], by kernel_rfl, rfl⟩
instance : RowTI Try.prog 24 4 := ⟨by kernel_rfl, by kernel_rfl⟩
instance : ZeroI Try.prog 24 [(.int .i64 0), (.slice none 0 0), (.int .i64 0), (.slice none 0 0)] := ⟨.agg #[(.int .i64 0), (.slice none 0 0), (.int .i64 0), (.slice none 0 0)], by kernel_rfl, rfl⟩
instance : RowTI Try.prog 26 4 := ⟨by kernel_rfl, by kernel_rfl⟩
instance : ZeroI Try.prog 26 [(.int .i64 0), (.slice none 0 0), (.int .i64 0), (.slice none 0 0)] := ⟨.agg #[(.int .i64 0), (.slice none 0 0), (.int .i64 0), (.slice none 0 0)], by kernel_rfl, rfl⟩
instance : FlatI Try.prog 27 := ⟨by kernel_rfl, by kernel_rfl⟩
instance : ZeroI Try.prog 27 [(.slice none 0 0)] := ⟨(.slice none 0 0), by kernel_rfl, rfl⟩
instance : FlatI Try.prog 41 := ⟨by kernel_rfl, by kernel_rfl⟩
instance : ZeroI Try.prog 41 [(.slice none 0 0)] := ⟨(.slice none 0 0), by kernel_rfl, rfl⟩
instance : RowTI Try.prog 52 5 := ⟨by kernel_rfl, by kernel_rfl⟩
instance : ZeroI Try.prog 52 [(.int .i64 0), (.int .i64 0), (.slice none 0 0), (.int .i64 0), (.slice none 0 0)] := ⟨.agg #[(.int .i64 0), (.int .i64 0), (.slice none 0 0), (.int .i64 0), (.slice none 0 0)], by kernel_rfl, rfl⟩
instance : RowTI Try.prog 53 5 := ⟨by kernel_rfl, by kernel_rfl⟩
instance : ZeroI Try.prog 53 [(.int .i64 0), (.int .i64 0), (.slice none 0 0), (.int .i64 0), (.slice none 0 0)] := ⟨.agg #[(.int .i64 0), (.int .i64 0), (.slice none 0 0), (.int .i64 0), (.slice none 0 0)], by kernel_rfl, rfl⟩
instance : FlatI Try.prog 55 := ⟨by kernel_rfl, by kernel_rfl⟩
instance : ZeroI Try.prog 55 [(.pointer none)] := ⟨(.pointer none), by kernel_rfl, rfl⟩
instance : RowTI Try.prog 71 3 := ⟨by kernel_rfl, by kernel_rfl⟩
instance : ZeroI Try.prog 71 [(.slice none 0 0), (.int .i64 0), (.int .i64 0)] := ⟨.agg #[(.slice none 0 0), (.int .i64 0), (.int .i64 0)], by kernel_rfl, rfl⟩
instance : RowTI Try.prog 72 3 := ⟨by kernel_rfl, by kernel_rfl⟩
instance : ZeroI Try.prog 72 [(.slice none 0 0), (.int .i64 0), (.int .i64 0)] := ⟨.agg #[(.slice none 0 0), (.int .i64 0), (.int .i64 0)], by kernel_rfl, rfl⟩
instance : FlatI Try.prog 77 := ⟨by kernel_rfl, by kernel_rfl⟩
instance : ZeroI Try.prog 77 [(.slice none 0 0)] := ⟨(.slice none 0 0), by kernel_rfl, rfl⟩
instance : FlatI Try.prog 80 := ⟨by kernel_rfl, by kernel_rfl⟩
instance : ZeroI Try.prog 80 [(.pointer none)] := ⟨(.pointer none), by kernel_rfl, rfl⟩
instance : FlatI Try.prog 82 := ⟨by kernel_rfl, by kernel_rfl⟩
instance : ZeroI Try.prog 82 [(.int .u64 0)] := ⟨(.int .u64 0), by kernel_rfl, rfl⟩
instance : FlatI Try.prog 85 := ⟨by kernel_rfl, by kernel_rfl⟩
instance : ZeroI Try.prog 85 [(.pointer none)] := ⟨(.pointer none), by kernel_rfl, rfl⟩
instance : RowTI Try.prog 88 4 := ⟨by kernel_rfl, by kernel_rfl⟩
instance : ZeroI Try.prog 88 [(.pointer none), (.pointer none), (.pointer none), (.string ByteArray.empty)] := ⟨.agg #[(.pointer none), (.pointer none), (.pointer none), (.string ByteArray.empty)], by kernel_rfl, rfl⟩
instance : FlatI Try.prog 94 := ⟨by kernel_rfl, by kernel_rfl⟩
instance : ZeroI Try.prog 94 [(.int .u32 0)] := ⟨(.int .u32 0), by kernel_rfl, rfl⟩
instance : FlatI Try.prog 98 := ⟨by kernel_rfl, by kernel_rfl⟩
instance : ZeroI Try.prog 98 [(.pointer none)] := ⟨(.pointer none), by kernel_rfl, rfl⟩
end Go.Proofs.Ytecjokjmmejinaa
