/- The seat's base: D over the program, without stand-ins; structs' cells (printed by GenBase.lean). -/
import Derived.Test.YtcookjolkhcjhaaD26
import Derived.Test.YtcookjolkhcjhaaDEnv
namespace Go.Proofs.Ytcookjolkhcjhaa
open Go Go.Proofs.Ytcookjolkhcjhaa.D
noncomputable def E0 : Env := DEnv.env fun _ => none
/-- [x, y, signed, code] -/
abbrev G7 : List Sc := [.int .i64, .int .i64, .bool, .int .u8]
/-- [msg, addr] -/
abbrev G13 : List Sc := [.str, .int .u64]
/-- [Is, Cell, Robot] -/
abbrev G22 : List Sc := [.bool, .int .i64, .int .i64]
/-- [Self, Prio, W] -/
abbrev G24 : List Sc := [.int .i64, .int .i64, .bool, .int .i64, .int .i64]
/-- [Kind, Cell, Gen, Stamp, Prio, Hops, Origin, Other, Claims] -/
abbrev G29 : List Sc := [.int .i64, .int .i64, .int .u32, .int .u64, .int .i64, .int .i64, .int .i64, .int .i64, .sl]
/-- [Sent, Delivered, Dropped, Doubled, Spoilt, Lost] -/
abbrev G56 : List Sc := [.int .i64, .int .i64, .int .i64, .int .i64, .int .i64, .int .i64]
/-- [l, last, count] -/
abbrev G58 : List Sc := [.sl, .int .i64, .int .i64, .int .i64, .int .i64, .int .i64, .int .i64, .int .i64]
/-- [Kind, N, At, Data, With, Many] -/
abbrev G61 : List Sc := [.int .i64, .int .i64, .int .i64, .sl, .int .u8, .int .i64]
/-- [N, From, To, Data, Spoil] -/
abbrev G66 : List Sc := [.int .i64, .int .i64, .int .i64, .sl, .bool]
/-- [Kind, Robot, N, At, With, Draw] -/
abbrev G104 : List Sc := [.int .i64, .int .i64, .int .i64, .int .i64, .int .i64, .int .u64]
/-- [_interface, concrete, asserted, missingMethod] -/
abbrev G130 : List Sc := [.ptr, .ptr, .ptr, .str]
/-- [Size_, PtrBytes, Hash, TFlag, Align_, FieldAlign_, Kind_, Equal, GCData, Str, PtrToThis] -/
abbrev G141 : List Sc := [.int .u64, .int .u64, .int .u32, .int .u8, .int .u8, .int .u8, .int .u8, .any, .ptr, .int .i32, .int .i32]
/-- [Cell, Gen] -/
abbrev G143 : List Sc := [.int .i64, .int .u32]
end Go.Proofs.Ytcookjolkhcjhaa
