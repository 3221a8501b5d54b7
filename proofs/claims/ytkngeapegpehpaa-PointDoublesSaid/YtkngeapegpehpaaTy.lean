import Derived.Test.YtkngeapegpehpaaProg
import Derived.Test.YtkngeapegpehpaaEngH
import Derived.Test.YtkngeapegpehpaaBytesL
import Derived.KernelRfl
namespace Go.Proofs.Ytkngeapegpehpaa.W
open Go Go.Eng Go.Byt
theorem pl7 : Pl Try.prog 7 [(0, 1), (1, 1), (2, 1), (3, 1)] := by unfold Pl; kernel_rfl
theorem pl8 : Pl Try.prog 8 [(0, 1), (1, 1), (2, 1), (3, 1)] := by unfold Pl; kernel_rfl
theorem pl13 : Pl Try.prog 13 [(0, 1), (1, 1)] := by unfold Pl; kernel_rfl
theorem pl14 : Pl Try.prog 14 [(0, 1), (1, 1)] := by unfold Pl; kernel_rfl
theorem pl18 : Pl Try.prog 18 [(0, 1)] := by unfold Pl; kernel_rfl
theorem pl19 : Pl Try.prog 19 [(0, 1)] := by unfold Pl; kernel_rfl
theorem pl27 : Pl Try.prog 27 [(0, 5)] := by unfold Pl; kernel_rfl
theorem pl28 : Pl Try.prog 28 [(0, 5)] := by unfold Pl; kernel_rfl
theorem pl29 : Pl Try.prog 29 [(0, 5), (5, 5), (10, 5), (15, 5)] := by unfold Pl; kernel_rfl
theorem pl30 : Pl Try.prog 30 [(0, 5), (5, 5), (10, 5), (15, 5)] := by unfold Pl; kernel_rfl
theorem pl35 : Pl Try.prog 35 [(0, 16)] := by unfold Pl; kernel_rfl
theorem pl36 : Pl Try.prog 36 [(0, 16)] := by unfold Pl; kernel_rfl
theorem pl37 : Pl Try.prog 37 [(0, 16), (16, 16), (32, 16), (48, 16)] := by unfold Pl; kernel_rfl
theorem pl38 : Pl Try.prog 38 [(0, 16), (16, 16), (32, 16), (48, 16)] := by unfold Pl; kernel_rfl
theorem pl105 : Pl Try.prog 105 [(0, 1), (1, 1)] := by unfold Pl; kernel_rfl
theorem pl106 : Pl Try.prog 106 [(0, 1), (1, 1)] := by unfold Pl; kernel_rfl
theorem pl118 : Pl Try.prog 118 [(0, 1), (1, 1), (2, 1), (3, 1)] := by unfold Pl; kernel_rfl
theorem pl119 : Pl Try.prog 119 [(0, 1), (1, 1), (2, 1), (3, 1)] := by unfold Pl; kernel_rfl
theorem pl130 : Pl Try.prog 130 [(0, 1), (1, 1), (2, 1), (3, 1), (4, 1), (5, 1), (6, 1), (7, 1), (8, 1), (9, 1), (10, 1)] := by unfold Pl; kernel_rfl
theorem pl131 : Pl Try.prog 131 [(0, 1), (1, 1), (2, 1), (3, 1), (4, 1), (5, 1), (6, 1), (7, 1), (8, 1), (9, 1), (10, 1)] := by unfold Pl; kernel_rfl
theorem ty2 : Ty Try.prog 2 ([.int .i64 0]) 1 8 := by unfold Ty; kernel_rfl
theorem ty3 : Ty Try.prog 3 ([.int .i64 0]) 1 8 := by unfold Ty; kernel_rfl
theorem ty4 : Ty Try.prog 4 ([.bool false]) 1 1 := by unfold Ty; kernel_rfl
theorem ty5 : Ty Try.prog 5 ([.int .u8 0]) 1 1 := by unfold Ty; kernel_rfl
theorem ty6 : Ty Try.prog 6 ([.int .u8 0]) 1 1 := by unfold Ty; kernel_rfl
theorem ty7 : Ty Try.prog 7 ([.int .i64 0, .int .i64 0, .bool false, .int .u8 0]) 4 24 := by unfold Ty; kernel_rfl
theorem ty8 : Ty Try.prog 8 ([.int .i64 0, .int .i64 0, .bool false, .int .u8 0]) 4 24 := by unfold Ty; kernel_rfl
theorem ty9 : Ty Try.prog 9 ([.string ⟨#[]⟩]) 1 16 := by unfold Ty; kernel_rfl
theorem ty10 : Ty Try.prog 10 ([.string ⟨#[]⟩]) 1 16 := by unfold Ty; kernel_rfl
theorem ty11 : Ty Try.prog 11 ([.string ⟨#[]⟩]) 1 16 := by unfold Ty; kernel_rfl
theorem ty12 : Ty Try.prog 12 ([.int .u64 0]) 1 8 := by unfold Ty; kernel_rfl
theorem ty13 : Ty Try.prog 13 ([.string ⟨#[]⟩, .int .u64 0]) 2 24 := by unfold Ty; kernel_rfl
theorem ty14 : Ty Try.prog 14 ([.string ⟨#[]⟩, .int .u64 0]) 2 24 := by unfold Ty; kernel_rfl
theorem ty15 : Ty Try.prog 15 ([.pointer none]) 1 8 := by unfold Ty; kernel_rfl
theorem ty16 : Ty Try.prog 16 ([.pointer none]) 1 8 := by unfold Ty; kernel_rfl
theorem ty17 : Ty Try.prog 17 ([.pointer none]) 1 8 := by unfold Ty; kernel_rfl
theorem ty18 : Ty Try.prog 18 ([.pointer none]) 1 8 := by unfold Ty; kernel_rfl
theorem ty19 : Ty Try.prog 19 ([.pointer none]) 1 8 := by unfold Ty; kernel_rfl
theorem ty21 : Ty Try.prog 21 ([.int .i32 0]) 1 4 := by unfold Ty; kernel_rfl
theorem ty22 : Ty Try.prog 22 ([.slice none 0 0]) 1 24 := by unfold Ty; kernel_rfl
theorem ty24 : Ty Try.prog 24 ([.int .u64 0]) 1 8 := by unfold Ty; kernel_rfl
theorem ty25 : Ty Try.prog 25 ([.int .u64 0, .int .u64 0, .int .u64 0, .int .u64 0, .int .u64 0]) 5 40 := by unfold Ty; kernel_rfl
theorem ty26 : Ty Try.prog 26 ([.int .u64 0, .int .u64 0, .int .u64 0, .int .u64 0, .int .u64 0]) 5 40 := by unfold Ty; kernel_rfl
theorem ty27 : Ty Try.prog 27 ([.int .u64 0, .int .u64 0, .int .u64 0, .int .u64 0, .int .u64 0]) 5 40 := by unfold Ty; kernel_rfl
theorem ty28 : Ty Try.prog 28 ([.int .u64 0, .int .u64 0, .int .u64 0, .int .u64 0, .int .u64 0]) 5 40 := by unfold Ty; kernel_rfl
theorem ty29 : Ty Try.prog 29 (List.replicate 20 (.int .u64 0)) 20 160 := by unfold Ty; kernel_rfl
theorem ty30 : Ty Try.prog 30 (List.replicate 20 (.int .u64 0)) 20 160 := by unfold Ty; kernel_rfl
theorem ty31 : Ty Try.prog 31 ([.int .i64 0]) 1 8 := by unfold Ty; kernel_rfl
theorem ty34 : Ty Try.prog 34 (List.replicate 16 (.int .i64 0)) 16 128 := by unfold Ty; kernel_rfl
theorem ty35 : Ty Try.prog 35 (List.replicate 16 (.int .i64 0)) 16 128 := by unfold Ty; kernel_rfl
theorem ty36 : Ty Try.prog 36 (List.replicate 16 (.int .i64 0)) 16 128 := by unfold Ty; kernel_rfl
theorem ty37 : Ty Try.prog 37 (List.replicate 64 (.int .i64 0)) 64 512 := by unfold Ty; kernel_rfl
theorem ty38 : Ty Try.prog 38 (List.replicate 64 (.int .i64 0)) 64 512 := by unfold Ty; kernel_rfl
theorem ty53 : Ty Try.prog 53 ([.int .u64 0]) 1 8 := by unfold Ty; kernel_rfl
theorem ty82 : Ty Try.prog 82 (List.replicate 320 (.int .u64 0)) 320 2560 := by unfold Ty; kernel_rfl
theorem ty84 : Ty Try.prog 84 (List.replicate 9 (.int .u64 0)) 9 72 := by unfold Ty; kernel_rfl
theorem ty85 : Ty Try.prog 85 (List.replicate 9 (.int .u64 0)) 9 72 := by unfold Ty; kernel_rfl
theorem ty99 : Ty Try.prog 99 (List.replicate 31 (.int .i64 0)) 31 248 := by unfold Ty; kernel_rfl
theorem ty104 : Ty Try.prog 104 ([.int .u64 0, .int .u64 0, .int .u64 0, .int .u64 0]) 4 32 := by unfold Ty; kernel_rfl
theorem ty105 : Ty Try.prog 105 ([.int .u64 0, .int .u64 0]) 2 16 := by unfold Ty; kernel_rfl
theorem ty106 : Ty Try.prog 106 ([.int .u64 0, .int .u64 0]) 2 16 := by unfold Ty; kernel_rfl
theorem ty108 : Ty Try.prog 108 (List.replicate 10 (.int .u64 0)) 10 80 := by unfold Ty; kernel_rfl
theorem ty113 : Ty Try.prog 113 ([.int .u32 0]) 1 4 := by unfold Ty; kernel_rfl
theorem ty116 : Ty Try.prog 116 (List.replicate 32 (.int .u8 0)) 32 32 := by unfold Ty; kernel_rfl
theorem ty118 : Ty Try.prog 118 ([.pointer none, .pointer none, .pointer none, .string ⟨#[]⟩]) 4 40 := by unfold Ty; kernel_rfl
theorem ty119 : Ty Try.prog 119 ([.pointer none, .pointer none, .pointer none, .string ⟨#[]⟩]) 4 40 := by unfold Ty; kernel_rfl
theorem ty124 : Ty Try.prog 124 ([.int .u8 0]) 1 1 := by unfold Ty; kernel_rfl
theorem ty125 : Ty Try.prog 125 ([.int .u8 0]) 1 1 := by unfold Ty; kernel_rfl
theorem ty127 : Ty Try.prog 127 ([.pointer none]) 1 8 := by unfold Ty; kernel_rfl
theorem ty128 : Ty Try.prog 128 ([.int .i32 0]) 1 4 := by unfold Ty; kernel_rfl
theorem ty129 : Ty Try.prog 129 ([.int .i32 0]) 1 4 := by unfold Ty; kernel_rfl
theorem ty130 : Ty Try.prog 130 ([.int .u64 0, .int .u64 0, .int .u32 0, .int .u8 0, .int .u8 0, .int .u8 0, .int .u8 0, .nilFunc, .pointer none, .int .i32 0, .int .i32 0]) 11 48 := by unfold Ty; kernel_rfl
theorem ty131 : Ty Try.prog 131 ([.int .u64 0, .int .u64 0, .int .u32 0, .int .u8 0, .int .u8 0, .int .u8 0, .int .u8 0, .nilFunc, .pointer none, .int .i32 0, .int .i32 0]) 11 48 := by unfold Ty; kernel_rfl
theorem sc2 : scB Try.prog 2 = true := by kernel_rfl
theorem sc3 : scB Try.prog 3 = true := by kernel_rfl
theorem sc4 : scB Try.prog 4 = true := by kernel_rfl
theorem sc5 : scB Try.prog 5 = true := by kernel_rfl
theorem sc6 : scB Try.prog 6 = true := by kernel_rfl
theorem sc9 : scB Try.prog 9 = true := by kernel_rfl
theorem sc10 : scB Try.prog 10 = true := by kernel_rfl
theorem sc11 : scB Try.prog 11 = true := by kernel_rfl
theorem sc12 : scB Try.prog 12 = true := by kernel_rfl
theorem sc15 : scB Try.prog 15 = true := by kernel_rfl
theorem sc16 : scB Try.prog 16 = true := by kernel_rfl
theorem sc17 : scB Try.prog 17 = true := by kernel_rfl
theorem sc21 : scB Try.prog 21 = true := by kernel_rfl
theorem sc22 : scB Try.prog 22 = true := by kernel_rfl
theorem sc24 : scB Try.prog 24 = true := by kernel_rfl
theorem sc31 : scB Try.prog 31 = true := by kernel_rfl
theorem sc53 : scB Try.prog 53 = true := by kernel_rfl
theorem sc113 : scB Try.prog 113 = true := by kernel_rfl
theorem sc124 : scB Try.prog 124 = true := by kernel_rfl
theorem sc125 : scB Try.prog 125 = true := by kernel_rfl
theorem sc127 : scB Try.prog 127 = true := by kernel_rfl
theorem sc128 : scB Try.prog 128 = true := by kernel_rfl
theorem sc129 : scB Try.prog 129 = true := by kernel_rfl
theorem ag7 : agB Try.prog 7 = true := by kernel_rfl
theorem ag8 : agB Try.prog 8 = true := by kernel_rfl
theorem ag13 : agB Try.prog 13 = true := by kernel_rfl
theorem ag14 : agB Try.prog 14 = true := by kernel_rfl
theorem ag18 : agB Try.prog 18 = true := by kernel_rfl
theorem ag19 : agB Try.prog 19 = true := by kernel_rfl
theorem ag25 : agB Try.prog 25 = true := by kernel_rfl
theorem ag26 : agB Try.prog 26 = true := by kernel_rfl
theorem ag27 : agB Try.prog 27 = true := by kernel_rfl
theorem ag28 : agB Try.prog 28 = true := by kernel_rfl
theorem ag29 : agB Try.prog 29 = true := by kernel_rfl
theorem ag30 : agB Try.prog 30 = true := by kernel_rfl
theorem ag34 : agB Try.prog 34 = true := by kernel_rfl
theorem ag35 : agB Try.prog 35 = true := by kernel_rfl
theorem ag36 : agB Try.prog 36 = true := by kernel_rfl
theorem ag37 : agB Try.prog 37 = true := by kernel_rfl
theorem ag38 : agB Try.prog 38 = true := by kernel_rfl
theorem ag82 : agB Try.prog 82 = true := by kernel_rfl
theorem ag84 : agB Try.prog 84 = true := by kernel_rfl
theorem ag85 : agB Try.prog 85 = true := by kernel_rfl
theorem ag99 : agB Try.prog 99 = true := by kernel_rfl
theorem ag104 : agB Try.prog 104 = true := by kernel_rfl
theorem ag105 : agB Try.prog 105 = true := by kernel_rfl
theorem ag106 : agB Try.prog 106 = true := by kernel_rfl
theorem ag108 : agB Try.prog 108 = true := by kernel_rfl
theorem ag116 : agB Try.prog 116 = true := by kernel_rfl
theorem ag118 : agB Try.prog 118 = true := by kernel_rfl
theorem ag119 : agB Try.prog 119 = true := by kernel_rfl
theorem ag130 : agB Try.prog 130 = true := by kernel_rfl
theorem ag131 : agB Try.prog 131 = true := by kernel_rfl
abbrev OwnB (w : World) (lo : Nat) (v : Value) (xs : List UInt8) : Prop := Own w lo 5 1 v xs.length (bv xs)
theorem mixed : Try.prog.follows .mixedOrders = true := by kernel_rfl
end Go.Proofs.Ytkngeapegpehpaa.W
