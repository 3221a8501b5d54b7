import Derived.Test.YtdbfpmkilchilaaProg
import Derived.Test.YtdbfpmkilchilaaEngH
import Derived.Test.YtdbfpmkilchilaaBytesL
import Derived.KernelRfl
namespace Go.Proofs.Ytdbfpmkilchilaa.W
open Go Go.Eng Go.Byt
theorem pl7 : Pl Try.prog 7 [(0, 1), (1, 1), (2, 1), (3, 1)] := by unfold Pl; kernel_rfl
theorem pl8 : Pl Try.prog 8 [(0, 1), (1, 1), (2, 1), (3, 1)] := by unfold Pl; kernel_rfl
theorem pl13 : Pl Try.prog 13 [(0, 1), (1, 1)] := by unfold Pl; kernel_rfl
theorem pl14 : Pl Try.prog 14 [(0, 1), (1, 1)] := by unfold Pl; kernel_rfl
theorem pl18 : Pl Try.prog 18 [(0, 1)] := by unfold Pl; kernel_rfl
theorem pl19 : Pl Try.prog 19 [(0, 1)] := by unfold Pl; kernel_rfl
theorem pl23 : Pl Try.prog 23 [(0, 1), (1, 1), (2, 1), (3, 1), (4, 1), (5, 1), (6, 1)] := by unfold Pl; kernel_rfl
theorem pl24 : Pl Try.prog 24 [(0, 1), (1, 1), (2, 1), (3, 1), (4, 1), (5, 1), (6, 1)] := by unfold Pl; kernel_rfl
theorem pl28 : Pl Try.prog 28 [(0, 1), (1, 1), (2, 1), (3, 1), (4, 1), (5, 1), (6, 1)] := by unfold Pl; kernel_rfl
theorem pl35 : Pl Try.prog 35 [(0, 1), (1, 1)] := by unfold Pl; kernel_rfl
theorem pl36 : Pl Try.prog 36 [(0, 1), (1, 1)] := by unfold Pl; kernel_rfl
theorem pl39 : Pl Try.prog 39 [(0, 1), (1, 1)] := by unfold Pl; kernel_rfl
theorem pl40 : Pl Try.prog 40 [(0, 1), (1, 1)] := by unfold Pl; kernel_rfl
theorem pl52 : Pl Try.prog 52 [(0, 1), (1, 1), (2, 1), (3, 1), (4, 1), (5, 1)] := by unfold Pl; kernel_rfl
theorem pl53 : Pl Try.prog 53 [(0, 1), (1, 1), (2, 1), (3, 1), (4, 1), (5, 1)] := by unfold Pl; kernel_rfl
theorem pl54 : Pl Try.prog 54 [(0, 1), (1, 6), (7, 1)] := by unfold Pl; kernel_rfl
theorem pl55 : Pl Try.prog 55 [(0, 1), (1, 6), (7, 1)] := by unfold Pl; kernel_rfl
theorem pl56 : Pl Try.prog 56 [(0, 1), (1, 8), (9, 6), (15, 1), (16, 1), (17, 1), (18, 1)] := by unfold Pl; kernel_rfl
theorem pl57 : Pl Try.prog 57 [(0, 1), (1, 8), (9, 6), (15, 1), (16, 1), (17, 1), (18, 1)] := by unfold Pl; kernel_rfl
theorem pl58 : Pl Try.prog 58 [(0, 1), (1, 1), (2, 1), (3, 1), (4, 1), (5, 1)] := by unfold Pl; kernel_rfl
theorem pl59 : Pl Try.prog 59 [(0, 1), (1, 6), (7, 1)] := by unfold Pl; kernel_rfl
theorem pl60 : Pl Try.prog 60 [(0, 1), (1, 6), (7, 1)] := by unfold Pl; kernel_rfl
theorem pl61 : Pl Try.prog 61 [(0, 1), (1, 8), (9, 6), (15, 1), (16, 1), (17, 1), (18, 1)] := by unfold Pl; kernel_rfl
theorem pl62 : Pl Try.prog 62 [(0, 1), (1, 8), (9, 6), (15, 1), (16, 1), (17, 1), (18, 1)] := by unfold Pl; kernel_rfl
theorem pl73 : Pl Try.prog 73 [(0, 1), (1, 1)] := by unfold Pl; kernel_rfl
theorem pl74 : Pl Try.prog 74 [(0, 1), (1, 1)] := by unfold Pl; kernel_rfl
theorem pl76 : Pl Try.prog 76 [(0, 1), (1, 1)] := by unfold Pl; kernel_rfl
theorem pl77 : Pl Try.prog 77 [(0, 1), (1, 1)] := by unfold Pl; kernel_rfl
theorem pl87 : Pl Try.prog 87 [(0, 1), (1, 1), (2, 1), (3, 1)] := by unfold Pl; kernel_rfl
theorem pl88 : Pl Try.prog 88 [(0, 1), (1, 1), (2, 1), (3, 1)] := by unfold Pl; kernel_rfl
theorem pl89 : Pl Try.prog 89 [(0, 4), (4, 1), (5, 1), (6, 1), (7, 1), (8, 1)] := by unfold Pl; kernel_rfl
theorem pl90 : Pl Try.prog 90 [(0, 4), (4, 1), (5, 1), (6, 1), (7, 1), (8, 1)] := by unfold Pl; kernel_rfl
theorem pl91 : Pl Try.prog 91 [(0, 1), (1, 1), (2, 1), (3, 1)] := by unfold Pl; kernel_rfl
theorem pl92 : Pl Try.prog 92 [(0, 4), (4, 1), (5, 1), (6, 1), (7, 1), (8, 1)] := by unfold Pl; kernel_rfl
theorem pl93 : Pl Try.prog 93 [(0, 4), (4, 1), (5, 1), (6, 1), (7, 1), (8, 1)] := by unfold Pl; kernel_rfl
theorem pl104 : Pl Try.prog 104 [(0, 7), (7, 1), (8, 1), (9, 1)] := by unfold Pl; kernel_rfl
theorem pl105 : Pl Try.prog 105 [(0, 7), (7, 1), (8, 1), (9, 1)] := by unfold Pl; kernel_rfl
theorem pl108 : Pl Try.prog 108 [(0, 1), (1, 1), (2, 1)] := by unfold Pl; kernel_rfl
theorem pl109 : Pl Try.prog 109 [(0, 1), (1, 1), (2, 1)] := by unfold Pl; kernel_rfl
theorem pl110 : Pl Try.prog 110 [(0, 1), (1, 1), (2, 1)] := by unfold Pl; kernel_rfl
theorem pl122 : Pl Try.prog 122 [(0, 1), (1, 1), (2, 1)] := by unfold Pl; kernel_rfl
theorem pl123 : Pl Try.prog 123 [(0, 1), (1, 1), (2, 1)] := by unfold Pl; kernel_rfl
theorem pl145 : Pl Try.prog 145 [(0, 1), (1, 19)] := by unfold Pl; kernel_rfl
theorem pl146 : Pl Try.prog 146 [(0, 1), (1, 19)] := by unfold Pl; kernel_rfl
theorem pl148 : Pl Try.prog 148 [(0, 1), (1, 19)] := by unfold Pl; kernel_rfl
theorem pl149 : Pl Try.prog 149 [(0, 1), (1, 19)] := by unfold Pl; kernel_rfl
theorem pl150 : Pl Try.prog 150 [(0, 1), (1, 19)] := by unfold Pl; kernel_rfl
theorem pl151 : Pl Try.prog 151 [(0, 1), (1, 19)] := by unfold Pl; kernel_rfl
theorem pl169 : Pl Try.prog 169 [(0, 1), (1, 1), (2, 1)] := by unfold Pl; kernel_rfl
theorem pl170 : Pl Try.prog 170 [(0, 1), (1, 1), (2, 1)] := by unfold Pl; kernel_rfl
theorem pl181 : Pl Try.prog 181 [(0, 1), (1, 1), (2, 1)] := by unfold Pl; kernel_rfl
theorem pl182 : Pl Try.prog 182 [(0, 1), (1, 1), (2, 1)] := by unfold Pl; kernel_rfl
theorem pl208 : Pl Try.prog 208 [(0, 1), (1, 1), (2, 1), (3, 1)] := by unfold Pl; kernel_rfl
theorem pl209 : Pl Try.prog 209 [(0, 1), (1, 1), (2, 1), (3, 1)] := by unfold Pl; kernel_rfl
theorem pl220 : Pl Try.prog 220 [(0, 1), (1, 1), (2, 1), (3, 1), (4, 1), (5, 1), (6, 1), (7, 1), (8, 1), (9, 1), (10, 1)] := by unfold Pl; kernel_rfl
theorem pl221 : Pl Try.prog 221 [(0, 1), (1, 1), (2, 1), (3, 1), (4, 1), (5, 1), (6, 1), (7, 1), (8, 1), (9, 1), (10, 1)] := by unfold Pl; kernel_rfl
theorem ty2 : Ty Try.prog 2 ([.int .i64 0]) 1 8 := by unfold Ty; kernel_rfl
theorem ty3 : Ty Try.prog 3 ([.int .i64 0]) 1 8 := by unfold Ty; kernel_rfl
theorem ty4 : Ty Try.prog 4 ([.bool false]) 1 1 := by unfold Ty; kernel_rfl
theorem ty5 : Ty Try.prog 5 ([.int .u8 0]) 1 1 := by unfold Ty; kernel_rfl
theorem ty6 : Ty Try.prog 6 ([.int .u8 0]) 1 1 := by unfold Ty; kernel_rfl
theorem ty7 : Ty Try.prog 7 ([.int .i64 0, .int .i64 0, .bool false, .int .u8 0]) 4 24 := by unfold Ty; kernel_rfl
theorem ty8 : Ty Try.prog 8 ([.int .i64 0, .int .i64 0, .bool false, .int .u8 0]) 4 24 := by unfold Ty; kernel_rfl
theorem ty9 : Ty Try.prog 9 ([.string ⟨#[]⟩]) 1 16 := by unfold Ty; kernel_rfl
theorem ty10 : Ty Try.prog 10 ([.string ⟨#[]⟩]) 1 16 := by unfold Ty; kernel_rfl
theorem ty11 : Ty Try.prog 11 ([.string ⟨#[]⟩]) 1 16 := by unfold Ty; kernel_rfl
theorem ty12 : Ty Try.prog 12 ([.int .u64 0]) 1 8 := by unfold Ty; kernel_rfl
theorem ty13 : Ty Try.prog 13 ([.string ⟨#[]⟩, .int .u64 0]) 2 24 := by unfold Ty; kernel_rfl
theorem ty14 : Ty Try.prog 14 ([.string ⟨#[]⟩, .int .u64 0]) 2 24 := by unfold Ty; kernel_rfl
theorem ty15 : Ty Try.prog 15 ([.pointer none]) 1 8 := by unfold Ty; kernel_rfl
theorem ty16 : Ty Try.prog 16 ([.pointer none]) 1 8 := by unfold Ty; kernel_rfl
theorem ty17 : Ty Try.prog 17 ([.pointer none]) 1 8 := by unfold Ty; kernel_rfl
theorem ty18 : Ty Try.prog 18 ([.pointer none]) 1 8 := by unfold Ty; kernel_rfl
theorem ty19 : Ty Try.prog 19 ([.pointer none]) 1 8 := by unfold Ty; kernel_rfl
theorem ty21 : Ty Try.prog 21 ([.int .i32 0]) 1 4 := by unfold Ty; kernel_rfl
theorem ty22 : Ty Try.prog 22 ([.slice none 0 0]) 1 24 := by unfold Ty; kernel_rfl
theorem ty23 : Ty Try.prog 23 ([.slice none 0 0, .int .i64 0, .int .i64 0, .int .i64 0, .slice none 0 0, .int .i64 0, .slice none 0 0]) 7 104 := by unfold Ty; kernel_rfl
theorem ty24 : Ty Try.prog 24 ([.slice none 0 0, .int .i64 0, .int .i64 0, .int .i64 0, .slice none 0 0, .int .i64 0, .slice none 0 0]) 7 104 := by unfold Ty; kernel_rfl
theorem ty25 : Ty Try.prog 25 ([.int .i64 0]) 1 8 := by unfold Ty; kernel_rfl
theorem ty28 : Ty Try.prog 28 ([.slice none 0 0, .int .i64 0, .int .i64 0, .int .i64 0, .slice none 0 0, .int .i64 0, .slice none 0 0]) 7 104 := by unfold Ty; kernel_rfl
theorem ty34 : Ty Try.prog 34 ([.slice none 0 0]) 1 24 := by unfold Ty; kernel_rfl
theorem ty35 : Ty Try.prog 35 ([.slice none 0 0, .slice none 0 0]) 2 48 := by unfold Ty; kernel_rfl
theorem ty36 : Ty Try.prog 36 ([.slice none 0 0, .slice none 0 0]) 2 48 := by unfold Ty; kernel_rfl
theorem ty38 : Ty Try.prog 38 ([.slice none 0 0]) 1 24 := by unfold Ty; kernel_rfl
theorem ty39 : Ty Try.prog 39 ([.slice none 0 0, .slice none 0 0]) 2 48 := by unfold Ty; kernel_rfl
theorem ty40 : Ty Try.prog 40 ([.slice none 0 0, .slice none 0 0]) 2 48 := by unfold Ty; kernel_rfl
theorem ty52 : Ty Try.prog 52 ([.slice none 0 0, .slice none 0 0, .slice none 0 0, .int .i64 0, .slice none 0 0, .slice none 0 0]) 6 128 := by unfold Ty; kernel_rfl
theorem ty53 : Ty Try.prog 53 ([.slice none 0 0, .slice none 0 0, .slice none 0 0, .int .i64 0, .slice none 0 0, .slice none 0 0]) 6 128 := by unfold Ty; kernel_rfl
theorem ty54 : Ty Try.prog 54 ([.slice none 0 0, .slice none 0 0, .slice none 0 0, .slice none 0 0, .int .i64 0, .slice none 0 0, .slice none 0 0, .slice none 0 0]) 8 176 := by unfold Ty; kernel_rfl
theorem ty55 : Ty Try.prog 55 ([.slice none 0 0, .slice none 0 0, .slice none 0 0, .slice none 0 0, .int .i64 0, .slice none 0 0, .slice none 0 0, .slice none 0 0]) 8 176 := by unfold Ty; kernel_rfl
theorem ty56 : Ty Try.prog 56 ([.int .i64 0, .slice none 0 0, .slice none 0 0, .slice none 0 0, .slice none 0 0, .int .i64 0, .slice none 0 0, .slice none 0 0, .slice none 0 0, .slice none 0 0, .slice none 0 0, .slice none 0 0, .int .i64 0, .slice none 0 0, .slice none 0 0, .int .i64 0, .slice none 0 0, .slice none 0 0, .slice none 0 0]) 19 392 := by unfold Ty; kernel_rfl
theorem ty57 : Ty Try.prog 57 ([.int .i64 0, .slice none 0 0, .slice none 0 0, .slice none 0 0, .slice none 0 0, .int .i64 0, .slice none 0 0, .slice none 0 0, .slice none 0 0, .slice none 0 0, .slice none 0 0, .slice none 0 0, .int .i64 0, .slice none 0 0, .slice none 0 0, .int .i64 0, .slice none 0 0, .slice none 0 0, .slice none 0 0]) 19 392 := by unfold Ty; kernel_rfl
theorem ty58 : Ty Try.prog 58 ([.slice none 0 0, .slice none 0 0, .slice none 0 0, .int .i64 0, .slice none 0 0, .slice none 0 0]) 6 128 := by unfold Ty; kernel_rfl
theorem ty59 : Ty Try.prog 59 ([.slice none 0 0, .slice none 0 0, .slice none 0 0, .slice none 0 0, .int .i64 0, .slice none 0 0, .slice none 0 0, .slice none 0 0]) 8 176 := by unfold Ty; kernel_rfl
theorem ty60 : Ty Try.prog 60 ([.slice none 0 0, .slice none 0 0, .slice none 0 0, .slice none 0 0, .int .i64 0, .slice none 0 0, .slice none 0 0, .slice none 0 0]) 8 176 := by unfold Ty; kernel_rfl
theorem ty61 : Ty Try.prog 61 ([.int .i64 0, .slice none 0 0, .slice none 0 0, .slice none 0 0, .slice none 0 0, .int .i64 0, .slice none 0 0, .slice none 0 0, .slice none 0 0, .slice none 0 0, .slice none 0 0, .slice none 0 0, .int .i64 0, .slice none 0 0, .slice none 0 0, .int .i64 0, .slice none 0 0, .slice none 0 0, .slice none 0 0]) 19 392 := by unfold Ty; kernel_rfl
theorem ty62 : Ty Try.prog 62 ([.int .i64 0, .slice none 0 0, .slice none 0 0, .slice none 0 0, .slice none 0 0, .int .i64 0, .slice none 0 0, .slice none 0 0, .slice none 0 0, .slice none 0 0, .slice none 0 0, .slice none 0 0, .int .i64 0, .slice none 0 0, .slice none 0 0, .int .i64 0, .slice none 0 0, .slice none 0 0, .slice none 0 0]) 19 392 := by unfold Ty; kernel_rfl
theorem ty72 : Ty Try.prog 72 ([.slice none 0 0]) 1 24 := by unfold Ty; kernel_rfl
theorem ty73 : Ty Try.prog 73 ([.slice none 0 0, .slice none 0 0]) 2 48 := by unfold Ty; kernel_rfl
theorem ty74 : Ty Try.prog 74 ([.slice none 0 0, .slice none 0 0]) 2 48 := by unfold Ty; kernel_rfl
theorem ty75 : Ty Try.prog 75 ([.slice none 0 0]) 1 24 := by unfold Ty; kernel_rfl
theorem ty76 : Ty Try.prog 76 ([.slice none 0 0, .slice none 0 0]) 2 48 := by unfold Ty; kernel_rfl
theorem ty77 : Ty Try.prog 77 ([.slice none 0 0, .slice none 0 0]) 2 48 := by unfold Ty; kernel_rfl
theorem ty87 : Ty Try.prog 87 ([.slice none 0 0, .int .i64 0, .slice none 0 0, .slice none 0 0]) 4 80 := by unfold Ty; kernel_rfl
theorem ty88 : Ty Try.prog 88 ([.slice none 0 0, .int .i64 0, .slice none 0 0, .slice none 0 0]) 4 80 := by unfold Ty; kernel_rfl
theorem ty89 : Ty Try.prog 89 ([.slice none 0 0, .int .i64 0, .slice none 0 0, .slice none 0 0, .slice none 0 0, .slice none 0 0, .slice none 0 0, .int .i64 0, .slice none 0 0]) 9 184 := by unfold Ty; kernel_rfl
theorem ty90 : Ty Try.prog 90 ([.slice none 0 0, .int .i64 0, .slice none 0 0, .slice none 0 0, .slice none 0 0, .slice none 0 0, .slice none 0 0, .int .i64 0, .slice none 0 0]) 9 184 := by unfold Ty; kernel_rfl
theorem ty91 : Ty Try.prog 91 ([.slice none 0 0, .int .i64 0, .slice none 0 0, .slice none 0 0]) 4 80 := by unfold Ty; kernel_rfl
theorem ty92 : Ty Try.prog 92 ([.slice none 0 0, .int .i64 0, .slice none 0 0, .slice none 0 0, .slice none 0 0, .slice none 0 0, .slice none 0 0, .int .i64 0, .slice none 0 0]) 9 184 := by unfold Ty; kernel_rfl
theorem ty93 : Ty Try.prog 93 ([.slice none 0 0, .int .i64 0, .slice none 0 0, .slice none 0 0, .slice none 0 0, .slice none 0 0, .slice none 0 0, .int .i64 0, .slice none 0 0]) 9 184 := by unfold Ty; kernel_rfl
theorem ty104 : Ty Try.prog 104 ([.slice none 0 0, .int .i64 0, .int .i64 0, .int .i64 0, .slice none 0 0, .int .i64 0, .slice none 0 0, .int .i64 0, .slice none 0 0, .slice none 0 0]) 10 160 := by unfold Ty; kernel_rfl
theorem ty105 : Ty Try.prog 105 ([.slice none 0 0, .int .i64 0, .int .i64 0, .int .i64 0, .slice none 0 0, .int .i64 0, .slice none 0 0, .int .i64 0, .slice none 0 0, .slice none 0 0]) 10 160 := by unfold Ty; kernel_rfl
theorem ty108 : Ty Try.prog 108 ([.slice none 0 0, .slice none 0 0, .slice none 0 0]) 3 72 := by unfold Ty; kernel_rfl
theorem ty109 : Ty Try.prog 109 ([.slice none 0 0, .slice none 0 0, .slice none 0 0]) 3 72 := by unfold Ty; kernel_rfl
theorem ty110 : Ty Try.prog 110 ([.slice none 0 0, .slice none 0 0, .slice none 0 0]) 3 72 := by unfold Ty; kernel_rfl
theorem ty114 : Ty Try.prog 114 ([.slice none 0 0]) 1 24 := by unfold Ty; kernel_rfl
theorem ty115 : Ty Try.prog 115 ([.pointer none]) 1 8 := by unfold Ty; kernel_rfl
theorem ty120 : Ty Try.prog 120 ([.pointer none]) 1 8 := by unfold Ty; kernel_rfl
theorem ty122 : Ty Try.prog 122 ([.slice none 0 0, .int .i64 0, .int .i64 0]) 3 40 := by unfold Ty; kernel_rfl
theorem ty123 : Ty Try.prog 123 ([.slice none 0 0, .int .i64 0, .int .i64 0]) 3 40 := by unfold Ty; kernel_rfl
theorem ty145 : Ty Try.prog 145 ([.int .i64 0, .int .i64 0, .slice none 0 0, .slice none 0 0, .slice none 0 0, .slice none 0 0, .int .i64 0, .slice none 0 0, .slice none 0 0, .slice none 0 0, .slice none 0 0, .slice none 0 0, .slice none 0 0, .int .i64 0, .slice none 0 0, .slice none 0 0, .int .i64 0, .slice none 0 0, .slice none 0 0, .slice none 0 0]) 20 400 := by unfold Ty; kernel_rfl
theorem ty146 : Ty Try.prog 146 ([.int .i64 0, .int .i64 0, .slice none 0 0, .slice none 0 0, .slice none 0 0, .slice none 0 0, .int .i64 0, .slice none 0 0, .slice none 0 0, .slice none 0 0, .slice none 0 0, .slice none 0 0, .slice none 0 0, .int .i64 0, .slice none 0 0, .slice none 0 0, .int .i64 0, .slice none 0 0, .slice none 0 0, .slice none 0 0]) 20 400 := by unfold Ty; kernel_rfl
theorem ty147 : Ty Try.prog 147 ([.slice none 0 0]) 1 24 := by unfold Ty; kernel_rfl
theorem ty148 : Ty Try.prog 148 ([.slice none 0 0, .int .i64 0, .slice none 0 0, .slice none 0 0, .slice none 0 0, .slice none 0 0, .int .i64 0, .slice none 0 0, .slice none 0 0, .slice none 0 0, .slice none 0 0, .slice none 0 0, .slice none 0 0, .int .i64 0, .slice none 0 0, .slice none 0 0, .int .i64 0, .slice none 0 0, .slice none 0 0, .slice none 0 0]) 20 416 := by unfold Ty; kernel_rfl
theorem ty149 : Ty Try.prog 149 ([.slice none 0 0, .int .i64 0, .slice none 0 0, .slice none 0 0, .slice none 0 0, .slice none 0 0, .int .i64 0, .slice none 0 0, .slice none 0 0, .slice none 0 0, .slice none 0 0, .slice none 0 0, .slice none 0 0, .int .i64 0, .slice none 0 0, .slice none 0 0, .int .i64 0, .slice none 0 0, .slice none 0 0, .slice none 0 0]) 20 416 := by unfold Ty; kernel_rfl
theorem ty150 : Ty Try.prog 150 ([.slice none 0 0, .int .i64 0, .slice none 0 0, .slice none 0 0, .slice none 0 0, .slice none 0 0, .int .i64 0, .slice none 0 0, .slice none 0 0, .slice none 0 0, .slice none 0 0, .slice none 0 0, .slice none 0 0, .int .i64 0, .slice none 0 0, .slice none 0 0, .int .i64 0, .slice none 0 0, .slice none 0 0, .slice none 0 0]) 20 416 := by unfold Ty; kernel_rfl
theorem ty151 : Ty Try.prog 151 ([.slice none 0 0, .int .i64 0, .slice none 0 0, .slice none 0 0, .slice none 0 0, .slice none 0 0, .int .i64 0, .slice none 0 0, .slice none 0 0, .slice none 0 0, .slice none 0 0, .slice none 0 0, .slice none 0 0, .int .i64 0, .slice none 0 0, .slice none 0 0, .int .i64 0, .slice none 0 0, .slice none 0 0, .slice none 0 0]) 20 416 := by unfold Ty; kernel_rfl
theorem ty169 : Ty Try.prog 169 ([.slice none 0 0, .int .i64 0, .bool false]) 3 40 := by unfold Ty; kernel_rfl
theorem ty170 : Ty Try.prog 170 ([.slice none 0 0, .int .i64 0, .bool false]) 3 40 := by unfold Ty; kernel_rfl
theorem ty175 : Ty Try.prog 175 ([.pointer none]) 1 8 := by unfold Ty; kernel_rfl
theorem ty176 : Ty Try.prog 176 ([.pointer none]) 1 8 := by unfold Ty; kernel_rfl
theorem ty181 : Ty Try.prog 181 ([.slice none 0 0, .nilFunc, .nilFunc]) 3 40 := by unfold Ty; kernel_rfl
theorem ty182 : Ty Try.prog 182 ([.slice none 0 0, .nilFunc, .nilFunc]) 3 40 := by unfold Ty; kernel_rfl
theorem ty186 : Ty Try.prog 186 ([.int .u64 0]) 1 8 := by unfold Ty; kernel_rfl
theorem ty208 : Ty Try.prog 208 ([.pointer none, .pointer none, .pointer none, .string ⟨#[]⟩]) 4 40 := by unfold Ty; kernel_rfl
theorem ty209 : Ty Try.prog 209 ([.pointer none, .pointer none, .pointer none, .string ⟨#[]⟩]) 4 40 := by unfold Ty; kernel_rfl
theorem ty213 : Ty Try.prog 213 ([.int .u32 0]) 1 4 := by unfold Ty; kernel_rfl
theorem ty214 : Ty Try.prog 214 ([.int .u8 0]) 1 1 := by unfold Ty; kernel_rfl
theorem ty215 : Ty Try.prog 215 ([.int .u8 0]) 1 1 := by unfold Ty; kernel_rfl
theorem ty217 : Ty Try.prog 217 ([.pointer none]) 1 8 := by unfold Ty; kernel_rfl
theorem ty218 : Ty Try.prog 218 ([.int .i32 0]) 1 4 := by unfold Ty; kernel_rfl
theorem ty219 : Ty Try.prog 219 ([.int .i32 0]) 1 4 := by unfold Ty; kernel_rfl
theorem ty220 : Ty Try.prog 220 ([.int .u64 0, .int .u64 0, .int .u32 0, .int .u8 0, .int .u8 0, .int .u8 0, .int .u8 0, .nilFunc, .pointer none, .int .i32 0, .int .i32 0]) 11 48 := by unfold Ty; kernel_rfl
theorem ty221 : Ty Try.prog 221 ([.int .u64 0, .int .u64 0, .int .u32 0, .int .u8 0, .int .u8 0, .int .u8 0, .int .u8 0, .nilFunc, .pointer none, .int .i32 0, .int .i32 0]) 11 48 := by unfold Ty; kernel_rfl
theorem sc2 : scB Try.prog 2 = true := by kernel_rfl
theorem sc3 : scB Try.prog 3 = true := by kernel_rfl
theorem sc4 : scB Try.prog 4 = true := by kernel_rfl
theorem sc5 : scB Try.prog 5 = true := by kernel_rfl
theorem sc6 : scB Try.prog 6 = true := by kernel_rfl
theorem sc9 : scB Try.prog 9 = true := by kernel_rfl
theorem sc10 : scB Try.prog 10 = true := by kernel_rfl
theorem sc11 : scB Try.prog 11 = true := by kernel_rfl
theorem sc12 : scB Try.prog 12 = true := by kernel_rfl
theorem sc15 : scB Try.prog 15 = true := by kernel_rfl
theorem sc16 : scB Try.prog 16 = true := by kernel_rfl
theorem sc17 : scB Try.prog 17 = true := by kernel_rfl
theorem sc21 : scB Try.prog 21 = true := by kernel_rfl
theorem sc22 : scB Try.prog 22 = true := by kernel_rfl
theorem sc25 : scB Try.prog 25 = true := by kernel_rfl
theorem sc34 : scB Try.prog 34 = true := by kernel_rfl
theorem sc38 : scB Try.prog 38 = true := by kernel_rfl
theorem sc72 : scB Try.prog 72 = true := by kernel_rfl
theorem sc75 : scB Try.prog 75 = true := by kernel_rfl
theorem sc114 : scB Try.prog 114 = true := by kernel_rfl
theorem sc115 : scB Try.prog 115 = true := by kernel_rfl
theorem sc120 : scB Try.prog 120 = true := by kernel_rfl
theorem sc147 : scB Try.prog 147 = true := by kernel_rfl
theorem sc175 : scB Try.prog 175 = true := by kernel_rfl
theorem sc176 : scB Try.prog 176 = true := by kernel_rfl
theorem sc186 : scB Try.prog 186 = true := by kernel_rfl
theorem sc213 : scB Try.prog 213 = true := by kernel_rfl
theorem sc214 : scB Try.prog 214 = true := by kernel_rfl
theorem sc215 : scB Try.prog 215 = true := by kernel_rfl
theorem sc217 : scB Try.prog 217 = true := by kernel_rfl
theorem sc218 : scB Try.prog 218 = true := by kernel_rfl
theorem sc219 : scB Try.prog 219 = true := by kernel_rfl
theorem ag7 : agB Try.prog 7 = true := by kernel_rfl
theorem ag8 : agB Try.prog 8 = true := by kernel_rfl
theorem ag13 : agB Try.prog 13 = true := by kernel_rfl
theorem ag14 : agB Try.prog 14 = true := by kernel_rfl
theorem ag18 : agB Try.prog 18 = true := by kernel_rfl
theorem ag19 : agB Try.prog 19 = true := by kernel_rfl
theorem ag23 : agB Try.prog 23 = true := by kernel_rfl
theorem ag24 : agB Try.prog 24 = true := by kernel_rfl
theorem ag28 : agB Try.prog 28 = true := by kernel_rfl
theorem ag35 : agB Try.prog 35 = true := by kernel_rfl
theorem ag36 : agB Try.prog 36 = true := by kernel_rfl
theorem ag39 : agB Try.prog 39 = true := by kernel_rfl
theorem ag40 : agB Try.prog 40 = true := by kernel_rfl
theorem ag52 : agB Try.prog 52 = true := by kernel_rfl
theorem ag53 : agB Try.prog 53 = true := by kernel_rfl
theorem ag54 : agB Try.prog 54 = true := by kernel_rfl
theorem ag55 : agB Try.prog 55 = true := by kernel_rfl
theorem ag56 : agB Try.prog 56 = true := by kernel_rfl
theorem ag57 : agB Try.prog 57 = true := by kernel_rfl
theorem ag58 : agB Try.prog 58 = true := by kernel_rfl
theorem ag59 : agB Try.prog 59 = true := by kernel_rfl
theorem ag60 : agB Try.prog 60 = true := by kernel_rfl
theorem ag61 : agB Try.prog 61 = true := by kernel_rfl
theorem ag62 : agB Try.prog 62 = true := by kernel_rfl
theorem ag73 : agB Try.prog 73 = true := by kernel_rfl
theorem ag74 : agB Try.prog 74 = true := by kernel_rfl
theorem ag76 : agB Try.prog 76 = true := by kernel_rfl
theorem ag77 : agB Try.prog 77 = true := by kernel_rfl
theorem ag87 : agB Try.prog 87 = true := by kernel_rfl
theorem ag88 : agB Try.prog 88 = true := by kernel_rfl
theorem ag89 : agB Try.prog 89 = true := by kernel_rfl
theorem ag90 : agB Try.prog 90 = true := by kernel_rfl
theorem ag91 : agB Try.prog 91 = true := by kernel_rfl
theorem ag92 : agB Try.prog 92 = true := by kernel_rfl
theorem ag93 : agB Try.prog 93 = true := by kernel_rfl
theorem ag104 : agB Try.prog 104 = true := by kernel_rfl
theorem ag105 : agB Try.prog 105 = true := by kernel_rfl
theorem ag108 : agB Try.prog 108 = true := by kernel_rfl
theorem ag109 : agB Try.prog 109 = true := by kernel_rfl
theorem ag110 : agB Try.prog 110 = true := by kernel_rfl
theorem ag122 : agB Try.prog 122 = true := by kernel_rfl
theorem ag123 : agB Try.prog 123 = true := by kernel_rfl
theorem ag145 : agB Try.prog 145 = true := by kernel_rfl
theorem ag146 : agB Try.prog 146 = true := by kernel_rfl
theorem ag148 : agB Try.prog 148 = true := by kernel_rfl
theorem ag149 : agB Try.prog 149 = true := by kernel_rfl
theorem ag150 : agB Try.prog 150 = true := by kernel_rfl
theorem ag151 : agB Try.prog 151 = true := by kernel_rfl
theorem ag169 : agB Try.prog 169 = true := by kernel_rfl
theorem ag170 : agB Try.prog 170 = true := by kernel_rfl
theorem ag181 : agB Try.prog 181 = true := by kernel_rfl
theorem ag182 : agB Try.prog 182 = true := by kernel_rfl
theorem ag208 : agB Try.prog 208 = true := by kernel_rfl
theorem ag209 : agB Try.prog 209 = true := by kernel_rfl
theorem ag220 : agB Try.prog 220 = true := by kernel_rfl
theorem ag221 : agB Try.prog 221 = true := by kernel_rfl
abbrev OwnB (w : World) (lo : Nat) (v : Value) (xs : List UInt8) : Prop := Own w lo 5 1 v xs.length (bv xs)
theorem mixed : Try.prog.follows .mixedOrders = true := by kernel_rfl
end Go.Proofs.Ytdbfpmkilchilaa.W
